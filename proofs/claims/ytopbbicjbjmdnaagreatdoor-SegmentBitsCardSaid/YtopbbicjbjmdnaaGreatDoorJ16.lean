/-
  Texts of this proof, joined: SgL.
-/
import Derived.Test.YtopbbicjbjmdnaaGreatDoorJ14
import Derived.Test.YtopbbicjbjmdnaaGreatDoorJ01
namespace Go.Proofs.YtopbbicjbjmdnaaGreatDoor
open Go.RowKit Go.Maps
set_option maxRecDepth 100000
set_option linter.unusedVariables false
set_option linter.unusedSimpArgs false
theorem oneU8w (w : World) : (sizeOf 5).run Tryz.prog w = .ok 1 w := by kernel_rfl
theorem not_true_o (w : World) : (Op.unary .not (.bool true)).run Tryz.prog w = .ok (.bool false) w := by kernel_rfl
/-- 'b[:n]' of bytes. -/
theorem slice_to {P : Program} (t e : TypeId) (ht : P.underlying t = some (.slice e)) (hs : ∀ w : World, (sizeOf e).run P w = .ok 1 w) (A : Option Addr) (len c n : Nat) (hn : n ≤ len) (hlc : len ≤ c) :
    ∃ A', (∀ w : World, (Instr.slice t (.slice A len c) none (some (.int .i64 (n : Nat))) none).run P w = .ok (.slice A' n c) w) ∧
      (∀ (w : World) (D : Nat → Prop) (l : List Nat), Sl w D A len (byteC l) → Sl w D A' n (byteC (l.take n))) := by
  have he : P.elem t = e := by simp [Program.elem, ht]
  have ht' : P.underlying t = some (.slice (P.elem t)) := by rw [he]; exact ht
  refine ⟨if c = 0 then A else A.map (·.add (0 * 1)), fun w => ?_, fun w D l h => ?_⟩
  · rw [run_slice_h w t A len c ht' .i64 (n : Nat) (by omega) (by omega), he, hs]
    simp [Result.andThen, sliced]
  · intro hlt
    rw [if_neg (by omega)]
    obtain ⟨b, off, rfl, -, -⟩ := h (by omega)
    have := V.sl_take_list h hn hlt
    rw [show (some (⟨b, off, none⟩ : Addr)).map (·.add (0 * 1)) = some ⟨b, off, none⟩ by simp [Addr.add]]
    exact this
def lenV : Value → Nat
  | .slice _ n _ => n
  | _ => 0
theorem bk_nil (w : World) (B : Nat) : w.ownsRow B 76 5 (.slice none 0 0) 0 [] := ⟨rfl, .inl ⟨rfl, rfl⟩⟩
/-- What holds at the head of a round over the names. -/
structure OpR (w0 : World) (nm : Nat → ByteArray) (pf : Nat → Nat → Pt) (pn : Nat → Nat) (k p o M y : Nat) (Ab : Option Addr) (cb : Nat) (cs : Array Value) (O : List Nat) (j : Nat) (VS : Nat → Value) (w : World) : Prop where
  seg : SegK w0.heap.size w p o M y Ab cb cs O k
  map : MapB w M j j nm VS
  row : RowsK w y VS pf pn j
  bel : Below w0.heap.size w0 w
  y0 : w0.heap.size ≤ y
  my : M < y
  m0 : w0.heap.size ≤ M
theorem OpR.call {w0 w w' : World} {nm : Nat → ByteArray} {pf : Nat → Nat → Pt} {pn : Nat → Nat} {k p o M y : Nat} {Ab : Option Addr} {cb : Nat} {cs : Array Value} {O : List Nat} {j : Nat} {VS : Nat → Value} (h : OpR w0 nm pf pn k p o M y Ab cb cs O j VS w) (hg : w.grownBy w' (some y)) : OpR w0 nm pf pn k p o M y Ab cb cs O j VS w' :=
  ⟨h.seg.gb hg, h.map.gb hg (fun e => by injection e with e; have := h.my; omega), h.row.gb hg, gb_below2 h.bel hg h.y0, h.y0, h.my, h.m0⟩
/-- What holds in a round over a part's blocks. -/
structure InX (w1 : World) (y : Nat) (T : List Nat) (l : Value) (m : Nat) (B : Nat → Bk) (g : Nat) (cs : Array Value) (w : World) : Prop where
  gb : w1.grownBy w (some y)
  rd : RdAt w y T
  row : w.ownsRow w1.heap.size 76 5 l m (bkL B m)
  bx : Blk w g 76 cs
theorem InX.call {w1 w w' : World} {y m g : Nat} {T : List Nat} {l : Value} {B : Nat → Bk} {cs : Array Value} (h : InX w1 y T l m B g cs w) (hb : Below w.heap.size w w') : InX w1 y T l m B g cs w' := by
  refine ⟨gb_trans h.gb (gb_below hb _), h.rd.call hb, h.row.kept (gb_below hb none) ?_, h.bx.below hb h.bx.lt⟩
  cases l.ownBlock with
  | none => exact .inl rfl
  | some g => exact .inr (by simp)
theorem InX.cellT {w1 w : World} {y m1 g al cl : Nat} {T : List Nat} {B : Nat → Bk} {cs : Array Value} (h : InX w1 y T (.slice (some ⟨al, 0, none⟩) (m1 + 1) cl) (m1 + 1) B g cs w) : w.cell? ⟨al, m1 * 5 + 3, none⟩ = some (.int .i64 (B m1).t) := by
  have h1 := bkL_at B m1 3 (by omega) (m1 + 1) (by omega)
  have c1 := World.ownsRow.cells h.row (g := al) rfl (m1 * 5 + 3) (.int .i64 (B m1).t) (by rw [h1]; rfl)
  have hadd : ∀ i, (⟨al, 0, none⟩ : Addr).add i = ⟨al, 0 + i, none⟩ := fun i => by unfold Addr.add; split <;> simp_all
  rw [hadd, Nat.zero_add] at c1
  exact c1
/-- The map has one name more. -/
theorem OpR.put {w0 w w' : World} {nm : Nat → ByteArray} {pf : Nat → Nat → Pt} {pn : Nat → Nat} {k p o M y : Nat} {Ab : Option Addr} {cb : Nat} {cs : Array Value} {O : List Nat} {j base : Nat} {VS : Nat → Value} {v : Value} (h : OpR w0 nm pf pn k p o M y Ab cb cs O j VS w)
    (hv : w.ownsRow base 76 5 v (nbl (pn j)) (bkL (bkOf pf pn j) (nbl (pn j)))) (hy : y < base) (hm : w'.ownsMap Tryz.prog 9 elV M (j + 1) ((DB nm VS j).put (klS (nm j)) (.held v))) (hg : w.grownBy w' (some M)) :
    OpR w0 nm pf pn k p o M y Ab cb cs O (j + 1) (fun i => if i = j then v else VS i) w' := by
  refine ⟨h.seg.gbm h.map hg, ?_, fun i hi => ?_, gb_below2 h.bel hg h.m0, h.y0, h.my, h.m0⟩
  · show w'.ownsMap Tryz.prog 9 elV M (j + 1) (DB nm _ (j + 1))
    have e : DB nm (fun i => if i = j then v else VS i) (j + 1) = (DB nm VS j).put (klS (nm j)) (.held v) := by
      show (DB nm (fun i => if i = j then v else VS i) j).put (klS (nm j)) (.held (if j = j then v else VS j)) = _
      rw [DB_congr nm j (WS := VS) (fun i hi => if_neg (by omega)), if_pos rfl]
    rw [e]
    exact hm
  · show w'.ownsRow (y + 1) 76 5 (if i = j then v else VS i) (nbl (pn i)) (bkL (bkOf pf pn i) (nbl (pn i)))
    by_cases e : i = j
    · subst e
      rw [if_pos rfl]
      exact own_base (hv.kept hg ((map_row h.map hv).imp id fun e e' => e (by rw [← e']))) hy
    · rw [if_neg e]
      exact h.row.gbm h.map hg i (by omega)
theorem OpR.done {w0 w : World} {nm : Nat → ByteArray} {pf : Nat → Nat → Pt} {pn : Nat → Nat} {k p o M y : Nat} {Ab : Option Addr} {cb : Nat} {cs : Array Value} {O : List Nat} {VS : Nat → Value} (h : OpR w0 nm pf pn k p o M y Ab cb cs O k VS w) (hB : Built nm pf pn k) (hsz : cs.size = k) (hcs : ∀ j, j < k → cs[j]? = some (.string (nm j))) :
    SegIs w p O nm pf pn k M o Ab cb k VS :=
  ⟨h.seg.seg, V.ow_sl h.seg.row, V.own_cap h.seg.row, ⟨cs, h.seg.nms, hsz, hcs⟩, ⟨Nat.le_refl _, by have := hB.k1; omega⟩, h.map, fun j hj => BkSl.of (h.row j hj) (hB.nb hj).1⟩
def OpenPost (w : World) (O : List Nat) (nm : Nat → ByteArray) (pf : Nat → Nat → Pt) (pn : Nat → Nat) (k : Nat) (e : Ending) (w' : World) : Prop :=
  ∃ p M o Ab cb cn VS, e = .returned (.tuple #[.pointer (some ⟨p, 0, none⟩), .int .i64 0]) ∧ SegIs w' p O nm pf pn k M o Ab cb cn VS ∧ Below w.heap.size w w'
set_option maxHeartbeats 1000000 in
theorem open_ok (w : World) (A : Option Addr) (len c : Nat) (L O : List Nat) (nm : Nat → ByteArray) (pf : Nat → Nat → Pt) (pn : Nat → Nat) (k : Nat) (hF : FileIs L O nm pf pn k) (hB : Built nm pf pn k) (hl : L.length = len) (hsl : Sl w (fun q => q < w.heap.size) A len (byteC L)) (hlc : len ≤ c) (hcm : c ≤ 9223372036854775807) (hv : V.HErr w) :
    Calls Tryz.prog 9 #[.slice A len c] w (OpenPost w O nm pf pn k) := by
  have hk0 := hB.k0
  have hk1 := hB.k1
  obtain ⟨q, hq⟩ : ∃ q, q = (F.sealL 5 (sF nm pf pn k k)).length := ⟨_, rfl⟩
  obtain ⟨en, hen⟩ : ∃ en, en = O.length := ⟨_, rfl⟩
  have hfl := hF.fl
  have hlen := hF.len
  rw [hl, ← hq, ← hen] at hfl
  have hfoot := foot_any w A len c (en + q) q _ L (by rw [hq, hen]; exact hF.last) hl hsl (V.getD_all_lt hF.byte) (by omega) hlc hcm
  have hmid : ((L.drop (en + q - q)).take q) = F.sealL 5 (sF nm pf pn k k) := by rw [hq, hen]; exact hF.mid
  have hft := hF.foot
  have hfoot' : Calls Tryz.prog 22 #[.slice A len c] w fun e w' => ∃ A c, e = .returned (.tuple #[.slice A (sF nm pf pn k k).length c, .int .i64 (en : Nat), .bool true]) ∧ w'.ownsRow w.heap.size 5 1 (.slice A (sF nm pf pn k k).length c) (sF nm pf pn k k).length ((sF nm pf pn k k).map V.byteV) ∧ Below w.heap.size w w' := by
    refine hfoot.mono fun e w' h => ?_
    rw [hmid] at h
    have h2 := h.1 hft.1 hft.2.1
    unfold FootOk at h2
    rw [hmid, hft.2.2, Nat.add_sub_cancel] at h2
    exact h2
  have hfn : (sF nm pf pn k k).length + 9 = q := by rw [hq, F.sealL_length]
  obtain ⟨fl, hfle⟩ : ∃ fl, fl = (sF nm pf pn k k).length := ⟨_, rfl⟩
  rw [← hfle] at hfoot' hfn
  have HF := Lib.hid (And.intro hfoot' (And.intro hF (And.intro hB (And.intro hl (And.intro hsl (And.intro hv (And.intro hfle hen)))))))
  have HQ := Lib.hid (And.intro hfn hfl)
  have hen20 : en ≤ 1048576 := by omega
  have hfl20 : fl ≤ 1048576 := by omega
  have henl : en ≤ len := by omega
  clear hfoot hfoot' hF hB hl hsl hv hmid hft hfn hfl hfle hen hq hlen
  go_enter Tryz.func9, Tryz.ntmps9
  go_wp2_with fail
  refine HF.out.1.mono ?_
  rintro e w1 ⟨A1, c1, rfl, ho1, hb1⟩
  have hcap1 := V.own_cap ho1
  have hs1 := V.ow_sl ho1
  have H1 := Lib.hid (And.intro hs1 hb1)
  clear ho1 hb1 hs1
  have hsn := sF_names nm pf pn k
  obtain ⟨u, hu⟩ : ∃ u, u = (namesB nm k k).length := ⟨_, rfl⟩
  have hufl : u ≤ fl := by rw [hu, HF.out.2.2.2.2.2.2.1, hsn, List.length_append]; omega
  have hread : Calls Tryz.prog 23 #[.slice A1 fl c1] w1 fun e w' => ∃ d m, e = .returned (.tuple #[.pointer (some ⟨d, 0, none⟩), .int .i64 (u : Nat), .int .i64 0]) ∧ DictS w1 [] d m k nm w' := by
    have := sRead_ok w1 A1 fl c1 k nm (sT nm pf pn k 0) (by rw [← hsn, HF.out.2.2.2.2.2.2.1]) (by rw [← hsn]; exact H1.out.1) (by rw [← hsn]; exact V.getD_all_lt (sF_byte nm pf pn k k)) hcap1.1 hcap1.2 hfl20 hk1 HF.out.2.2.1.apart (fun j hj => HF.out.2.2.1.name hj) (HF.out.2.2.2.2.2.1.below H1.out.2)
    unfold SReadPost at this
    rw [← hu] at this
    exact this
  have HU := Lib.hid (And.intro hu (And.intro hsn hread))
  clear hu hsn hread
  go_wp2_with fail
  refine HU.out.2.2.mono ?_
  rintro e w2 ⟨d, m, rfl, hd2⟩
  have H2 := Lib.hid hd2
  clear hd2
  have nn := not_true_o
  go_wp2_with fail
  refine (dLen_any w1 w2 [] d m k nm H2.out HF.out.2.2.1.apart).mono ?_
  rintro e w3 ⟨rfl, hb3⟩
  have H3 := Lib.hid (H2.out.call hb3)
  clear hb3
  have dk : ((k : Int) == 0) = false := by simp; omega
  obtain ⟨A4, hA4, hA4'⟩ := slice_to (P := Tryz.prog) 25 5 Tryz.underlying25 oneU8w A len c en henl hlc
  have hb13 := H1.out.2.trans (H3.out.own.bel.mono H1.out.2.size)
  have hs4 : Sl w3 (fun q => q < w.heap.size) A4 en (byteC O) := by
    have h1 := hA4' w3 _ L (HF.out.2.2.2.2.1.below hb13 (fun _ hq _ => hq))
    rw [HF.out.2.2.2.2.2.2.2, HF.out.2.1.take] at h1
    rw [HF.out.2.2.2.2.2.2.2]
    exact h1
  have HB3 := Lib.hid (And.intro hb13 hs4)
  clear hb13 hs4 hA4'
  go_wp2_with (at_builtin; refine wpList_append_sl (f := byteC O) (D := fun q => q < w.heap.size) (base := w.heap.size) (n := 0) (xs := []) V.byteElem rfl (.tmp 41) (.tmp 44) rfl rfl rfl ?hown ?hsl ?h1 ?h63 ?hby ?hbase ?_)
  case hown => exact V.lat_lit0 w3 _ _ HB3.out.1.size
  case hsl => exact HB3.out.2.below ((Below.refl w3.heap.size w3).alloc (Nat.le_refl _) _) (fun q _ h => h)
  case h1 => intro j _; rfl
  case h63 => unfold maxLen; omega
  case hby => omega
  case hbase => have := HB3.out.1.size; simp; omega
  intro v5 w5 ho5 hg5 hx5
  have hb35 : Below w3.heap.size w3 w5 := gb_below2 ((Below.refl _ _).alloc (Nat.le_refl _) _) hg5 (Nat.le_refl _)
  rw [HF.out.2.2.2.2.2.2.2, ← V.range_bytes rfl] at ho5
  obtain ⟨A5, c5, hv5, -, -⟩ := own_form ho5
  subst hv5
  rw [← HF.out.2.2.2.2.2.2.2] at ho5
  rw [← HF.out.2.2.2.2.2.2.2]
  have H5 := Lib.hid (And.intro ho5 (And.intro (HB3.out.1.trans (hb35.mono HB3.out.1.size)) (And.intro (H3.out.call hb35) hb35)))
  clear ho5 hg5 hx5 hb35 hA4
  go_wp2_with fail
  refine (dNames_any w1 w5 [] d m k nm H5.out.2.2.1 hk1 HF.out.2.2.1.apart).mono ?_
  rintro e w6 ⟨o, cs, rfl, hwo, hblk, hsz, hcs, hb6⟩
  have H6 := Lib.hid (And.intro hblk (And.intro hsz (And.intro hcs (And.intro hb6 hwo))))
  clear hblk hsz hcs hb6 hwo
  have hmm := @run_makeMap Tryz.prog
  obtain ⟨A7, hA7, hA7'⟩ := V.slice_from (P := Tryz.prog) 25 5 Tryz.underlying25 oneU8w A1 fl c1 u hufl hcap1.1
  go_upto_region 6 with (fail)
  go_upto_region 7 with (fail)
  obtain ⟨M, hM⟩ : ∃ M, M = w6.heap.size := ⟨_, rfl⟩
  obtain ⟨p, hp⟩ : ∃ p, p = w6.heap.size + 1 := ⟨_, rfl⟩
  obtain ⟨y, hy⟩ : ∃ y, y = p + 1 := ⟨_, rfl⟩
  rw [← hp, ← hy, ← hM]
  have hst0 : sT nm pf pn k 0 = (sF nm pf pn k k).drop u := by rw [HU.out.1]; rfl
  have hstl : (sT nm pf pn k 0).length = fl - u := by rw [hst0, List.length_drop, ← HF.out.2.2.2.2.2.2.1]
  have hR8 : OpR w nm pf pn k p o M y A5 c5 cs O 0 (fun _ => .nilIface) (((w6.alloc (.map #[] 0)).alloc (.cells #[.slice A5 en c5, .slice (some ⟨o, 0, none⟩) k k, .map (some M)] 66)).alloc (.cells #[.slice A7 (fl - u) (c1 - u), .nilIface] 71)) ∧
      RdAt (((w6.alloc (.map #[] 0)).alloc (.cells #[.slice A5 en c5, .slice (some ⟨o, 0, none⟩) k k, .map (some M)] 66)).alloc (.cells #[.slice A7 (fl - u) (c1 - u), .nilIface] 71)) y (sT nm pf pn k 0) := by
    have s1 : (w6.alloc (.map #[] 0)).heap.size = p := by rw [hp]; simp
    have s2 : ((w6.alloc (.map #[] 0)).alloc (.cells #[.slice A5 en c5, .slice (some ⟨o, 0, none⟩) k k, .map (some M)] 66)).heap.size = y := by rw [hy, hp]; simp
    have hal : Below w6.heap.size w6 (((w6.alloc (.map #[] 0)).alloc (.cells #[.slice A5 en c5, .slice (some ⟨o, 0, none⟩) k k, .map (some M)] 66)).alloc (.cells #[.slice A7 (fl - u) (c1 - u), .nilIface] 71)) :=
      (((Below.refl _ _).alloc (Nat.le_refl _) _).alloc (by simp) _).alloc (by simp; omega) _
    have hw16 : Below w1.heap.size w1 w6 := (H5.out.2.2.1.own.bel).trans (H6.out.2.2.2.1.mono H5.out.2.2.1.own.bel.size)
    have hw06 : Below w.heap.size w w6 := H1.out.2.trans (hw16.mono H1.out.2.size)
    have hsg := (Blk.fresh (w6.alloc (.map #[] 0)) 66 #[.slice A5 en c5, .slice (some ⟨o, 0, none⟩) k k, .map (some M)]).alloc (.cells #[.slice A7 (fl - u) (c1 - u), .nilIface] 71)
    have hrd := Blk.fresh ((w6.alloc (.map #[] 0)).alloc (.cells #[.slice A5 en c5, .slice (some ⟨o, 0, none⟩) k k, .map (some M)] 66)) 71 #[.slice A7 (fl - u) (c1 - u), .nilIface]
    rw [s1] at hsg
    rw [s2] at hrd
    have hrow := V.own_later (V.own_later H5.out.1 H6.out.2.2.2.1) hal
    have hol := H6.out.1.lt
    have hsz0 := hw06.size
    refine ⟨⟨⟨by rw [← HF.out.2.2.2.2.2.2.2]; exact hsg, by rw [← HF.out.2.2.2.2.2.2.2]; exact hrow, H6.out.1.below hal hol, by omega, by omega, by omega, fun g hg => ?_⟩, ?_, fun j hj => absurd hj (by omega), hw06.trans (hal.mono hw06.size), by omega, by omega, by omega⟩, A7, c1 - u, by rw [hstl]; exact hrd, ?_, by rw [hstl]; omega, by omega, by rw [hst0]; exact V.getD_drop_lt (V.getD_all_lt (sF_byte nm pf pn k k)) u⟩
    · rw [← HF.out.2.2.2.2.2.2.2] at hg
      have h1 := (H5.out.1.lt g hg).2
      have h2 := H6.out.2.2.2.1.size
      omega
    · rw [hM]
      exact ((World.ownsMap_made w6 Tryz.prog 9 elV).alloc _).alloc _
    · rw [hstl, hst0]
      refine (hA7' _ (fun q => q < w1.heap.size) (sF nm pf pn k k) (H1.out.1.below (hw16.trans (hal.mono hw16.size)) (fun _ hq _ => hq))).mono (fun q hq => ?_)
      have := hw16.size
      omega
  have hMy : M < y := by omega
  refine wp_gen (fun wx => OpR w nm pf pn k p o M y A5 c5 cs O 0 (fun _ => .nilIface) wx ∧ RdAt wx y (sT nm pf pn k 0)) hR8 ?_
  rintro w8 ⟨h8, r8⟩
  have zp1 := h8.seg.seg.cell 1
  have H8 := Lib.hid (And.intro h8 r8)
  have HC := Lib.hid (And.intro H6.out.2.1 H6.out.2.2.1)
  clear h8 r8 hR8 hst0 hstl hM hp hy hMy hA7 hA7' hmm nn dk
  go_wp2_with fail
  clear zp1
  go_loopw [12, 61] (fun a i wr => ∃ (j : Nat) (VS : Nat → Value), j ≤ k ∧ i = .int .i64 (j : Nat) ∧ a = .int .i64 ((sO pf pn j).length : Nat) ∧ OpR w nm pf pn k p o M y A5 c5 cs O j VS wr ∧ RdAt wr y (sT nm pf pn k j)) (fun _ i _ => k - (intOf i).toNat)
  case atStart => exact ⟨0, _, by omega, rfl, rfl, H8.out⟩
  case round =>
    obtain ⟨j, VS, hj, rfl, rfl, hR, hr⟩ := hrel
    by_cases hlt : j < k
    · have hjk : (j : Int) < (k : Int) := by omega
      obtain ⟨s, hs⟩ : ∃ s, s = nm j := ⟨_, rfl⟩
      have zo : wr.cell? ⟨o, j, none⟩ = some (.string s) := by rw [hs]; exact (hR.seg.nms.cell j).trans (HC.out.2 j hlt)
      have zp1 := hR.seg.seg.cell 1
      obtain ⟨aj, haj⟩ : ∃ aj, aj = (sO pf pn j).length := ⟨_, rfl⟩
      rw [← haj]
      have HR := Lib.hid (And.intro hR (And.intro hr (And.intro hs haj)))
      clear hR hr hs haj
      go_upto_region 11 with (fail)
      clear zo
      by_cases hj0 : j = 0
      · have d0 : decide (0 < j) = false := by simp; omega
        have HJ := Lib.hid hj0
        clear hj0 zp1
        go_wp2_with fail
        refine (wrong_no wr y).mono ?_
        rintro e w11 ⟨rfl, hb11⟩
        have hst := sT_step nm pf pn (k := k) hlt
        have hnb' := HF.out.2.2.1.nb hlt
        obtain ⟨nb, hnb⟩ : ∃ nb, nb = nbl (pn j) := ⟨_, rfl⟩
        have r11 := HR.out.2.1.call hb11
        have h11 := HR.out.1.call (gb_below hb11 (some y))
        have hnum : Calls Tryz.prog 27 #[.pointer (some ⟨y, 0, none⟩), .int .u64 (1048576 : Nat)] w11 (RdPost w11 y (.int .i64 (nb : Nat)) (bT (pf j) (pn j) 0 ++ sT nm pf pn k (j + 1))) :=
          num_ok w11 y nb 1048576 _ (by rw [hnb, bT_zero, ← hst]; exact r11) (by omega) (by omega) (by omega) (HF.out.2.2.2.2.2.1.below h11.bel)
        have H11 := Lib.hid (And.intro h11 (And.intro hnum hnb))
        have hnb4 : nb ≤ 4 := by omega
        clear hb11 r11 h11 hst hnum hnb' hnb
        go_wp2_with fail
        refine H11.out.2.1.mono ?_
        rintro e w13 ⟨rfl, hg13, r13⟩
        have H13 := Lib.hid (And.intro (H11.out.1.call hg13) r13)
        clear hg13 r13
        have q1 := err_nil_eq
        go_wp2_with fail
        go_loopw [12, 15] (fun a l wq => ∃ m, m ≤ nb ∧ a = .int .i64 ((bkOf pf pn j m).a : Nat) ∧ w13.grownBy wq (some y) ∧ RdAt wq y (bT (pf j) (pn j) m ++ sT nm pf pn k (j + 1)) ∧ wq.ownsRow w13.heap.size 76 5 l m (bkL (bkOf pf pn j) m)) (fun _ l _ => nb - lenV l)
        case atStart => exact ⟨0, by omega, by rw [bk_first, ← HR.out.2.2.2], World.grownBy.refl _ _, H13.out.2, bk_nil _ _⟩
        case round =>
          obtain ⟨m, hm, rfl, hgq, hrq, hol⟩ := hrel
          obtain ⟨Al, cl, hvl, hcl, -⟩ := own_form hol
          subst hvl
          obtain ⟨x, hx⟩ : ∃ x, x = bkOf pf pn j m := ⟨_, rfl⟩
          rw [← hx]
          obtain ⟨xa, xb, xf, xt, xn⟩ := x
          have zy1 : wr.cell? ⟨y, 1, none⟩ = some Value.nilIface := by obtain ⟨_, _, h1, -⟩ := hrq; exact h1.cell 1
          have hbelq := gb_below2 H13.out.1.bel hgq H13.out.1.y0
          by_cases hmn : m < nb
          · have hmn' : (m : Int) < (nb : Int) := by omega
            have hB := bk_ok (HF.out.2.2.1.bv hlt) (by rw [← H11.out.2.2]; exact hmn)
            have hrng : ∀ i, i < pn j → -1152921504606846976 ≤ (pf j i).t ∧ (pf j i).t ≤ 1152921504606846976 := fun i hi => part_range (HF.out.2.2.1.bv hlt) hi
            have hle := bk_le pf pn (k := k) hlt (m := m) (by rw [← H11.out.2.2]; exact hmn)
            rw [← hx] at hle
            have xe : xa + xb ≤ en := by rw [HF.out.2.2.2.2.2.2.2, HF.out.2.1.ol]; exact hle
            have e1 : xb = (colL (shiftP (pf j) (1024 * m)) (blkN (pn j) (1024 * m))).1.length := congrArg Bk.b hx
            have e2 : xf = (pf j (1024 * m)).t := congrArg Bk.f hx
            have e3 : xt = (pf j (1024 * m + (blkN (pn j) (1024 * m) - 1))).t := congrArg Bk.t hx
            have e4 : xn = blkN (pn j) (1024 * m) := congrArg Bk.n hx
            have b1 : 9 ≤ xb := by rw [e1]; exact hB.b0
            have b2 : xb ≤ 120060 := by rw [e1]; exact hB.b1
            have n1 : 1 ≤ xn := by rw [e4]; exact hB.n0
            have n2 : xn ≤ 1024 := by rw [e4]; exact hB.n1
            have t1 : -1152921504606846976 ≤ xf := by rw [e2]; exact (hrng _ (by have := hB.le; have := hB.n0; omega)).1
            have t2 : xt ≤ 1152921504606846976 := by rw [e3]; exact (hrng _ (by have := hB.le; have := hB.n0; omega)).2
            have t3 : xf ≤ xt := by
              rw [e2, e3]
              rcases Nat.eq_zero_or_pos (blkN (pn j) (1024 * m) - 1) with h0 | h0
              · rw [h0]; exact Int.le_refl _
              · exact Int.le_of_lt (part_lt (HF.out.2.2.1.bv hlt) (by omega) (by have := hB.le; have := hB.n0; omega))
            have hfk : footB (shiftP (pf j) (1024 * m)) (blkN (pn j) (1024 * m)) = footK ⟨xa, xb, xf, xt, xn⟩ := by rw [hx]; rfl
            have hblk : Calls Tryz.prog 28 #[.pointer (some ⟨y, 0, none⟩), .int .i64 (xa : Nat)] wr (RdPost wr y (.agg #[.int .i64 (xa : Nat), .int .i64 (xb : Nat), .int .i64 xf, .int .i64 xt, .int .i64 (xn : Nat)]) (bT (pf j) (pn j) (m + 1) ++ sT nm pf pn k (j + 1))) :=
              block_ok wr y ⟨xa, xb, xf, xt, xn⟩ _ (by rw [← hfk, ← List.append_assoc, ← bT_step _ _ (by rw [← H11.out.2.2]; exact hmn)]; exact hrq) (by show 1 ≤ xb; omega) (by show xb ≤ _; omega) t1 t3 t2 n1 (by show xn ≤ _; omega) (HF.out.2.2.2.2.2.1.below hbelq)
            have hup : m ≠ 0 → decide (xf ≤ (bkOf pf pn j (m - 1)).t) = false := fun h0 => by
              have h1 := hB.up h0
              have h2 := bk_ok (HF.out.2.2.1.bv hlt) (m := m - 1) (by rw [← H11.out.2.2]; omega)
              have h3 := bk_to (f := pf j) (n := pn j) (m := m - 1) (by rw [← H11.out.2.2]; omega) h2
              rw [show m - 1 + 1 = m by omega] at h3
              have h4 : (bkOf pf pn j (m - 1)).t = (pf j (1024 * m - 1)).t := h3
              rw [h4, e2]
              simp; omega
            have HX := Lib.hid (And.intro hx (And.intro hblk hup))
            have HI := Lib.hid (And.intro hgq (And.intro hrq (And.intro hol hbelq)))
            clear hx hblk hup hgq hrq hol hbelq hfk e1 e2 e3 e4 hB hrng hle
            go_upto_region 15 with (fail)
            go_wp2_with fail
            refine HX.out.2.1.mono ?_
            rintro e w15 ⟨rfl, hg15, r15⟩
            go_upto_region 16 with (fail)
            obtain ⟨g, hg⟩ : ∃ g, g = w15.heap.size := ⟨_, rfl⟩
            rw [← hg]
            have hy13 : y < w13.heap.size := by obtain ⟨_, _, h1, -⟩ := H13.out.2; exact h1.lt
            have hrow15 : w15.ownsRow w13.heap.size 76 5 (.slice Al m cl) m (bkL (bkOf pf pn j) m) := by
              refine HI.out.2.2.1.kept hg15 ?_
              cases e : (Value.slice Al m cl).ownBlock with
              | none => exact .inl rfl
              | some g => exact .inr fun e' => by have := (HI.out.2.2.1.lt g e).1; injection e' with e'; omega
            have hal15 : Below w15.heap.size w15 (w15.alloc (.cells #[.int .i64 (xa : Nat), .int .i64 (xb : Nat), .int .i64 xf, .int .i64 xt, .int .i64 (xn : Nat)] 76)) := (Below.refl _ _).alloc (Nat.le_refl _) _
            have h16 : InX w13 y (bT (pf j) (pn j) (m + 1) ++ sT nm pf pn k (j + 1)) (.slice Al m cl) m (bkOf pf pn j) g #[.int .i64 (xa : Nat), .int .i64 (xb : Nat), .int .i64 xf, .int .i64 xt, .int .i64 (xn : Nat)] (w15.alloc (.cells #[.int .i64 (xa : Nat), .int .i64 (xb : Nat), .int .i64 xf, .int .i64 xt, .int .i64 (xn : Nat)] 76)) :=
              ⟨gb_trans (gb_trans HI.out.1 hg15) (gb_below hal15 _), r15.call hal15, hrow15.alloc _, by rw [hg]; exact Blk.fresh _ _ _⟩
            obtain ⟨T, hT⟩ : ∃ T, T = bT (pf j) (pn j) (m + 1) ++ sT nm pf pn k (j + 1) := ⟨_, rfl⟩
            rw [← hT] at h16
            refine wp_gen (InX w13 y T (.slice Al m cl) m (bkOf pf pn j) g #[.int .i64 (xa : Nat), .int .i64 (xb : Nat), .int .i64 xf, .int .i64 xt, .int .i64 (xn : Nat)]) h16 ?_
            intro w16 h16
            have H16 := Lib.hid h16
            have HT := Lib.hid (And.intro hT hy13)
            clear h16 hrow15 hal15 hg15 r15 hT hg hy13
            have ke : IntKind.i64.wrap ((en : Int) - (xa : Int)) = ((en - xa : Nat) : Int) := by rw [IntWalk.i64_in _ (by omega)]; omega
            have d2 : decide (en - xa < xb) = false := by simp; omega
            have hS := H16.out.call (Below.refl _ _).drew
            by_cases hm0 : m = 0
            · have d0 : decide (0 < m) = false := by simp; omega
              have HM := Lib.hid hm0
              clear hm0
              have hS : (InX w13 y T (.slice Al m cl) m (bkOf pf pn j) g #[.int .i64 (xa : Nat), .int .i64 (xb : Nat), .int .i64 xf, .int .i64 xt, .int .i64 (xn : Nat)]) (w16.drew) := hS
              refine reg_start (InX w13 y T (.slice Al m cl) m (bkOf pf pn j) g #[.int .i64 (xa : Nat), .int .i64 (xb : Nat), .int .i64 xf, .int .i64 xt, .int .i64 (xn : Nat)]) (by kernel_rfl) hS ?_
              generalize w16.drew = wd at hS ⊢
              have HD := Lib.hid hS
              refine reg_take (i := 0) (v := ?_) rfl (by kernel_rfl) (by kernel_rfl) (by kernel_rfl) (fun _ _ _ h => h) (Or.inl ⟨by kernel_rfl, ?_⟩) hS ?_
              rotate_left
              · (intro w' hSw; go_simp <;> with_reducible rfl)
              try simp only [List.getElem_toArray, List.getElem_cons_succ, List.getElem_cons_zero, Act.put, List.setIfInBounds_toArray, List.set_cons_zero, List.set_cons_succ]
              refine reg_take (i := 1) (v := ?_) rfl (by kernel_rfl) (by kernel_rfl) (by kernel_rfl) (fun _ _ _ h => h) (Or.inl ⟨by kernel_rfl, ?_⟩) hS ?_
              rotate_left
              · (intro w' hSw; go_simp <;> with_reducible rfl)
              try simp only [List.getElem_toArray, List.getElem_cons_succ, List.getElem_cons_zero, Act.put, List.setIfInBounds_toArray, List.set_cons_zero, List.set_cons_succ]
              refine reg_take (i := 2) (v := ?_) rfl (by kernel_rfl) (by kernel_rfl) (by kernel_rfl) (fun _ _ _ h => h) (Or.inl ⟨by kernel_rfl, ?_⟩) hS ?_
              rotate_left
              · (intro w' hSw; go_simp <;> with_reducible rfl)
              try simp only [List.getElem_toArray, List.getElem_cons_succ, List.getElem_cons_zero, Act.put, List.setIfInBounds_toArray, List.set_cons_zero, List.set_cons_succ]
              refine reg_take (i := 3) (v := ?_) rfl (by kernel_rfl) (by kernel_rfl) (by kernel_rfl) (fun _ _ _ h => h) (Or.inl ⟨by kernel_rfl, ?_⟩) hS ?_
              rotate_left
              · (intro w' hSw; go_simp <;> with_reducible rfl)
              try simp only [List.getElem_toArray, List.getElem_cons_succ, List.getElem_cons_zero, Act.put, List.setIfInBounds_toArray, List.set_cons_zero, List.set_cons_succ]
              refine reg_take (i := 4) (v := ?_) rfl (by kernel_rfl) (by kernel_rfl) (by kernel_rfl) (fun _ _ _ h => h) (Or.inl ⟨by kernel_rfl, ?_⟩) hS ?_
              rotate_left
              · (intro w' hSw; go_simp <;> with_reducible rfl)
              try simp only [List.getElem_toArray, List.getElem_cons_succ, List.getElem_cons_zero, Act.put, List.setIfInBounds_toArray, List.set_cons_zero, List.set_cons_succ]
              refine reg_take (i := 5) (v := undef) rfl (by kernel_rfl) (by kernel_rfl) (by kernel_rfl) (fun _ _ _ h => h) (Or.inr ⟨by kernel_rfl, rfl⟩) hS ?_
              try simp only [List.getElem_toArray, List.getElem_cons_succ, List.getElem_cons_zero, Act.put, List.setIfInBounds_toArray, List.set_cons_zero, List.set_cons_succ]
              refine reg_take (i := 6) (v := undef) rfl (by kernel_rfl) (by kernel_rfl) (by kernel_rfl) (fun _ _ _ h => h) (Or.inr ⟨by kernel_rfl, rfl⟩) hS ?_
              try simp only [List.getElem_toArray, List.getElem_cons_succ, List.getElem_cons_zero, Act.put, List.setIfInBounds_toArray, List.set_cons_zero, List.set_cons_succ]
              refine reg_take (i := 7) (v := undef) rfl (by kernel_rfl) (by kernel_rfl) (by kernel_rfl) (fun _ _ _ h => h) (Or.inr ⟨by kernel_rfl, rfl⟩) hS ?_
              try simp only [List.getElem_toArray, List.getElem_cons_succ, List.getElem_cons_zero, Act.put, List.setIfInBounds_toArray, List.set_cons_zero, List.set_cons_succ]
              refine reg_take (i := 8) (v := undef) rfl (by kernel_rfl) (by kernel_rfl) (by kernel_rfl) (fun _ _ _ h => h) (Or.inr ⟨by kernel_rfl, rfl⟩) hS ?_
              try simp only [List.getElem_toArray, List.getElem_cons_succ, List.getElem_cons_zero, Act.put, List.setIfInBounds_toArray, List.set_cons_zero, List.set_cons_succ]
              refine reg_take (i := 9) (v := undef) rfl (by kernel_rfl) (by kernel_rfl) (by kernel_rfl) (fun _ _ _ h => h) (Or.inr ⟨by kernel_rfl, rfl⟩) hS ?_
              try simp only [List.getElem_toArray, List.getElem_cons_succ, List.getElem_cons_zero, Act.put, List.setIfInBounds_toArray, List.set_cons_zero, List.set_cons_succ]
              refine reg_take (i := 10) (v := undef) rfl (by kernel_rfl) (by kernel_rfl) (by kernel_rfl) (fun _ _ _ h => h) (Or.inr ⟨by kernel_rfl, rfl⟩) hS ?_
              try simp only [List.getElem_toArray, List.getElem_cons_succ, List.getElem_cons_zero, Act.put, List.setIfInBounds_toArray, List.set_cons_zero, List.set_cons_succ]
              refine reg_take (i := 11) (v := undef) rfl (by kernel_rfl) (by kernel_rfl) (by kernel_rfl) (fun _ _ _ h => h) (Or.inr ⟨by kernel_rfl, rfl⟩) hS ?_
              try simp only [List.getElem_toArray, List.getElem_cons_succ, List.getElem_cons_zero, Act.put, List.setIfInBounds_toArray, List.set_cons_zero, List.set_cons_succ]
              refine reg_take (i := 12) (v := undef) rfl (by kernel_rfl) (by kernel_rfl) (by kernel_rfl) (fun _ _ _ h => h) (Or.inr ⟨by kernel_rfl, rfl⟩) hS ?_
              try simp only [List.getElem_toArray, List.getElem_cons_succ, List.getElem_cons_zero, Act.put, List.setIfInBounds_toArray, List.set_cons_zero, List.set_cons_succ]
              refine reg_take (i := 13) (v := undef) rfl (by kernel_rfl) (by kernel_rfl) (by kernel_rfl) (fun _ _ _ h => h) (Or.inr ⟨by kernel_rfl, rfl⟩) hS ?_
              try simp only [List.getElem_toArray, List.getElem_cons_succ, List.getElem_cons_zero, Act.put, List.setIfInBounds_toArray, List.set_cons_zero, List.set_cons_succ]
              refine reg_take (i := 14) (v := undef) rfl (by kernel_rfl) (by kernel_rfl) (by kernel_rfl) (fun _ _ _ h => h) (Or.inr ⟨by kernel_rfl, rfl⟩) hS ?_
              try simp only [List.getElem_toArray, List.getElem_cons_succ, List.getElem_cons_zero, Act.put, List.setIfInBounds_toArray, List.set_cons_zero, List.set_cons_succ]
              refine reg_take (i := 15) (v := ?_) rfl (by kernel_rfl) (by kernel_rfl) (by kernel_rfl) (fun _ _ _ h => h) (Or.inl ⟨by kernel_rfl, ?_⟩) hS ?_
              rotate_left
              · (intro w' hSw; have u1 := hSw.bx.cell 1; go_simp <;> with_reducible rfl)
              try simp only [List.getElem_toArray, List.getElem_cons_succ, List.getElem_cons_zero, Act.put, List.setIfInBounds_toArray, List.set_cons_zero, List.set_cons_succ]
              refine reg_take (i := 16) (v := ?_) rfl (by kernel_rfl) (by kernel_rfl) (by kernel_rfl) (fun _ _ _ h => h) (Or.inl ⟨by kernel_rfl, ?_⟩) hS ?_
              rotate_left
              · (intro w' hSw; have u1 := hSw.bx.cell 1; go_simp <;> with_reducible rfl)
              try simp only [List.getElem_toArray, List.getElem_cons_succ, List.getElem_cons_zero, Act.put, List.setIfInBounds_toArray, List.set_cons_zero, List.set_cons_succ]
              refine reg_take (i := 17) (v := ?_) rfl (by kernel_rfl) (by kernel_rfl) (by kernel_rfl) (fun _ _ _ h => h) (Or.inl ⟨by kernel_rfl, ?_⟩) hS ?_
              rotate_left
              · (intro w' hSw; have u1 := hSw.bx.cell 1; go_simp <;> with_reducible rfl)
              try simp only [List.getElem_toArray, List.getElem_cons_succ, List.getElem_cons_zero, Act.put, List.setIfInBounds_toArray, List.set_cons_zero, List.set_cons_succ]
              refine reg_take (i := 18) (v := ?_) rfl (by kernel_rfl) (by kernel_rfl) (by kernel_rfl) (fun _ _ _ h => h) (Or.inl ⟨by kernel_rfl, ?_⟩) hS ?_
              rotate_left
              · (intro w' hSw; have u1 := hSw.bx.cell 1; go_simp <;> with_reducible rfl)
              try simp only [List.getElem_toArray, List.getElem_cons_succ, List.getElem_cons_zero, Act.put, List.setIfInBounds_toArray, List.set_cons_zero, List.set_cons_succ]
              refine reg_take (i := 19) (v := ?_) rfl (by kernel_rfl) (by kernel_rfl) (by kernel_rfl) (fun _ _ _ h => h) (Or.inl ⟨by kernel_rfl, ?_⟩) hS ?_
              rotate_left
              · (intro w' hSw; have u1 := hSw.bx.cell 1; go_simp <;> with_reducible rfl)
              try simp only [List.getElem_toArray, List.getElem_cons_succ, List.getElem_cons_zero, Act.put, List.setIfInBounds_toArray, List.set_cons_zero, List.set_cons_succ]
              refine reg_take (i := 20) (v := ?_) rfl (by kernel_rfl) (by kernel_rfl) (by kernel_rfl) (fun _ _ _ h => h) (Or.inl ⟨by kernel_rfl, ?_⟩) hS ?_
              rotate_left
              · (intro w' hSw; have u1 := hSw.bx.cell 1; go_simp <;> with_reducible rfl)
              try simp only [List.getElem_toArray, List.getElem_cons_succ, List.getElem_cons_zero, Act.put, List.setIfInBounds_toArray, List.set_cons_zero, List.set_cons_succ]
              refine reg_take (i := 21) (v := ?_) rfl (by kernel_rfl) (by kernel_rfl) (by kernel_rfl) (fun _ _ _ h => h) (Or.inl ⟨by kernel_rfl, ?_⟩) hS ?_
              rotate_left
              · (intro w' hSw; have u1 := hSw.bx.cell 1; go_simp <;> with_reducible rfl)
              try simp only [List.getElem_toArray, List.getElem_cons_succ, List.getElem_cons_zero, Act.put, List.setIfInBounds_toArray, List.set_cons_zero, List.set_cons_succ]
              refine reg_take (i := 22) (v := ?_) rfl (by kernel_rfl) (by kernel_rfl) (by kernel_rfl) (fun _ _ _ h => h) (Or.inl ⟨by kernel_rfl, ?_⟩) hS ?_
              rotate_left
              · (intro w' hSw; have u1 := hSw.bx.cell 1; go_simp <;> with_reducible rfl)
              try simp only [List.getElem_toArray, List.getElem_cons_succ, List.getElem_cons_zero, Act.put, List.setIfInBounds_toArray, List.set_cons_zero, List.set_cons_succ]
              refine reg_take (i := 23) (v := ?_) rfl (by kernel_rfl) (by kernel_rfl) (by kernel_rfl) (fun _ _ _ h => h) (Or.inl ⟨by kernel_rfl, ?_⟩) hS ?_
              rotate_left
              · (intro w' hSw; have u1 := hSw.bx.cell 1; go_simp <;> with_reducible rfl)
              try simp only [List.getElem_toArray, List.getElem_cons_succ, List.getElem_cons_zero, Act.put, List.setIfInBounds_toArray, List.set_cons_zero, List.set_cons_succ]
              refine reg_call (i := 24) rfl (by kernel_rfl) (fun K hK => ?_)
              have HK := Lib.hid hK
              clear hK
              go_simp
              refine (wrong_no _ y).mono ?_
              rintro e w17 ⟨rfl, hb17⟩
              have HE := Lib.hid (HD.out.call hb17)
              clear hb17
              go_wp2_with fail
              refine HK.out.to (InX w13 y T (.slice Al m cl) m (bkOf pf pn j) g #[.int .i64 (xa : Nat), .int .i64 (xb : Nat), .int .i64 xf, .int .i64 xt, .int .i64 (xn : Nat)]) (fun _ h => h) (HE.out) ?_
              clear HK hS
              have hS : (InX w13 y T (.slice Al m cl) m (bkOf pf pn j) g #[.int .i64 (xa : Nat), .int .i64 (xb : Nat), .int .i64 xf, .int .i64 xt, .int .i64 (xn : Nat)]) (w17) := HE.out
              try simp only [List.getElem_toArray, List.getElem_cons_succ, List.getElem_cons_zero, Act.put, List.setIfInBounds_toArray, List.set_cons_zero, List.set_cons_succ]
              refine wpAnyH_done (by kernel_rfl) ?_ _
              try simp only [List.getElem_toArray, List.getElem_cons_succ, List.getElem_cons_zero]
              try simp only [List.getElem_toArray, List.getElem_cons_succ, List.getElem_cons_zero, Act.put, List.setIfInBounds_toArray, List.set_cons_zero, List.set_cons_succ]
              clear hS
              have z0 := HE.out.bx.cell 0
              have z1 := HE.out.bx.cell 1
              have z2 := HE.out.bx.cell 2
              have z3 := HE.out.bx.cell 3
              have z4 := HE.out.bx.cell 4
              have ka : IntKind.i64.wrap ((xa : Int) + (xb : Int)) = ((xa + xb : Nat) : Int) := by rw [IntWalk.i64_in _ (by omega)]; omega
              go_wp2_with (at_builtin; refine wpList_append_bk (base := w13.heap.size) (j := m) (B := bkOf pf pn j) rfl (.tmp 127) (.tmp 129) rfl rfl rfl ?hown ?hg ?h63 ?hbase ?_)
              case hown => exact HE.out.row.alloc _
              case hg => rw [← HX.out.1]; exact Blk.fresh _ _ _
              case h63 => omega
              case hbase => have := HE.out.gb.size; simp; omega
              intro v18 w18 ho18 hg18 hx18
              clear hx18
              have hal18 : ∀ cs, Below w17.heap.size w17 (w17.alloc (.cells cs 76)) := fun cs => (Below.refl _ _).alloc (Nat.le_refl _) _
              have gb18 := gb_row (gb_trans HE.out.gb (gb_below (hal18 _) _)) (HE.out.row.alloc _) hg18
              have rd18 := (HE.out.rd.call (hal18 _)).row (HE.out.row.alloc _) HT.out.2 hg18
              obtain ⟨A18, c18, hv18, -, -⟩ := own_form ho18
              subst hv18
              have H18 := Lib.hid (And.intro gb18 (And.intro rd18 ho18))
              clear gb18 rd18 ho18 hg18 z0 z1 z2 z3 z4 hal18
              go_wp2_with fail
              go_roundw
              case rel => exact ⟨m + 1, by omega, by rw [bk_next, ← HX.out.1, Int.natCast_add], H18.out.1, by rw [← HT.out.1]; exact H18.out.2.1, H18.out.2.2⟩
              case measure => show nb - (m + 1) < nb - m; omega
            · obtain ⟨m1, hm1⟩ : ∃ m1, m = m1 + 1 := ⟨m - 1, by omega⟩
              have d0 : decide (0 < m) = true := by simp; omega
              have kw : IntKind.i64.wrap ((m : Int) - 1) = (m1 : Int) := by rw [IntWalk.i64_in _ (by omega)]; omega
              have hm1m : (m1 : Int) < (m : Int) := by omega
              obtain ⟨t0, ht0⟩ : ∃ t0, t0 = (bkOf pf pn j m1).t := ⟨_, rfl⟩
              have d5 : decide (xf ≤ t0) = false := by
                have := HX.out.2.2 hm0
                rw [show m - 1 = m1 by omega, ← ht0] at this
                exact this
              obtain ⟨al, hal⟩ : ∃ al, Al = some ⟨al, 0, none⟩ := by
                obtain ⟨A', c', e', -, hp'⟩ := own_form H16.out.row
                obtain ⟨g', e2, -⟩ := hp' (by omega)
                injection e' with e3
                exact ⟨g', e3.trans e2⟩
              subst hal
              have hcT : ∀ w', InX w13 y T (.slice (some ⟨al, 0, none⟩) m cl) m (bkOf pf pn j) g #[.int .i64 (xa : Nat), .int .i64 (xb : Nat), .int .i64 xf, .int .i64 xt, .int .i64 (xn : Nat)] w' → w'.cell? ⟨al, m1 * 5 + 3, none⟩ = some (.int .i64 t0) := fun w' h => by
                rw [hm1] at h
                rw [ht0]
                exact h.cellT
              have HM := Lib.hid (And.intro hm1 (And.intro ht0 hcT))
              clear hm1 ht0 hm0 hcT
              have hS : (InX w13 y T (.slice (some ⟨al, 0, none⟩) m cl) m (bkOf pf pn j) g #[.int .i64 (xa : Nat), .int .i64 (xb : Nat), .int .i64 xf, .int .i64 xt, .int .i64 (xn : Nat)]) (w16.drew) := hS
              refine reg_start (InX w13 y T (.slice (some ⟨al, 0, none⟩) m cl) m (bkOf pf pn j) g #[.int .i64 (xa : Nat), .int .i64 (xb : Nat), .int .i64 xf, .int .i64 xt, .int .i64 (xn : Nat)]) (by kernel_rfl) hS ?_
              generalize w16.drew = wd at hS ⊢
              have HD := Lib.hid hS
              refine reg_take (i := 0) (v := ?_) rfl (by kernel_rfl) (by kernel_rfl) (by kernel_rfl) (fun _ _ _ h => h) (Or.inl ⟨by kernel_rfl, ?_⟩) hS ?_
              rotate_left
              · (intro w' hSw; have u1 := hSw.bx.cell 1; have u2 := hSw.bx.cell 2; have u3 := HM.out.2.2 w' hSw; go_simp <;> with_reducible rfl)
              try simp only [List.getElem_toArray, List.getElem_cons_succ, List.getElem_cons_zero, Act.put, List.setIfInBounds_toArray, List.set_cons_zero, List.set_cons_succ]
              refine reg_take (i := 1) (v := ?_) rfl (by kernel_rfl) (by kernel_rfl) (by kernel_rfl) (fun _ _ _ h => h) (Or.inl ⟨by kernel_rfl, ?_⟩) hS ?_
              rotate_left
              · (intro w' hSw; have u1 := hSw.bx.cell 1; have u2 := hSw.bx.cell 2; have u3 := HM.out.2.2 w' hSw; go_simp <;> with_reducible rfl)
              try simp only [List.getElem_toArray, List.getElem_cons_succ, List.getElem_cons_zero, Act.put, List.setIfInBounds_toArray, List.set_cons_zero, List.set_cons_succ]
              refine reg_take (i := 2) (v := ?_) rfl (by kernel_rfl) (by kernel_rfl) (by kernel_rfl) (fun _ _ _ h => h) (Or.inl ⟨by kernel_rfl, ?_⟩) hS ?_
              rotate_left
              · (intro w' hSw; have u1 := hSw.bx.cell 1; have u2 := hSw.bx.cell 2; have u3 := HM.out.2.2 w' hSw; go_simp <;> with_reducible rfl)
              try simp only [List.getElem_toArray, List.getElem_cons_succ, List.getElem_cons_zero, Act.put, List.setIfInBounds_toArray, List.set_cons_zero, List.set_cons_succ]
              refine reg_take (i := 3) (v := ?_) rfl (by kernel_rfl) (by kernel_rfl) (by kernel_rfl) (fun _ _ _ h => h) (Or.inl ⟨by kernel_rfl, ?_⟩) hS ?_
              rotate_left
              · (intro w' hSw; have u1 := hSw.bx.cell 1; have u2 := hSw.bx.cell 2; have u3 := HM.out.2.2 w' hSw; go_simp <;> with_reducible rfl)
              try simp only [List.getElem_toArray, List.getElem_cons_succ, List.getElem_cons_zero, Act.put, List.setIfInBounds_toArray, List.set_cons_zero, List.set_cons_succ]
              refine reg_take (i := 4) (v := ?_) rfl (by kernel_rfl) (by kernel_rfl) (by kernel_rfl) (fun _ _ _ h => h) (Or.inl ⟨by kernel_rfl, ?_⟩) hS ?_
              rotate_left
              · (intro w' hSw; have u1 := hSw.bx.cell 1; have u2 := hSw.bx.cell 2; have u3 := HM.out.2.2 w' hSw; go_simp <;> with_reducible rfl)
              try simp only [List.getElem_toArray, List.getElem_cons_succ, List.getElem_cons_zero, Act.put, List.setIfInBounds_toArray, List.set_cons_zero, List.set_cons_succ]
              refine reg_take (i := 5) (v := ?_) rfl (by kernel_rfl) (by kernel_rfl) (by kernel_rfl) (fun _ _ _ h => h) (Or.inl ⟨by kernel_rfl, ?_⟩) hS ?_
              rotate_left
              · (intro w' hSw; have u1 := hSw.bx.cell 1; have u2 := hSw.bx.cell 2; have u3 := HM.out.2.2 w' hSw; go_simp <;> with_reducible rfl)
              try simp only [List.getElem_toArray, List.getElem_cons_succ, List.getElem_cons_zero, Act.put, List.setIfInBounds_toArray, List.set_cons_zero, List.set_cons_succ]
              refine reg_take (i := 6) (v := ?_) rfl (by kernel_rfl) (by kernel_rfl) (by kernel_rfl) (fun _ _ _ h => h) (Or.inl ⟨by kernel_rfl, ?_⟩) hS ?_
              rotate_left
              · (intro w' hSw; have u1 := hSw.bx.cell 1; have u2 := hSw.bx.cell 2; have u3 := HM.out.2.2 w' hSw; go_simp <;> with_reducible rfl)
              try simp only [List.getElem_toArray, List.getElem_cons_succ, List.getElem_cons_zero, Act.put, List.setIfInBounds_toArray, List.set_cons_zero, List.set_cons_succ]
              refine reg_take (i := 7) (v := ?_) rfl (by kernel_rfl) (by kernel_rfl) (by kernel_rfl) (fun _ _ _ h => h) (Or.inl ⟨by kernel_rfl, ?_⟩) hS ?_
              rotate_left
              · (intro w' hSw; have u1 := hSw.bx.cell 1; have u2 := hSw.bx.cell 2; have u3 := HM.out.2.2 w' hSw; go_simp <;> with_reducible rfl)
              try simp only [List.getElem_toArray, List.getElem_cons_succ, List.getElem_cons_zero, Act.put, List.setIfInBounds_toArray, List.set_cons_zero, List.set_cons_succ]
              refine reg_take (i := 8) (v := ?_) rfl (by kernel_rfl) (by kernel_rfl) (by kernel_rfl) (fun _ _ _ h => h) (Or.inl ⟨by kernel_rfl, ?_⟩) hS ?_
              rotate_left
              · (intro w' hSw; have u1 := hSw.bx.cell 1; have u2 := hSw.bx.cell 2; have u3 := HM.out.2.2 w' hSw; go_simp <;> with_reducible rfl)
              try simp only [List.getElem_toArray, List.getElem_cons_succ, List.getElem_cons_zero, Act.put, List.setIfInBounds_toArray, List.set_cons_zero, List.set_cons_succ]
              refine reg_take (i := 9) (v := ?_) rfl (by kernel_rfl) (by kernel_rfl) (by kernel_rfl) (fun _ _ _ h => h) (Or.inl ⟨by kernel_rfl, ?_⟩) hS ?_
              rotate_left
              · (intro w' hSw; have u1 := hSw.bx.cell 1; have u2 := hSw.bx.cell 2; have u3 := HM.out.2.2 w' hSw; go_simp <;> with_reducible rfl)
              try simp only [List.getElem_toArray, List.getElem_cons_succ, List.getElem_cons_zero, Act.put, List.setIfInBounds_toArray, List.set_cons_zero, List.set_cons_succ]
              refine reg_take (i := 10) (v := ?_) rfl (by kernel_rfl) (by kernel_rfl) (by kernel_rfl) (fun _ _ _ h => h) (Or.inl ⟨by kernel_rfl, ?_⟩) hS ?_
              rotate_left
              · (intro w' hSw; have u1 := hSw.bx.cell 1; have u2 := hSw.bx.cell 2; have u3 := HM.out.2.2 w' hSw; go_simp <;> with_reducible rfl)
              try simp only [List.getElem_toArray, List.getElem_cons_succ, List.getElem_cons_zero, Act.put, List.setIfInBounds_toArray, List.set_cons_zero, List.set_cons_succ]
              refine reg_take (i := 11) (v := ?_) rfl (by kernel_rfl) (by kernel_rfl) (by kernel_rfl) (fun _ _ _ h => h) (Or.inl ⟨by kernel_rfl, ?_⟩) hS ?_
              rotate_left
              · (intro w' hSw; have u1 := hSw.bx.cell 1; have u2 := hSw.bx.cell 2; have u3 := HM.out.2.2 w' hSw; go_simp <;> with_reducible rfl)
              try simp only [List.getElem_toArray, List.getElem_cons_succ, List.getElem_cons_zero, Act.put, List.setIfInBounds_toArray, List.set_cons_zero, List.set_cons_succ]
              refine reg_take (i := 12) (v := ?_) rfl (by kernel_rfl) (by kernel_rfl) (by kernel_rfl) (fun _ _ _ h => h) (Or.inl ⟨by kernel_rfl, ?_⟩) hS ?_
              rotate_left
              · (intro w' hSw; have u1 := hSw.bx.cell 1; have u2 := hSw.bx.cell 2; have u3 := HM.out.2.2 w' hSw; go_simp <;> with_reducible rfl)
              try simp only [List.getElem_toArray, List.getElem_cons_succ, List.getElem_cons_zero, Act.put, List.setIfInBounds_toArray, List.set_cons_zero, List.set_cons_succ]
              refine reg_take (i := 13) (v := ?_) rfl (by kernel_rfl) (by kernel_rfl) (by kernel_rfl) (fun _ _ _ h => h) (Or.inl ⟨by kernel_rfl, ?_⟩) hS ?_
              rotate_left
              · (intro w' hSw; have u1 := hSw.bx.cell 1; have u2 := hSw.bx.cell 2; have u3 := HM.out.2.2 w' hSw; go_simp <;> with_reducible rfl)
              try simp only [List.getElem_toArray, List.getElem_cons_succ, List.getElem_cons_zero, Act.put, List.setIfInBounds_toArray, List.set_cons_zero, List.set_cons_succ]
              refine reg_take (i := 14) (v := ?_) rfl (by kernel_rfl) (by kernel_rfl) (by kernel_rfl) (fun _ _ _ h => h) (Or.inl ⟨by kernel_rfl, ?_⟩) hS ?_
              rotate_left
              · (intro w' hSw; have u1 := hSw.bx.cell 1; have u2 := hSw.bx.cell 2; have u3 := HM.out.2.2 w' hSw; go_simp <;> with_reducible rfl)
              try simp only [List.getElem_toArray, List.getElem_cons_succ, List.getElem_cons_zero, Act.put, List.setIfInBounds_toArray, List.set_cons_zero, List.set_cons_succ]
              refine reg_take (i := 15) (v := ?_) rfl (by kernel_rfl) (by kernel_rfl) (by kernel_rfl) (fun _ _ _ h => h) (Or.inl ⟨by kernel_rfl, ?_⟩) hS ?_
              rotate_left
              · (intro w' hSw; have u1 := hSw.bx.cell 1; have u2 := hSw.bx.cell 2; have u3 := HM.out.2.2 w' hSw; go_simp <;> with_reducible rfl)
              try simp only [List.getElem_toArray, List.getElem_cons_succ, List.getElem_cons_zero, Act.put, List.setIfInBounds_toArray, List.set_cons_zero, List.set_cons_succ]
              refine reg_take (i := 16) (v := ?_) rfl (by kernel_rfl) (by kernel_rfl) (by kernel_rfl) (fun _ _ _ h => h) (Or.inl ⟨by kernel_rfl, ?_⟩) hS ?_
              rotate_left
              · (intro w' hSw; have u1 := hSw.bx.cell 1; have u2 := hSw.bx.cell 2; have u3 := HM.out.2.2 w' hSw; go_simp <;> with_reducible rfl)
              try simp only [List.getElem_toArray, List.getElem_cons_succ, List.getElem_cons_zero, Act.put, List.setIfInBounds_toArray, List.set_cons_zero, List.set_cons_succ]
              refine reg_take (i := 17) (v := ?_) rfl (by kernel_rfl) (by kernel_rfl) (by kernel_rfl) (fun _ _ _ h => h) (Or.inl ⟨by kernel_rfl, ?_⟩) hS ?_
              rotate_left
              · (intro w' hSw; have u1 := hSw.bx.cell 1; have u2 := hSw.bx.cell 2; have u3 := HM.out.2.2 w' hSw; go_simp <;> with_reducible rfl)
              try simp only [List.getElem_toArray, List.getElem_cons_succ, List.getElem_cons_zero, Act.put, List.setIfInBounds_toArray, List.set_cons_zero, List.set_cons_succ]
              refine reg_take (i := 18) (v := ?_) rfl (by kernel_rfl) (by kernel_rfl) (by kernel_rfl) (fun _ _ _ h => h) (Or.inl ⟨by kernel_rfl, ?_⟩) hS ?_
              rotate_left
              · (intro w' hSw; have u1 := hSw.bx.cell 1; have u2 := hSw.bx.cell 2; have u3 := HM.out.2.2 w' hSw; go_simp <;> with_reducible rfl)
              try simp only [List.getElem_toArray, List.getElem_cons_succ, List.getElem_cons_zero, Act.put, List.setIfInBounds_toArray, List.set_cons_zero, List.set_cons_succ]
              refine reg_take (i := 19) (v := ?_) rfl (by kernel_rfl) (by kernel_rfl) (by kernel_rfl) (fun _ _ _ h => h) (Or.inl ⟨by kernel_rfl, ?_⟩) hS ?_
              rotate_left
              · (intro w' hSw; have u1 := hSw.bx.cell 1; have u2 := hSw.bx.cell 2; have u3 := HM.out.2.2 w' hSw; go_simp <;> with_reducible rfl)
              try simp only [List.getElem_toArray, List.getElem_cons_succ, List.getElem_cons_zero, Act.put, List.setIfInBounds_toArray, List.set_cons_zero, List.set_cons_succ]
              refine reg_take (i := 20) (v := ?_) rfl (by kernel_rfl) (by kernel_rfl) (by kernel_rfl) (fun _ _ _ h => h) (Or.inl ⟨by kernel_rfl, ?_⟩) hS ?_
              rotate_left
              · (intro w' hSw; have u1 := hSw.bx.cell 1; have u2 := hSw.bx.cell 2; have u3 := HM.out.2.2 w' hSw; go_simp <;> with_reducible rfl)
              try simp only [List.getElem_toArray, List.getElem_cons_succ, List.getElem_cons_zero, Act.put, List.setIfInBounds_toArray, List.set_cons_zero, List.set_cons_succ]
              refine reg_take (i := 21) (v := ?_) rfl (by kernel_rfl) (by kernel_rfl) (by kernel_rfl) (fun _ _ _ h => h) (Or.inl ⟨by kernel_rfl, ?_⟩) hS ?_
              rotate_left
              · (intro w' hSw; have u1 := hSw.bx.cell 1; have u2 := hSw.bx.cell 2; have u3 := HM.out.2.2 w' hSw; go_simp <;> with_reducible rfl)
              try simp only [List.getElem_toArray, List.getElem_cons_succ, List.getElem_cons_zero, Act.put, List.setIfInBounds_toArray, List.set_cons_zero, List.set_cons_succ]
              refine reg_take (i := 22) (v := ?_) rfl (by kernel_rfl) (by kernel_rfl) (by kernel_rfl) (fun _ _ _ h => h) (Or.inl ⟨by kernel_rfl, ?_⟩) hS ?_
              rotate_left
              · (intro w' hSw; have u1 := hSw.bx.cell 1; have u2 := hSw.bx.cell 2; have u3 := HM.out.2.2 w' hSw; go_simp <;> with_reducible rfl)
              try simp only [List.getElem_toArray, List.getElem_cons_succ, List.getElem_cons_zero, Act.put, List.setIfInBounds_toArray, List.set_cons_zero, List.set_cons_succ]
              refine reg_take (i := 23) (v := ?_) rfl (by kernel_rfl) (by kernel_rfl) (by kernel_rfl) (fun _ _ _ h => h) (Or.inl ⟨by kernel_rfl, ?_⟩) hS ?_
              rotate_left
              · (intro w' hSw; have u1 := hSw.bx.cell 1; have u2 := hSw.bx.cell 2; have u3 := HM.out.2.2 w' hSw; go_simp <;> with_reducible rfl)
              try simp only [List.getElem_toArray, List.getElem_cons_succ, List.getElem_cons_zero, Act.put, List.setIfInBounds_toArray, List.set_cons_zero, List.set_cons_succ]
              refine reg_call (i := 24) rfl (by kernel_rfl) (fun K hK => ?_)
              have HK := Lib.hid hK
              clear hK
              go_simp
              refine (wrong_no _ y).mono ?_
              rintro e w17 ⟨rfl, hb17⟩
              have HE := Lib.hid (HD.out.call hb17)
              clear hb17
              go_wp2_with fail
              refine HK.out.to (InX w13 y T (.slice (some ⟨al, 0, none⟩) m cl) m (bkOf pf pn j) g #[.int .i64 (xa : Nat), .int .i64 (xb : Nat), .int .i64 xf, .int .i64 xt, .int .i64 (xn : Nat)]) (fun _ h => h) (HE.out) ?_
              clear HK hS
              have hS : (InX w13 y T (.slice (some ⟨al, 0, none⟩) m cl) m (bkOf pf pn j) g #[.int .i64 (xa : Nat), .int .i64 (xb : Nat), .int .i64 xf, .int .i64 xt, .int .i64 (xn : Nat)]) (w17) := HE.out
              try simp only [List.getElem_toArray, List.getElem_cons_succ, List.getElem_cons_zero, Act.put, List.setIfInBounds_toArray, List.set_cons_zero, List.set_cons_succ]
              refine wpAnyH_done (by kernel_rfl) ?_ _
              try simp only [List.getElem_toArray, List.getElem_cons_succ, List.getElem_cons_zero]
              try simp only [List.getElem_toArray, List.getElem_cons_succ, List.getElem_cons_zero, Act.put, List.setIfInBounds_toArray, List.set_cons_zero, List.set_cons_succ]
              clear hS
              have z0 := HE.out.bx.cell 0
              have z1 := HE.out.bx.cell 1
              have z2 := HE.out.bx.cell 2
              have z3 := HE.out.bx.cell 3
              have z4 := HE.out.bx.cell 4
              have ka : IntKind.i64.wrap ((xa : Int) + (xb : Int)) = ((xa + xb : Nat) : Int) := by rw [IntWalk.i64_in _ (by omega)]; omega
              go_wp2_with (at_builtin; refine wpList_append_bk (base := w13.heap.size) (j := m) (B := bkOf pf pn j) rfl (.tmp 127) (.tmp 129) rfl rfl rfl ?hown ?hg ?h63 ?hbase ?_)
              case hown => exact HE.out.row.alloc _
              case hg => rw [← HX.out.1]; exact Blk.fresh _ _ _
              case h63 => omega
              case hbase => have := HE.out.gb.size; simp; omega
              intro v18 w18 ho18 hg18 hx18
              clear hx18
              have hal18 : ∀ cs, Below w17.heap.size w17 (w17.alloc (.cells cs 76)) := fun cs => (Below.refl _ _).alloc (Nat.le_refl _) _
              have gb18 := gb_row (gb_trans HE.out.gb (gb_below (hal18 _) _)) (HE.out.row.alloc _) hg18
              have rd18 := (HE.out.rd.call (hal18 _)).row (HE.out.row.alloc _) HT.out.2 hg18
              obtain ⟨A18, c18, hv18, -, -⟩ := own_form ho18
              subst hv18
              have H18 := Lib.hid (And.intro gb18 (And.intro rd18 ho18))
              clear gb18 rd18 ho18 hg18 z0 z1 z2 z3 z4 hal18
              go_wp2_with fail
              go_roundw
              case rel => exact ⟨m + 1, by omega, by rw [bk_next, ← HX.out.1, Int.natCast_add], H18.out.1, by rw [← HT.out.1]; exact H18.out.2.1, H18.out.2.2⟩
              case measure => show nb - (m + 1) < nb - m; omega
          · obtain rfl : m = nb := by omega
            have hR := H13.out.1.call hgq
            have hr : RdAt wr y (sT nm pf pn k (j + 1)) := by
              have h1 := hrq
              rw [H11.out.2.2, bT_end, List.nil_append] at h1
              exact h1
            have hy13 : y < w13.heap.size := by obtain ⟨_, _, h1, -⟩ := H13.out.2; exact h1.lt
            have zp2 := hR.seg.seg.cell 2
            have hown : World.ownsMap wr Tryz.prog 9 elV M j (DB nm VS j) := hR.map
            have hkey : keyOf Tryz.prog 9 (.string s) = some (klS (nm j)) := by
              rw [HR.out.2.2.1]
              have := (nameOk_size (HF.out.2.2.1.name hlt)).2
              exact klS_of (by unfold maxLen; omega)
            have hea : xa = (sO pf pn (j + 1)).length := by
              have h1 := bk_last pf pn j
              rw [← H11.out.2.2, ← hx] at h1
              exact h1
            have HI := Lib.hid (And.intro hR (And.intro hr (And.intro hol (And.intro hy13 hea))))
            clear hR hr hol hy13 hea hgq hrq hbelq hx
            have hjm : j < maxLen := by unfold maxLen; omega
            go_wp2_with (at_mapUpdate; refine wpList_mapUpdate_own _ rfl _ _ _ 64 rfl 9 73 law Tryz.underlying64 elV M j _ rfl hown hjm _ _ _ rfl rfl hkey (.held (.slice Al m cl)) [] rfl ?_; intro w19 hown19 hg19)
            have hR19 := HI.out.1.put (base := w13.heap.size) (v := .slice Al m cl) (by rw [← H11.out.2.2]; exact HI.out.2.2.1) HI.out.2.2.2.1 hown19 hg19
            have hr19 := HI.out.2.1.gbm HI.out.1.map hg19
            have H19 := Lib.hid (And.intro hR19 hr19)
            clear hown hown19 hg19 hR19 hr19 zp2 hkey
            go_wp2_with fail
            go_roundw
            case rel => exact ⟨j + 1, _, by omega, by go_num, by rw [HI.out.2.2.2.2], H19.out⟩
            case measure => simp [intOf] <;> omega
      · obtain ⟨j1, hj1⟩ : ∃ j1, j = j1 + 1 := ⟨j - 1, by omega⟩
        have d0 : decide (0 < j) = true := by simp; omega
        have kw : IntKind.i64.wrap ((j : Int) - 1) = (j1 : Int) := by rw [IntWalk.i64_in _ (by omega)]; omega
        have hj1k : (j1 : Int) < (k : Int) := by omega
        obtain ⟨t, ht⟩ : ∃ t, t = nm j1 := ⟨_, rfl⟩
        have zo1 : wr.cell? ⟨o, j1, none⟩ = some (.string t) := by rw [ht]; exact (HR.out.1.seg.nms.cell j1).trans (HC.out.2 j1 (by omega))
        have hle : (Op.bytesLess s.toList t.toList || s.toList == t.toList) = false := by
          have := HF.out.2.2.1.rise j (by omega) hlt
          rw [hj1, Nat.add_sub_cancel] at this
          rw [HR.out.2.2.1, ht, hj1]
          exact this
        have HJ := Lib.hid (And.intro hj1 ht)
        clear hj1 ht hj0
        go_wp2_with fail
        refine (wrong_no wr y).mono ?_
        rintro e w11 ⟨rfl, hb11⟩
        have hst := sT_step nm pf pn (k := k) hlt
        have hnb' := HF.out.2.2.1.nb hlt
        obtain ⟨nb, hnb⟩ : ∃ nb, nb = nbl (pn j) := ⟨_, rfl⟩
        have r11 := HR.out.2.1.call hb11
        have h11 := HR.out.1.call (gb_below hb11 (some y))
        have hnum : Calls Tryz.prog 27 #[.pointer (some ⟨y, 0, none⟩), .int .u64 (1048576 : Nat)] w11 (RdPost w11 y (.int .i64 (nb : Nat)) (bT (pf j) (pn j) 0 ++ sT nm pf pn k (j + 1))) :=
          num_ok w11 y nb 1048576 _ (by rw [hnb, bT_zero, ← hst]; exact r11) (by omega) (by omega) (by omega) (HF.out.2.2.2.2.2.1.below h11.bel)
        have H11 := Lib.hid (And.intro h11 (And.intro hnum hnb))
        have hnb4 : nb ≤ 4 := by omega
        clear hb11 r11 h11 hst hnum hnb' hnb
        go_wp2_with fail
        refine H11.out.2.1.mono ?_
        rintro e w13 ⟨rfl, hg13, r13⟩
        have H13 := Lib.hid (And.intro (H11.out.1.call hg13) r13)
        clear hg13 r13
        have q1 := err_nil_eq
        go_wp2_with fail
        go_loopw [12, 15] (fun a l wq => ∃ m, m ≤ nb ∧ a = .int .i64 ((bkOf pf pn j m).a : Nat) ∧ w13.grownBy wq (some y) ∧ RdAt wq y (bT (pf j) (pn j) m ++ sT nm pf pn k (j + 1)) ∧ wq.ownsRow w13.heap.size 76 5 l m (bkL (bkOf pf pn j) m)) (fun _ l _ => nb - lenV l)
        case atStart => exact ⟨0, by omega, by rw [bk_first, ← HR.out.2.2.2], World.grownBy.refl _ _, H13.out.2, bk_nil _ _⟩
        case round =>
          obtain ⟨m, hm, rfl, hgq, hrq, hol⟩ := hrel
          obtain ⟨Al, cl, hvl, hcl, -⟩ := own_form hol
          subst hvl
          obtain ⟨x, hx⟩ : ∃ x, x = bkOf pf pn j m := ⟨_, rfl⟩
          rw [← hx]
          obtain ⟨xa, xb, xf, xt, xn⟩ := x
          have zy1 : wr.cell? ⟨y, 1, none⟩ = some Value.nilIface := by obtain ⟨_, _, h1, -⟩ := hrq; exact h1.cell 1
          have hbelq := gb_below2 H13.out.1.bel hgq H13.out.1.y0
          by_cases hmn : m < nb
          · have hmn' : (m : Int) < (nb : Int) := by omega
            have hB := bk_ok (HF.out.2.2.1.bv hlt) (by rw [← H11.out.2.2]; exact hmn)
            have hrng : ∀ i, i < pn j → -1152921504606846976 ≤ (pf j i).t ∧ (pf j i).t ≤ 1152921504606846976 := fun i hi => part_range (HF.out.2.2.1.bv hlt) hi
            have hle := bk_le pf pn (k := k) hlt (m := m) (by rw [← H11.out.2.2]; exact hmn)
            rw [← hx] at hle
            have xe : xa + xb ≤ en := by rw [HF.out.2.2.2.2.2.2.2, HF.out.2.1.ol]; exact hle
            have e1 : xb = (colL (shiftP (pf j) (1024 * m)) (blkN (pn j) (1024 * m))).1.length := congrArg Bk.b hx
            have e2 : xf = (pf j (1024 * m)).t := congrArg Bk.f hx
            have e3 : xt = (pf j (1024 * m + (blkN (pn j) (1024 * m) - 1))).t := congrArg Bk.t hx
            have e4 : xn = blkN (pn j) (1024 * m) := congrArg Bk.n hx
            have b1 : 9 ≤ xb := by rw [e1]; exact hB.b0
            have b2 : xb ≤ 120060 := by rw [e1]; exact hB.b1
            have n1 : 1 ≤ xn := by rw [e4]; exact hB.n0
            have n2 : xn ≤ 1024 := by rw [e4]; exact hB.n1
            have t1 : -1152921504606846976 ≤ xf := by rw [e2]; exact (hrng _ (by have := hB.le; have := hB.n0; omega)).1
            have t2 : xt ≤ 1152921504606846976 := by rw [e3]; exact (hrng _ (by have := hB.le; have := hB.n0; omega)).2
            have t3 : xf ≤ xt := by
              rw [e2, e3]
              rcases Nat.eq_zero_or_pos (blkN (pn j) (1024 * m) - 1) with h0 | h0
              · rw [h0]; exact Int.le_refl _
              · exact Int.le_of_lt (part_lt (HF.out.2.2.1.bv hlt) (by omega) (by have := hB.le; have := hB.n0; omega))
            have hfk : footB (shiftP (pf j) (1024 * m)) (blkN (pn j) (1024 * m)) = footK ⟨xa, xb, xf, xt, xn⟩ := by rw [hx]; rfl
            have hblk : Calls Tryz.prog 28 #[.pointer (some ⟨y, 0, none⟩), .int .i64 (xa : Nat)] wr (RdPost wr y (.agg #[.int .i64 (xa : Nat), .int .i64 (xb : Nat), .int .i64 xf, .int .i64 xt, .int .i64 (xn : Nat)]) (bT (pf j) (pn j) (m + 1) ++ sT nm pf pn k (j + 1))) :=
              block_ok wr y ⟨xa, xb, xf, xt, xn⟩ _ (by rw [← hfk, ← List.append_assoc, ← bT_step _ _ (by rw [← H11.out.2.2]; exact hmn)]; exact hrq) (by show 1 ≤ xb; omega) (by show xb ≤ _; omega) t1 t3 t2 n1 (by show xn ≤ _; omega) (HF.out.2.2.2.2.2.1.below hbelq)
            have hup : m ≠ 0 → decide (xf ≤ (bkOf pf pn j (m - 1)).t) = false := fun h0 => by
              have h1 := hB.up h0
              have h2 := bk_ok (HF.out.2.2.1.bv hlt) (m := m - 1) (by rw [← H11.out.2.2]; omega)
              have h3 := bk_to (f := pf j) (n := pn j) (m := m - 1) (by rw [← H11.out.2.2]; omega) h2
              rw [show m - 1 + 1 = m by omega] at h3
              have h4 : (bkOf pf pn j (m - 1)).t = (pf j (1024 * m - 1)).t := h3
              rw [h4, e2]
              simp; omega
            have HX := Lib.hid (And.intro hx (And.intro hblk hup))
            have HI := Lib.hid (And.intro hgq (And.intro hrq (And.intro hol hbelq)))
            clear hx hblk hup hgq hrq hol hbelq hfk e1 e2 e3 e4 hB hrng hle
            go_upto_region 15 with (fail)
            go_wp2_with fail
            refine HX.out.2.1.mono ?_
            rintro e w15 ⟨rfl, hg15, r15⟩
            go_upto_region 16 with (fail)
            obtain ⟨g, hg⟩ : ∃ g, g = w15.heap.size := ⟨_, rfl⟩
            rw [← hg]
            have hy13 : y < w13.heap.size := by obtain ⟨_, _, h1, -⟩ := H13.out.2; exact h1.lt
            have hrow15 : w15.ownsRow w13.heap.size 76 5 (.slice Al m cl) m (bkL (bkOf pf pn j) m) := by
              refine HI.out.2.2.1.kept hg15 ?_
              cases e : (Value.slice Al m cl).ownBlock with
              | none => exact .inl rfl
              | some g => exact .inr fun e' => by have := (HI.out.2.2.1.lt g e).1; injection e' with e'; omega
            have hal15 : Below w15.heap.size w15 (w15.alloc (.cells #[.int .i64 (xa : Nat), .int .i64 (xb : Nat), .int .i64 xf, .int .i64 xt, .int .i64 (xn : Nat)] 76)) := (Below.refl _ _).alloc (Nat.le_refl _) _
            have h16 : InX w13 y (bT (pf j) (pn j) (m + 1) ++ sT nm pf pn k (j + 1)) (.slice Al m cl) m (bkOf pf pn j) g #[.int .i64 (xa : Nat), .int .i64 (xb : Nat), .int .i64 xf, .int .i64 xt, .int .i64 (xn : Nat)] (w15.alloc (.cells #[.int .i64 (xa : Nat), .int .i64 (xb : Nat), .int .i64 xf, .int .i64 xt, .int .i64 (xn : Nat)] 76)) :=
              ⟨gb_trans (gb_trans HI.out.1 hg15) (gb_below hal15 _), r15.call hal15, hrow15.alloc _, by rw [hg]; exact Blk.fresh _ _ _⟩
            obtain ⟨T, hT⟩ : ∃ T, T = bT (pf j) (pn j) (m + 1) ++ sT nm pf pn k (j + 1) := ⟨_, rfl⟩
            rw [← hT] at h16
            refine wp_gen (InX w13 y T (.slice Al m cl) m (bkOf pf pn j) g #[.int .i64 (xa : Nat), .int .i64 (xb : Nat), .int .i64 xf, .int .i64 xt, .int .i64 (xn : Nat)]) h16 ?_
            intro w16 h16
            have H16 := Lib.hid h16
            have HT := Lib.hid (And.intro hT hy13)
            clear h16 hrow15 hal15 hg15 r15 hT hg hy13
            have ke : IntKind.i64.wrap ((en : Int) - (xa : Int)) = ((en - xa : Nat) : Int) := by rw [IntWalk.i64_in _ (by omega)]; omega
            have d2 : decide (en - xa < xb) = false := by simp; omega
            have hS := H16.out.call (Below.refl _ _).drew
            by_cases hm0 : m = 0
            · have d0 : decide (0 < m) = false := by simp; omega
              have HM := Lib.hid hm0
              clear hm0
              have hS : (InX w13 y T (.slice Al m cl) m (bkOf pf pn j) g #[.int .i64 (xa : Nat), .int .i64 (xb : Nat), .int .i64 xf, .int .i64 xt, .int .i64 (xn : Nat)]) (w16.drew) := hS
              refine reg_start (InX w13 y T (.slice Al m cl) m (bkOf pf pn j) g #[.int .i64 (xa : Nat), .int .i64 (xb : Nat), .int .i64 xf, .int .i64 xt, .int .i64 (xn : Nat)]) (by kernel_rfl) hS ?_
              generalize w16.drew = wd at hS ⊢
              have HD := Lib.hid hS
              refine reg_take (i := 0) (v := ?_) rfl (by kernel_rfl) (by kernel_rfl) (by kernel_rfl) (fun _ _ _ h => h) (Or.inl ⟨by kernel_rfl, ?_⟩) hS ?_
              rotate_left
              · (intro w' hSw; go_simp <;> with_reducible rfl)
              try simp only [List.getElem_toArray, List.getElem_cons_succ, List.getElem_cons_zero, Act.put, List.setIfInBounds_toArray, List.set_cons_zero, List.set_cons_succ]
              refine reg_take (i := 1) (v := ?_) rfl (by kernel_rfl) (by kernel_rfl) (by kernel_rfl) (fun _ _ _ h => h) (Or.inl ⟨by kernel_rfl, ?_⟩) hS ?_
              rotate_left
              · (intro w' hSw; go_simp <;> with_reducible rfl)
              try simp only [List.getElem_toArray, List.getElem_cons_succ, List.getElem_cons_zero, Act.put, List.setIfInBounds_toArray, List.set_cons_zero, List.set_cons_succ]
              refine reg_take (i := 2) (v := ?_) rfl (by kernel_rfl) (by kernel_rfl) (by kernel_rfl) (fun _ _ _ h => h) (Or.inl ⟨by kernel_rfl, ?_⟩) hS ?_
              rotate_left
              · (intro w' hSw; go_simp <;> with_reducible rfl)
              try simp only [List.getElem_toArray, List.getElem_cons_succ, List.getElem_cons_zero, Act.put, List.setIfInBounds_toArray, List.set_cons_zero, List.set_cons_succ]
              refine reg_take (i := 3) (v := ?_) rfl (by kernel_rfl) (by kernel_rfl) (by kernel_rfl) (fun _ _ _ h => h) (Or.inl ⟨by kernel_rfl, ?_⟩) hS ?_
              rotate_left
              · (intro w' hSw; go_simp <;> with_reducible rfl)
              try simp only [List.getElem_toArray, List.getElem_cons_succ, List.getElem_cons_zero, Act.put, List.setIfInBounds_toArray, List.set_cons_zero, List.set_cons_succ]
              refine reg_take (i := 4) (v := ?_) rfl (by kernel_rfl) (by kernel_rfl) (by kernel_rfl) (fun _ _ _ h => h) (Or.inl ⟨by kernel_rfl, ?_⟩) hS ?_
              rotate_left
              · (intro w' hSw; go_simp <;> with_reducible rfl)
              try simp only [List.getElem_toArray, List.getElem_cons_succ, List.getElem_cons_zero, Act.put, List.setIfInBounds_toArray, List.set_cons_zero, List.set_cons_succ]
              refine reg_take (i := 5) (v := undef) rfl (by kernel_rfl) (by kernel_rfl) (by kernel_rfl) (fun _ _ _ h => h) (Or.inr ⟨by kernel_rfl, rfl⟩) hS ?_
              try simp only [List.getElem_toArray, List.getElem_cons_succ, List.getElem_cons_zero, Act.put, List.setIfInBounds_toArray, List.set_cons_zero, List.set_cons_succ]
              refine reg_take (i := 6) (v := undef) rfl (by kernel_rfl) (by kernel_rfl) (by kernel_rfl) (fun _ _ _ h => h) (Or.inr ⟨by kernel_rfl, rfl⟩) hS ?_
              try simp only [List.getElem_toArray, List.getElem_cons_succ, List.getElem_cons_zero, Act.put, List.setIfInBounds_toArray, List.set_cons_zero, List.set_cons_succ]
              refine reg_take (i := 7) (v := undef) rfl (by kernel_rfl) (by kernel_rfl) (by kernel_rfl) (fun _ _ _ h => h) (Or.inr ⟨by kernel_rfl, rfl⟩) hS ?_
              try simp only [List.getElem_toArray, List.getElem_cons_succ, List.getElem_cons_zero, Act.put, List.setIfInBounds_toArray, List.set_cons_zero, List.set_cons_succ]
              refine reg_take (i := 8) (v := undef) rfl (by kernel_rfl) (by kernel_rfl) (by kernel_rfl) (fun _ _ _ h => h) (Or.inr ⟨by kernel_rfl, rfl⟩) hS ?_
              try simp only [List.getElem_toArray, List.getElem_cons_succ, List.getElem_cons_zero, Act.put, List.setIfInBounds_toArray, List.set_cons_zero, List.set_cons_succ]
              refine reg_take (i := 9) (v := undef) rfl (by kernel_rfl) (by kernel_rfl) (by kernel_rfl) (fun _ _ _ h => h) (Or.inr ⟨by kernel_rfl, rfl⟩) hS ?_
              try simp only [List.getElem_toArray, List.getElem_cons_succ, List.getElem_cons_zero, Act.put, List.setIfInBounds_toArray, List.set_cons_zero, List.set_cons_succ]
              refine reg_take (i := 10) (v := undef) rfl (by kernel_rfl) (by kernel_rfl) (by kernel_rfl) (fun _ _ _ h => h) (Or.inr ⟨by kernel_rfl, rfl⟩) hS ?_
              try simp only [List.getElem_toArray, List.getElem_cons_succ, List.getElem_cons_zero, Act.put, List.setIfInBounds_toArray, List.set_cons_zero, List.set_cons_succ]
              refine reg_take (i := 11) (v := undef) rfl (by kernel_rfl) (by kernel_rfl) (by kernel_rfl) (fun _ _ _ h => h) (Or.inr ⟨by kernel_rfl, rfl⟩) hS ?_
              try simp only [List.getElem_toArray, List.getElem_cons_succ, List.getElem_cons_zero, Act.put, List.setIfInBounds_toArray, List.set_cons_zero, List.set_cons_succ]
              refine reg_take (i := 12) (v := undef) rfl (by kernel_rfl) (by kernel_rfl) (by kernel_rfl) (fun _ _ _ h => h) (Or.inr ⟨by kernel_rfl, rfl⟩) hS ?_
              try simp only [List.getElem_toArray, List.getElem_cons_succ, List.getElem_cons_zero, Act.put, List.setIfInBounds_toArray, List.set_cons_zero, List.set_cons_succ]
              refine reg_take (i := 13) (v := undef) rfl (by kernel_rfl) (by kernel_rfl) (by kernel_rfl) (fun _ _ _ h => h) (Or.inr ⟨by kernel_rfl, rfl⟩) hS ?_
              try simp only [List.getElem_toArray, List.getElem_cons_succ, List.getElem_cons_zero, Act.put, List.setIfInBounds_toArray, List.set_cons_zero, List.set_cons_succ]
              refine reg_take (i := 14) (v := undef) rfl (by kernel_rfl) (by kernel_rfl) (by kernel_rfl) (fun _ _ _ h => h) (Or.inr ⟨by kernel_rfl, rfl⟩) hS ?_
              try simp only [List.getElem_toArray, List.getElem_cons_succ, List.getElem_cons_zero, Act.put, List.setIfInBounds_toArray, List.set_cons_zero, List.set_cons_succ]
              refine reg_take (i := 15) (v := ?_) rfl (by kernel_rfl) (by kernel_rfl) (by kernel_rfl) (fun _ _ _ h => h) (Or.inl ⟨by kernel_rfl, ?_⟩) hS ?_
              rotate_left
              · (intro w' hSw; have u1 := hSw.bx.cell 1; go_simp <;> with_reducible rfl)
              try simp only [List.getElem_toArray, List.getElem_cons_succ, List.getElem_cons_zero, Act.put, List.setIfInBounds_toArray, List.set_cons_zero, List.set_cons_succ]
              refine reg_take (i := 16) (v := ?_) rfl (by kernel_rfl) (by kernel_rfl) (by kernel_rfl) (fun _ _ _ h => h) (Or.inl ⟨by kernel_rfl, ?_⟩) hS ?_
              rotate_left
              · (intro w' hSw; have u1 := hSw.bx.cell 1; go_simp <;> with_reducible rfl)
              try simp only [List.getElem_toArray, List.getElem_cons_succ, List.getElem_cons_zero, Act.put, List.setIfInBounds_toArray, List.set_cons_zero, List.set_cons_succ]
              refine reg_take (i := 17) (v := ?_) rfl (by kernel_rfl) (by kernel_rfl) (by kernel_rfl) (fun _ _ _ h => h) (Or.inl ⟨by kernel_rfl, ?_⟩) hS ?_
              rotate_left
              · (intro w' hSw; have u1 := hSw.bx.cell 1; go_simp <;> with_reducible rfl)
              try simp only [List.getElem_toArray, List.getElem_cons_succ, List.getElem_cons_zero, Act.put, List.setIfInBounds_toArray, List.set_cons_zero, List.set_cons_succ]
              refine reg_take (i := 18) (v := ?_) rfl (by kernel_rfl) (by kernel_rfl) (by kernel_rfl) (fun _ _ _ h => h) (Or.inl ⟨by kernel_rfl, ?_⟩) hS ?_
              rotate_left
              · (intro w' hSw; have u1 := hSw.bx.cell 1; go_simp <;> with_reducible rfl)
              try simp only [List.getElem_toArray, List.getElem_cons_succ, List.getElem_cons_zero, Act.put, List.setIfInBounds_toArray, List.set_cons_zero, List.set_cons_succ]
              refine reg_take (i := 19) (v := ?_) rfl (by kernel_rfl) (by kernel_rfl) (by kernel_rfl) (fun _ _ _ h => h) (Or.inl ⟨by kernel_rfl, ?_⟩) hS ?_
              rotate_left
              · (intro w' hSw; have u1 := hSw.bx.cell 1; go_simp <;> with_reducible rfl)
              try simp only [List.getElem_toArray, List.getElem_cons_succ, List.getElem_cons_zero, Act.put, List.setIfInBounds_toArray, List.set_cons_zero, List.set_cons_succ]
              refine reg_take (i := 20) (v := ?_) rfl (by kernel_rfl) (by kernel_rfl) (by kernel_rfl) (fun _ _ _ h => h) (Or.inl ⟨by kernel_rfl, ?_⟩) hS ?_
              rotate_left
              · (intro w' hSw; have u1 := hSw.bx.cell 1; go_simp <;> with_reducible rfl)
              try simp only [List.getElem_toArray, List.getElem_cons_succ, List.getElem_cons_zero, Act.put, List.setIfInBounds_toArray, List.set_cons_zero, List.set_cons_succ]
              refine reg_take (i := 21) (v := ?_) rfl (by kernel_rfl) (by kernel_rfl) (by kernel_rfl) (fun _ _ _ h => h) (Or.inl ⟨by kernel_rfl, ?_⟩) hS ?_
              rotate_left
              · (intro w' hSw; have u1 := hSw.bx.cell 1; go_simp <;> with_reducible rfl)
              try simp only [List.getElem_toArray, List.getElem_cons_succ, List.getElem_cons_zero, Act.put, List.setIfInBounds_toArray, List.set_cons_zero, List.set_cons_succ]
              refine reg_take (i := 22) (v := ?_) rfl (by kernel_rfl) (by kernel_rfl) (by kernel_rfl) (fun _ _ _ h => h) (Or.inl ⟨by kernel_rfl, ?_⟩) hS ?_
              rotate_left
              · (intro w' hSw; have u1 := hSw.bx.cell 1; go_simp <;> with_reducible rfl)
              try simp only [List.getElem_toArray, List.getElem_cons_succ, List.getElem_cons_zero, Act.put, List.setIfInBounds_toArray, List.set_cons_zero, List.set_cons_succ]
              refine reg_take (i := 23) (v := ?_) rfl (by kernel_rfl) (by kernel_rfl) (by kernel_rfl) (fun _ _ _ h => h) (Or.inl ⟨by kernel_rfl, ?_⟩) hS ?_
              rotate_left
              · (intro w' hSw; have u1 := hSw.bx.cell 1; go_simp <;> with_reducible rfl)
              try simp only [List.getElem_toArray, List.getElem_cons_succ, List.getElem_cons_zero, Act.put, List.setIfInBounds_toArray, List.set_cons_zero, List.set_cons_succ]
              refine reg_call (i := 24) rfl (by kernel_rfl) (fun K hK => ?_)
              have HK := Lib.hid hK
              clear hK
              go_simp
              refine (wrong_no _ y).mono ?_
              rintro e w17 ⟨rfl, hb17⟩
              have HE := Lib.hid (HD.out.call hb17)
              clear hb17
              go_wp2_with fail
              refine HK.out.to (InX w13 y T (.slice Al m cl) m (bkOf pf pn j) g #[.int .i64 (xa : Nat), .int .i64 (xb : Nat), .int .i64 xf, .int .i64 xt, .int .i64 (xn : Nat)]) (fun _ h => h) (HE.out) ?_
              clear HK hS
              have hS : (InX w13 y T (.slice Al m cl) m (bkOf pf pn j) g #[.int .i64 (xa : Nat), .int .i64 (xb : Nat), .int .i64 xf, .int .i64 xt, .int .i64 (xn : Nat)]) (w17) := HE.out
              try simp only [List.getElem_toArray, List.getElem_cons_succ, List.getElem_cons_zero, Act.put, List.setIfInBounds_toArray, List.set_cons_zero, List.set_cons_succ]
              refine wpAnyH_done (by kernel_rfl) ?_ _
              try simp only [List.getElem_toArray, List.getElem_cons_succ, List.getElem_cons_zero]
              try simp only [List.getElem_toArray, List.getElem_cons_succ, List.getElem_cons_zero, Act.put, List.setIfInBounds_toArray, List.set_cons_zero, List.set_cons_succ]
              clear hS
              have z0 := HE.out.bx.cell 0
              have z1 := HE.out.bx.cell 1
              have z2 := HE.out.bx.cell 2
              have z3 := HE.out.bx.cell 3
              have z4 := HE.out.bx.cell 4
              have ka : IntKind.i64.wrap ((xa : Int) + (xb : Int)) = ((xa + xb : Nat) : Int) := by rw [IntWalk.i64_in _ (by omega)]; omega
              go_wp2_with (at_builtin; refine wpList_append_bk (base := w13.heap.size) (j := m) (B := bkOf pf pn j) rfl (.tmp 127) (.tmp 129) rfl rfl rfl ?hown ?hg ?h63 ?hbase ?_)
              case hown => exact HE.out.row.alloc _
              case hg => rw [← HX.out.1]; exact Blk.fresh _ _ _
              case h63 => omega
              case hbase => have := HE.out.gb.size; simp; omega
              intro v18 w18 ho18 hg18 hx18
              clear hx18
              have hal18 : ∀ cs, Below w17.heap.size w17 (w17.alloc (.cells cs 76)) := fun cs => (Below.refl _ _).alloc (Nat.le_refl _) _
              have gb18 := gb_row (gb_trans HE.out.gb (gb_below (hal18 _) _)) (HE.out.row.alloc _) hg18
              have rd18 := (HE.out.rd.call (hal18 _)).row (HE.out.row.alloc _) HT.out.2 hg18
              obtain ⟨A18, c18, hv18, -, -⟩ := own_form ho18
              subst hv18
              have H18 := Lib.hid (And.intro gb18 (And.intro rd18 ho18))
              clear gb18 rd18 ho18 hg18 z0 z1 z2 z3 z4 hal18
              go_wp2_with fail
              go_roundw
              case rel => exact ⟨m + 1, by omega, by rw [bk_next, ← HX.out.1, Int.natCast_add], H18.out.1, by rw [← HT.out.1]; exact H18.out.2.1, H18.out.2.2⟩
              case measure => show nb - (m + 1) < nb - m; omega
            · obtain ⟨m1, hm1⟩ : ∃ m1, m = m1 + 1 := ⟨m - 1, by omega⟩
              have d0 : decide (0 < m) = true := by simp; omega
              have kw : IntKind.i64.wrap ((m : Int) - 1) = (m1 : Int) := by rw [IntWalk.i64_in _ (by omega)]; omega
              have hm1m : (m1 : Int) < (m : Int) := by omega
              obtain ⟨t0, ht0⟩ : ∃ t0, t0 = (bkOf pf pn j m1).t := ⟨_, rfl⟩
              have d5 : decide (xf ≤ t0) = false := by
                have := HX.out.2.2 hm0
                rw [show m - 1 = m1 by omega, ← ht0] at this
                exact this
              obtain ⟨al, hal⟩ : ∃ al, Al = some ⟨al, 0, none⟩ := by
                obtain ⟨A', c', e', -, hp'⟩ := own_form H16.out.row
                obtain ⟨g', e2, -⟩ := hp' (by omega)
                injection e' with e3
                exact ⟨g', e3.trans e2⟩
              subst hal
              have hcT : ∀ w', InX w13 y T (.slice (some ⟨al, 0, none⟩) m cl) m (bkOf pf pn j) g #[.int .i64 (xa : Nat), .int .i64 (xb : Nat), .int .i64 xf, .int .i64 xt, .int .i64 (xn : Nat)] w' → w'.cell? ⟨al, m1 * 5 + 3, none⟩ = some (.int .i64 t0) := fun w' h => by
                rw [hm1] at h
                rw [ht0]
                exact h.cellT
              have HM := Lib.hid (And.intro hm1 (And.intro ht0 hcT))
              clear hm1 ht0 hm0 hcT
              have hS : (InX w13 y T (.slice (some ⟨al, 0, none⟩) m cl) m (bkOf pf pn j) g #[.int .i64 (xa : Nat), .int .i64 (xb : Nat), .int .i64 xf, .int .i64 xt, .int .i64 (xn : Nat)]) (w16.drew) := hS
              refine reg_start (InX w13 y T (.slice (some ⟨al, 0, none⟩) m cl) m (bkOf pf pn j) g #[.int .i64 (xa : Nat), .int .i64 (xb : Nat), .int .i64 xf, .int .i64 xt, .int .i64 (xn : Nat)]) (by kernel_rfl) hS ?_
              generalize w16.drew = wd at hS ⊢
              have HD := Lib.hid hS
              refine reg_take (i := 0) (v := ?_) rfl (by kernel_rfl) (by kernel_rfl) (by kernel_rfl) (fun _ _ _ h => h) (Or.inl ⟨by kernel_rfl, ?_⟩) hS ?_
              rotate_left
              · (intro w' hSw; have u1 := hSw.bx.cell 1; have u2 := hSw.bx.cell 2; have u3 := HM.out.2.2 w' hSw; go_simp <;> with_reducible rfl)
              try simp only [List.getElem_toArray, List.getElem_cons_succ, List.getElem_cons_zero, Act.put, List.setIfInBounds_toArray, List.set_cons_zero, List.set_cons_succ]
              refine reg_take (i := 1) (v := ?_) rfl (by kernel_rfl) (by kernel_rfl) (by kernel_rfl) (fun _ _ _ h => h) (Or.inl ⟨by kernel_rfl, ?_⟩) hS ?_
              rotate_left
              · (intro w' hSw; have u1 := hSw.bx.cell 1; have u2 := hSw.bx.cell 2; have u3 := HM.out.2.2 w' hSw; go_simp <;> with_reducible rfl)
              try simp only [List.getElem_toArray, List.getElem_cons_succ, List.getElem_cons_zero, Act.put, List.setIfInBounds_toArray, List.set_cons_zero, List.set_cons_succ]
              refine reg_take (i := 2) (v := ?_) rfl (by kernel_rfl) (by kernel_rfl) (by kernel_rfl) (fun _ _ _ h => h) (Or.inl ⟨by kernel_rfl, ?_⟩) hS ?_
              rotate_left
              · (intro w' hSw; have u1 := hSw.bx.cell 1; have u2 := hSw.bx.cell 2; have u3 := HM.out.2.2 w' hSw; go_simp <;> with_reducible rfl)
              try simp only [List.getElem_toArray, List.getElem_cons_succ, List.getElem_cons_zero, Act.put, List.setIfInBounds_toArray, List.set_cons_zero, List.set_cons_succ]
              refine reg_take (i := 3) (v := ?_) rfl (by kernel_rfl) (by kernel_rfl) (by kernel_rfl) (fun _ _ _ h => h) (Or.inl ⟨by kernel_rfl, ?_⟩) hS ?_
              rotate_left
              · (intro w' hSw; have u1 := hSw.bx.cell 1; have u2 := hSw.bx.cell 2; have u3 := HM.out.2.2 w' hSw; go_simp <;> with_reducible rfl)
              try simp only [List.getElem_toArray, List.getElem_cons_succ, List.getElem_cons_zero, Act.put, List.setIfInBounds_toArray, List.set_cons_zero, List.set_cons_succ]
              refine reg_take (i := 4) (v := ?_) rfl (by kernel_rfl) (by kernel_rfl) (by kernel_rfl) (fun _ _ _ h => h) (Or.inl ⟨by kernel_rfl, ?_⟩) hS ?_
              rotate_left
              · (intro w' hSw; have u1 := hSw.bx.cell 1; have u2 := hSw.bx.cell 2; have u3 := HM.out.2.2 w' hSw; go_simp <;> with_reducible rfl)
              try simp only [List.getElem_toArray, List.getElem_cons_succ, List.getElem_cons_zero, Act.put, List.setIfInBounds_toArray, List.set_cons_zero, List.set_cons_succ]
              refine reg_take (i := 5) (v := ?_) rfl (by kernel_rfl) (by kernel_rfl) (by kernel_rfl) (fun _ _ _ h => h) (Or.inl ⟨by kernel_rfl, ?_⟩) hS ?_
              rotate_left
              · (intro w' hSw; have u1 := hSw.bx.cell 1; have u2 := hSw.bx.cell 2; have u3 := HM.out.2.2 w' hSw; go_simp <;> with_reducible rfl)
              try simp only [List.getElem_toArray, List.getElem_cons_succ, List.getElem_cons_zero, Act.put, List.setIfInBounds_toArray, List.set_cons_zero, List.set_cons_succ]
              refine reg_take (i := 6) (v := ?_) rfl (by kernel_rfl) (by kernel_rfl) (by kernel_rfl) (fun _ _ _ h => h) (Or.inl ⟨by kernel_rfl, ?_⟩) hS ?_
              rotate_left
              · (intro w' hSw; have u1 := hSw.bx.cell 1; have u2 := hSw.bx.cell 2; have u3 := HM.out.2.2 w' hSw; go_simp <;> with_reducible rfl)
              try simp only [List.getElem_toArray, List.getElem_cons_succ, List.getElem_cons_zero, Act.put, List.setIfInBounds_toArray, List.set_cons_zero, List.set_cons_succ]
              refine reg_take (i := 7) (v := ?_) rfl (by kernel_rfl) (by kernel_rfl) (by kernel_rfl) (fun _ _ _ h => h) (Or.inl ⟨by kernel_rfl, ?_⟩) hS ?_
              rotate_left
              · (intro w' hSw; have u1 := hSw.bx.cell 1; have u2 := hSw.bx.cell 2; have u3 := HM.out.2.2 w' hSw; go_simp <;> with_reducible rfl)
              try simp only [List.getElem_toArray, List.getElem_cons_succ, List.getElem_cons_zero, Act.put, List.setIfInBounds_toArray, List.set_cons_zero, List.set_cons_succ]
              refine reg_take (i := 8) (v := ?_) rfl (by kernel_rfl) (by kernel_rfl) (by kernel_rfl) (fun _ _ _ h => h) (Or.inl ⟨by kernel_rfl, ?_⟩) hS ?_
              rotate_left
              · (intro w' hSw; have u1 := hSw.bx.cell 1; have u2 := hSw.bx.cell 2; have u3 := HM.out.2.2 w' hSw; go_simp <;> with_reducible rfl)
              try simp only [List.getElem_toArray, List.getElem_cons_succ, List.getElem_cons_zero, Act.put, List.setIfInBounds_toArray, List.set_cons_zero, List.set_cons_succ]
              refine reg_take (i := 9) (v := ?_) rfl (by kernel_rfl) (by kernel_rfl) (by kernel_rfl) (fun _ _ _ h => h) (Or.inl ⟨by kernel_rfl, ?_⟩) hS ?_
              rotate_left
              · (intro w' hSw; have u1 := hSw.bx.cell 1; have u2 := hSw.bx.cell 2; have u3 := HM.out.2.2 w' hSw; go_simp <;> with_reducible rfl)
              try simp only [List.getElem_toArray, List.getElem_cons_succ, List.getElem_cons_zero, Act.put, List.setIfInBounds_toArray, List.set_cons_zero, List.set_cons_succ]
              refine reg_take (i := 10) (v := ?_) rfl (by kernel_rfl) (by kernel_rfl) (by kernel_rfl) (fun _ _ _ h => h) (Or.inl ⟨by kernel_rfl, ?_⟩) hS ?_
              rotate_left
              · (intro w' hSw; have u1 := hSw.bx.cell 1; have u2 := hSw.bx.cell 2; have u3 := HM.out.2.2 w' hSw; go_simp <;> with_reducible rfl)
              try simp only [List.getElem_toArray, List.getElem_cons_succ, List.getElem_cons_zero, Act.put, List.setIfInBounds_toArray, List.set_cons_zero, List.set_cons_succ]
              refine reg_take (i := 11) (v := ?_) rfl (by kernel_rfl) (by kernel_rfl) (by kernel_rfl) (fun _ _ _ h => h) (Or.inl ⟨by kernel_rfl, ?_⟩) hS ?_
              rotate_left
              · (intro w' hSw; have u1 := hSw.bx.cell 1; have u2 := hSw.bx.cell 2; have u3 := HM.out.2.2 w' hSw; go_simp <;> with_reducible rfl)
              try simp only [List.getElem_toArray, List.getElem_cons_succ, List.getElem_cons_zero, Act.put, List.setIfInBounds_toArray, List.set_cons_zero, List.set_cons_succ]
              refine reg_take (i := 12) (v := ?_) rfl (by kernel_rfl) (by kernel_rfl) (by kernel_rfl) (fun _ _ _ h => h) (Or.inl ⟨by kernel_rfl, ?_⟩) hS ?_
              rotate_left
              · (intro w' hSw; have u1 := hSw.bx.cell 1; have u2 := hSw.bx.cell 2; have u3 := HM.out.2.2 w' hSw; go_simp <;> with_reducible rfl)
              try simp only [List.getElem_toArray, List.getElem_cons_succ, List.getElem_cons_zero, Act.put, List.setIfInBounds_toArray, List.set_cons_zero, List.set_cons_succ]
              refine reg_take (i := 13) (v := ?_) rfl (by kernel_rfl) (by kernel_rfl) (by kernel_rfl) (fun _ _ _ h => h) (Or.inl ⟨by kernel_rfl, ?_⟩) hS ?_
              rotate_left
              · (intro w' hSw; have u1 := hSw.bx.cell 1; have u2 := hSw.bx.cell 2; have u3 := HM.out.2.2 w' hSw; go_simp <;> with_reducible rfl)
              try simp only [List.getElem_toArray, List.getElem_cons_succ, List.getElem_cons_zero, Act.put, List.setIfInBounds_toArray, List.set_cons_zero, List.set_cons_succ]
              refine reg_take (i := 14) (v := ?_) rfl (by kernel_rfl) (by kernel_rfl) (by kernel_rfl) (fun _ _ _ h => h) (Or.inl ⟨by kernel_rfl, ?_⟩) hS ?_
              rotate_left
              · (intro w' hSw; have u1 := hSw.bx.cell 1; have u2 := hSw.bx.cell 2; have u3 := HM.out.2.2 w' hSw; go_simp <;> with_reducible rfl)
              try simp only [List.getElem_toArray, List.getElem_cons_succ, List.getElem_cons_zero, Act.put, List.setIfInBounds_toArray, List.set_cons_zero, List.set_cons_succ]
              refine reg_take (i := 15) (v := ?_) rfl (by kernel_rfl) (by kernel_rfl) (by kernel_rfl) (fun _ _ _ h => h) (Or.inl ⟨by kernel_rfl, ?_⟩) hS ?_
              rotate_left
              · (intro w' hSw; have u1 := hSw.bx.cell 1; have u2 := hSw.bx.cell 2; have u3 := HM.out.2.2 w' hSw; go_simp <;> with_reducible rfl)
              try simp only [List.getElem_toArray, List.getElem_cons_succ, List.getElem_cons_zero, Act.put, List.setIfInBounds_toArray, List.set_cons_zero, List.set_cons_succ]
              refine reg_take (i := 16) (v := ?_) rfl (by kernel_rfl) (by kernel_rfl) (by kernel_rfl) (fun _ _ _ h => h) (Or.inl ⟨by kernel_rfl, ?_⟩) hS ?_
              rotate_left
              · (intro w' hSw; have u1 := hSw.bx.cell 1; have u2 := hSw.bx.cell 2; have u3 := HM.out.2.2 w' hSw; go_simp <;> with_reducible rfl)
              try simp only [List.getElem_toArray, List.getElem_cons_succ, List.getElem_cons_zero, Act.put, List.setIfInBounds_toArray, List.set_cons_zero, List.set_cons_succ]
              refine reg_take (i := 17) (v := ?_) rfl (by kernel_rfl) (by kernel_rfl) (by kernel_rfl) (fun _ _ _ h => h) (Or.inl ⟨by kernel_rfl, ?_⟩) hS ?_
              rotate_left
              · (intro w' hSw; have u1 := hSw.bx.cell 1; have u2 := hSw.bx.cell 2; have u3 := HM.out.2.2 w' hSw; go_simp <;> with_reducible rfl)
              try simp only [List.getElem_toArray, List.getElem_cons_succ, List.getElem_cons_zero, Act.put, List.setIfInBounds_toArray, List.set_cons_zero, List.set_cons_succ]
              refine reg_take (i := 18) (v := ?_) rfl (by kernel_rfl) (by kernel_rfl) (by kernel_rfl) (fun _ _ _ h => h) (Or.inl ⟨by kernel_rfl, ?_⟩) hS ?_
              rotate_left
              · (intro w' hSw; have u1 := hSw.bx.cell 1; have u2 := hSw.bx.cell 2; have u3 := HM.out.2.2 w' hSw; go_simp <;> with_reducible rfl)
              try simp only [List.getElem_toArray, List.getElem_cons_succ, List.getElem_cons_zero, Act.put, List.setIfInBounds_toArray, List.set_cons_zero, List.set_cons_succ]
              refine reg_take (i := 19) (v := ?_) rfl (by kernel_rfl) (by kernel_rfl) (by kernel_rfl) (fun _ _ _ h => h) (Or.inl ⟨by kernel_rfl, ?_⟩) hS ?_
              rotate_left
              · (intro w' hSw; have u1 := hSw.bx.cell 1; have u2 := hSw.bx.cell 2; have u3 := HM.out.2.2 w' hSw; go_simp <;> with_reducible rfl)
              try simp only [List.getElem_toArray, List.getElem_cons_succ, List.getElem_cons_zero, Act.put, List.setIfInBounds_toArray, List.set_cons_zero, List.set_cons_succ]
              refine reg_take (i := 20) (v := ?_) rfl (by kernel_rfl) (by kernel_rfl) (by kernel_rfl) (fun _ _ _ h => h) (Or.inl ⟨by kernel_rfl, ?_⟩) hS ?_
              rotate_left
              · (intro w' hSw; have u1 := hSw.bx.cell 1; have u2 := hSw.bx.cell 2; have u3 := HM.out.2.2 w' hSw; go_simp <;> with_reducible rfl)
              try simp only [List.getElem_toArray, List.getElem_cons_succ, List.getElem_cons_zero, Act.put, List.setIfInBounds_toArray, List.set_cons_zero, List.set_cons_succ]
              refine reg_take (i := 21) (v := ?_) rfl (by kernel_rfl) (by kernel_rfl) (by kernel_rfl) (fun _ _ _ h => h) (Or.inl ⟨by kernel_rfl, ?_⟩) hS ?_
              rotate_left
              · (intro w' hSw; have u1 := hSw.bx.cell 1; have u2 := hSw.bx.cell 2; have u3 := HM.out.2.2 w' hSw; go_simp <;> with_reducible rfl)
              try simp only [List.getElem_toArray, List.getElem_cons_succ, List.getElem_cons_zero, Act.put, List.setIfInBounds_toArray, List.set_cons_zero, List.set_cons_succ]
              refine reg_take (i := 22) (v := ?_) rfl (by kernel_rfl) (by kernel_rfl) (by kernel_rfl) (fun _ _ _ h => h) (Or.inl ⟨by kernel_rfl, ?_⟩) hS ?_
              rotate_left
              · (intro w' hSw; have u1 := hSw.bx.cell 1; have u2 := hSw.bx.cell 2; have u3 := HM.out.2.2 w' hSw; go_simp <;> with_reducible rfl)
              try simp only [List.getElem_toArray, List.getElem_cons_succ, List.getElem_cons_zero, Act.put, List.setIfInBounds_toArray, List.set_cons_zero, List.set_cons_succ]
              refine reg_take (i := 23) (v := ?_) rfl (by kernel_rfl) (by kernel_rfl) (by kernel_rfl) (fun _ _ _ h => h) (Or.inl ⟨by kernel_rfl, ?_⟩) hS ?_
              rotate_left
              · (intro w' hSw; have u1 := hSw.bx.cell 1; have u2 := hSw.bx.cell 2; have u3 := HM.out.2.2 w' hSw; go_simp <;> with_reducible rfl)
              try simp only [List.getElem_toArray, List.getElem_cons_succ, List.getElem_cons_zero, Act.put, List.setIfInBounds_toArray, List.set_cons_zero, List.set_cons_succ]
              refine reg_call (i := 24) rfl (by kernel_rfl) (fun K hK => ?_)
              have HK := Lib.hid hK
              clear hK
              go_simp
              refine (wrong_no _ y).mono ?_
              rintro e w17 ⟨rfl, hb17⟩
              have HE := Lib.hid (HD.out.call hb17)
              clear hb17
              go_wp2_with fail
              refine HK.out.to (InX w13 y T (.slice (some ⟨al, 0, none⟩) m cl) m (bkOf pf pn j) g #[.int .i64 (xa : Nat), .int .i64 (xb : Nat), .int .i64 xf, .int .i64 xt, .int .i64 (xn : Nat)]) (fun _ h => h) (HE.out) ?_
              clear HK hS
              have hS : (InX w13 y T (.slice (some ⟨al, 0, none⟩) m cl) m (bkOf pf pn j) g #[.int .i64 (xa : Nat), .int .i64 (xb : Nat), .int .i64 xf, .int .i64 xt, .int .i64 (xn : Nat)]) (w17) := HE.out
              try simp only [List.getElem_toArray, List.getElem_cons_succ, List.getElem_cons_zero, Act.put, List.setIfInBounds_toArray, List.set_cons_zero, List.set_cons_succ]
              refine wpAnyH_done (by kernel_rfl) ?_ _
              try simp only [List.getElem_toArray, List.getElem_cons_succ, List.getElem_cons_zero]
              try simp only [List.getElem_toArray, List.getElem_cons_succ, List.getElem_cons_zero, Act.put, List.setIfInBounds_toArray, List.set_cons_zero, List.set_cons_succ]
              clear hS
              have z0 := HE.out.bx.cell 0
              have z1 := HE.out.bx.cell 1
              have z2 := HE.out.bx.cell 2
              have z3 := HE.out.bx.cell 3
              have z4 := HE.out.bx.cell 4
              have ka : IntKind.i64.wrap ((xa : Int) + (xb : Int)) = ((xa + xb : Nat) : Int) := by rw [IntWalk.i64_in _ (by omega)]; omega
              go_wp2_with (at_builtin; refine wpList_append_bk (base := w13.heap.size) (j := m) (B := bkOf pf pn j) rfl (.tmp 127) (.tmp 129) rfl rfl rfl ?hown ?hg ?h63 ?hbase ?_)
              case hown => exact HE.out.row.alloc _
              case hg => rw [← HX.out.1]; exact Blk.fresh _ _ _
              case h63 => omega
              case hbase => have := HE.out.gb.size; simp; omega
              intro v18 w18 ho18 hg18 hx18
              clear hx18
              have hal18 : ∀ cs, Below w17.heap.size w17 (w17.alloc (.cells cs 76)) := fun cs => (Below.refl _ _).alloc (Nat.le_refl _) _
              have gb18 := gb_row (gb_trans HE.out.gb (gb_below (hal18 _) _)) (HE.out.row.alloc _) hg18
              have rd18 := (HE.out.rd.call (hal18 _)).row (HE.out.row.alloc _) HT.out.2 hg18
              obtain ⟨A18, c18, hv18, -, -⟩ := own_form ho18
              subst hv18
              have H18 := Lib.hid (And.intro gb18 (And.intro rd18 ho18))
              clear gb18 rd18 ho18 hg18 z0 z1 z2 z3 z4 hal18
              go_wp2_with fail
              go_roundw
              case rel => exact ⟨m + 1, by omega, by rw [bk_next, ← HX.out.1, Int.natCast_add], H18.out.1, by rw [← HT.out.1]; exact H18.out.2.1, H18.out.2.2⟩
              case measure => show nb - (m + 1) < nb - m; omega
          · obtain rfl : m = nb := by omega
            have hR := H13.out.1.call hgq
            have hr : RdAt wr y (sT nm pf pn k (j + 1)) := by
              have h1 := hrq
              rw [H11.out.2.2, bT_end, List.nil_append] at h1
              exact h1
            have hy13 : y < w13.heap.size := by obtain ⟨_, _, h1, -⟩ := H13.out.2; exact h1.lt
            have zp2 := hR.seg.seg.cell 2
            have hown : World.ownsMap wr Tryz.prog 9 elV M j (DB nm VS j) := hR.map
            have hkey : keyOf Tryz.prog 9 (.string s) = some (klS (nm j)) := by
              rw [HR.out.2.2.1]
              have := (nameOk_size (HF.out.2.2.1.name hlt)).2
              exact klS_of (by unfold maxLen; omega)
            have hea : xa = (sO pf pn (j + 1)).length := by
              have h1 := bk_last pf pn j
              rw [← H11.out.2.2, ← hx] at h1
              exact h1
            have HI := Lib.hid (And.intro hR (And.intro hr (And.intro hol (And.intro hy13 hea))))
            clear hR hr hol hy13 hea hgq hrq hbelq hx
            have hjm : j < maxLen := by unfold maxLen; omega
            go_wp2_with (at_mapUpdate; refine wpList_mapUpdate_own _ rfl _ _ _ 64 rfl 9 73 law Tryz.underlying64 elV M j _ rfl hown hjm _ _ _ rfl rfl hkey (.held (.slice Al m cl)) [] rfl ?_; intro w19 hown19 hg19)
            have hR19 := HI.out.1.put (base := w13.heap.size) (v := .slice Al m cl) (by rw [← H11.out.2.2]; exact HI.out.2.2.1) HI.out.2.2.2.1 hown19 hg19
            have hr19 := HI.out.2.1.gbm HI.out.1.map hg19
            have H19 := Lib.hid (And.intro hR19 hr19)
            clear hown hown19 hg19 hR19 hr19 zp2 hkey
            go_wp2_with fail
            go_roundw
            case rel => exact ⟨j + 1, _, by omega, by go_num, by rw [HI.out.2.2.2.2], H19.out⟩
            case measure => simp [intOf] <;> omega
    · obtain rfl : j = k := by omega
      have hr' : RdAt wr y [] := by
        have h1 := hr
        rw [sT_end] at h1
        exact h1
      have hea := HF.out.2.1.ol
      rw [← HF.out.2.2.2.2.2.2.2] at hea
      rw [← hea]
      obtain ⟨A0, c0, hb0, -⟩ := id hr'
      have zy0 : wr.cell? ⟨y, 0, none⟩ = some (.slice A0 0 c0) := hb0.cell 0
      have HR := Lib.hid (And.intro hR hr')
      clear hR hr hr' hea hb0
      go_wp2_with fail
      refine (wrong_no wr y).mono ?_
      rintro e w22 ⟨rfl, hb22⟩
      have hr22 := HR.out.2.call hb22
      obtain ⟨A2, c2, hb2, -⟩ := id hr22
      have zy1 : w22.cell? ⟨y, 1, none⟩ = some Value.nilIface := hb2.cell 1
      have hs22 := (HR.out.1.done HF.out.2.2.1 HC.out.1 HC.out.2).below hb22
      have H22 := Lib.hid (And.intro hs22 (HR.out.1.bel.trans (hb22.mono HR.out.1.bel.size)))
      clear zy0 hr22 hb2 hs22 hb22
      go_wp2_with fail
      refine (V.er_nil _ w22).mono ?_
      rintro e w23 ⟨rfl, rfl⟩
      go_wp2_with fail
      go_ret2
      exact ⟨p, M, o, A5, c5, _, _, rfl, H22.out.1, H22.out.2⟩
end Go.Proofs.YtopbbicjbjmdnaaGreatDoor
