/-
  Texts of this proof, joined: SgE, FrmR, DeltaSizesW, DeltaR, DeltaRE, XorRef, XorRE.
-/
import Derived.Test.YtopbbicjbjmdnaaJ06
import Derived.Test.YtopbbicjbjmdnaaJ03
import Derived.Test.YtopbbicjbjmdnaaJ04
import Derived.Deep.LoopGhost
import Derived.Test.YtopbbicjbjmdnaaJ01
import Derived.Test.YtopbbicjbjmdnaaJ05
namespace Go.Proofs.Ytopbbicjbjmdnaa
open Go.RowKit Go.Maps
set_option maxRecDepth 100000
set_option linter.unusedVariables false
set_option linter.unusedSimpArgs false
def sO (pf : Nat → Nat → Pt) (pn : Nat → Nat) : Nat → List Nat
  | 0 => []
  | i + 1 => sO pf pn i ++ bO (pf i) (pn i) (nbl (pn i))
def sF (nm : Nat → ByteArray) (pf : Nat → Nat → Pt) (pn : Nat → Nat) (k : Nat) : Nat → List Nat
  | 0 => namesB nm k k
  | i + 1 => (sF nm pf pn k i ++ V.vput (nbl (pn i))) ++ bF (pf i) (pn i) (nbl (pn i))
def partV (pf : Nat → Nat → Pt) (pn : Nat → Nat) (i : Nat) : Bool := bV (pf i) (pn i) (nbl (pn i)) && decide (0 < pn i)
def sV (pf : Nat → Nat → Pt) (pn : Nat → Nat) : Nat → Bool
  | 0 => true
  | i + 1 => sV pf pn i && partV pf pn i
theorem sV_bad {pf : Nat → Nat → Pt} {pn : Nat → Nat} {i : Nat} (h : partV pf pn i = false) : ∀ m, i < m → sV pf pn m = false
  | 0, hk => by omega
  | m + 1, hk => by
    show (sV pf pn m && partV pf pn m) = false
    rcases Nat.lt_or_ge i m with h1 | h1
    · rw [sV_bad h m h1]; rfl
    · rw [show m = i by omega, h]; simp
theorem mem_app {l m : List Nat} (hl : ∀ x ∈ l, x < 256) (hm : ∀ x ∈ m, x < 256) : ∀ x ∈ l ++ m, x < 256 := fun x hx => (List.mem_append.1 hx).elim (hl x) (hm x)
theorem txt_byte (s : ByteArray) : ∀ x ∈ V.txt s, x < 256 := fun x hx => by
  unfold V.txt at hx
  obtain ⟨b, _, rfl⟩ := List.mem_map.1 hx
  exact UInt8.toNat_lt _
theorem namesB_byte (nm : Nat → ByteArray) (n : Nat) : ∀ k, ∀ x ∈ namesB nm n k, x < 256
  | 0 => V.vput_byte n
  | k + 1 => mem_app (mem_app (namesB_byte nm n k) (V.vput_byte _)) (txt_byte _)
theorem footB_byte (f : Nat → Pt) (n : Nat) : ∀ x ∈ footB f n, x < 256 := mem_app (mem_app (mem_app (V.vput_byte _) (V.vput_byte _)) (V.vput_byte _)) (V.vput_byte _)
theorem bF_byte (f : Nat → Pt) (n : Nat) : ∀ k, ∀ x ∈ bF f n k, x < 256
  | 0 => fun x hx => by simp [bF] at hx
  | k + 1 => mem_app (bF_byte f n k) (footB_byte _ _)
theorem sF_byte (nm : Nat → ByteArray) (pf : Nat → Nat → Pt) (pn : Nat → Nat) (k : Nat) : ∀ i, ∀ x ∈ sF nm pf pn k i, x < 256
  | 0 => namesB_byte nm k k
  | i + 1 => mem_app (mem_app (sF_byte nm pf pn k i) (V.vput_byte _)) (bF_byte _ _ _)
/-- The four bytes of a length. -/
def four (n : Nat) : List Nat := [n % 256, n / 256 % 256, n / 65536 % 256, n / 16777216 % 256]
theorem four_byte (n : Nat) : ∀ x ∈ four n, x < 256 := fun x hx => by
  unfold four at hx
  simp only [List.mem_cons, List.not_mem_nil, or_false] at hx
  rcases hx with rfl | rfl | rfl | rfl <;> exact Nat.mod_lt _ (by omega)
theorem four_sl (w : World) (q : Nat) : Sl (w.alloc (.cells #[.int .u8 ((q : Int) % 256), .int .u8 ((q : Int) / 256 % 256), .int .u8 ((q : Int) / 65536 % 256), .int .u8 ((q : Int) / 16777216 % 256)] 5)) (fun k => k < w.heap.size + 1) (some ⟨w.heap.size, 0, none⟩) 4 (byteC (four q)) := fun _ => by
  refine ⟨w.heap.size, 0, rfl, by omega, fun j hj => ?_⟩
  rw [Nat.zero_add, (Blk.fresh w _ _).cell j]
  unfold byteC four
  rcases (show j = 0 ∨ j = 1 ∨ j = 2 ∨ j = 3 by omega) with rfl | rfl | rfl | rfl <;> simp
/-- A file's bytes, or none. -/
def sB (nm : Nat → ByteArray) (pf : Nat → Nat → Pt) (pn : Nat → Nat) (k : Nat) : List Nat × Int :=
  if (namesOk nm k && (decide (0 < k) && sV pf pn k)) = true then
    (if 1048563 < (F.sealL 5 (sF nm pf pn k k)).length + (sO pf pn k).length then ([], 3)
     else (sO pf pn k ++ F.sealL 5 (sF nm pf pn k k) ++ F.sealL 6 (four (F.sealL 5 (sF nm pf pn k k)).length), 0))
  else ([], 2)
/-- What the parts' sizes are. -/
structure Small (nm : Nat → ByteArray) (pf : Nat → Nat → Pt) (pn : Nat → Nat) (k : Nat) : Prop where
  kb : k ≤ 1024
  nb : ∀ j, j < k → (nm j).size ≤ 1048576
  pb : ∀ j, j < k → pn j ≤ 4096
  ob : ∀ i, i ≤ k → (sO pf pn i).length ≤ 268435456
  fb : ∀ i, i ≤ k → (sF nm pf pn k i).length ≤ 1048000
def BuildPost (nm : Nat → ByteArray) (pf : Nat → Nat → Pt) (pn : Nat → Nat) (k : Nat) (w : World) (e : Ending) (w' : World) : Prop :=
  ∃ v, e = .returned (.tuple #[v, .int .i64 (sB nm pf pn k).2]) ∧ w'.ownsRow w.heap.size 5 1 v (sB nm pf pn k).1.length ((sB nm pf pn k).1.map V.byteV) ∧ Below w.heap.size w w'
theorem own_nil (w : World) (B : Nat) : w.ownsRow B 5 1 (.slice none 0 0) 0 [] := ⟨rfl, .inl ⟨rfl, rfl⟩⟩
theorem build_none {nm : Nat → ByteArray} {pf : Nat → Nat → Pt} {pn : Nat → Nat} {k : Nat} {w w' : World} (h : (namesOk nm k && (decide (0 < k) && sV pf pn k)) = false) (hb : Below w.heap.size w w') : BuildPost nm pf pn k w (.returned (.tuple #[.slice none 0 0, .int .i64 2])) w' := by
  have e : sB nm pf pn k = ([], 2) := by unfold sB; rw [h]; rfl
  unfold BuildPost
  rw [e]
  exact ⟨_, rfl, own_nil _ _, hb⟩
set_option maxHeartbeats 8000000 in
theorem build_any (w : World) (A : Option Addr) (k c : Nat) (nm : Nat → ByteArray) (pa : Nat → Option Addr) (pn pc : Nat → Nat) (pf : Nat → Nat → Pt) (h : PartsAt w A k nm pa pn pc pf) (hs : Small nm pf pn k) :
    Calls Try.prog 5 #[.slice A k c] w (BuildPost nm pf pn k w) := by
  have hk := hs.kb
  have H0 := Lib.hid (And.intro h hs)
  clear h hs
  go_enter Try.func5, Try.ntmps5
  go_wp2_with fail
  refine (names_any w A k c nm pa pn pc pf H0.out.1 hk).mono ?_
  rintro e w1 (⟨hn, hk0, d, m, rfl, hd⟩ | ⟨hn, v, rfl, hb⟩)
  rotate_left
  · have HF := Lib.hid (show BuildPost nm pf pn k w (.returned (.tuple #[.slice none 0 0, .int .i64 2])) w1 from build_none (by rcases hn with h | h; · rw [h]; rfl
                                                                                                                                · subst h; simp) hb)
    clear hn hb
    go_wp2_with fail
    go_ret2
    exact HF.out
  have HD := Lib.hid (And.intro hd hn)
  have hbel := hd.own.bel
  clear hd hn
  obtain ⟨xo, hxo⟩ : ∃ x, x = w1.heap.size := ⟨_, rfl⟩
  have hal : Below w1.heap.size w1 (w1.alloc (.cells #[.slice none 0 0] 24)) := (Below.refl _ _).alloc (Nat.le_refl _) _
  have o1 := ((Own.start w).call hbel).alloc hxo 24 #[.slice none 0 0]
  have H1 := Lib.hid (And.intro o1 (And.intro (HD.out.1.call hal) hxo))
  clear o1 hal hbel hxo
  go_upto_region 5 with (fail)
  rw [← H1.out.2.2]
  refine wp_gen (fun wx => Own w [(xo, 24, #[.slice none 0 0])] wx ∧ DictS w [] d m k nm wx) ⟨H1.out.1, H1.out.2.1⟩ ?_
  rintro w2 ⟨o2, d2⟩
  have H2 := Lib.hid (And.intro o2 d2)
  clear o2 d2 H1
  go_wp2_with fail
  refine (dBytes_any w w2 [] d m k nm H2.out.2 hk (namesOk_rise HD.out.2).apart H0.out.2.nb).mono ?_
  rintro e w3 ⟨v3, rfl, ho3, hb3⟩
  obtain ⟨A3, c3, hv3, hc3, -⟩ := own_form ho3
  subst hv3
  obtain ⟨xf, hxf⟩ : ∃ x, x = w3.heap.size := ⟨_, rfl⟩
  obtain ⟨lf, hlf⟩ : ∃ l, l = (namesB nm k k).length := ⟨_, rfl⟩
  rw [← hlf] at ho3 ⊢
  have o3 := (H2.out.1.call hb3).alloc hxf 24 #[.slice A3 lf c3]
  have hT : TwoIs w xo xf (.slice none 0 0) (.slice A3 lf c3) (sO pf pn 0) (sF nm pf pn k 0) (w3.alloc (.cells #[.slice A3 lf c3] 24)) := by
    refine ⟨o3, own_nil _ _, ?_, fun g hg => by simp [Value.ownBlock] at hg⟩
    have h1 := own_base ho3 H2.out.1.bel.size
    rw [hlf] at h1 ⊢
    exact V.own_later h1 ((Below.refl _ _).alloc (Nat.le_refl _) _)
  have H3 := Lib.hid (And.intro hT hxf)
  clear ho3 hb3 o3 hT hxf hlf
  go_upto_region 6 with (fail)
  rw [← H3.out.2]
  refine wp_gen (TwoIs w xo xf (.slice none 0 0) (.slice A3 lf c3) (sO pf pn 0) (sF nm pf pn k 0)) H3.out.1 ?_
  intro w4 h4
  have H4 := Lib.hid h4
  clear h4
  go_wp2_with fail
  go_loopw [27] (fun i wr => ∃ (j : Nat), j ≤ k ∧ i = .int .i64 (j : Nat) ∧ sV pf pn j = true ∧ ∃ vo vf, TwoIs w xo xf vo vf (sO pf pn j) (sF nm pf pn k j) wr) (fun i _ => k - (intOf i).toNat)
  case atStart => exact ⟨0, by omega, rfl, rfl, _, _, H4.out⟩
  case round =>
    obtain ⟨j, hj, rfl, hv, vo, vf, hT⟩ := hrel
    by_cases hlt : j < k
    · obtain ⟨b, off, hA, hbl, hcell⟩ := H0.out.1.row (by omega)
      subst hA
      have zc0 : wr.cell? ⟨b, off + j * 2, none⟩ = some (.string (nm j)) := (hT.own.bel.cell (by exact hbl)).trans (hcell j hlt).1
      have zc1 : wr.cell? ⟨b, off + j * 2 + 1, none⟩ = some (.slice (pa j) (pn j) (pc j)) := (hT.own.bel.cell (by exact hbl)).trans (hcell j hlt).2
      have hjk : (j : Int) < (k : Int) := by omega
      obtain ⟨y, hy⟩ : ∃ y, y = wr.heap.size := ⟨_, rfl⟩
      have HS := Lib.hid (And.intro hT (And.intro hv hy))
      clear hT hv hcell
      go_upto_region 9 with (fail)
      rw [← hy]
      clear zc0 zc1
      have hal : Below wr.heap.size wr (wr.alloc (.cells #[.string (nm j), .slice (pa j) (pn j) (pc j)] 36)) := (Below.refl _ _).alloc (Nat.le_refl _) _
      refine wp_gen (fun wx => TwoIs w xo xf vo vf (sO pf pn j) (sF nm pf pn k j) wx ∧ Blk wx y 36 #[.string (nm j), .slice (pa j) (pn j) (pc j)]) ⟨HS.out.1.call hal, by rw [hy]; exact Blk.fresh _ _ _⟩ ?_
      rintro w5 ⟨h5, hb5⟩
      clear hal hy
      obtain ⟨Af, cf, hvf, hcf, -⟩ := own_form h5.f
      subst hvf
      obtain ⟨l5, hl5⟩ : ∃ l, l = (sF nm pf pn k j).length := ⟨_, rfl⟩
      rw [← hl5] at hcf
      have zc := h5.own.cell 1 0 rfl rfl
      rw [← hl5] at zc
      have zy : w5.cell? ⟨y, 1, none⟩ = some (.slice (pa j) (pn j) (pc j)) := by rw [hb5.cell 1]; rfl
      have hpj := H0.out.2.pb j hlt
      have hfl := H0.out.2.fb j (by omega)
      have kq : ((pn j : Int) + 1024 - 1).tdiv 1024 = (nbl (pn j) : Nat) := by rw [Int.tdiv_eq_ediv_of_nonneg (by omega)]; unfold nbl; omega
      have kq' : ((pn j : Int) + 1024 - 1) / 1024 = (nbl (pn j) : Nat) := by unfold nbl; omega
      have hnb : nbl (pn j) ≤ 5 := by unfold nbl; omega
      have ku : IntKind.u64.wrap ((nbl (pn j) : Nat) : Int) = ((nbl (pn j) : Nat) : Int) := by rw [IntKind.wrap_u64]; omega
      have H5 := Lib.hid (And.intro h5 (And.intro hl5.symm hb5))
      rw [← hl5] at hfl
      clear h5 hl5 hb5
      go_wp2_with fail
      refine (V.vput_any _ Af l5 cf (sF nm pf pn k j) ((nbl (pn j) : Nat) : Int) H5.out.2.1 (by have := H5.out.1.f; rw [H5.out.2.1] at this; exact V.ow_sl this) hcf (by omega) (by omega) (by omega)).mono ?_
      rintro e w6 ⟨v6, rfl, ho6, hb6⟩
      rw [Int.toNat_natCast] at ho6
      obtain ⟨F6, hF6⟩ : ∃ F6, F6 = sF nm pf pn k j ++ V.vput (nbl (pn j)) := ⟨_, rfl⟩
      rw [← hF6] at ho6
      have hl6 : F6.length ≤ l5 + 10 := by
        have := V.vput_len10 (u := nbl (pn j)) (by omega)
        rw [hF6, List.length_append, H5.out.2.1]; omega
      obtain ⟨A6, c6, hv6, hc6, -⟩ := own_form ho6
      subst hv6
      have h6 := H5.out.1.call hb6
      have z0 := h6.own.cell 1 0 rfl rfl
      rw [H5.out.2.1] at z0
      have zf := h6.own.free 1 rfl
      have hb6y := H5.out.2.2.below hb6 H5.out.2.2.lt
      have hyx : y ≠ xf := hb6y.ne (h6.own.get 1 rfl) (by decide)
      have H6 := Lib.hid (And.intro (H5.out.1.foot hb6 ho6) (And.intro (hb6y.far (p := ⟨xf, 0, none⟩) hyx (.slice A6 F6.length c6)) hF6))
      clear ho6 hb6 h6 hb6y hyx hF6 zc zy kq kq' ku
      go_upto_region 10 with (fail)
      clear z0 zf
      refine wp_gen (fun wx => TwoIs w xo xf vo (.slice A6 F6.length c6) (sO pf pn j) F6 wx ∧ Blk wx y 36 #[.string (nm j), .slice (pa j) (pn j) (pc j)]) ⟨H6.out.1, H6.out.2.1⟩ ?_
      rintro w7 ⟨h7, hb7⟩
      have zy : w7.cell? ⟨y, 1, none⟩ = some (.slice (pa j) (pn j) (pc j)) := by rw [hb7.cell 1]; rfl
      have H7 := Lib.hid h7
      clear h7 hb7
      go_wp2_with fail
      refine (blocks_any w _ xo xf vo (.slice A6 F6.length c6) (sO pf pn j) F6 (pa j) (pn j) (pc j) (pf j) H7.out ((H0.out.1.pts j hlt).below H7.out.own.bel) hpj (H0.out.1.le j hlt).1 (H0.out.1.le j hlt).2 (by have := H0.out.2.ob j (by omega); omega) (by omega) (H0.out.1.ok j)).mono ?_
      rintro e w8 (⟨hbv, hp0, rfl, vo2, vf2, h8⟩ | ⟨hbad, rfl, hb8⟩)
      · have HE := Lib.hid (And.intro h8 (And.intro hbv hp0))
        clear h8 hbv hp0 zy
        go_wp2_with fail
        go_roundw
        case rel =>
          refine ⟨j + 1, by omega, by go_num, ?_, vo2, vf2, ?_⟩
          · show (sV pf pn j && partV pf pn j) = true
            rw [HS.out.2.1]
            unfold partV
            rw [HE.out.2.1, decide_eq_true HE.out.2.2]
            rfl
          · have e1 : sF nm pf pn k (j + 1) = F6 ++ bF (pf j) (pn j) (nbl (pn j)) := by rw [H6.out.2.2]; rfl
            rw [e1]
            exact HE.out.1
        case measure => simp [intOf] <;> omega
      · have hpv : partV pf pn j = false := by
          unfold partV
          rcases hbad with h | h
          · rw [h]; rfl
          · rw [decide_eq_false (by omega)]; simp
        have HF := Lib.hid (show BuildPost nm pf pn k w (.returned (.tuple #[.slice none 0 0, .int .i64 2])) w8 from build_none (by rw [sV_bad hpv k hlt]; simp) hb8)
        clear hbad hb8 hpv zy
        go_wp2_with fail
        go_ret2
        exact HF.out
    · obtain rfl : j = k := by omega
      have HE := Lib.hid (And.intro hT hv)
      clear hT hv
      obtain ⟨Ao, co, hvo, hco, -⟩ := own_form HE.out.1.o
      subst hvo
      obtain ⟨Af, cf, hvf, hcf, -⟩ := own_form HE.out.1.f
      subst hvf
      obtain ⟨ol, hol⟩ : ∃ l, l = (sO pf pn j).length := ⟨_, rfl⟩
      obtain ⟨fl, hfl⟩ : ∃ l, l = (sF nm pf pn j j).length := ⟨_, rfl⟩
      have hob := H0.out.2.ob j (Nat.le_refl _)
      have hfb := H0.out.2.fb j (Nat.le_refl _)
      have hT := HE.out.1
      rw [← hol] at hco hob hT
      rw [← hfl] at hcf hfb hT
      have zo := hT.own.cell 0 0 rfl rfl
      have zc := hT.own.cell 1 0 rfl rfl
      have hTo := hT.o
      have hTf := hT.f
      rw [← hol] at hTo
      rw [← hfl] at hTf
      have HL := Lib.hid (And.intro hol.symm (And.intro hfl.symm (And.intro hT (And.intro hTo hTf))))
      clear hol hfl hT hTo hTf
      go_wp2_with fail
      refine (F.seal_ok _ 5 Af fl cf _ (sF nm pf pn j j) HL.out.2.1 (V.ow_sl HL.out.2.2.2.2) (F.getD_of_mem (sF_byte nm pf pn j j)) (by omega) (by omega)).mono ?_
      rintro e w9 ⟨A9, c9, rfl, ho9, hk9⟩
      obtain ⟨S5, hS5⟩ : ∃ S, S = F.sealL 5 (sF nm pf pn j j) := ⟨_, rfl⟩
      rw [← hS5] at ho9 ⊢
      have hsl : S5.length = fl + 9 := by rw [hS5, F.sealL_length, HL.out.2.1]
      obtain ⟨q, hq⟩ : ∃ q, q = fl + 9 := ⟨_, rfl⟩
      rw [hsl, ← hq] at ho9 ⊢
      have hqb : q ≤ 1048009 := by omega
      have H9 := Lib.hid (And.intro ho9 (And.intro hk9.to_below (And.intro hS5 (And.intro hsl hq))))
      have hT9 := HL.out.2.2.1.call hk9.to_below
      have zo9 := hT9.own.cell 0 0 rfl rfl
      have HT9 := Lib.hid hT9
      clear ho9 hk9 hS5 hsl hq zo zc hT9
      have hn : (namesOk nm j && (decide (0 < j) && sV pf pn j)) = true := by rw [HD.out.2, HE.out.2, decide_eq_true hk0]; rfl
      have HN := Lib.hid hn
      clear hn
      by_cases hbig : 1048563 < q + ol
      · have d1 : decide ((1048563 : Int) - (ol : Int) < (q : Int)) = true := by simp; omega
        have hB : BuildPost nm pf pn j w (.returned (.tuple #[.slice none 0 0, .int .i64 3])) w9 := by
          have e : sB nm pf pn j = ([], 3) := by
            unfold sB
            rw [if_pos HN.out, if_pos (by rw [← H9.out.2.2.1, H9.out.2.2.2.1, ← H9.out.2.2.2.2, HL.out.1]; exact hbig)]
          unfold BuildPost
          rw [e]
          exact ⟨_, rfl, own_nil _ _, HT9.out.own.bel⟩
        have HF := Lib.hid hB
        clear hB hbig
        go_wp2_with fail
        go_ret2
        exact HF.out
      · have d1 : decide ((1048563 : Int) - (ol : Int) < (q : Int)) = false := by simp; omega
        have k0 : IntKind.u8.wrap (q : Int) = ((q % 256 : Nat) : Int) := by rw [IntKind.wrap_u8]; omega
        have k1 : IntKind.u8.wrap ((q : Int) / 256) = ((q / 256 % 256 : Nat) : Int) := by rw [IntKind.wrap_u8]; omega
        have k2 : IntKind.u8.wrap ((q : Int) / 65536) = ((q / 65536 % 256 : Nat) : Int) := by rw [IntKind.wrap_u8]; omega
        have k3 : IntKind.u8.wrap ((q : Int) / 16777216) = ((q / 16777216 % 256 : Nat) : Int) := by rw [IntKind.wrap_u8]; omega
        have h4 := four_sl w9 q
        have hal : Below w9.heap.size w9 (w9.alloc (.cells #[.int .u8 ((q : Int) % 256), .int .u8 ((q : Int) / 256 % 256), .int .u8 ((q : Int) / 65536 % 256), .int .u8 ((q : Int) / 16777216 % 256)] 5)) := (Below.refl _ _).alloc (Nat.le_refl _) _
        have HQ := Lib.hid (And.intro h4 hal)
        clear h4 hal hbig
        go_wp2_with fail
        refine (F.seal_ok _ 6 _ 4 4 _ (four q) rfl HQ.out.1 (F.getD_of_mem (four_byte q)) (by omega) (by omega)).mono ?_
        rintro e w10 ⟨A10, c10, rfl, ho10, hk10⟩
        obtain ⟨S6, hS6⟩ : ∃ S, S = F.sealL 6 (four q) := ⟨_, rfl⟩
        obtain ⟨z6, hl6⟩ : ∃ z, S6.length = z := ⟨_, rfl⟩
        have hz6 : z6 ≤ 13 := by rw [← hl6, hS6, F.sealL_length]; exact Nat.le_refl _
        rw [← hS6, hl6] at ho10
        rw [← hS6, hl6]
        have hb10 := HQ.out.2.trans (hk10.to_below.mono HQ.out.2.size)
        have hT10 := HT9.out.call hb10
        have zo10 := hT10.own.cell 0 0 rfl rfl
        have ho9' := V.own_later H9.out.1 hb10
        have hoo := V.own_later (V.own_later HL.out.2.2.2.1 H9.out.2.1) hb10
        have H10 := Lib.hid (And.intro hT10 (And.intro (V.ow_sl ho9') (And.intro (V.ow_sl ho10) (And.intro hS6 (And.intro hl6 (And.intro hoo ho10))))))
        clear ho10 hk10 hS6 hl6 hb10 hT10 ho9' hoo zo9 k0 k1 k2 k3
        go_wp2_with (at_builtin; refine wpList_append_sl (f := byteC S5) (D := fun k => k < w10.heap.size) (base := w.heap.size) (n := ol) (xs := (sO pf pn j).map V.byteV) V.byteElem rfl (.tmp 80) (.tmp 81) rfl rfl rfl ?hown ?hsl ?h1 ?h63 ?hby ?hbase ?_)
        case hown => exact H10.out.2.2.2.2.2.1
        case hsl => have := H10.out.2.1; exact this
        case h1 => intro i _; rfl
        case h63 => unfold maxLen; omega
        case hby => omega
        case hbase => exact H10.out.1.own.bel.size
        intro v11 w11 ho11 hg11 hx11
        have ho11' : w11.ownsRow w.heap.size 5 1 v11 (ol + q) ((sO pf pn j ++ S5).map V.byteV) := by
          have := ho11
          rw [← V.range_bytes (H9.out.2.2.2.1.trans H9.out.2.2.2.2.symm), ← List.map_append] at this
          exact this
        have hbl11 := V.lat_grown H10.out.1.own.bel H10.out.2.2.2.2.2.1 hg11
        have h10o : w11.ownsRow _ 5 1 (.slice A10 z6 c10) z6 (S6.map V.byteV) := World.ownsRow.kept H10.out.2.2.2.2.2.2 hg11 (by
          cases e : (Value.slice A10 z6 c10).ownBlock with
          | none => exact .inl rfl
          | some g =>
            refine .inr fun e' => ?_
            have h1 := (H10.out.2.2.2.2.2.2.lt g e).1
            have h2 := (HL.out.2.2.2.1.lt g e'.symm).2
            have h3 := H9.out.2.1.size
            have h4 := HQ.out.2.size
            omega)
        have H11 := Lib.hid (And.intro ho11' (And.intro hbl11 (V.ow_sl h10o)))
        clear ho11 hg11 hx11 ho11' hbl11 h10o
        go_wp2_with (at_builtin; refine wpList_append_sl (f := byteC S6) (D := fun k => k < w11.heap.size) (base := w.heap.size) (n := ol + q) (xs := (sO pf pn j ++ S5).map V.byteV) V.byteElem rfl (.tmp 82) (.tmp 83) rfl rfl rfl ?hown ?hsl ?h1 ?h63 ?hby ?hbase ?_)
        case hown => exact H11.out.1
        case hsl => exact H11.out.2.2
        case h1 => intro i _; rfl
        case h63 => unfold maxLen; omega
        case hby => omega
        case hbase => exact H11.out.2.1.size
        intro v12 w12 ho12 hg12 hx12
        have hB : BuildPost nm pf pn j w (.returned (.tuple #[v12, .int .i64 0])) w12 := by
          have e : sB nm pf pn j = (sO pf pn j ++ S5 ++ S6, 0) := by
            unfold sB
            rw [if_pos HN.out, if_neg (by rw [← H9.out.2.2.1, H9.out.2.2.2.1, ← H9.out.2.2.2.2, HL.out.1]; have := of_decide_eq_false d1; omega), ← H9.out.2.2.1, H9.out.2.2.2.1, ← H9.out.2.2.2.2, ← H10.out.2.2.2.1]
          unfold BuildPost
          rw [e]
          refine ⟨v12, rfl, ?_, V.lat_grown H11.out.2.1 H11.out.1 hg12⟩
          have := ho12
          rw [← V.range_bytes H10.out.2.2.2.2.1] at this
          show w12.ownsRow w.heap.size 5 1 v12 (sO pf pn j ++ S5 ++ S6).length ((sO pf pn j ++ S5 ++ S6).map V.byteV)
          rw [List.length_append, List.length_append, HL.out.1, H9.out.2.2.2.1, ← H9.out.2.2.2.2, H10.out.2.2.2.2.1, List.map_append, List.map_append]
          simp only [List.map_append, List.append_assoc] at this ⊢
          exact this
        have HF := Lib.hid hB
        clear hB ho12 hg12 hx12
        go_wp2_with fail
        go_ret2
        exact HF.out
end Go.Proofs.Ytopbbicjbjmdnaa
namespace Go.Proofs.Ytopbbicjbjmdnaa.F
open Go.RowKit
set_option linter.unusedVariables false
set_option linter.unusedSimpArgs false
theorem gN_succ' (n s : Nat) : gN (n + 1) s = gbit (gN n s) := gN_add n 1 s
set_option maxRecDepth 100000 in
set_option maxHeartbeats 800000 in
theorem rsum_any (w : World) (A : Option Addr) (len c : Nat) (D : Nat → Prop) (bs : List Nat) (hl : bs.length = len) (hsl : Sl w D A len (byteC bs)) (hb : ∀ j, bs.getD j 0 < 256) (hlen : len ≤ 2097152) :
    Calls Try.prog 40 #[.slice A len c] w fun e w' => e = .returned (.int .u32 (crcS bs : Nat)) ∧ w = w' := by
  have HS := Lib.hid (And.intro hl (And.intro hsl hb))
  clear hl hsl hb
  go_enter Try.func40, Try.ntmps40
  go_wp2_with fail
  go_loopw [3, 4] (fun s i wr => ∃ k : Nat, k ≤ len ∧ i = .int .i64 k ∧ s = .int .u32 (crcL (bs.take k) 4294967295 : Nat) ∧ w = wr) (fun _ i _ => len - (intOf i).toNat)
  case atStart => exact ⟨0, Nat.zero_le _, rfl, rfl, rfl⟩
  case round =>
    obtain ⟨k, hk, rfl, rfl, rfl⟩ := hrel
    have hsl := crcL_lt (s := 4294967295) (mem_take_byte HS.out.2.2 k) (by omega)
    obtain ⟨s, hs⟩ : ∃ s, s = crcL (bs.take k) 4294967295 := ⟨_, rfl⟩
    rw [← hs] at hsl
    rw [← hs]
    by_cases hlt : k < len
    · obtain ⟨b, off, hA, -, hc⟩ := HS.out.2.1 (by omega)
      have ck : w.cell? ⟨b, off + k, none⟩ = some (.int .u8 (bs.getD k 0 : Nat)) := hc k hlt
      subst hA
      have hx := HS.out.2.2 k
      obtain ⟨x, hxx⟩ : ∃ x, x = bs.getD k 0 := ⟨_, rfl⟩
      rw [← hxx] at hx ck
      have e0 : bits .xor .u32 (s : Int) (x : Int) = ((s ^^^ x : Nat) : Int) := u32_xor_nat _ _ hsl (by omega)
      have hsx : s ^^^ x < 4294967296 := Nat.xor_lt_two_pow (n := 32) hsl (by omega)
      obtain ⟨y, hy⟩ : ∃ y, y = s ^^^ x := ⟨_, rfl⟩
      rw [← hy] at e0 hsx
      have HY := Lib.hid (And.intro hy (And.intro hs (And.intro hxx hsx)))
      clear hc hs hxx hy
      go_wp2_with fail
      clear e0
      go_loopw [3, 5] (fun s i wr => ∃ j : Nat, j ≤ 8 ∧ i = .int .i64 j ∧ s = .int .u32 (gN j y : Nat) ∧ w = wr) (fun _ i _ => 8 - (intOf i).toNat)
      case atStart => exact ⟨0, Nat.zero_le _, rfl, rfl, rfl⟩
      case round =>
        obtain ⟨j, hj, rfl, rfl, rfl⟩ := hrel
        have hz := gN_lt j HY.out.2.2.2
        have hn := gN_succ' j y
        obtain ⟨z, hzz⟩ : ∃ z, z = gN j y := ⟨_, rfl⟩
        rw [← hzz] at hz hn
        rw [← hzz]
        by_cases hj8 : j < 8
        · have HZ := Lib.hid (And.intro hn hzz)
          clear hn hzz
          rcases (show z % 2 = 1 ∨ z % 2 = 0 by omega) with hp | hp
          · have d : ((z : Int) % 2 == 1) = true := by simp; omega
            have d2 : (z : Int) % 2 = 1 := by omega
            have e1 : bits .xor .u32 ((z : Int) / 2) 3988292384 = ((z / 2 ^^^ 3988292384 : Nat) : Int) := by
              rw [show (z : Int) / 2 = ((z / 2 : Nat) : Int) by omega, show (3988292384 : Int) = ((3988292384 : Nat) : Int) from rfl, u32_xor_nat _ _ (by omega) (by omega)]
            have hg : gbit z = z / 2 ^^^ 3988292384 := by unfold gbit; rw [if_pos hp]
            have HG := Lib.hid (And.intro hg e1)
            clear hg hp d2
            go_wp2_with fail
            go_roundw
            case rel =>
              refine ⟨j + 1, by omega, by go_num, ?_, by trivial⟩
              first | (rw [HZ.out.1, HG.out.1]; done) | (rw [HZ.out.1, HG.out.1, HG.out.2]; done)
            case measure => simp [intOf]; omega
          · have d : ((z : Int) % 2 == 1) = false := by simp; omega
            have hg : gbit z = z / 2 := by unfold gbit; rw [if_neg (by omega)]
            have HG := Lib.hid hg
            clear hg hp
            go_wp2_with fail
            go_roundw
            case rel =>
              refine ⟨j + 1, by omega, by go_num, ?_, by trivial⟩
              rw [HZ.out.1, HG.out]
              first | rfl | (congr 1 <;> omega)
            case measure => simp [intOf]; omega
        · obtain rfl : j = 8 := by omega
          have HZ := Lib.hid (And.intro hn hzz)
          clear hn hzz
          go_wp2_with fail
          go_roundw
          case rel =>
            refine ⟨k + 1, by omega, by go_num, ?_, by trivial⟩
            obtain ⟨hl, -, -⟩ := HS.out
            rw [crc_take bs k (by omega), ← HY.out.2.1, ← HY.out.2.2.1, ← HY.out.1, ← gN_add, HZ.out.2]
          case measure => simp [intOf]; omega
    · have e0 : bits .xor .u32 (s : Int) 4294967295 = ((crcS bs : Nat) : Int) := by
        rw [show (4294967295 : Int) = ((4294967295 : Nat) : Int) from rfl, u32_xor_nat _ _ hsl (by omega), hs]
        obtain ⟨hl, -, -⟩ := HS.out
        rw [List.take_of_length_le (by omega)]
        rfl
      clear hs
      go_wp2_with fail
      go_ret
      exact ⟨rfl, rfl⟩
theorem le_drop (bs : List Nat) (m i : Nat) (hi : i < m) (hil : i < bs.length) : le ((bs.take m).drop i) = bs.getD i 0 + 256 * le ((bs.take m).drop (i + 1)) := by
  rw [List.drop_eq_getElem_cons (by simp; omega), List.getElem_take, List.getD_eq_getElem?_getD, List.getElem?_eq_getElem (by omega)]
  rfl
theorem le_drop_nil (bs : List Nat) (m i : Nat) (hil : bs.length ≤ i) : le ((bs.take m).drop i) = 0 := by
  rw [List.drop_eq_nil_of_le (by simp; omega)]
  rfl
theorem le_drop_lt (bs : List Nat) (i : Nat) (hi : i ≤ 8) (hb : ∀ j, bs.getD j 0 < 256) : le ((bs.take 8).drop i) < 2 ^ (8 * (8 - i)) := by
  have h1 := le_lt (l := (bs.take 8).drop i) (fun b hbm => mem_take_byte hb 8 b (List.mem_of_mem_drop hbm))
  have h2 : ((bs.take 8).drop i).length ≤ 8 - i := by simp; omega
  have h3 : (2 : Nat) ^ (8 * ((bs.take 8).drop i).length) ≤ 2 ^ (8 * (8 - i)) := Nat.pow_le_pow_right (by omega) (by omega)
  omega
def RFourPost (w : World) (u : Nat) (e : Ending) (w' : World) : Prop :=
  e = .returned (.slice (some ⟨w.heap.size, 0, none⟩) 4 4) ∧ Sl w' (fun k => k = w.heap.size) (some ⟨w.heap.size, 0, none⟩) 4 (byteC (fourL u)) ∧ Below w.heap.size w w'
set_option maxRecDepth 100000 in
set_option maxHeartbeats 800000 in
theorem rfour_any (z : Int) (u : Nat) (w : World) (hz : z = (u : Nat)) (hu : u < 4294967296) : Calls Try.prog 39 #[.int .u32 z] w (RFourPost w u) := by
  subst hz
  go_enter Try.func39, Try.ntmps39
  go_wp2_with fail
  go_ret
  refine ⟨rfl, ?_, (Below.refl w.heap.size w).alloc (Nat.le_refl _) _⟩
  refine fun _ => ⟨_, _, rfl, rfl, fun j hj => ?_⟩
  rw [(Blk.fresh w _ _).cell (0 + j)]
  rcases (show j = 0 ∨ j = 1 ∨ j = 2 ∨ j = 3 by omega) with rfl | rfl | rfl | rfl
  · show some (Value.int .u8 _) = some (.int .u8 ((u % 256 : Nat) : Int)); congr 2 <;> omega
  · show some (Value.int .u8 _) = some (.int .u8 ((u / 256 % 256 : Nat) : Int)); congr 2 <;> omega
  · show some (Value.int .u8 _) = some (.int .u8 ((u / 65536 % 256 : Nat) : Int)); congr 2 <;> omega
  · show some (Value.int .u8 _) = some (.int .u8 ((u / 16777216 % 256 : Nat) : Int)); congr 2 <;> omega
theorem own_lit1 (w : World) (base : Nat) (e : TypeId) (u : Value) (hb : base ≤ w.heap.size) : (w.alloc (.cells #[u] e)).ownsRow base e 1 (.slice (some ⟨w.heap.size, 0, none⟩) 1 1) 1 [u] :=
  ⟨rfl, .inr ⟨w.heap.size, 1, #[u], rfl, hb, heap_alloc_new w _, Nat.le_refl _, by unfold maxLen; omega, rfl, rfl⟩⟩
set_option maxRecDepth 100000 in
set_option maxHeartbeats 1600000 in
theorem rseal_ok (w : World) (kind : Nat) (A : Option Addr) (len c : Nat) (D : Nat → Prop) (bs : List Nat) (hl : bs.length = len) (hsl : Sl w D A len (byteC bs)) (hb : ∀ j, bs.getD j 0 < 256) (hk : kind < 256) (hlen : len ≤ 1048576) :
    Calls Try.prog 22 #[.int .u8 (kind : Nat), .slice A len c] w (BytesPost w (sealL kind bs) 0) := by
  have HS := Lib.hid (And.intro hl (And.intro hsl (And.intro hb hk)))
  clear hl hsl hb hk
  have d0 : decide ((1048576 : Int) < (len : Int)) = false := by simp; omega
  go_enter Try.func22, Try.ntmps22
  go_wp2_with fail
  refine (rfour_any _ len _ (by first | rfl | omega | (rw [IntKind.wrap_u32']; omega)) (by omega)).mono ?_
  rintro e w1 ⟨rfl, hs1, hb1⟩
  clear d0
  have k1' : Keeps (fun _ => False) (w.alloc (.cells #[.int .u8 (kind : Nat)] 5)) w1 := Keeps.of_below hb1
  have o1 := own_keeps (own_lit1 w w.heap.size 5 (.int .u8 (kind : Nat)) (Nat.le_refl _)) k1' (fun _ _ h => h)
  have k1 : Keeps (fun _ => False) w w1 := ((Keeps.refl _ w).alloc _).trans' k1'
  have H1 := Lib.hid (And.intro o1 (And.intro k1 hs1))
  clear hb1 k1' o1 k1 hs1
  go_wp2_with (at_builtin; refine wpList_append_sl (f := byteC (fourL len)) (D := fun k => k = (w.alloc (.cells #[.int .u8 (kind : Nat)] 5)).heap.size) (base := w.heap.size) (n := 1) (xs := [byteV kind]) byteElem rfl (.tmp 11) (.tmp 15) rfl rfl rfl ?hown ?hsl ?h1 ?h63 ?hby ?hbase ?_)
  case hown => exact H1.out.1
  case hsl => have h := H1.out.2.2; simpa using h
  case h1 => intro j _; rfl
  case h63 => unfold maxLen; omega
  case hby => omega
  case hbase => exact H1.out.2.1.size
  intro v4 w4 ho4 hg4 hx
  clear hx
  have k4 := keeps_grown H1.out.2.1 H1.out.1 hg4
  have H4 := Lib.hid (And.intro ho4 k4)
  clear ho4 hg4 k4
  go_wp2_with (at_builtin; refine wpList_append_sl (f := byteC bs) (D := D) (base := w.heap.size) (n := 5) (xs := [byteV kind] ++ (List.range 4).map (byteC (fourL len))) byteElem rfl (.tmp 17) (.tmp 18) rfl rfl rfl ?hown ?hsl ?h1 ?h63 ?hby ?hbase ?_)
  case hown => exact H4.out.1
  case hsl => exact HS.out.2.1.keep (w' := w4) (fun q _ hq => H4.out.2.block q hq (fun h => h))
  case h1 => intro j _; rfl
  case h63 => unfold maxLen; omega
  case hby => omega
  case hbase => exact H4.out.2.size
  intro v5 w5 ho5 hg5 hx
  clear hx
  have k5 := keeps_grown H4.out.2 H4.out.1 hg5
  have e5 : byteV kind :: byteC (fourL len) 0 :: byteC (fourL len) 1 :: byteC (fourL len) 2 :: byteC (fourL len) 3 :: (List.range len).map (byteC bs) = (bodyL kind bs).map byteV := by
    rw [range_bytes HS.out.1, ← HS.out.1]
    rfl
  rw [e5] at ho5
  obtain ⟨A5, c5, hv5, -, -⟩ := own_form ho5
  subst hv5
  have hbl : (bodyL kind bs).length = 5 + len := by rw [bodyL_length, HS.out.1]; omega
  have H5 := Lib.hid (And.intro ho5 (And.intro k5 hbl))
  clear ho5 hg5 k5 e5 hbl
  go_wp2_with fail
  refine (rsum_any _ _ _ _ _ (bodyL kind bs) H5.out.2.2 (own_sl H5.out.2.2 H5.out.1) (getD_of_mem (bodyL_byte HS.out.2.2.2 HS.out.2.2.1)) (by omega)).mono ?_
  rintro e w6 ⟨rfl, rfl⟩
  have hcl := crcS_lt (bodyL_byte HS.out.2.2.2 HS.out.2.2.1)
  obtain ⟨u, hu⟩ : ∃ u, u = crcS (bodyL kind bs) := ⟨_, rfl⟩
  rw [← hu] at hcl
  rw [← hu]
  have HU := Lib.hid (And.intro hu hcl)
  clear hu hcl
  go_wp2_with fail
  refine (rfour_any _ u _ rfl HU.out.2).mono ?_
  rintro e w7 ⟨rfl, hs7, hb7⟩
  have k7' : Keeps (fun _ => False) w5 w7 := Keeps.of_below hb7
  have o7 := own_keeps H5.out.1 k7' (fun _ _ h => h)
  have k7 := H5.out.2.1.trans' k7'
  have H7 := Lib.hid (And.intro o7 (And.intro k7 hs7))
  clear hb7 k7' o7 k7 hs7
  go_wp2_with (at_builtin; refine wpList_append_sl (f := byteC (fourL u)) (D := fun k => k = w5.heap.size) (base := w.heap.size) (n := 5 + len) (xs := (bodyL kind bs).map byteV) byteElem rfl (.tmp 20) (.tmp 23) rfl rfl rfl ?hown ?hsl ?h1 ?h63 ?hby ?hbase ?_)
  case hown => exact H7.out.1
  case hsl => exact H7.out.2.2
  case h1 => intro j _; rfl
  case h63 => unfold maxLen; omega
  case hby => omega
  case hbase => exact H7.out.2.1.size
  intro v8 w8 ho8 hg8 hx
  clear hx
  have k8 := keeps_grown H7.out.2.1 H7.out.1 hg8
  have e8 : (bodyL kind bs).map byteV ++ [byteC (fourL u) 0, byteC (fourL u) 1, byteC (fourL u) 2, byteC (fourL u) 3] = (sealL kind bs).map byteV := by
    unfold sealL
    rw [HU.out.1, List.map_append]
    rfl
  rw [e8] at ho8
  have hsl : 5 + len + 4 = (sealL kind bs).length := by rw [sealL_length, HS.out.1]; omega
  rw [hsl] at ho8
  obtain ⟨A8, c8, hv8, -, -⟩ := own_form ho8
  subst hv8
  have H8 := Lib.hid (And.intro ho8 k8)
  clear ho8 hg8 k8 e8 hsl
  go_wp2_with fail
  go_ret2
  exact ⟨A8, c8, rfl, H8.out.1, H8.out.2⟩
end Go.Proofs.Ytopbbicjbjmdnaa.F
namespace Go.Proofs.Ytopbbicjbjmdnaa.D
set_option maxRecDepth 100000
open Go.RowKit
set_option linter.unusedVariables false
set_option linter.unusedSimpArgs false
/-- A sum modulo 2^64. -/
def add64 (a b : Int) : Int := (a + b + 9223372036854775808) % 18446744073709551616 - 9223372036854775808
theorem add64_range (a b : Int) : -9223372036854775808 ≤ add64 a b ∧ add64 a b ≤ 9223372036854775807 := by unfold add64; omega
theorem sub_add (a s : Int) (h0 : -9223372036854775808 ≤ s) (h1 : s ≤ 9223372036854775807) : sub64 (add64 a s) a = s := by unfold sub64 add64; omega
theorem sub_zero64 (s : Int) (h0 : -9223372036854775808 ≤ s) (h1 : s ≤ 9223372036854775807) : sub64 s 0 = s := by unfold sub64; omega
theorem sub_self64 (s : Int) : sub64 s s = 0 := by unfold sub64; omega
theorem add_walk (a s : Int) (a0 : -9223372036854775808 ≤ a) (a1 : a ≤ 9223372036854775807) (h0 : -9223372036854775808 ≤ s) (h1 : s ≤ 9223372036854775807) : wrap64 (IntKind.u64.wrap (IntKind.u64.wrap a + IntKind.u64.wrap s)) = add64 a s := by
  unfold add64 wrap64
  simp only [IntKind.wrap_u64]
  omega
/-- Times of one step each. -/
def tick (a s : Int) : Nat → Int
  | 0 => a
  | k + 1 => add64 (tick a s k) s
theorem tick_range (a s : Int) (a0 : -9223372036854775808 ≤ a) (a1 : a ≤ 9223372036854775807) (k : Nat) : -9223372036854775808 ≤ tick a s k ∧ tick a s k ≤ 9223372036854775807 := by
  cases k with
  | zero => exact ⟨a0, a1⟩
  | succ k => exact add64_range _ _
theorem tick_len (a s : Int) (h0 : -9223372036854775808 ≤ s) (h1 : s ≤ 9223372036854775807) (n : Nat) : (encTo (tick a s) (n + 2)).length = 64 + (ah (cls (zig s)) + wd (cls (zig s))) + n := by
  induction n with
  | zero =>
    unfold encTo
    rw [List.length_append, dbits_length]
    have e : sub64 (sub64 (tick a s 1) (tick a s 0)) (st (tick a s) 1) = s := by
      show sub64 (sub64 (add64 (tick a s 0) s) (tick a s 0)) 0 = s
      rw [sub_add _ _ h0 h1, sub_zero64 s h0 h1]
    rw [e]
    show (bitsTo (u64 (tick a s 0)) 64 64).length + _ = _
    rw [bitsTo_length]
    omega
  | succ n ih =>
    have e : sub64 (sub64 (tick a s (n + 2)) (tick a s (n + 1))) (st (tick a s) (n + 2)) = 0 := by
      show sub64 (sub64 (add64 (tick a s (n + 1)) s) (tick a s (n + 1))) (sub64 (add64 (tick a s n) s) (tick a s n)) = 0
      rw [sub_add _ _ h0 h1, sub_add _ _ h0 h1, sub_self64]
    show (encTo (tick a s) (n + 2) ++ dbits (zig (sub64 (sub64 (tick a s (n + 2)) (tick a s (n + 1))) (st (tick a s) (n + 2))))).length = _
    rw [List.length_append, ih, e, dbits_length]
    have : ah (cls (zig 0)) + wd (cls (zig 0)) = 1 := by decide
    omega
theorem sl_of_row {w : World} {base c n : Nat} {A : Option Addr} {f : Nat → Int} (ho : w.ownsRow base 3 1 (.slice A n c) n ((List.range n).map fun j => Value.int .i64 (f j))) : Sl w (fun k => (Value.slice A n c).ownBlock = some k) A n (fun j => .int .i64 (f j)) := by
  refine Sl.of_own ho ?_
  intro j u hu
  rw [List.getElem?_map] at hu
  rcases Nat.lt_or_ge j n with hj | hj
  · rw [List.getElem?_range hj] at hu
    simpa using hu.symm
  · rw [List.getElem?_eq_none (by simpa using hj)] at hu
    cases hu
end Go.Proofs.Ytopbbicjbjmdnaa.D
namespace Go.Proofs.Ytopbbicjbjmdnaa.D
set_option maxRecDepth 100000
open Go.RowKit
set_option linter.unusedVariables false
set_option linter.unusedSimpArgs false
theorem ret2_int {k l : IntKind} {a b c d : Int} (h : a = b) (h' : c = d) : Ending.returned (.tuple #[.int k a, .int l c]) = .returned (.tuple #[.int k b, .int l d]) := by rw [h, h']
set_option maxRecDepth 100000 in
set_option maxHeartbeats 400000 in
theorem class_any (z : Nat) (w : World) : Calls Try.prog 54 #[.int .u64 (z : Nat)] w fun e w' => e = .returned (.tuple #[.int .i64 (cls z : Nat), .int .i64 (wd (cls z) : Nat)]) ∧ w = w' := by
  by_cases h0 : z = 0
  · subst h0
    have d0 : (((0 : Nat) : Int) == 0) = true := rfl
    go_enter Try.func54, Try.ntmps54
    go_wp2
    go_ret2
    exact ⟨rfl, rfl⟩
  · have d0 : ((z : Int) == 0) = false := by simp; omega
    by_cases h1 : z < 128
    · have e : cls z = 1 := by unfold cls; rw [if_neg h0, if_pos h1]
      rw [e]
      clear e h0
      go_enter Try.func54, Try.ntmps54
      go_wp2
      go_ret2
      exact ⟨rfl, rfl⟩
    · by_cases h2 : z < 4096
      · have e : cls z = 2 := by unfold cls; rw [if_neg h0, if_neg h1, if_pos h2]
        rw [e]
        clear e h0
        go_enter Try.func54, Try.ntmps54
        go_wp2
        go_ret2
        exact ⟨rfl, rfl⟩
      · by_cases h3 : z < 4294967296
        · have e : cls z = 3 := by unfold cls; rw [if_neg h0, if_neg h1, if_neg h2, if_pos h3]
          rw [e]
          have d1 : decide ((z : Int) < 128) = false := by simp; omega
          have d2 : decide ((z : Int) < 4096) = false := by simp; omega
          have d3 : decide ((z : Int) < 4294967296) = true := by simp; omega
          clear e h0 h1 h2 h3
          go_enter Try.func54, Try.ntmps54
          go_wp2
          go_ret2
          exact ⟨rfl, rfl⟩
        · have e : cls z = 4 := by unfold cls; rw [if_neg h0, if_neg h1, if_neg h2, if_neg h3]
          rw [e]
          have d1 : decide ((z : Int) < 128) = false := by simp; omega
          have d2 : decide ((z : Int) < 4096) = false := by simp; omega
          have d3 : decide ((z : Int) < 4294967296) = false := by simp; omega
          clear e h0 h1 h2 h3
          go_enter Try.func54, Try.ntmps54
          go_wp2
          go_ret2
          exact ⟨rfl, rfl⟩
set_option maxRecDepth 100000 in
set_option maxHeartbeats 400000 in
theorem rsub_any (a b : Int) (w : World) (a0 : -9223372036854775808 ≤ a) (a1 : a ≤ 9223372036854775807) (b0 : -9223372036854775808 ≤ b) (b1 : b ≤ 9223372036854775807) :
    Calls Try.prog 53 #[.int .i64 a, .int .i64 b] w fun e w' => e = .returned (.int .i64 (sub64 a b)) ∧ w = w' := by
  have H := Lib.hid (And.intro a0 (And.intro a1 (And.intro b0 b1)))
  clear a0 a1 b0 b1
  go_enter Try.func53, Try.ntmps53
  go_wp2
  go_ret
  refine ⟨ret_int ?_, rfl⟩
  obtain ⟨a0, a1, b0, b1⟩ := H.out
  unfold sub64
  unfold wrap64
  simp only [IntKind.wrap_u64]
  omega
theorem rput_fit (w : World) (a : Nat) (g : Option Nat) (L : List Nat) (v n : Int) (h : RWr w a g L) (h0 : 0 ≤ v) (hv : v < 18446744073709551616) (n0 : 0 ≤ n) (n64 : n ≤ 64) (hl : (L.length : Int) + 64 ≤ 8388608) :
    Calls Try.prog 52 #[.pointer (some ⟨a, 0, none⟩), .int .u64 v, .int .i64 n] w (RPutPost w a g (L ++ bitsTo v.toNat n.toNat n.toNat) 0) := by
  obtain ⟨v, rfl⟩ := Int.eq_ofNat_of_zero_le h0
  obtain ⟨n, rfl⟩ := Int.eq_ofNat_of_zero_le n0
  exact rput_ok w a g L v n h (by omega) (by omega) (by omega)
theorem dbits_ref (z : Nat) : dbits z = List.replicate (cls z) 1 ++ (if cls z < 4 then [0] else []) ++ bitsTo z (wd (cls z)) (wd (cls z)) := by
  unfold dbits
  congr 1
  have hk := cls_le z
  generalize cls z = k at *
  rcases (show k = 0 ∨ k = 1 ∨ k = 2 ∨ k = 3 ∨ k = 4 by omega) with rfl | rfl | rfl | rfl | rfl <;> decide
end Go.Proofs.Ytopbbicjbjmdnaa.D
namespace Go.Proofs.Ytopbbicjbjmdnaa.D
set_option maxRecDepth 100000
open Go.RowKit
set_option linter.unusedVariables false
set_option linter.unusedSimpArgs false
theorem wrap_u64n (n : Int) : IntKind.u64.wrap n = (u64 n : Int) := by rw [IntKind.wrap_u64]; unfold u64; omega
theorem bits_one_one : bitsTo (1 : Int).toNat (1 : Int).toNat (1 : Int).toNat = [1] := by decide
theorem bits_zero_one : bitsTo (0 : Int).toNat (1 : Int).toNat (1 : Int).toNat = [0] := by decide
set_option maxRecDepth 100000 in
set_option maxHeartbeats 1600000 in
theorem rencode_any (w : World) (A : Option Addr) (len c : Nat) (D : Nat → Prop) (f : Nat → Int) (hsl : Sl w D A len (fun j => .int .i64 (f j))) (hf : ∀ j, -9223372036854775808 ≤ f j ∧ f j ≤ 9223372036854775807) (hlen : len ≤ 4096) :
    Calls Try.prog 36 #[.slice A len c] w (EncPost w (pack (encTo f len))) := by
  have HS := Lib.hid (And.intro hsl hf)
  clear hsl hf
  have d0 : decide ((4096 : Int) < len) = false := by simp; omega
  go_enter Try.func36, Try.ntmps36
  go_wp2_with fail
  clear d0
  obtain ⟨x, hx⟩ : ∃ x, x = w.heap.size := ⟨_, rfl⟩
  have hxB : w.heap.size ≤ x := by omega
  have hy1 : RWr (w.alloc (.cells #[.slice none 0 0] 93)) x none [] := ⟨by simp, by simp, .slice none 0 0, rfl, by rw [hx]; exact Blk.fresh _ _ _, ⟨by simp, .inl ⟨rfl, rfl⟩⟩⟩
  have H1 := Lib.hid hy1
  rw [← hx]
  clear hx hy1
  go_loopw [5, 6] (fun s i wr => ∃ (k : Nat) (g : Option Nat), k ≤ len ∧ i = .int .i64 k ∧ s = .int .i64 (st f k) ∧ RWr wr x g (encTo f k) ∧ Keeps (fun _ => False) w wr ∧ (∀ q, g = some q → w.heap.size ≤ q))
    (fun _ i _ => len - (intOf i).toNat)
  case atStart => exact ⟨0, none, Nat.zero_le _, rfl, rfl, H1.out, (Keeps.refl _ _).alloc _, fun _ h => by cases h⟩
  case round =>
    obtain ⟨k, g, hk, rfl, rfl, hxr, hkr, hgr⟩ := hrel
    by_cases hlt : k < len
    · obtain ⟨b, off, hA, hD, hcell⟩ := (HS.out.1.keep (w' := wr) (fun q _ hq => hkr.block q hq (fun h => h))) (by omega)
      have ck : wr.cell? ⟨b, off + k, none⟩ = some (.int .i64 (f k)) := hcell k hlt
      have hcp : 1 ≤ k → wr.cell? ⟨b, off + (k - 1), none⟩ = some (.int .i64 (f (k - 1))) := fun h => hcell (k - 1) (by omega)
      subst hA
      have HR := Lib.hid (And.intro hxr (And.intro hkr (And.intro hgr hcell)))
      clear hxr hkr hgr hcell
      have hlk := encTo_len f k
      rcases Nat.eq_zero_or_pos k with hk0 | hk0
      · subst hk0
        clear hcp
        have e1 := wrap_u64n (f 0)
        have hu := u64_lt (f 0)
        obtain ⟨u, hu'⟩ : ∃ u, u = Go.Proofs.Ytopbbicjbjmdnaa.D.u64 (f 0) := ⟨_, rfl⟩
        rw [← hu'] at e1 hu
        have HU := Lib.hid (And.intro hu hu')
        clear hu hu' hlk
        rw [show ((0 : Nat) : Int) = 0 from rfl]
        rw [Nat.add_zero] at ck
        go_wp2_with fail
        refine (rput_fit _ _ _ _ _ _ HR.out.1 (by omega) (by have := HU.out.1; omega) (by omega) (by omega) (by simp [encTo])).mono ?_
        rintro e w2 ⟨rfl, g2, hx2, hk2, hm2⟩
        have H2 := Lib.hid (And.intro hx2 (And.intro (keeps_new HR.out.2.1 hk2 hxB HR.out.2.2.1) (moved_new (w0 := w) hm2 HR.out.2.1.size HR.out.2.2.1)))
        clear hx2 hk2 hm2 e1 ck
        go_wp2_with fail
        go_roundw
        case rel =>
          refine ⟨1, g2, by omega, rfl, rfl, ?_, H2.out.2.1, H2.out.2.2⟩
          have := H2.out.1
          rw [show ((u : Int)).toNat = u from rfl, show (64 : Int).toNat = 64 from rfl, HU.out.2] at this
          exact this
        case measure => simp [intOf]; omega
      · obtain ⟨j, rfl⟩ : ∃ j, k = j + 1 := ⟨k - 1, by omega⟩
        have cp := hcp (by omega)
        rw [show j + 1 - 1 = j by omega] at cp
        obtain ⟨r1, r2⟩ := HS.out.2 (j + 1)
        obtain ⟨r3, r4⟩ := HS.out.2 j
        obtain ⟨a, ha⟩ : ∃ a, a = f (j + 1) := ⟨_, rfl⟩
        obtain ⟨p, hp⟩ : ∃ p, p = f j := ⟨_, rfl⟩
        obtain ⟨s, hs⟩ : ∃ s, s = st f (j + 1) := ⟨_, rfl⟩
        rw [← ha] at ck r1 r2
        rw [← hp] at cp r3 r4
        rw [← hs]
        have hsr := st_range f (j + 1)
        rw [← hs] at hsr
        have HV := Lib.hid (And.intro ha (And.intro hp (And.intro hs (And.intro r1 (And.intro r2 (And.intro r3 (And.intro r4 hsr)))))))
        have HC := Lib.hid (And.intro ck cp)
        have hjl : (j : Int) < (len : Int) := by omega
        have ejw : IntKind.i64.wrap ((j : Int) + 1 - 1) = (j : Int) := by rw [IntWalk.i64_in _ (by omega)]; omega
        have ejw2 : (j : Int) + 1 - 1 = (j : Int) := by omega
        have hj1 : (j : Int) + 1 < (len : Int) := by omega
        have hj0 : (0 : Int) ≤ (j : Int) + 1 := by omega
        have ejw3 : IntKind.i64.wrap (j : Int) = (j : Int) := IntWalk.i64_in _ (by omega)
        have ejw4 : ((j : Int)).toNat = j := by omega
        have hj2 : (0 : Int) ≤ (j : Int) := by omega
        clear ha hp hs r1 r2 r3 r4 hsr hcp hk0 ck cp
        go_wp2_with fail
        have hS : (fun w' : World => w'.cell? ⟨b, off + (j + 1), none⟩ = some (.int .i64 a) ∧ w'.cell? ⟨b, off + j, none⟩ = some (.int .i64 p)) (wr.drew) := HC.out
        refine reg_start (fun w' : World => w'.cell? ⟨b, off + (j + 1), none⟩ = some (.int .i64 a) ∧ w'.cell? ⟨b, off + j, none⟩ = some (.int .i64 p)) (by kernel_rfl) hS ?_
        refine reg_take (i := 0) (v := ?_) rfl (by kernel_rfl) (by kernel_rfl) (by kernel_rfl) (fun _ _ _ h => h) (Or.inl ⟨by kernel_rfl, ?_⟩) hS ?_
        rotate_left
        · (intro w' hSw; go_simp <;> with_reducible rfl)
        try simp only [Act.put, List.setIfInBounds_toArray, List.set_cons_zero, List.set_cons_succ]
        refine reg_take (i := 1) (v := ?_) rfl (by kernel_rfl) (by kernel_rfl) (by kernel_rfl) (fun _ _ _ h => h) (Or.inl ⟨by kernel_rfl, ?_⟩) hS ?_
        rotate_left
        · (intro w' hSw; go_simp <;> with_reducible rfl)
        try simp only [Act.put, List.setIfInBounds_toArray, List.set_cons_zero, List.set_cons_succ]
        refine reg_take (i := 2) (v := ?_) rfl (by kernel_rfl) (by kernel_rfl) (by kernel_rfl) (fun _ _ _ h => h) (Or.inl ⟨by kernel_rfl, ?_⟩) hS ?_
        rotate_left
        · (intro w' hSw; go_simp <;> with_reducible rfl)
        try simp only [Act.put, List.setIfInBounds_toArray, List.set_cons_zero, List.set_cons_succ]
        refine reg_take (i := 3) (v := ?_) rfl (by kernel_rfl) (by kernel_rfl) (by kernel_rfl) (fun _ _ _ h => h) (Or.inl ⟨by kernel_rfl, ?_⟩) hS ?_
        rotate_left
        · (intro w' hSw; go_simp <;> with_reducible rfl)
        try simp only [Act.put, List.setIfInBounds_toArray, List.set_cons_zero, List.set_cons_succ]
        refine reg_take (i := 4) (v := ?_) rfl (by kernel_rfl) (by kernel_rfl) (by kernel_rfl) (fun _ _ _ h => h) (Or.inl ⟨by kernel_rfl, ?_⟩) hS ?_
        rotate_left
        · (intro w' hSw; go_simp <;> with_reducible rfl)
        try simp only [Act.put, List.setIfInBounds_toArray, List.set_cons_zero, List.set_cons_succ]
        refine reg_take (i := 5) (v := ?_) rfl (by kernel_rfl) (by kernel_rfl) (by kernel_rfl) (fun _ _ _ h => h) (Or.inl ⟨by kernel_rfl, ?_⟩) hS ?_
        rotate_left
        · (intro w' hSw; go_simp <;> with_reducible rfl)
        try simp only [Act.put, List.setIfInBounds_toArray, List.set_cons_zero, List.set_cons_succ]
        refine reg_take (i := 6) (v := ?_) rfl (by kernel_rfl) (by kernel_rfl) (by kernel_rfl) (fun _ _ _ h => h) (Or.inl ⟨by kernel_rfl, ?_⟩) hS ?_
        rotate_left
        · (intro w' hSw; go_simp <;> with_reducible rfl)
        try simp only [Act.put, List.setIfInBounds_toArray, List.set_cons_zero, List.set_cons_succ]
        refine reg_take (i := 7) (v := ?_) rfl (by kernel_rfl) (by kernel_rfl) (by kernel_rfl) (fun _ _ _ h => h) (Or.inl ⟨by kernel_rfl, ?_⟩) hS ?_
        rotate_left
        · (intro w' hSw; go_simp <;> with_reducible rfl)
        try simp only [Act.put, List.setIfInBounds_toArray, List.set_cons_zero, List.set_cons_succ]
        refine reg_take (i := 8) (v := ?_) rfl (by kernel_rfl) (by kernel_rfl) (by kernel_rfl) (fun _ _ _ h => h) (Or.inl ⟨by kernel_rfl, ?_⟩) hS ?_
        rotate_left
        · (intro w' hSw; go_simp <;> with_reducible rfl)
        try simp only [Act.put, List.setIfInBounds_toArray, List.set_cons_zero, List.set_cons_succ]
        refine reg_call (i := 9) rfl (by kernel_rfl) (fun K hK => ?_)
        have HK := Lib.hid hK
        clear hK
        go_simp
        refine (rsub_any _ _ _ HV.out.2.2.2.1 HV.out.2.2.2.2.1 HV.out.2.2.2.2.2.1 HV.out.2.2.2.2.2.2.1).mono ?_
        rintro e w2 ⟨rfl, rfl⟩
        go_wp2_with fail
        refine HK.out.to (fun w' : World => w'.cell? ⟨b, off + (j + 1), none⟩ = some (.int .i64 a) ∧ w'.cell? ⟨b, off + j, none⟩ = some (.int .i64 p)) (fun _ h => h) (HC.out) ?_
        clear HK hS
        have hS : (fun w' : World => w'.cell? ⟨b, off + (j + 1), none⟩ = some (.int .i64 a) ∧ w'.cell? ⟨b, off + j, none⟩ = some (.int .i64 p)) (wr.drew) := HC.out
        try simp only [Act.put, List.setIfInBounds_toArray, List.set_cons_zero, List.set_cons_succ]
        refine reg_take (i := 10) (v := ?_) rfl (by kernel_rfl) (by kernel_rfl) (by kernel_rfl) (fun _ _ _ h => h) (Or.inl ⟨by kernel_rfl, ?_⟩) hS ?_
        rotate_left
        · (intro w' hSw; go_simp <;> with_reducible rfl)
        try simp only [Act.put, List.setIfInBounds_toArray, List.set_cons_zero, List.set_cons_succ]
        refine wpAnyH_done (by kernel_rfl) ?_ _
        clear hS ejw ejw2 ejw3 ejw4
        obtain ⟨t, ht⟩ : ∃ t, t = sub64 a p := ⟨_, rfl⟩
        have htr := sub64_range a p
        rw [← ht] at htr
        rw [← ht]
        have HT := Lib.hid (And.intro ht htr)
        clear ht htr
        go_wp2_with fail
        refine (rsub_any _ _ _ HT.out.2.1 HT.out.2.2 HV.out.2.2.2.2.2.2.2.1 HV.out.2.2.2.2.2.2.2.2).mono ?_
        rintro e w2 ⟨rfl, rfl⟩
        go_wp2_with fail
        refine (rzig_any _ _ (sub64_range _ _).1 (sub64_range _ _).2).mono ?_
        rintro e w2 ⟨rfl, rfl⟩
        have hzl := zig_lt (sub64_range t s).1 (sub64_range t s).2
        obtain ⟨z, hz⟩ : ∃ z, z = zig (sub64 t s) := ⟨_, rfl⟩
        rw [← hz] at hzl
        rw [← hz]
        have HZ := Lib.hid (And.intro hz hzl)
        clear hz hzl
        go_wp2_with fail
        refine (class_any _ _).mono ?_
        rintro e w2 ⟨rfl, rfl⟩
        have hcl := cls_le z
        obtain ⟨q, hq⟩ : ∃ q, q = cls z := ⟨_, rfl⟩
        rw [← hq] at hcl
        rw [← hq]
        have hwq := wd_le hcl
        obtain ⟨n, hn⟩ : ∃ n, n = wd q := ⟨_, rfl⟩
        rw [← hn] at hwq
        rw [← hn]
        have HQ := Lib.hid (And.intro hq hn)
        clear hq hn
        obtain ⟨L, hL⟩ : ∃ L, L = encTo f (j + 1) := ⟨_, rfl⟩
        rw [← hL] at hlk
        have HL := Lib.hid hL
        clear hL
        obtain ⟨wo, rfl⟩ : ∃ wo : World, wo = wr := ⟨_, rfl⟩
        go_wp2_with fail
        go_loopw [11] (fun i wq => ∃ (m : Nat) (g1 : Option Nat), m ≤ q ∧ i = .int .i64 m ∧ RWr wq x g1 (L ++ List.replicate m 1) ∧ Keeps (fun _ => False) w wq ∧ (∀ q, g1 = some q → w.heap.size ≤ q))
          (fun i _ => q - (intOf i).toNat)
        case atStart =>
          refine ⟨0, g, Nat.zero_le _, rfl, ?_, HR.out.2.1.drew, HR.out.2.2.1⟩
          have := HR.out.1
          rw [HL.out]
          simpa using this.drewN
        case round =>
          obtain ⟨m, g1, hm, rfl, hx1, hk1, hg1⟩ := hrel
          have HI := Lib.hid (And.intro hx1 (And.intro hk1 hg1))
          clear hx1 hk1 hg1
          by_cases hmq : m < q
          · go_wp2_with fail
            refine (rput_fit _ _ _ _ _ _ HI.out.1 (by omega) (by omega) (by omega) (by omega) (by rw [List.length_append, List.length_replicate]; omega)).mono ?_
            rintro e w2 ⟨rfl, g2, hx2, hk2, hm2⟩
            rw [bits_one_one, List.append_assoc, ← List.replicate_succ'] at hx2
            have H2 := Lib.hid (And.intro hx2 (And.intro (keeps_new HI.out.2.1 hk2 hxB HI.out.2.2) (moved_new (w0 := w) hm2 HI.out.2.1.size HI.out.2.2)))
            clear hx2 hk2 hm2
            go_wp2_with fail
            go_roundw
            case rel => exact ⟨m + 1, g2, by omega, by go_num, H2.out.1, H2.out.2.1, H2.out.2.2⟩
            case measure => simp [intOf]; omega
          · obtain rfl : m = q := by omega
            by_cases h4 : m < 4
            · go_wp2_with fail
              refine (rput_fit _ _ _ _ _ _ HI.out.1 (by omega) (by omega) (by omega) (by omega) (by rw [List.length_append, List.length_replicate]; omega)).mono ?_
              rintro e w2 ⟨rfl, g2, hx2, hk2, hm2⟩
              rw [bits_zero_one] at hx2
              have H2 := Lib.hid (And.intro hx2 (And.intro (keeps_new HI.out.2.1 hk2 hxB HI.out.2.2) (moved_new (w0 := w) hm2 HI.out.2.1.size HI.out.2.2)))
              clear hx2 hk2 hm2
              go_wp2_with fail
              refine (rput_fit _ _ _ _ _ _ H2.out.1 (by omega) (by have := HZ.out.2; omega) (by omega) (by omega) (by simp; omega)).mono ?_
              rintro e w3 ⟨rfl, g3, hx3, hk3, hm3⟩
              have H3 := Lib.hid (And.intro hx3 (And.intro (keeps_new H2.out.2.1 hk3 hxB H2.out.2.2) (moved_new (w0 := w) hm3 H2.out.2.1.size H2.out.2.2)))
              clear hx3 hk3 hm3
              go_wp2_with fail
              go_roundw
              case rel =>
                obtain ⟨ha, hp, hs, -⟩ := HV.out
                have ht := HT.out.1
                refine ⟨j + 2, g3, by omega, by go_num, by rw [ht, ha, hp]; rfl, ?_, H3.out.2.1, H3.out.2.2⟩
                have h3 := H3.out.1
                have e : encTo f (j + 2) = L ++ List.replicate m 1 ++ [0] ++ bitsTo ((z : Int)).toNat ((n : Int)).toNat ((n : Int)).toNat := by
                  show encTo f (j + 1) ++ dbits (zig (sub64 (sub64 (f (j + 1)) (f j)) (st f (j + 1)))) = _
                  rw [← ha, ← hp, ← hs, ← ht, ← HZ.out.1, ← HL.out, dbits_ref, ← HQ.out.1, ← HQ.out.2, if_pos h4]
                  simp
                rw [e]
                exact h3
              case measure => simp [intOf]; omega
            · go_wp2_with fail
              refine (rput_fit _ _ _ _ _ _ HI.out.1 (by omega) (by have := HZ.out.2; omega) (by omega) (by omega) (by simp; omega)).mono ?_
              rintro e w3 ⟨rfl, g3, hx3, hk3, hm3⟩
              have H3 := Lib.hid (And.intro hx3 (And.intro (keeps_new HI.out.2.1 hk3 hxB HI.out.2.2) (moved_new (w0 := w) hm3 HI.out.2.1.size HI.out.2.2)))
              clear hx3 hk3 hm3
              go_wp2_with fail
              go_roundw
              case rel =>
                obtain ⟨ha, hp, hs, -⟩ := HV.out
                have ht := HT.out.1
                refine ⟨j + 2, g3, by omega, by go_num, by rw [ht, ha, hp]; rfl, ?_, H3.out.2.1, H3.out.2.2⟩
                have h3 := H3.out.1
                have e : encTo f (j + 2) = L ++ List.replicate m 1 ++ bitsTo ((z : Int)).toNat ((n : Int)).toNat ((n : Int)).toNat := by
                  show encTo f (j + 1) ++ dbits (zig (sub64 (sub64 (f (j + 1)) (f j)) (st f (j + 1)))) = _
                  rw [← ha, ← hp, ← hs, ← ht, ← HZ.out.1, ← HL.out, dbits_ref, ← HQ.out.1, ← HQ.out.2, if_neg h4]
                  simp
                rw [e]
                exact h3
              case measure => simp [intOf]; omega
    · obtain rfl : k = len := by omega
      have HR := Lib.hid (And.intro hxr hkr)
      clear hxr hkr hgr
      go_wp2_with fail
      refine (bytes_rwr _ _ _ _ HR.out.1).mono ?_
      rintro e w2 ⟨A2, c2, rfl, ho2, hk2⟩
      have H2 := Lib.hid (And.intro (own_base ho2 HR.out.2.size) (HR.out.2.trans' hk2))
      clear ho2 hk2
      go_wp2_with fail
      go_ret2
      exact ⟨A2, c2, rfl, H2.out.1, H2.out.2⟩
end Go.Proofs.Ytopbbicjbjmdnaa.D
namespace Go.Proofs.Ytopbbicjbjmdnaa.X
open Go.RowKit
set_option linter.unusedVariables false
theorem and_one_u64 (x s : Nat) (hx : x < 18446744073709551616) : bits .and .u64 ((x : Int) / 2 ^ s) 1 = ((x / 2 ^ s % 2 : Nat) : Int) := by
  have h1 : x / 2 ^ s < 18446744073709551616 := Nat.lt_of_le_of_lt (Nat.div_le_self _ _) hx
  rw [show ((2 : Int) ^ s) = ((2 ^ s : Nat) : Int) by simp, show (x : Int) / ((2 ^ s : Nat) : Int) = ((x / 2 ^ s : Nat) : Int) from rfl, show (1 : Int) = ((1 : Nat) : Int) from rfl, u64_and_nat _ _ h1 (by omega), Nat.and_one_is_mod]
set_option maxRecDepth 100000 in
set_option maxHeartbeats 800000 in
theorem rlead_any (u : Nat) (hu : u < 18446744073709551616) (w : World) :
    Calls Try.prog 56 #[.int .u64 (u : Nat)] w fun e w' => e = .returned (.int .i64 (lead u : Nat)) ∧ w = w' := by
  go_enter Try.func56, Try.ntmps56
  go_wp2_with fail
  go_loop [3] (fun i => ∃ k : Nat, k ≤ 64 ∧ i = .int .i64 (k : Nat) ∧ u < 2 ^ (64 - k)) (fun i => 64 - (intOf i).toNat)
  case atStart => exact ⟨0, by omega, rfl, hu⟩
  case round =>
    obtain ⟨k, hk, rfl, hlt⟩ := hrel
    by_cases h64 : k = 64
    · subst h64
      go_wp2_with fail
      go_ret
      have : u = 0 := by simp at hlt; omega
      subst this
      exact ⟨rfl, rfl⟩
    · have h1 : k ≤ 63 := by omega
      have h2 : k < 64 := by omega
      have ds : (63 : Int) - k = ((63 - k : Nat) : Int) := by omega
      have hsp : 2 ^ (64 - k) = 2 * 2 ^ (63 - k) := by rw [← Nat.pow_succ']; congr 1; omega
      have hpp : 0 < 2 ^ (63 - k) := Nat.two_pow_pos _
      have HS := Lib.hid (And.intro hsp (And.intro hlt hpp))
      have da := and_one_u64 u (63 - k) hu
      by_cases hb : u / 2 ^ (63 - k) % 2 = 0
      · rw [hb] at da
        have HX := Lib.hid hb
        clear hb hsp hlt hpp
        go_wp2_with fail
        go_round
        case rel =>
          obtain ⟨hsp, hlt, hpp⟩ := HS.out
          have hb := HX.out
          refine ⟨k + 1, by omega, rfl, ?_⟩
          rw [show 64 - (k + 1) = 63 - k by omega]
          have h5 : u / 2 ^ (63 - k) < 2 := (Nat.div_lt_iff_lt_mul hpp).2 (by omega)
          have h6 : u / 2 ^ (63 - k) = 0 := by clear da HS HX; generalize u / 2 ^ (63 - k) = z at hb h5 ⊢; omega
          rcases Nat.div_eq_zero_iff.1 h6 with h | h <;> omega
        case measure => simp [intOf]; omega
      · have hb1 : u / 2 ^ (63 - k) % 2 = 1 := by omega
        rw [hb1] at da
        have HX := Lib.hid hb1
        clear hb hb1 hsp hlt hpp
        go_wp2_with fail
        go_ret
        obtain ⟨hsp, hlt, hpp⟩ := HS.out
        have hb := HX.out
        refine ⟨xret_int ?_, rfl⟩
        have h6 : 2 ^ (63 - k) ≤ u := by
          have : 1 ≤ u / 2 ^ (63 - k) := by clear da HS HX; generalize u / 2 ^ (63 - k) = z at hb ⊢; omega
          have := (Nat.le_div_iff_mul_le hpp).1 this
          omega
        rw [lead_uniq h1 h6 hlt]
set_option maxRecDepth 100000 in
set_option maxHeartbeats 800000 in
theorem rtrail_any (u : Nat) (hu : u < 18446744073709551616) (w : World) :
    Calls Try.prog 57 #[.int .u64 (u : Nat)] w fun e w' => e = .returned (.int .i64 (trail u : Nat)) ∧ w = w' := by
  go_enter Try.func57, Try.ntmps57
  go_wp2_with fail
  go_loop [3] (fun i => ∃ k q : Nat, k ≤ 64 ∧ i = .int .i64 (k : Nat) ∧ u = 2 ^ k * q) (fun i => 64 - (intOf i).toNat)
  case atStart => exact ⟨0, u, by omega, rfl, by omega⟩
  case round =>
    obtain ⟨k, q, hk, rfl, hq⟩ := hrel
    have HQ := Lib.hid hq
    clear hq
    by_cases h64 : k = 64
    · subst h64
      go_wp2_with fail
      go_ret
      have hq := HQ.out
      have : u = 0 := by omega
      subst this
      exact ⟨xret_int (by rw [trail_zero]; rfl), rfl⟩
    · have h1 : k ≤ 63 := by omega
      have h2 : k < 64 := by omega
      have da := and_one_u64 u k hu
      have hpp : 0 < 2 ^ k := Nat.two_pow_pos _
      have hd : u / 2 ^ k = q := by
        rw [HQ.out]; exact Nat.mul_div_cancel_left _ hpp
      rw [hd] at da
      clear hd hpp
      by_cases hb : q % 2 = 0
      · rw [hb] at da
        have HX := Lib.hid hb
        clear hb
        go_wp2_with fail
        go_round
        case rel =>
          have hb := HX.out
          refine ⟨k + 1, q / 2, by omega, rfl, ?_⟩
          rw [HQ.out, Nat.pow_succ, Nat.mul_assoc]; congr 1; omega
        case measure => simp [intOf]; omega
      · have hb1 : q % 2 = 1 := by omega
        rw [hb1] at da
        have HX := Lib.hid hb1
        clear hb hb1
        go_wp2_with fail
        go_ret
        have hb := HX.out
        refine ⟨xret_int ?_, rfl⟩
        rw [trail_uniq (t := k) (m := q / 2) hu (by rw [HQ.out]; congr 1; omega)]
end Go.Proofs.Ytopbbicjbjmdnaa.X
namespace Go.Proofs.Ytopbbicjbjmdnaa.X
set_option maxRecDepth 100000
open Go.RowKit
set_option linter.unusedVariables false
set_option linter.unusedSimpArgs false
/-- The reference's writer. -/
structure RES (w : World) (x : Nat) (g : Option Nat) (L : List Nat) (wr : World) : Prop where
  out : RWr wr x g L
  keeps : Keeps (fun _ => False) w wr
  own : ∀ q, g = some q → w.heap.size ≤ q
  hx : w.heap.size ≤ x
def REPutPost (w : World) (x : Nat) (L : List Nat) (e : Ending) (w' : World) : Prop :=
  e = .returned (.int .i64 0) ∧ ∃ g, RES w x g L w'
theorem rput_es {w wr : World} {x : Nat} {g : Option Nat} {L : List Nat} (h : RES w x g L wr) (v n : Int) (h0 : 0 ≤ v) (hv : v < 18446744073709551616) (n0 : 0 ≤ n) (n64 : n ≤ 64) (hl : (L.length : Int) + 64 ≤ 8388608) :
    Calls Try.prog 52 #[.pointer (some ⟨x, 0, none⟩), .int .u64 v, .int .i64 n] wr (REPutPost w x (L ++ bitsTo v.toNat n.toNat n.toNat)) := by
  refine (rput_fit _ _ _ _ v n h.out h0 hv n0 n64 hl).mono ?_
  rintro e w2 ⟨rfl, g2, hx2, hk2, hm2⟩
  exact ⟨rfl, g2, hx2, keeps_new h.keeps hk2 h.hx h.own, moved_new (w0 := w) hm2 h.keeps.size h.own, h.hx⟩
theorem RES.drew {w wr : World} {x : Nat} {g : Option Nat} {L : List Nat} (h : RES w x g L wr) : RES w x g L wr.drew := ⟨h.out.drewN, h.keeps.drew, h.own, h.hx⟩
/-- The window in two variables. -/
def rwl (o : Option (Nat × Nat)) : Int := match o with
  | none => -1
  | some p => (p.1 : Nat)
def rwt (o : Option (Nat × Nat)) : Int := match o with
  | none => 0
  | some p => (p.2 : Nat)
set_option maxRecDepth 100000 in
set_option maxHeartbeats 2000000 in
theorem rxencode_any (w : World) (A : Option Addr) (len c : Nat) (D : Nat → Prop) (f : Nat → Nat) (hsl : Sl w D A len (fun j => .int .u64 (f j : Nat))) (hf : ∀ j, f j < 18446744073709551616) (hlen : len ≤ 4096) :
    Calls Try.prog 37 #[.slice A len c] w (XEncPost w (pack (xencTo f len))) := by
  have HS := Lib.hid (And.intro hsl hf)
  clear hsl hf
  have d0 : decide ((4096 : Int) < len) = false := by simp; omega
  go_enter Try.func37, Try.ntmps37
  go_wp2_with fail
  clear d0
  obtain ⟨x, hx⟩ : ∃ x, x = w.heap.size := ⟨_, rfl⟩
  have hy1 : RES w x none [] (w.alloc (.cells #[.slice none 0 0] 93)) := ⟨⟨by simp, by simp, .slice none 0 0, rfl, by rw [hx]; exact Blk.fresh _ _ _, ⟨by simp, .inl ⟨rfl, rfl⟩⟩⟩, (Keeps.refl _ _).alloc _, (fun _ h => by cases h), by omega⟩
  have H1 := Lib.hid hy1
  rw [← hx]
  clear hx hy1
  go_loopw [5, 6, 7] (fun l t i wr => ∃ (k : Nat) (g : Option Nat), k ≤ len ∧ i = .int .i64 k ∧ l = .int .i64 (rwl (xwin f k)) ∧ t = .int .i64 (rwt (xwin f k)) ∧ RES w x g (xencTo f k) wr)
    (fun _ _ i _ => len - (intOf i).toNat)
  case atStart => exact ⟨0, none, Nat.zero_le _, rfl, rfl, rfl, H1.out⟩
  case round =>
    obtain ⟨k, g, hk, rfl, rfl, rfl, hes⟩ := hrel
    by_cases hlt : k < len
    · obtain ⟨b, off, hA, hD, hcell⟩ := (HS.out.1.keep (w' := wr) (fun q _ hq => hes.keeps.block q hq (fun h => h))) (by omega)
      have ck : wr.cell? ⟨b, off + k, none⟩ = some (.int .u64 (f k : Nat)) := hcell k hlt
      have hcp : 1 ≤ k → wr.cell? ⟨b, off + (k - 1), none⟩ = some (.int .u64 (f (k - 1) : Nat)) := fun h => hcell (k - 1) (by omega)
      subst hA
      have HE := Lib.hid hes
      clear hes hcell
      have hlk := xencTo_len f k
      rcases Nat.eq_zero_or_pos k with hk0 | hk0
      · subst hk0
        clear hcp hlk
        have hu := HS.out.2 0
        obtain ⟨u, hu'⟩ : ∃ u, u = f 0 := ⟨_, rfl⟩
        rw [← hu'] at ck hu
        have HU := Lib.hid (And.intro hu hu')
        clear hu hu'
        rw [show ((0 : Nat) : Int) = 0 from rfl]
        rw [Nat.add_zero] at ck
        go_wp2_with fail
        refine (rput_es HE.out (u : Nat) 64 (by omega) (by have := HU.out.1; omega) (by omega) (by omega) (by simp [xencTo])).mono ?_
        rintro e w3 ⟨rfl, g3, hes3⟩
        have H3 := Lib.hid hes3
        clear hes3 ck
        go_wp2_with fail
        go_roundw
        case rel =>
          refine ⟨1, g3, by omega, rfl, rfl, rfl, ?_⟩
          have := H3.out
          rw [show ((u : Int)).toNat = u from rfl, show (64 : Int).toNat = 64 from rfl, HU.out.2] at this
          exact this
        case measure => simp [intOf]; omega
      · obtain ⟨j, rfl⟩ : ∃ j, k = j + 1 := ⟨k - 1, by omega⟩
        have cp := hcp (by omega)
        rw [show j + 1 - 1 = j by omega] at cp
        obtain ⟨a, ha⟩ : ∃ a, a = f (j + 1) := ⟨_, rfl⟩
        obtain ⟨p, hp⟩ : ∃ p, p = f j := ⟨_, rfl⟩
        obtain ⟨q, hq⟩ : ∃ q, q = a ^^^ p := ⟨_, rfl⟩
        have r1 := HS.out.2 (j + 1)
        have r2 := HS.out.2 j
        rw [← ha] at ck r1
        rw [← hp] at cp r2
        have hqx : bits .xor .u64 (a : Int) (p : Int) = (q : Int) := by rw [u64_xor_nat _ _ r1 r2, hq]
        have hql : q < 18446744073709551616 := by rw [hq]; exact xor_lt r1 r2
        obtain ⟨L, hL⟩ : ∃ L, L = xencTo f (j + 1) := ⟨_, rfl⟩
        obtain ⟨o, ho⟩ : ∃ o, o = xwin f (j + 1) := ⟨_, rfl⟩
        have hok : WinOk o := by rw [ho]; exact xwin_ok HS.out.2 _
        have hes := HE.out
        rw [← hL] at hes
        rw [← ho]
        rw [← hL] at hlk
        have hfin : ∀ k', k' = j + 2 → xencTo f k' = L ++ xbits o q ∧ xwin f k' = nextW o q := by
          rintro k' rfl; rw [hL, ho, hq, ha, hp]; exact ⟨rfl, rfl⟩
        clear HE
        have HE := Lib.hid (And.intro hes (And.intro hql (And.intro hok hfin)))
        have HC := Lib.hid (And.intro ck cp)
        clear hes hql hok hfin hL ho hq ha hp r1 r2 hcp hk0 ck cp
        have hjl : (j : Int) < (len : Int) := by omega
        have ejw : IntKind.i64.wrap ((j : Int) + 1 - 1) = (j : Int) := by rw [IntWalk.i64_in _ (by omega)]; omega
        have ejw2 : (j : Int) + 1 - 1 = (j : Int) := by omega
        have hj1 : (j : Int) + 1 < (len : Int) := by omega
        have hj0 : (0 : Int) ≤ (j : Int) + 1 := by omega
        have ejw3 : IntKind.i64.wrap (j : Int) = (j : Int) := IntWalk.i64_in _ (by omega)
        have ejw4 : ((j : Int)).toNat = j := by omega
        have hj2 : (0 : Int) ≤ (j : Int) := by omega
        rw [show ((j + 1 : Nat) : Int) = (j : Int) + 1 from rfl]
        obtain ⟨l, hl⟩ : ∃ l, l = rwl o := ⟨_, rfl⟩
        obtain ⟨t, ht⟩ : ∃ t, t = rwt o := ⟨_, rfl⟩
        rw [← hl, ← ht]
        have HL := Lib.hid (And.intro hl ht)
        clear hl ht
        go_wp2_with fail
        have hS : (fun w' : World => w'.cell? ⟨b, off + (j + 1), none⟩ = some (.int .u64 (a : Nat)) ∧ w'.cell? ⟨b, off + j, none⟩ = some (.int .u64 (p : Nat))) (wr.drew) := HC.out
        refine reg_start (fun w' : World => w'.cell? ⟨b, off + (j + 1), none⟩ = some (.int .u64 (a : Nat)) ∧ w'.cell? ⟨b, off + j, none⟩ = some (.int .u64 (p : Nat))) (by kernel_rfl) hS ?_
        refine reg_take (i := 0) (v := ?_) rfl (by kernel_rfl) (by kernel_rfl) (by kernel_rfl) (fun _ _ _ h => h) (Or.inl ⟨by kernel_rfl, ?_⟩) hS ?_
        rotate_left
        · (intro w' hSw; obtain ⟨c0, c1⟩ := hSw; go_simp <;> with_reducible rfl)
        try simp only [List.getElem_toArray, List.getElem_cons_succ, List.getElem_cons_zero, Act.put, List.setIfInBounds_toArray, List.set_cons_zero, List.set_cons_succ]
        refine reg_take (i := 1) (v := ?_) rfl (by kernel_rfl) (by kernel_rfl) (by kernel_rfl) (fun _ _ _ h => h) (Or.inl ⟨by kernel_rfl, ?_⟩) hS ?_
        rotate_left
        · (intro w' hSw; obtain ⟨c0, c1⟩ := hSw; go_simp <;> with_reducible rfl)
        try simp only [List.getElem_toArray, List.getElem_cons_succ, List.getElem_cons_zero, Act.put, List.setIfInBounds_toArray, List.set_cons_zero, List.set_cons_succ]
        refine reg_take (i := 2) (v := ?_) rfl (by kernel_rfl) (by kernel_rfl) (by kernel_rfl) (fun _ _ _ h => h) (Or.inl ⟨by kernel_rfl, ?_⟩) hS ?_
        rotate_left
        · (intro w' hSw; obtain ⟨c0, c1⟩ := hSw; go_simp <;> with_reducible rfl)
        try simp only [List.getElem_toArray, List.getElem_cons_succ, List.getElem_cons_zero, Act.put, List.setIfInBounds_toArray, List.set_cons_zero, List.set_cons_succ]
        refine reg_take (i := 3) (v := ?_) rfl (by kernel_rfl) (by kernel_rfl) (by kernel_rfl) (fun _ _ _ h => h) (Or.inl ⟨by kernel_rfl, ?_⟩) hS ?_
        rotate_left
        · (intro w' hSw; obtain ⟨c0, c1⟩ := hSw; go_simp <;> with_reducible rfl)
        try simp only [List.getElem_toArray, List.getElem_cons_succ, List.getElem_cons_zero, Act.put, List.setIfInBounds_toArray, List.set_cons_zero, List.set_cons_succ]
        refine reg_take (i := 4) (v := ?_) rfl (by kernel_rfl) (by kernel_rfl) (by kernel_rfl) (fun _ _ _ h => h) (Or.inl ⟨by kernel_rfl, ?_⟩) hS ?_
        rotate_left
        · (intro w' hSw; obtain ⟨c0, c1⟩ := hSw; go_simp <;> with_reducible rfl)
        try simp only [List.getElem_toArray, List.getElem_cons_succ, List.getElem_cons_zero, Act.put, List.setIfInBounds_toArray, List.set_cons_zero, List.set_cons_succ]
        refine reg_take (i := 5) (v := ?_) rfl (by kernel_rfl) (by kernel_rfl) (by kernel_rfl) (fun _ _ _ h => h) (Or.inl ⟨by kernel_rfl, ?_⟩) hS ?_
        rotate_left
        · (intro w' hSw; obtain ⟨c0, c1⟩ := hSw; go_simp <;> with_reducible rfl)
        try simp only [List.getElem_toArray, List.getElem_cons_succ, List.getElem_cons_zero, Act.put, List.setIfInBounds_toArray, List.set_cons_zero, List.set_cons_succ]
        refine reg_take (i := 6) (v := ?_) rfl (by kernel_rfl) (by kernel_rfl) (by kernel_rfl) (fun _ _ _ h => h) (Or.inl ⟨by kernel_rfl, ?_⟩) hS ?_
        rotate_left
        · (intro w' hSw; obtain ⟨c0, c1⟩ := hSw; go_simp <;> with_reducible rfl)
        try simp only [List.getElem_toArray, List.getElem_cons_succ, List.getElem_cons_zero, Act.put, List.setIfInBounds_toArray, List.set_cons_zero, List.set_cons_succ]
        refine reg_take (i := 7) (v := ?_) rfl (by kernel_rfl) (by kernel_rfl) (by kernel_rfl) (fun _ _ _ h => h) (Or.inl ⟨by kernel_rfl, ?_⟩) hS ?_
        rotate_left
        · (intro w' hSw; obtain ⟨c0, c1⟩ := hSw; go_simp <;> with_reducible rfl)
        try simp only [List.getElem_toArray, List.getElem_cons_succ, List.getElem_cons_zero, Act.put, List.setIfInBounds_toArray, List.set_cons_zero, List.set_cons_succ]
        refine reg_take (i := 8) (v := ?_) rfl (by kernel_rfl) (by kernel_rfl) (by kernel_rfl) (fun _ _ _ h => h) (Or.inl ⟨by kernel_rfl, ?_⟩) hS ?_
        rotate_left
        · (intro w' hSw; obtain ⟨c0, c1⟩ := hSw; go_simp <;> with_reducible rfl)
        try simp only [List.getElem_toArray, List.getElem_cons_succ, List.getElem_cons_zero, Act.put, List.setIfInBounds_toArray, List.set_cons_zero, List.set_cons_succ]
        refine reg_take (i := 9) (v := ?_) rfl (by kernel_rfl) (by kernel_rfl) (by kernel_rfl) (fun _ _ _ h => h) (Or.inl ⟨by kernel_rfl, ?_⟩) hS ?_
        rotate_left
        · (intro w' hSw; go_simp <;> with_reducible rfl)
        try simp only [List.getElem_toArray, List.getElem_cons_succ, List.getElem_cons_zero, Act.put, List.setIfInBounds_toArray, List.set_cons_zero, List.set_cons_succ]
        refine reg_take (i := 10) (v := ?_) rfl (by kernel_rfl) (by kernel_rfl) (by kernel_rfl) (fun _ _ _ h => h) (Or.inl ⟨by kernel_rfl, ?_⟩) hS ?_
        rotate_left
        · (intro w' hSw; go_simp <;> with_reducible rfl)
        try simp only [List.getElem_toArray, List.getElem_cons_succ, List.getElem_cons_zero, Act.put, List.setIfInBounds_toArray, List.set_cons_zero, List.set_cons_succ]
        refine wpAnyH_done (by kernel_rfl) ?_ _
        try simp only [List.getElem_toArray, List.getElem_cons_succ, List.getElem_cons_zero]
        try simp only [List.getElem_toArray, List.getElem_cons_succ, List.getElem_cons_zero, Act.put, List.setIfInBounds_toArray, List.set_cons_zero, List.set_cons_succ]
        by_cases h0 : q = 0
        · subst h0
          clear hqx
          rw [show ((0 : Nat) : Int) = 0 from rfl]
          go_wp2_with fail
          refine (rput_es HE.out.1.drew 0 1 (by omega) (by omega) (by omega) (by omega) (by omega)).mono ?_
          rintro e w3 ⟨rfl, g3, hes3⟩
          have H3 := Lib.hid hes3
          clear hes3
          go_wp2_with fail
          go_roundw
          case rel =>
            obtain ⟨e1, e2⟩ := HE.out.2.2.2 (j + 2) rfl
            have e2' : xwin f (j + 2) = o := e2
            refine ⟨j + 2, g3, by omega, by go_num, by rw [e2', HL.out.1], by rw [e2', HL.out.2], ?_⟩
            rw [e1]
            exact H3.out
          case measure => simp [intOf]; omega
        · have dq : ((q : Int) == 0) = false := by simp [h0]
          have HQ := Lib.hid h0
          clear h0
          go_wp2_with fail
          refine (rlead_any q HE.out.2.1 _).mono ?_
          rintro e w3 ⟨rfl, rfl⟩
          go_wp2_with fail
          refine (rtrail_any q HE.out.2.1 _).mono ?_
          rintro e w3 ⟨rfl, rfl⟩
          obtain ⟨m, hm⟩ : ∃ m, m = lead q := ⟨_, rfl⟩
          obtain ⟨n, hn⟩ : ∃ n, n = trail q := ⟨_, rfl⟩
          rw [← hm, ← hn]
          have HM := Lib.hid (And.intro hm (And.intro hn HE.out.1.drew))
          clear hm hn hqx dq ejw ejw2 hj1 hj0 ejw3 ejw4 hj2
          obtain ⟨hl, ht⟩ := HL.out
          clear HL
          cases o with
          | none =>
            subst hl ht
            have HF := Lib.hid (show fits none q = false from rfl)
            unfold rwl rwt
            have hwl := window_le (u := q) (by have := HQ.out; omega) HE.out.2.1
            rw [← HM.out.1, ← HM.out.2.1] at hwl
            have ew : IntKind.u64.wrap (m : Int) = (m : Int) := by rw [IntKind.wrap_u64]; omega
            obtain ⟨s, hs⟩ : ∃ s, s = 64 - m - n := ⟨_, rfl⟩
            have ew3 : (64 : Int) - m - n = (s : Int) := by omega
            have hs1 : 1 ≤ s := by omega
            have hs64 : s ≤ 64 := by omega
            have ew2 : IntKind.u64.wrap ((s : Int) - 1) = ((s - 1 : Nat) : Int) := by rw [IntKind.wrap_u64]; omega
            have HSS := Lib.hid hs
            clear hs
            go_wp2_with fail
            refine (rput_es HM.out.2.2 3 2 (by omega) (by omega) (by omega) (by omega) (by omega)).mono ?_
            rintro e w5 ⟨rfl, g5, hes5⟩
            have H5 := Lib.hid hes5
            clear hes5
            go_wp2_with fail
            refine (rput_es H5.out (m : Nat) 6 (by omega) (by omega) (by omega) (by omega) (by simp only [List.length_append, bitsTo_length]; omega)).mono ?_
            rintro e w6 ⟨rfl, g6, hes6⟩
            have H6 := Lib.hid hes6
            clear hes6
            go_wp2_with fail
            refine (rput_es H6.out ((s - 1 : Nat) : Int) 6 (by omega) (by omega) (by omega) (by omega) (by simp only [List.length_append, bitsTo_length]; omega)).mono ?_
            rintro e w7 ⟨rfl, g7, hes7⟩
            have H7 := Lib.hid hes7
            clear hes7
            have hn63 : n ≤ 63 := by omega
            have hn64 : n < 64 := by omega
            obtain ⟨v, hv⟩ : ∃ v, v = q / 2 ^ n := ⟨_, rfl⟩
            have hvi : (q : Int) / 2 ^ n = (v : Int) := by rw [hv, div_cast]
            have hvl : v < 18446744073709551616 := by rw [hv]; exact Nat.lt_of_le_of_lt (Nat.div_le_self _ _) HE.out.2.1
            have HV := Lib.hid (And.intro hv hvl)
            clear hv hvl
            go_wp2_with fail
            refine (rput_es H7.out (v : Nat) (s : Nat) (by omega) (by have := HV.out.2; omega) (by omega) (by omega) (by simp only [List.length_append, bitsTo_length]; omega)).mono ?_
            rintro e w8 ⟨rfl, g8, hes8⟩
            have H8 := Lib.hid hes8
            clear hes8
            go_wp2_with fail
            go_roundw
            case rel =>
              obtain ⟨e1, e2⟩ := HE.out.2.2.2 (j + 2) rfl
              obtain ⟨e3, e4⟩ := xbits_new HQ.out HF.out
              rw [← HM.out.1, ← HM.out.2.1] at e3 e4
              refine ⟨j + 2, g8, by omega, by go_num, by rw [e2, e4]; rfl, by rw [e2, e4]; rfl, ?_⟩
              rw [e1, e3, ← List.append_assoc, ← List.append_assoc, ← List.append_assoc]
              have := H8.out
              rw [HV.out.1, HSS.out] at this
              exact this
            case measure => simp [intOf]; omega
          | some pr =>
            obtain ⟨l', t'⟩ := pr
            obtain rfl : l = (l' : Int) := hl
            obtain rfl : t = (t' : Int) := ht
            have hfd : fits (some (l', t')) q = (decide (l' ≤ m) && decide (t' ≤ n)) := by rw [HM.out.1, HM.out.2.1]; rfl
            by_cases h1 : l' ≤ m
            · by_cases h2 : t' ≤ n
              · have HF := Lib.hid (show fits (some (l', t')) q = true by rw [hfd]; simp [h1, h2])
                clear hfd
                have hwl : l' + t' ≤ 63 := HE.out.2.2.1 (l', t') rfl
                obtain ⟨s, hs⟩ : ∃ s, s = 64 - l' - t' := ⟨_, rfl⟩
                have ew3 : (64 : Int) - l' - t' = (s : Int) := by omega
                have hs1 : 1 ≤ s := by omega
                have hs64 : s ≤ 64 := by omega
                have HSS := Lib.hid hs
                clear hs
                go_wp2_with fail
                refine (rput_es HM.out.2.2 2 2 (by omega) (by omega) (by omega) (by omega) (by omega)).mono ?_
                rintro e w7 ⟨rfl, g7, hes7⟩
                have H7 := Lib.hid hes7
                clear hes7
                have hn63 : t' ≤ 63 := by omega
                have hn64 : t' < 64 := by omega
                obtain ⟨v, hv⟩ : ∃ v, v = q / 2 ^ t' := ⟨_, rfl⟩
                have hvi : (q : Int) / 2 ^ t' = (v : Int) := by rw [hv, div_cast]
                have hvl : v < 18446744073709551616 := by rw [hv]; exact Nat.lt_of_le_of_lt (Nat.div_le_self _ _) HE.out.2.1
                have HV := Lib.hid (And.intro hv hvl)
                clear hv hvl
                go_wp2_with fail
                refine (rput_es H7.out (v : Nat) (s : Nat) (by omega) (by have := HV.out.2; omega) (by omega) (by omega) (by simp only [List.length_append, bitsTo_length]; omega)).mono ?_
                rintro e w8 ⟨rfl, g8, hes8⟩
                have H8 := Lib.hid hes8
                clear hes8
                go_wp2_with fail
                go_roundw
                case rel =>
                  obtain ⟨e1, e2⟩ := HE.out.2.2.2 (j + 2) rfl
                  obtain ⟨e3, e4⟩ := xbits_old HQ.out HF.out
                  refine ⟨j + 2, g8, by omega, by go_num, by rw [e2, e4]; rfl, by rw [e2, e4]; rfl, ?_⟩
                  rw [e1, e3, ← List.append_assoc]
                  have := H8.out
                  rw [HV.out.1, HSS.out] at this
                  exact this
                case measure => simp [intOf]; omega
              · have HF := Lib.hid (show fits (some (l', t')) q = false by rw [hfd]; simp [h2])
                clear hfd
                have hwl := window_le (u := q) (by have := HQ.out; omega) HE.out.2.1
                rw [← HM.out.1, ← HM.out.2.1] at hwl
                have ew : IntKind.u64.wrap (m : Int) = (m : Int) := by rw [IntKind.wrap_u64]; omega
                obtain ⟨s, hs⟩ : ∃ s, s = 64 - m - n := ⟨_, rfl⟩
                have ew3 : (64 : Int) - m - n = (s : Int) := by omega
                have hs1 : 1 ≤ s := by omega
                have hs64 : s ≤ 64 := by omega
                have ew2 : IntKind.u64.wrap ((s : Int) - 1) = ((s - 1 : Nat) : Int) := by rw [IntKind.wrap_u64]; omega
                have HSS := Lib.hid hs
                clear hs
                go_wp2_with fail
                refine (rput_es HM.out.2.2 3 2 (by omega) (by omega) (by omega) (by omega) (by omega)).mono ?_
                rintro e w5 ⟨rfl, g5, hes5⟩
                have H5 := Lib.hid hes5
                clear hes5
                go_wp2_with fail
                refine (rput_es H5.out (m : Nat) 6 (by omega) (by omega) (by omega) (by omega) (by simp only [List.length_append, bitsTo_length]; omega)).mono ?_
                rintro e w6 ⟨rfl, g6, hes6⟩
                have H6 := Lib.hid hes6
                clear hes6
                go_wp2_with fail
                refine (rput_es H6.out ((s - 1 : Nat) : Int) 6 (by omega) (by omega) (by omega) (by omega) (by simp only [List.length_append, bitsTo_length]; omega)).mono ?_
                rintro e w7 ⟨rfl, g7, hes7⟩
                have H7 := Lib.hid hes7
                clear hes7
                have hn63 : n ≤ 63 := by omega
                have hn64 : n < 64 := by omega
                obtain ⟨v, hv⟩ : ∃ v, v = q / 2 ^ n := ⟨_, rfl⟩
                have hvi : (q : Int) / 2 ^ n = (v : Int) := by rw [hv, div_cast]
                have hvl : v < 18446744073709551616 := by rw [hv]; exact Nat.lt_of_le_of_lt (Nat.div_le_self _ _) HE.out.2.1
                have HV := Lib.hid (And.intro hv hvl)
                clear hv hvl
                go_wp2_with fail
                refine (rput_es H7.out (v : Nat) (s : Nat) (by omega) (by have := HV.out.2; omega) (by omega) (by omega) (by simp only [List.length_append, bitsTo_length]; omega)).mono ?_
                rintro e w8 ⟨rfl, g8, hes8⟩
                have H8 := Lib.hid hes8
                clear hes8
                go_wp2_with fail
                go_roundw
                case rel =>
                  obtain ⟨e1, e2⟩ := HE.out.2.2.2 (j + 2) rfl
                  obtain ⟨e3, e4⟩ := xbits_new HQ.out HF.out
                  rw [← HM.out.1, ← HM.out.2.1] at e3 e4
                  refine ⟨j + 2, g8, by omega, by go_num, by rw [e2, e4]; rfl, by rw [e2, e4]; rfl, ?_⟩
                  rw [e1, e3, ← List.append_assoc, ← List.append_assoc, ← List.append_assoc]
                  have := H8.out
                  rw [HV.out.1, HSS.out] at this
                  exact this
                case measure => simp [intOf]; omega
            · have HF := Lib.hid (show fits (some (l', t')) q = false by rw [hfd]; simp [h1])
              clear hfd
              have hwl := window_le (u := q) (by have := HQ.out; omega) HE.out.2.1
              rw [← HM.out.1, ← HM.out.2.1] at hwl
              have ew : IntKind.u64.wrap (m : Int) = (m : Int) := by rw [IntKind.wrap_u64]; omega
              obtain ⟨s, hs⟩ : ∃ s, s = 64 - m - n := ⟨_, rfl⟩
              have ew3 : (64 : Int) - m - n = (s : Int) := by omega
              have hs1 : 1 ≤ s := by omega
              have hs64 : s ≤ 64 := by omega
              have ew2 : IntKind.u64.wrap ((s : Int) - 1) = ((s - 1 : Nat) : Int) := by rw [IntKind.wrap_u64]; omega
              have HSS := Lib.hid hs
              clear hs
              go_wp2_with fail
              refine (rput_es HM.out.2.2 3 2 (by omega) (by omega) (by omega) (by omega) (by omega)).mono ?_
              rintro e w5 ⟨rfl, g5, hes5⟩
              have H5 := Lib.hid hes5
              clear hes5
              go_wp2_with fail
              refine (rput_es H5.out (m : Nat) 6 (by omega) (by omega) (by omega) (by omega) (by simp only [List.length_append, bitsTo_length]; omega)).mono ?_
              rintro e w6 ⟨rfl, g6, hes6⟩
              have H6 := Lib.hid hes6
              clear hes6
              go_wp2_with fail
              refine (rput_es H6.out ((s - 1 : Nat) : Int) 6 (by omega) (by omega) (by omega) (by omega) (by simp only [List.length_append, bitsTo_length]; omega)).mono ?_
              rintro e w7 ⟨rfl, g7, hes7⟩
              have H7 := Lib.hid hes7
              clear hes7
              have hn63 : n ≤ 63 := by omega
              have hn64 : n < 64 := by omega
              obtain ⟨v, hv⟩ : ∃ v, v = q / 2 ^ n := ⟨_, rfl⟩
              have hvi : (q : Int) / 2 ^ n = (v : Int) := by rw [hv, div_cast]
              have hvl : v < 18446744073709551616 := by rw [hv]; exact Nat.lt_of_le_of_lt (Nat.div_le_self _ _) HE.out.2.1
              have HV := Lib.hid (And.intro hv hvl)
              clear hv hvl
              go_wp2_with fail
              refine (rput_es H7.out (v : Nat) (s : Nat) (by omega) (by have := HV.out.2; omega) (by omega) (by omega) (by simp only [List.length_append, bitsTo_length]; omega)).mono ?_
              rintro e w8 ⟨rfl, g8, hes8⟩
              have H8 := Lib.hid hes8
              clear hes8
              go_wp2_with fail
              go_roundw
              case rel =>
                obtain ⟨e1, e2⟩ := HE.out.2.2.2 (j + 2) rfl
                obtain ⟨e3, e4⟩ := xbits_new HQ.out HF.out
                rw [← HM.out.1, ← HM.out.2.1] at e3 e4
                refine ⟨j + 2, g8, by omega, by go_num, by rw [e2, e4]; rfl, by rw [e2, e4]; rfl, ?_⟩
                rw [e1, e3, ← List.append_assoc, ← List.append_assoc, ← List.append_assoc]
                have := H8.out
                rw [HV.out.1, HSS.out] at this
                exact this
              case measure => simp [intOf]; omega
    · obtain rfl : k = len := by omega
      have HR := Lib.hid (And.intro hes.out hes.keeps)
      clear hes
      go_wp2_with fail
      refine (bytes_rwr _ _ _ _ HR.out.1).mono ?_
      rintro e w3 ⟨A2, c2, rfl, ho2, hk2⟩
      have H3 := Lib.hid (And.intro (own_base ho2 HR.out.2.size) (HR.out.2.trans' hk2))
      clear ho2 hk2
      go_wp2_with fail
      go_ret2
      exact ⟨A2, c2, rfl, H3.out.1, H3.out.2⟩
end Go.Proofs.Ytopbbicjbjmdnaa.X
