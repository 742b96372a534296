/-
  Texts of this proof, joined: SgY, SgZ, ColLx, SgA, PtRow.
-/
import Derived.Test.YtopbbicjbjmdnaaGreatDoorJ13
import Derived.Test.YtopbbicjbjmdnaaGreatDoorJ01
import Derived.Test.YtopbbicjbjmdnaaGreatDoorJ02
import Derived.Test.YtopbbicjbjmdnaaGreatDoorRows
namespace Go.Proofs.YtopbbicjbjmdnaaGreatDoor
open Go.RowKit Go.Maps
set_option maxRecDepth 100000
set_option linter.unusedVariables false
set_option linter.unusedSimpArgs false
theorem oneU8v (w : World) : (sizeOf 5).run Tryz.prog w = .ok 1 w := by kernel_rfl
theorem namesB_succ (nm : Nat → ByteArray) (n i : Nat) : namesB nm n (i + 1) = namesB nm n i ++ (V.vput (nm i).size ++ V.txt (nm i)) := by
  show namesB nm n i ++ V.vput (nm i).size ++ V.txt (nm i) = _
  rw [List.append_assoc]
theorem vtext_put (s : ByteArray) (r : List Nat) (most : Int) (h : (s.size : Int) ≤ most) (hs : s.size < 18446744073709551616) : V.vtext (V.vput s.size ++ V.txt s ++ r) most = (V.txt s, (V.vput s.size).length + s.size, 0) := by
  have e := V.vget_vput s.size (V.txt s ++ r) hs
  unfold V.vtext
  rw [List.append_assoc, e]
  rw [if_neg (by simp), if_neg (by show ¬ (most < 0 ∨ most < ((s.size : Nat) : Int)); omega), if_neg (by
    show ¬ (V.vput s.size ++ (V.txt s ++ r)).length - (V.vput s.size).length < s.size
    rw [List.length_append, List.length_append, V.txt_length]; omega)]
  show (((V.vput s.size ++ (V.txt s ++ r)).drop (V.vput s.size).length).take s.size, _, _) = _
  rw [List.drop_left, ← V.txt_length s, List.take_left]
theorem nameOk_size {s : ByteArray} (h : nameOk s = true) : 1 ≤ s.size ∧ s.size ≤ 64 := by
  unfold nameOk at h
  simp only [Bool.and_eq_true, decide_eq_true_eq] at h
  exact h.2
set_option maxHeartbeats 400000 in
theorem dLen_any (w0 w : World) (L : List (Nat × TypeId × Array Value)) (d m k : Nat) (nm : Nat → ByteArray) (h : DictS w0 L d m k nm w) (hap : Apart nm k) :
    Calls Tryz.prog 24 #[.pointer (some ⟨d, 0, none⟩)] w fun e w' => e = .returned (.int .i64 (k : Nat)) ∧ Below w.heap.size w w' := by
  have hz := Dn_size nm k hap
  have H0 := Lib.hid h
  clear h
  go_enter Tryz.func24, Tryz.ntmps24
  go_wp2_with fail
  refine (dnone_any _ d m (H0.out.own.cell 0 0 rfl rfl)).mono ?_
  rintro e w1 ⟨rfl, hb⟩
  have h1 := H0.out.call hb
  have hc := h1.own.cell 0 0 rfl rfl
  have hown : World.ownsMap w1 Tryz.prog 9 (plainElem (H := Unit) Tryz.prog 3) m k (Dn nm k) := h1.map
  have HB := Lib.hid hb
  clear hb h1
  go_wp2_with (at_len; refine wpList_len_own _ rfl _ 84 rfl 9 3 Tryz.underlying84 _ m k _ rfl hown ?_; rw [hz])
  go_ret
  exact ⟨rfl, HB.out⟩
theorem sRead_nil (w : World) (A : Option Addr) (c : Nat) (hv : V.HErr w) :
    Calls Tryz.prog 23 #[.slice A 0 c] w fun e w' => e = .returned (.tuple #[.pointer none, .int .i64 0, .int .i64 10]) ∧ Below w.heap.size w w' := by
  go_enter Tryz.func23, Tryz.ntmps23
  go_wp2_with fail
  refine (V.vread_any _ (fun _ => False) A 0 c [] rfl (by simp) (Sl.nil _ _ _ _) (by omega) hv).mono ?_
  rintro e w1 ⟨rfl, hb⟩
  have e0 : V.vget [] = (0, 0, 10) := V.vget_end rfl (by simp)
  rw [e0]
  have HB := Lib.hid hb
  clear hb e0
  go_wp2_with fail
  go_ret3
  exact ⟨rfl, HB.out⟩
def SReadPost (k : Nat) (nm : Nat → ByteArray) (w : World) (e : Ending) (w' : World) : Prop :=
  ∃ d m, e = .returned (.tuple #[.pointer (some ⟨d, 0, none⟩), .int .i64 ((namesB nm k k).length : Nat), .int .i64 0]) ∧ DictS w [] d m k nm w'
set_option maxHeartbeats 1000000 in
theorem sRead_ok (w : World) (A : Option Addr) (len c k : Nat) (nm : Nat → ByteArray) (rest : List Nat) (hl : (namesB nm k k ++ rest).length = len) (hsl : Sl w (fun q => q < w.heap.size) A len (byteC (namesB nm k k ++ rest))) (hb : ∀ j, (namesB nm k k ++ rest).getD j 0 < 256)
    (hlc : len ≤ c) (hcm : c ≤ 9223372036854775807) (h20 : len ≤ 1048576) (hk : k ≤ 1024) (hap : Apart nm k) (hok : ∀ j, j < k → nameOk (nm j) = true) (hv : V.HErr w) :
    Calls Tryz.prog 23 #[.slice A len c] w (SReadPost k nm w) := by
  obtain ⟨l, hld⟩ : ∃ l, l = namesB nm k k ++ rest := ⟨_, rfl⟩
  rw [← hld] at hl hsl hb
  have hget : V.vget l = (k, (V.vput k).length, 0) := by
    obtain ⟨r, hr⟩ := pre_le (namesB_succ nm k) (Nat.zero_le k)
    rw [hld, hr, List.append_assoc]
    exact V.vget_vput k _ (by omega)
  have HS := Lib.hid (And.intro hld (And.intro hl (And.intro hsl (And.intro hb (And.intro hap (And.intro hok (And.intro hv hget)))))))
  clear hld hl hsl hb hap hok hv hget
  go_enter Tryz.func23, Tryz.ntmps23
  go_wp2_with fail
  refine (V.vread_any _ _ A len c l HS.out.2.1 HS.out.2.2.2.1 HS.out.2.2.1 (by omega) HS.out.2.2.2.2.2.2.1).mono ?_
  rintro e w1 ⟨rfl, hb1⟩
  rw [HS.out.2.2.2.2.2.2.2]
  have HB1 := Lib.hid hb1
  clear hb1
  have d1 : decide ((1024 : Int) < (k : Int)) = false := by simp; omega
  go_wp2_with fail
  refine (dNew_any w1 nm).mono ?_
  rintro e w2 ⟨rfl, hd⟩
  obtain ⟨d, hde⟩ : ∃ d, d = w1.heap.size + 1 := ⟨_, rfl⟩
  obtain ⟨m, hme⟩ : ∃ m, m = w1.heap.size := ⟨_, rfl⟩
  rw [← hde, ← hme] at hd
  rw [← hde]
  have hd' : DictS w [] d m 0 nm w2 := by
    refine ⟨⟨HB1.out.trans (hd.own.bel.mono HB1.out.size), fun b hb => ⟨Nat.le_trans HB1.out.size (hd.own.blk b hb).1, (hd.own.blk b hb).2⟩, hd.own.nd⟩, hd.map, Nat.le_trans HB1.out.size hd.ge, hd.ne⟩
  have HD := Lib.hid hd'
  clear hd hd' hde hme
  have kk : IntKind.i64.wrap (k : Int) = (k : Int) := IntWalk.i64_in _ (by omega)
  go_wp2_with fail
  go_loopw [2, 6, 30] (fun dd a i wr => ∃ j : Nat, j ≤ k ∧ i = .int .i64 (j : Nat) ∧ a = .int .i64 ((namesB nm k j).length : Nat) ∧ dd = .pointer (some ⟨d, 0, none⟩) ∧ DictS w [] d m j nm wr) (fun _ _ i _ => k - (intOf i).toNat)
  case atStart => exact ⟨0, by omega, rfl, rfl, rfl, HD.out⟩
  case round =>
    obtain ⟨j, hj, rfl, rfl, rfl, hS⟩ := hrel
    obtain ⟨n, hn⟩ : ∃ n, n = (namesB nm k j).length := ⟨_, rfl⟩
    rw [← hn]
    by_cases hlt : j < k
    · have hjk : (j : Int) < (k : Int) := by omega
      obtain ⟨r0, hr0⟩ := pre_le (namesB_succ nm k) (show j ≤ k by omega)
      have hnl : n ≤ len := by rw [hn, ← HS.out.2.1, HS.out.1, hr0, List.length_append, List.length_append]; omega
      obtain ⟨A1, hA1, hA2⟩ := V.slice_from (P := Tryz.prog) 25 5 Tryz.underlying25 oneU8v A len c n hnl hlc
      have hsz := nameOk_size (HS.out.2.2.2.2.2.1 j hlt)
      have hdr : ∃ r, l.drop n = V.vput (nm j).size ++ V.txt (nm j) ++ r := by
        refine ⟨(namesB nm k k).drop (namesB nm k (j + 1)).length ++ rest, ?_⟩
        rw [HS.out.1, hn, List.drop_append_of_le_length (by rw [hr0, List.length_append]; omega), drop_step (namesB_succ nm k) hlt, List.append_assoc]
      have hvt : V.vtext (l.drop n) 64 = (V.txt (nm j), (V.vput (nm j).size).length + (nm j).size, 0) := by
        obtain ⟨r, hr⟩ := hdr
        rw [hr]; exact vtext_put (nm j) r 64 (by omega) (by omega)
      have hs1 := hA2 wr _ l ((HS.out.2.2.1.below hS.own.bel (fun _ hq _ => hq)).mono (fun _ hq => Nat.lt_of_lt_of_le hq hS.own.bel.size))
      have hv1 := HS.out.2.2.2.2.2.2.1.below hS.own.bel
      have H1 := Lib.hid (And.intro hS (And.intro hs1 (And.intro hv1 (And.intro hvt (And.intro hn hsz)))))
      clear hS hs1 hv1 hvt hsz hdr hr0 hA2 hn
      go_wp2_with fail
      refine (V.vreadText_any _ A1 (len - n) (c - n) (l.drop n) 64 (by rw [List.length_drop, HS.out.2.1]) (V.getD_drop_lt HS.out.2.2.2.1 n) H1.out.2.1 (by omega) (by omega) H1.out.2.2.1 (by omega) (by omega)).mono ?_
      rintro e w3 ⟨rfl, hb3⟩
      rw [H1.out.2.2.2.1, V.lat_text]
      have h3 := H1.out.1.call hb3
      obtain ⟨s, hs⟩ : ∃ s, s = nm j := ⟨_, rfl⟩
      obtain ⟨u, hu⟩ : ∃ u, u = (V.vput s.size).length + s.size := ⟨_, rfl⟩
      have hule : u ≤ 74 := by have h6 := H1.out.2.2.2.2.2; rw [← hs] at h6; have := V.vput_len10 (u := s.size) (by omega); omega
      have hnx : n + u = (namesB nm k (j + 1)).length := by rw [namesB_succ, List.length_append, List.length_append, V.txt_length, ← H1.out.2.2.2.2.1, hu, hs]
      rw [← hs, ← hu]
      have H3 := Lib.hid (And.intro h3 (And.intro hs hnx))
      clear hb3 h3 hA1 hs hu hnx
      have kn : IntKind.i64.wrap ((n : Int) + (u : Int)) = ((n + u : Nat) : Int) := by rw [IntWalk.i64_in _ (by omega)]; omega
      go_upto_region 14 with (fail)
      have hput := dPut_any w w3 [] d m j nm H3.out.1 (by omega) (fun a b h1 h2 => HS.out.2.2.2.2.1 a b h1 (by omega)) (by have := H1.out.2.2.2.2.2; unfold maxLen; omega)
      rw [← H3.out.2.1] at hput
      go_wp2_with fail
      refine hput.mono ?_
      clear hput
      rintro e w4 (⟨hno, -, -⟩ | ⟨-, ⟨i, hi, hie⟩, -⟩ | ⟨-, -, rfl, h4⟩)
      · exact absurd (HS.out.2.2.2.2.2.1 j hlt) (by rw [hno]; simp)
      · exact absurd hie (HS.out.2.2.2.2.1 i j hi hlt)
      · have H4 := Lib.hid h4
        clear h4 kn
        go_wp2_with fail
        go_roundw
        case rel => exact ⟨j + 1, by omega, by go_num, by rw [← H3.out.2.2, Int.natCast_add], rfl, H4.out⟩
        case measure => simp [intOf] <;> omega
    · obtain rfl : j = k := by omega
      have HF := Lib.hid (And.intro hn hS)
      clear hS hn
      go_wp2_with fail
      go_ret3
      exact ⟨d, m, by rw [← HF.out.1]; rfl, HF.out.2⟩
end Go.Proofs.YtopbbicjbjmdnaaGreatDoor
namespace Go.Proofs.YtopbbicjbjmdnaaGreatDoor
open Go.RowKit Go.Maps
set_option maxRecDepth 100000
set_option linter.unusedVariables false
set_option linter.unusedSimpArgs false
theorem bkOf_foot (pf : Nat → Nat → Pt) (pn : Nat → Nat) (i m : Nat) : footK (bkOf pf pn i m) = footB (shiftP (pf i) (1024 * m)) (blkN (pn i) (1024 * m)) := rfl
theorem sV_part {pf : Nat → Nat → Pt} {pn : Nat → Nat} : ∀ k, sV pf pn k = true → ∀ i, i < k → bV (pf i) (pn i) (nbl (pn i)) = true ∧ 0 < pn i
  | 0, _, i, hi => by omega
  | k + 1, h, i, hi => by
    have h' : (sV pf pn k && partV pf pn k) = true := h
    rw [Bool.and_eq_true] at h'
    rcases Nat.lt_or_ge i k with h1 | h1
    · exact sV_part k h'.1 i h1
    · obtain rfl : i = k := by omega
      have h2 := h'.2
      unfold partV at h2
      rw [Bool.and_eq_true, decide_eq_true_eq] at h2
      exact h2
/-- What is known of parts that were built. -/
structure Built (nm : Nat → ByteArray) (pf : Nat → Nat → Pt) (pn : Nat → Nat) (k : Nat) : Prop where
  k0 : 0 < k
  k1 : k ≤ 1024
  nms : namesOk nm k = true
  pts : sV pf pn k = true
  pb : ∀ j, j < k → pn j ≤ 4096
theorem Built.rise {nm : Nat → ByteArray} {pf : Nat → Nat → Pt} {pn : Nat → Nat} {k : Nat} (h : Built nm pf pn k) : Rise nm k := namesOk_rise h.nms
theorem Built.apart {nm : Nat → ByteArray} {pf : Nat → Nat → Pt} {pn : Nat → Nat} {k : Nat} (h : Built nm pf pn k) : Apart nm k := h.rise.apart
theorem Built.name {nm : Nat → ByteArray} {pf : Nat → Nat → Pt} {pn : Nat → Nat} {k i : Nat} (h : Built nm pf pn k) (hi : i < k) : nameOk (nm i) = true := namesOk_name h.nms hi
theorem Built.bv {nm : Nat → ByteArray} {pf : Nat → Nat → Pt} {pn : Nat → Nat} {k i : Nat} (h : Built nm pf pn k) (hi : i < k) : bV (pf i) (pn i) (nbl (pn i)) = true := (sV_part k h.pts i hi).1
theorem Built.pos {nm : Nat → ByteArray} {pf : Nat → Nat → Pt} {pn : Nat → Nat} {k i : Nat} (h : Built nm pf pn k) (hi : i < k) : 0 < pn i := (sV_part k h.pts i hi).2
theorem Built.nb {nm : Nat → ByteArray} {pf : Nat → Nat → Pt} {pn : Nat → Nat} {k i : Nat} (h : Built nm pf pn k) (hi : i < k) : 1 ≤ nbl (pn i) ∧ nbl (pn i) ≤ 4 := by
  have h1 := h.pos hi
  have h2 := h.pb i hi
  unfold nbl; omega
/-- A file of blocks O, of parts' foot and end. -/
structure FileIs (L O : List Nat) (nm : Nat → ByteArray) (pf : Nat → Nat → Pt) (pn : Nat → Nat) (k : Nat) : Prop where
  eq : L = O ++ F.sealL 5 (sF nm pf pn k k) ++ F.sealL 6 (four (F.sealL 5 (sF nm pf pn k k)).length)
  ol : O.length = (sO pf pn k).length
  ob : ∀ x ∈ O, x < 256
  len : L.length ≤ 1048576
theorem FileIs.fl {L O : List Nat} {nm : Nat → ByteArray} {pf : Nat → Nat → Pt} {pn : Nat → Nat} {k : Nat} (h : FileIs L O nm pf pn k) : L.length = O.length + (F.sealL 5 (sF nm pf pn k k)).length + 13 := by
  rw [h.eq, List.length_append, List.length_append, F.sealL_length 6]
  rfl
theorem FileIs.byte {L O : List Nat} {nm : Nat → ByteArray} {pf : Nat → Nat → Pt} {pn : Nat → Nat} {k : Nat} (h : FileIs L O nm pf pn k) : ∀ x ∈ L, x < 256 := by
  rw [h.eq]
  exact mem_app (mem_app h.ob (F.sealL_byte (by omega) (V.getD_all_lt (sF_byte nm pf pn k k)))) (F.sealL_byte (by omega) (V.getD_all_lt (four_byte _)))
theorem FileIs.last {L O : List Nat} {nm : Nat → ByteArray} {pf : Nat → Nat → Pt} {pn : Nat → Nat} {k : Nat} (h : FileIs L O nm pf pn k) : EndIs L (O.length + (F.sealL 5 (sF nm pf pn k k)).length) (F.sealL 5 (sF nm pf pn k k)).length := by
  have hl := h.fl
  have hlen := h.len
  have e : L.drop (O.length + (F.sealL 5 (sF nm pf pn k k)).length) = F.sealL 6 (four (F.sealL 5 (sF nm pf pn k k)).length) := by
    rw [h.eq, ← List.length_append, List.drop_left]
  obtain ⟨o1, o2, o3⟩ := F.open_seal (kind := 6) (bs := four (F.sealL 5 (sF nm pf pn k k)).length) (by omega) (V.getD_all_lt (four_byte _)) (by show 4 ≤ _; omega)
  refine ⟨hl, ?_, ?_, ?_, by omega, by omega⟩
  · rw [e]; exact o1
  · rw [e]; exact o2
  · rw [e]; exact o3
theorem FileIs.mid {L O : List Nat} {nm : Nat → ByteArray} {pf : Nat → Nat → Pt} {pn : Nat → Nat} {k : Nat} (h : FileIs L O nm pf pn k) : (L.drop (O.length + (F.sealL 5 (sF nm pf pn k k)).length - (F.sealL 5 (sF nm pf pn k k)).length)).take (F.sealL 5 (sF nm pf pn k k)).length = F.sealL 5 (sF nm pf pn k k) := by
  rw [Nat.add_sub_cancel, h.eq, List.append_assoc, List.drop_left]
  exact List.take_left
theorem FileIs.foot {L O : List Nat} {nm : Nat → ByteArray} {pf : Nat → Nat → Pt} {pn : Nat → Nat} {k : Nat} (h : FileIs L O nm pf pn k) : F.openE (F.sealL 5 (sF nm pf pn k k)) = 0 ∧ F.openK (F.sealL 5 (sF nm pf pn k k)) = 5 ∧ F.openI (F.sealL 5 (sF nm pf pn k k)) = sF nm pf pn k k := by
  have h1 := h.fl
  have h2 := h.len
  have h3 := F.sealL_length 5 (sF nm pf pn k k)
  exact F.open_seal (by omega) (V.getD_all_lt (sF_byte nm pf pn k k)) (by omega)
theorem FileIs.take {L O : List Nat} {nm : Nat → ByteArray} {pf : Nat → Nat → Pt} {pn : Nat → Nat} {k : Nat} (h : FileIs L O nm pf pn k) : L.take O.length = O := by
  rw [h.eq, List.append_assoc]; exact List.take_left
/-- A slice of blocks. -/
def BkSl (w : World) (v : Value) (n : Nat) (B : Nat → Bk) : Prop := ∃ g c, v = .slice (some ⟨g, 0, none⟩) n c ∧ g < w.heap.size ∧ n ≤ c ∧ ∀ m, m < n → ∀ i, i < 5 → w.cell? ⟨g, m * 5 + i, none⟩ = (bkC (B m))[i]?
theorem BkSl.below {w w' : World} {v : Value} {n : Nat} {B : Nat → Bk} (h : BkSl w v n B) (hb : Below w.heap.size w w') : BkSl w' v n B := by
  obtain ⟨g, c, h1, h2, h3, h4⟩ := h
  exact ⟨g, c, h1, Nat.lt_of_lt_of_le h2 hb.size, h3, fun m hm i hi => (hb.cell (by exact h2)).trans (h4 m hm i hi)⟩
theorem BkSl.of {w : World} {base n : Nat} {v : Value} {B : Nat → Bk} (h : w.ownsRow base 76 5 v n (bkL B n)) (hn : 0 < n) : BkSl w v n B := by
  obtain ⟨A, c, hv, hc, hp⟩ := own_form h
  obtain ⟨g, hA, -, hg⟩ := hp hn
  subst hv hA
  refine ⟨g, c, rfl, hg, hc, fun m hm i hi => ?_⟩
  have hl : m * 5 + i < (bkL B n).length := by rw [bkL_len]; omega
  have c1 := World.ownsRow.cells h (g := g) rfl _ _ (List.getElem?_eq_getElem hl)
  have hadd : ∀ i, (⟨g, 0, none⟩ : Addr).add i = ⟨g, 0 + i, none⟩ := fun i => by unfold Addr.add; split <;> simp_all
  rw [hadd, Nat.zero_add] at c1
  rw [c1, ← List.getElem?_eq_getElem hl]
  exact bkL_at B m i hi n hm
/-- An opened segment. -/
structure SegIs (w : World) (p : Nat) (O : List Nat) (nm : Nat → ByteArray) (pf : Nat → Nat → Pt) (pn : Nat → Nat) (k : Nat) (M o : Nat) (Ab : Option Addr) (cb cn : Nat) (VS : Nat → Value) : Prop where
  seg : Blk w p 66 #[.slice Ab O.length cb, .slice (some ⟨o, 0, none⟩) k cn, .map (some M)]
  row : Sl w (fun q => q < w.heap.size) Ab O.length (byteC O)
  cap : O.length ≤ cb ∧ cb ≤ 9223372036854775807
  nms : ∃ cs, Blk w o 9 cs ∧ cs.size = k ∧ ∀ j, j < k → cs[j]? = some (.string (nm j))
  ncap : k ≤ cn ∧ cn ≤ 9223372036854775807
  map : MapB w M k k nm VS
  bks : ∀ j, j < k → BkSl w (VS j) (nbl (pn j)) (bkOf pf pn j)
theorem SegIs.below {w w' : World} {p : Nat} {O : List Nat} {nm : Nat → ByteArray} {pf : Nat → Nat → Pt} {pn : Nat → Nat} {k M o : Nat} {Ab : Option Addr} {cb cn : Nat} {VS : Nat → Value} (h : SegIs w p O nm pf pn k M o Ab cb cn VS) (hb : Below w.heap.size w w') : SegIs w' p O nm pf pn k M o Ab cb cn VS := by
  obtain ⟨cs, n1, n2⟩ := h.nms
  exact ⟨h.seg.below hb h.seg.lt, V.sl_later h.row hb, h.cap, ⟨cs, n1.below hb n1.lt, n2⟩, h.ncap, h.map.call hb, fun j hj => (h.bks j hj).below hb⟩
/-- What Open keeps while it reads the foot. -/
structure SegK (B : Nat) (w : World) (p o M y : Nat) (Ab : Option Addr) (cb : Nat) (cs : Array Value) (O : List Nat) (k : Nat) : Prop where
  seg : Blk w p 66 #[.slice Ab O.length cb, .slice (some ⟨o, 0, none⟩) k k, .map (some M)]
  row : w.ownsRow B 5 1 (.slice Ab O.length cb) O.length (O.map V.byteV)
  nms : Blk w o 9 cs
  py : p < y
  oy : o < y
  my : M < y
  ry : ∀ g, (Value.slice Ab O.length cb).ownBlock = some g → g < y
theorem SegK.gb {B : Nat} {w w' : World} {p o M y : Nat} {Ab : Option Addr} {cb : Nat} {cs : Array Value} {O : List Nat} {k : Nat} (h : SegK B w p o M y Ab cb cs O k) (hg : w.grownBy w' (some y)) : SegK B w' p o M y Ab cb cs O k := by
  have h1 := h.py
  have h2 := h.oy
  refine ⟨gb_blk hg h.seg (fun e => by injection e with e; omega), h.row.kept hg ?_, gb_blk hg h.nms (fun e => by injection e with e; omega), h.py, h.oy, h.my, h.ry⟩
  cases e : (Value.slice Ab O.length cb).ownBlock with
  | none => exact .inl rfl
  | some g => exact .inr fun e' => by have := h.ry g e; injection e' with e'; omega
theorem map_cell {w : World} {M n k : Nat} {nm : Nat → ByteArray} {VS : Nat → Value} (h : MapB w M n k nm VS) (j : Nat) : w.cell? ⟨M, j, none⟩ = none := by
  obtain ⟨es, clock, hb, -⟩ := h
  simp [World.cell?, hb]
theorem map_blk {w : World} {M n k g : Nat} {nm : Nat → ByteArray} {VS : Nat → Value} {t : TypeId} {cs : Array Value} (h : MapB w M n k nm VS) (hg : Blk w g t cs) : some g ≠ some M := fun e => by
  injection e with e
  obtain ⟨es, clock, hb, -⟩ := h
  subst e
  have h1 : w.heap[g]? = _ := hg
  rw [hb] at h1
  cases h1
theorem map_row {w : World} {M n k base m size : Nat} {nm : Nat → ByteArray} {VS : Nat → Value} {e : TypeId} {v : Value} {xs : List Value} (h : MapB w M n k nm VS) (ho : w.ownsRow base e size v m xs) : v.ownBlock = none ∨ v.ownBlock ≠ some M := by
  rcases ho.2 with ⟨rfl, -⟩ | ⟨g, cap, cur, rfl, _, hh, _⟩
  · exact .inl rfl
  · refine .inr fun e => ?_
    have e2 : g = M := by simpa [Value.ownBlock] using e
    subst e2
    obtain ⟨es, clock, hb, -⟩ := h
    rw [hb] at hh
    cases hh
theorem SegK.gbm {B : Nat} {w w' : World} {p o M y : Nat} {Ab : Option Addr} {cb : Nat} {cs : Array Value} {O : List Nat} {k n i : Nat} {nm : Nat → ByteArray} {VS : Nat → Value} (h : SegK B w p o M y Ab cb cs O k) (hm : MapB w M n i nm VS) (hg : w.grownBy w' (some M)) : SegK B w' p o M y Ab cb cs O k :=
  ⟨gb_blk hg h.seg (map_blk hm h.seg), h.row.kept hg ((map_row hm h.row).imp id fun e e' => e (by rw [← e'])), gb_blk hg h.nms (map_blk hm h.nms), h.py, h.oy, h.my, h.ry⟩
theorem RdAt.gbm {w w' : World} {M y n k : Nat} {l : List Nat} {nm : Nat → ByteArray} {VS : Nat → Value} (h : RdAt w y l) (hm : MapB w M n k nm VS) (hg : w.grownBy w' (some M)) : RdAt w' y l := by
  obtain ⟨A, c, h1, h2, h3⟩ := h
  refine ⟨A, c, gb_blk hg h1 (map_blk hm h1), fun hn => ?_, h3⟩
  obtain ⟨b, off, e, hD, hc⟩ := h2 hn
  refine ⟨b, off, e, hD, fun j hj => gb_cell hg (hc j hj) (fun e => ?_)⟩
  injection e with e
  have h4 := hc 0 hn
  have e2 : b = M := e
  rw [e2, map_cell hm] at h4
  cases h4
/-- .. and behind an append to a row of newer blocks. -/
theorem RdAt.row {w w' : World} {y base size n : Nat} {l : List Nat} {e : TypeId} {v : Value} {xs : List Value} (h : RdAt w y l) (ho : w.ownsRow base e size v n xs) (hy : y < base) (hg : w.grownBy w' v.ownBlock) : RdAt w' y l := by
  obtain ⟨A, c, h1, h2, h3⟩ := h
  refine ⟨A, c, gb_blk hg h1 (fun e => by have := (ho.lt y e.symm).1; omega), h2.keep (fun q hq hlt => hg.block q hlt (fun e => by have h4 := (ho.lt q e.symm).1; have h5 : q < y := hq; omega)), h3⟩
theorem gb_row {w1 w w' : World} {row : Option Nat} {e : TypeId} {size n : Nat} {v : Value} {xs : List Value} (h : w1.grownBy w row) (ho : w.ownsRow w1.heap.size e size v n xs) (hg : w.grownBy w' v.ownBlock) : w1.grownBy w' row :=
  ⟨hg.os.trans h.os, hg.tape.trans h.tape, hg.output.trans h.output, Nat.le_trans h.size hg.size, fun q hq hn => (hg.block q (Nat.lt_of_lt_of_le hq h.size) (fun e => by have := (ho.lt q e.symm).1; omega)).trans (h.block q hq hn)⟩
/-- The slices of blocks that the map has already. -/
def RowsK (w : World) (y : Nat) (VS : Nat → Value) (pf : Nat → Nat → Pt) (pn : Nat → Nat) (i : Nat) : Prop := ∀ j, j < i → w.ownsRow (y + 1) 76 5 (VS j) (nbl (pn j)) (bkL (bkOf pf pn j) (nbl (pn j)))
theorem RowsK.gb {w w' : World} {y i : Nat} {VS : Nat → Value} {pf : Nat → Nat → Pt} {pn : Nat → Nat} (h : RowsK w y VS pf pn i) (hg : w.grownBy w' (some y)) : RowsK w' y VS pf pn i := fun j hj => by
  refine (h j hj).kept hg ?_
  cases e : (VS j).ownBlock with
  | none => exact .inl rfl
  | some g => exact .inr fun e' => by have := ((h j hj).lt g e).1; injection e' with e'; omega
theorem RowsK.gbm {w w' : World} {y i M n k : Nat} {VS WS : Nat → Value} {pf : Nat → Nat → Pt} {pn : Nat → Nat} {nm : Nat → ByteArray} (h : RowsK w y VS pf pn i) (hm : MapB w M n k nm WS) (hg : w.grownBy w' (some M)) : RowsK w' y VS pf pn i := fun j hj =>
  (h j hj).kept hg ((map_row hm (h j hj)).imp id fun e e' => e (by rw [← e']))
end Go.Proofs.YtopbbicjbjmdnaaGreatDoor
namespace Go.Proofs.YtopbbicjbjmdnaaGreatDoor
open Go.RowKit
set_option linter.unusedVariables false
set_option linter.unusedSimpArgs false
theorem row_le {w : World} {base n c : Nat} {A : Option Addr} {xs : List Value} (h : w.ownsRow base 5 1 (.slice A n c) n xs) : n ≤ c := by
  obtain ⟨A', c', hv, hc, -⟩ := own_form h
  injection hv with _ _ h3
  omega
/-- A frame that is cut anywhere does not open. -/
theorem cut_open {kind : Nat} {bs : List Nat} (h : bs.length ≤ 1048576) {m : Nat} (hm : m < (F.sealL kind bs).length) : F.openE ((F.sealL kind bs).take m) ≠ 0 := by
  intro ho
  have hl : ((F.sealL kind bs).take m).length = m := by rw [List.length_take]; omega
  unfold F.openE at ho
  by_cases h0 : F.lenE ((F.sealL kind bs).take m) = 0
  · rw [if_pos h0] at ho
    obtain ⟨l1, -, l3⟩ := F.lenE_zero h0
    by_cases h1 : F.lenV ((F.sealL kind bs).take m) = ((F.sealL kind bs).take m).length
    · have hn : F.frameN ((F.sealL kind bs).take m) = F.frameN (F.sealL kind bs ++ []) := by
        unfold F.frameN
        rw [List.append_nil, List.take_take, show min 5 m = 5 by omega]
      rw [F.frameN_seal kind bs [] (by omega)] at hn
      rw [F.sealL_length] at hm
      omega
    · rw [if_neg h1] at ho
      cases ho
  · rw [if_neg h0] at ho
    exact h0 ho
theorem not_open {b : List Nat} (h : F.openE b ≠ 0) : NotEnc b := fun f n hE => h (enc_open hE)
theorem not_cut {f : Nat → Pt} {n : Nat} {b : List Nat} (h : IsEnc b f n) {m : Nat} (hm : m < b.length) : NotEnc (b.take m) := by
  refine not_open ?_
  have hl := colUp_len f n (enc_n h).2 3
  rw [← h.2] at hm ⊢
  exact cut_open (by omega) hm
theorem not_more {f : Nat → Pt} {n : Nat} {b : List Nat} (h : IsEnc b f n) : NotEnc (b ++ [0]) := by
  refine not_open ?_
  have hl := colUp_len f n (enc_n h).2 3
  rw [← h.2, F.open_more 3 (colUp f n 3) (by omega)]
  decide
theorem one_v : colV (fun _ => (⟨1, 0, 0⟩ : Pt)) 1 = true := by decide
/-- A place below L, as the laws make it. -/
theorem mod_in (a : Int) (L : Nat) (hL : 0 < L) : ∃ (r : Int) (p : Nat), a.tmod (L : Int) = r ∧ -(L : Int) < r ∧ r < (L : Int) ∧ (r + (L : Int)).tmod (L : Int) = (p : Int) ∧ p < L := by
  have h1 := Int.tmod_lt_of_pos a (show 0 < (L : Int) by omega)
  have h2 := Int.lt_tmod_of_pos a (show 0 < (L : Int) by omega)
  have h3 : 0 ≤ Int.tmod (a.tmod L + (L : Int)) L := Int.tmod_nonneg _ (by omega)
  have h4 := Int.tmod_lt_of_pos (a.tmod L + (L : Int)) (show 0 < (L : Int) by omega)
  exact ⟨_, (Int.tmod (a.tmod L + (L : Int)) L).toNat, rfl, by omega, h1, by omega, by omega⟩
end Go.Proofs.YtopbbicjbjmdnaaGreatDoor
namespace Go.Proofs.YtopbbicjbjmdnaaGreatDoor
open Go.RowKit Go.Maps
set_option maxRecDepth 100000
set_option linter.unusedVariables false
set_option linter.unusedSimpArgs false
theorem sptr_some (a : Addr) (w : World) : (binOp .eql 35 (.pointer (some a)) (.pointer none)).run Tryz.prog w = .ok (.bool false) w := by kernel_rfl
theorem smap_some (M : Nat) (w : World) : (binOp .eql 64 (.map (some M)) (.map none)).run Tryz.prog w = .ok (.bool false) w := by kernel_rfl
set_option maxHeartbeats 400000 in
theorem snone_any (w : World) (p M : Nat) (hc : w.cell? ⟨p, 2, none⟩ = some (.map (some M))) : Calls Tryz.prog 30 #[.pointer (some ⟨p, 0, none⟩)] w fun e w' => e = .returned (.bool false) ∧ Below w.heap.size w w' := by
  have q2 := fun y => sptr_some ⟨y, 0, none⟩
  have q3 := smap_some
  go_enter Tryz.func30, Tryz.ntmps30
  go_wp2_with fail
  go_ret
  exact ⟨rfl, Below.refl _ _⟩
/-- A block's bytes. -/
def blkB (O : List Nat) (x : Bk) : List Nat := (O.drop x.a).take x.b
theorem slp_in {w : World} {D : Nat → Prop} {A : Option Addr} {n : Nat} {f : Nat → Pt} (h : SlP w D A n f) : SlP w (fun q => q < w.heap.size) A n f := fun hn => by
  obtain ⟨b, off, e, hD, hc⟩ := h hn
  exact ⟨b, off, e, World.block_lt_of_cell? w _ (hc 0 hn).1, hc⟩
def SDecPost (w : World) (b : List Nat) (f : Nat → Pt) (n : Nat) (e : Ending) (w' : World) : Prop :=
  Below w.heap.size w w' ∧ ((∃ A c, e = .returned (.tuple #[.slice A n c, .int .i64 0]) ∧ n ≤ c ∧ SlP w' (fun q => w.heap.size ≤ q ∧ q < w'.heap.size) A n f) ∨ (NotEnc b ∧ e = .returned (.tuple #[.slice none 0 0, .int .i64 24])))
structure DcS (w0 w : World) (g : Nat) (cs : Array Value) (p : Nat) (v : Value) : Prop where
  bel : Below w0.heap.size w0 w
  bx : Blk w g 76 cs
  seg : w.cell? ⟨p, 0, none⟩ = some v
set_option maxHeartbeats 400000 in
theorem sdecode_any (w : World) (p : Nat) (O : List Nat) (nm : Nat → ByteArray) (pf : Nat → Nat → Pt) (pn : Nat → Nat) (k M o : Nat) (Ab : Option Addr) (cb cn : Nat) (VS : Nat → Value) (h : SegIs w p O nm pf pn k M o Ab cb cn VS) (f : Nat → Pt) (x : Bk)
    (hO : ∀ z ∈ O, z < 256) (hO20 : O.length ≤ 1048576) (hx : x.a + x.b ≤ O.length) (hn0 : 0 < x.n) (hn1 : x.n ≤ 4096) (hf : x.f = (f 0).t) (ht : x.t = (f (x.n - 1)).t) (hok : ∀ j, PtOk (f j)) (hG : IsEnc (blkB O x) f x.n ∨ NotEnc (blkB O x)) (hv : V.HErr w) :
    Calls Tryz.prog 31 #[.pointer (some ⟨p, 0, none⟩), .agg (bkC x).toArray] w (SDecPost w (blkB O x) f x.n) := by
  obtain ⟨xa, xb, xf, xt, xn⟩ := x
  obtain ⟨B, hBd⟩ : ∃ B, B = blkB O ⟨xa, xb, xf, xt, xn⟩ := ⟨_, rfl⟩
  rw [← hBd] at hG ⊢
  replace hx : xa + xb ≤ O.length := hx
  replace hn0 : 0 < xn := hn0
  replace hn1 : xn ≤ 4096 := hn1
  replace hf : xf = (f 0).t := hf
  replace ht : xt = (f (xn - 1)).t := ht
  show Calls _ _ #[_, .agg #[.int .i64 (xa : Nat), .int .i64 (xb : Nat), .int .i64 xf, .int .i64 xt, .int .i64 (xn : Nat)]] w _
  obtain ⟨ol, hol⟩ : ∃ ol, ol = O.length := ⟨_, rfl⟩
  have hseg := h.seg
  have hrow := h.row
  have hcap := h.cap
  rw [← hol] at hseg hrow hcap hx hO20
  obtain ⟨xe, hxe⟩ : ∃ xe, xe = xa + xb := ⟨_, rfl⟩
  obtain ⟨A1, hA1, hA2⟩ := slice_mid (P := Tryz.prog) 25 5 Tryz.underlying25 oneU8t Ab ol cb xa xe (by omega) (by omega) hcap.1
  have hs1 := hA2 w _ O hrow
  rw [show xe - xa = xb by omega] at hs1 hA1
  have hBl : B.length = xb := by rw [hBd]; show ((O.drop xa).take xb).length = xb; rw [List.length_take, List.length_drop]; omega
  have hs1 : Sl w (fun q => q < w.heap.size) A1 xb (byteC B) := by rw [hBd]; exact hs1
  have hBb : ∀ j, B.getD j 0 < 256 := by rw [hBd]; exact V.getD_take_lt (V.getD_drop_lt (V.getD_all_lt hO) _) _
  have HS := Lib.hid (And.intro hseg (And.intro hs1 (And.intro hBl (And.intro hBb (And.intro hG (And.intro hv (And.intro hf (And.intro ht hok))))))))
  clear hseg hs1 hBl hBb hG hv hf ht hok h hrow hA2 hO hBd hol
  have ka : IntKind.i64.wrap ((xa : Int) + (xb : Int)) = (xe : Int) := by rw [IntWalk.i64_in _ (by omega)]; omega
  have HXE := Lib.hid hxe
  clear hxe
  go_enter Tryz.func31, Tryz.ntmps31
  go_upto_region 1 with (fail)
  obtain ⟨g, hg⟩ : ∃ g, g = w.heap.size := ⟨_, rfl⟩
  rw [← hg]
  have hal : Below w.heap.size w (w.alloc (.cells #[.int .i64 (xa : Nat), .int .i64 (xb : Nat), .int .i64 xf, .int .i64 xt, .int .i64 (xn : Nat)] 76)) := (Below.refl _ _).alloc (Nat.le_refl _) _
  have h1 : DcS w (w.alloc (.cells #[.int .i64 (xa : Nat), .int .i64 (xb : Nat), .int .i64 xf, .int .i64 xt, .int .i64 (xn : Nat)] 76)) g #[.int .i64 (xa : Nat), .int .i64 (xb : Nat), .int .i64 xf, .int .i64 xt, .int .i64 (xn : Nat)] p (.slice Ab ol cb) :=
    ⟨hal, by rw [hg]; exact Blk.fresh _ _ _, (HS.out.1.alloc _).cell 0⟩
  refine wp_gen (fun wx => DcS w wx g #[.int .i64 (xa : Nat), .int .i64 (xb : Nat), .int .i64 xf, .int .i64 xt, .int .i64 (xn : Nat)] p (.slice Ab ol cb)) h1 ?_
  intro w1 h1
  clear hal hg
  have hS : DcS w w1.drew g #[.int .i64 (xa : Nat), .int .i64 (xb : Nat), .int .i64 xf, .int .i64 xt, .int .i64 (xn : Nat)] p (.slice Ab ol cb) := ⟨h1.bel.drew, h1.bx.drew, h1.seg⟩
  have hS : (fun wx => DcS w wx g #[.int .i64 (xa : Nat), .int .i64 (xb : Nat), .int .i64 xf, .int .i64 xt, .int .i64 (xn : Nat)] p (.slice Ab ol cb)) (w1.drew) := hS
  refine reg_start (fun wx => DcS w wx g #[.int .i64 (xa : Nat), .int .i64 (xb : Nat), .int .i64 xf, .int .i64 xt, .int .i64 (xn : Nat)] p (.slice Ab ol cb)) (by kernel_rfl) hS ?_
  generalize w1.drew = wd at hS ⊢
  clear h1
  have HD := Lib.hid hS
  refine reg_take (i := 0) (v := ?_) rfl (by kernel_rfl) (by kernel_rfl) (by kernel_rfl) (fun _ _ _ h => h) (Or.inl ⟨by kernel_rfl, ?_⟩) hS ?_
  rotate_left
  · (intro w' hSw; have u0 := hSw.seg; have u1 := hSw.bx.cell 0; have u2 := hSw.bx.cell 1; go_simp <;> with_reducible rfl)
  try simp only [List.getElem_toArray, List.getElem_cons_succ, List.getElem_cons_zero, Act.put, List.setIfInBounds_toArray, List.set_cons_zero, List.set_cons_succ]
  refine reg_take (i := 1) (v := ?_) rfl (by kernel_rfl) (by kernel_rfl) (by kernel_rfl) (fun _ _ _ h => h) (Or.inl ⟨by kernel_rfl, ?_⟩) hS ?_
  rotate_left
  · (intro w' hSw; have u0 := hSw.seg; have u1 := hSw.bx.cell 0; have u2 := hSw.bx.cell 1; go_simp <;> with_reducible rfl)
  try simp only [List.getElem_toArray, List.getElem_cons_succ, List.getElem_cons_zero, Act.put, List.setIfInBounds_toArray, List.set_cons_zero, List.set_cons_succ]
  refine reg_take (i := 2) (v := ?_) rfl (by kernel_rfl) (by kernel_rfl) (by kernel_rfl) (fun _ _ _ h => h) (Or.inl ⟨by kernel_rfl, ?_⟩) hS ?_
  rotate_left
  · (intro w' hSw; have u0 := hSw.seg; have u1 := hSw.bx.cell 0; have u2 := hSw.bx.cell 1; go_simp <;> with_reducible rfl)
  try simp only [List.getElem_toArray, List.getElem_cons_succ, List.getElem_cons_zero, Act.put, List.setIfInBounds_toArray, List.set_cons_zero, List.set_cons_succ]
  refine reg_take (i := 3) (v := ?_) rfl (by kernel_rfl) (by kernel_rfl) (by kernel_rfl) (fun _ _ _ h => h) (Or.inl ⟨by kernel_rfl, ?_⟩) hS ?_
  rotate_left
  · (intro w' hSw; have u0 := hSw.seg; have u1 := hSw.bx.cell 0; have u2 := hSw.bx.cell 1; go_simp <;> with_reducible rfl)
  try simp only [List.getElem_toArray, List.getElem_cons_succ, List.getElem_cons_zero, Act.put, List.setIfInBounds_toArray, List.set_cons_zero, List.set_cons_succ]
  refine reg_take (i := 4) (v := ?_) rfl (by kernel_rfl) (by kernel_rfl) (by kernel_rfl) (fun _ _ _ h => h) (Or.inl ⟨by kernel_rfl, ?_⟩) hS ?_
  rotate_left
  · (intro w' hSw; have u0 := hSw.seg; have u1 := hSw.bx.cell 0; have u2 := hSw.bx.cell 1; go_simp <;> with_reducible rfl)
  try simp only [List.getElem_toArray, List.getElem_cons_succ, List.getElem_cons_zero, Act.put, List.setIfInBounds_toArray, List.set_cons_zero, List.set_cons_succ]
  refine reg_take (i := 5) (v := ?_) rfl (by kernel_rfl) (by kernel_rfl) (by kernel_rfl) (fun _ _ _ h => h) (Or.inl ⟨by kernel_rfl, ?_⟩) hS ?_
  rotate_left
  · (intro w' hSw; have u0 := hSw.seg; have u1 := hSw.bx.cell 0; have u2 := hSw.bx.cell 1; go_simp <;> with_reducible rfl)
  try simp only [List.getElem_toArray, List.getElem_cons_succ, List.getElem_cons_zero, Act.put, List.setIfInBounds_toArray, List.set_cons_zero, List.set_cons_succ]
  refine reg_take (i := 6) (v := ?_) rfl (by kernel_rfl) (by kernel_rfl) (by kernel_rfl) (fun _ _ _ h => h) (Or.inl ⟨by kernel_rfl, ?_⟩) hS ?_
  rotate_left
  · (intro w' hSw; have u0 := hSw.seg; have u1 := hSw.bx.cell 0; have u2 := hSw.bx.cell 1; go_simp <;> with_reducible rfl)
  try simp only [List.getElem_toArray, List.getElem_cons_succ, List.getElem_cons_zero, Act.put, List.setIfInBounds_toArray, List.set_cons_zero, List.set_cons_succ]
  refine reg_take (i := 7) (v := ?_) rfl (by kernel_rfl) (by kernel_rfl) (by kernel_rfl) (fun _ _ _ h => h) (Or.inl ⟨by kernel_rfl, ?_⟩) hS ?_
  rotate_left
  · (intro w' hSw; have u0 := hSw.seg; have u1 := hSw.bx.cell 0; have u2 := hSw.bx.cell 1; go_simp <;> with_reducible rfl)
  try simp only [List.getElem_toArray, List.getElem_cons_succ, List.getElem_cons_zero, Act.put, List.setIfInBounds_toArray, List.set_cons_zero, List.set_cons_succ]
  refine reg_take (i := 8) (v := ?_) rfl (by kernel_rfl) (by kernel_rfl) (by kernel_rfl) (fun _ _ _ h => h) (Or.inl ⟨by kernel_rfl, ?_⟩) hS ?_
  rotate_left
  · (intro w' hSw; have u0 := hSw.seg; have u1 := hSw.bx.cell 0; have u2 := hSw.bx.cell 1; go_simp <;> with_reducible rfl)
  try simp only [List.getElem_toArray, List.getElem_cons_succ, List.getElem_cons_zero, Act.put, List.setIfInBounds_toArray, List.set_cons_zero, List.set_cons_succ]
  refine reg_take (i := 9) (v := ?_) rfl (by kernel_rfl) (by kernel_rfl) (by kernel_rfl) (fun _ _ _ h => h) (Or.inl ⟨by kernel_rfl, ?_⟩) hS ?_
  rotate_left
  · (intro w' hSw; have u0 := hSw.seg; have u1 := hSw.bx.cell 0; have u2 := hSw.bx.cell 1; go_simp <;> with_reducible rfl)
  try simp only [List.getElem_toArray, List.getElem_cons_succ, List.getElem_cons_zero, Act.put, List.setIfInBounds_toArray, List.set_cons_zero, List.set_cons_succ]
  refine reg_take (i := 10) (v := ?_) rfl (by kernel_rfl) (by kernel_rfl) (by kernel_rfl) (fun _ _ _ h => h) (Or.inl ⟨by kernel_rfl, ?_⟩) hS ?_
  rotate_left
  · (intro w' hSw; have u0 := hSw.seg; have u1 := hSw.bx.cell 0; have u2 := hSw.bx.cell 1; go_simp <;> with_reducible rfl)
  try simp only [List.getElem_toArray, List.getElem_cons_succ, List.getElem_cons_zero, Act.put, List.setIfInBounds_toArray, List.set_cons_zero, List.set_cons_succ]
  refine reg_take (i := 11) (v := ?_) rfl (by kernel_rfl) (by kernel_rfl) (by kernel_rfl) (fun _ _ _ h => h) (Or.inl ⟨by kernel_rfl, ?_⟩) hS ?_
  rotate_left
  · (intro w' hSw; have u0 := hSw.seg; have u1 := hSw.bx.cell 0; have u2 := hSw.bx.cell 1; go_simp <;> with_reducible rfl)
  try simp only [List.getElem_toArray, List.getElem_cons_succ, List.getElem_cons_zero, Act.put, List.setIfInBounds_toArray, List.set_cons_zero, List.set_cons_succ]
  refine reg_call (i := 12) rfl (by kernel_rfl) (fun K hK => ?_)
  have HK := Lib.hid hK
  clear hK
  go_simp
  refine (cdecode_any wd A1 xb (cb - xa) _ B HS.out.2.2.1 (HS.out.2.1.below HD.out.bel (fun _ hq _ => hq)) HS.out.2.2.2.1 (by omega) (by omega) (HS.out.2.2.2.2.2.1.below HD.out.bel)).mono ?_
  rintro e w2 ⟨hk2, hcase⟩
  have h2 : DcS w w2 g #[.int .i64 (xa : Nat), .int .i64 (xb : Nat), .int .i64 xf, .int .i64 xt, .int .i64 (xn : Nat)] p (.slice Ab ol cb) :=
    ⟨HD.out.bel.trans (hk2.to_below.mono HD.out.bel.size), HD.out.bx.below hk2.to_below HD.out.bx.lt, (hk2.to_below.cell (World.block_lt_of_cell? wd _ HD.out.seg)).trans HD.out.seg⟩
  have H2 := Lib.hid h2
  clear h2
  rcases hcase with ⟨A2, n2, c2, f2, rfl, hnc, hsl, hE, hv2⟩ | ⟨rfl, hN⟩
  · have hG1 : IsEnc B f xn := HS.out.2.2.2.2.1.resolve_right fun h => h f2 n2 hE
    obtain ⟨rfl, hff⟩ := enc_inj hE hG1 (fun j _ => hv2 j) (fun j _ => (HS.out.2.2.2.2.2.2.2.2 j).v)
    have hsl2 : SlP w2 (fun q => w.heap.size ≤ q ∧ q < w2.heap.size) A2 n2 f := fun hn => by
      obtain ⟨b, off, e1, hD1, hc1⟩ := (hsl.congr hff) hn
      exact ⟨b, off, e1, ⟨Nat.le_trans HD.out.bel.size hD1, World.block_lt_of_cell? w2 _ (hc1 0 hn).1⟩, hc1⟩
    obtain ⟨b, off, hA2, hbl, hcell⟩ := id (hsl2 hn0)
    subst hA2
    obtain ⟨m, hm⟩ : ∃ m, n2 = m + 1 := ⟨n2 - 1, by omega⟩
    have hc2 : w2.cell? ⟨b, off, none⟩ = some (.int .i64 xf) ∧ w2.cell? ⟨b, off + m * 3, none⟩ = some (.int .i64 xt) := by
      have c1 := (hcell 0 hn0).1
      have c2 := (hcell m (by omega)).1
      rw [HS.out.2.2.2.2.2.2.1, HS.out.2.2.2.2.2.2.2.1, show n2 - 1 = m by omega]
      exact ⟨by simpa using c1, c2⟩
    have HC := Lib.hid (And.intro hc2 (And.intro hsl2 (And.intro hnc hm)))
    have hm1 : (m : Int) < (n2 : Int) := by omega
    have h01 : (0 : Int) < (n2 : Int) := by omega
    have kw : IntKind.i64.wrap ((n2 : Int) - 1) = (m : Int) := by rw [IntWalk.i64_in _ (by omega)]; omega
    clear hsl hE hv2 hff hG1 hsl2 hcell hc2 hnc hm
    go_wp2_with fail
    refine HK.out.to (fun wx => DcS w wx g #[.int .i64 (xa : Nat), .int .i64 (xb : Nat), .int .i64 xf, .int .i64 xt, .int .i64 (n2 : Nat)] p (.slice Ab ol cb)) (fun _ h => h) (H2.out) ?_
    clear HK hS
    have hS : (fun wx => DcS w wx g #[.int .i64 (xa : Nat), .int .i64 (xb : Nat), .int .i64 xf, .int .i64 xt, .int .i64 (n2 : Nat)] p (.slice Ab ol cb)) (w2) := H2.out
    try simp only [List.getElem_toArray, List.getElem_cons_succ, List.getElem_cons_zero, Act.put, List.setIfInBounds_toArray, List.set_cons_zero, List.set_cons_succ]
    refine reg_take (i := 13) (v := ?_) rfl (by kernel_rfl) (by kernel_rfl) (by kernel_rfl) (fun _ _ _ h => h) (Or.inl ⟨by kernel_rfl, ?_⟩) hS ?_
    rotate_left
    · (intro w' hSw; go_simp <;> with_reducible rfl)
    try simp only [List.getElem_toArray, List.getElem_cons_succ, List.getElem_cons_zero, Act.put, List.setIfInBounds_toArray, List.set_cons_zero, List.set_cons_succ]
    refine reg_take (i := 14) (v := ?_) rfl (by kernel_rfl) (by kernel_rfl) (by kernel_rfl) (fun _ _ _ h => h) (Or.inl ⟨by kernel_rfl, ?_⟩) hS ?_
    rotate_left
    · (intro w' hSw; go_simp <;> with_reducible rfl)
    try simp only [List.getElem_toArray, List.getElem_cons_succ, List.getElem_cons_zero, Act.put, List.setIfInBounds_toArray, List.set_cons_zero, List.set_cons_succ]
    refine reg_take (i := 15) (v := ?_) rfl (by kernel_rfl) (by kernel_rfl) (by kernel_rfl) (fun _ _ _ h => h) (Or.inl ⟨by kernel_rfl, ?_⟩) hS ?_
    rotate_left
    · (intro w' hSw; go_simp <;> with_reducible rfl)
    try simp only [List.getElem_toArray, List.getElem_cons_succ, List.getElem_cons_zero, Act.put, List.setIfInBounds_toArray, List.set_cons_zero, List.set_cons_succ]
    refine reg_take (i := 16) (v := ?_) rfl (by kernel_rfl) (by kernel_rfl) (by kernel_rfl) (fun _ _ _ h => h) (Or.inl ⟨by kernel_rfl, ?_⟩) hS ?_
    rotate_left
    · (intro w' hSw; go_simp <;> with_reducible rfl)
    try simp only [List.getElem_toArray, List.getElem_cons_succ, List.getElem_cons_zero, Act.put, List.setIfInBounds_toArray, List.set_cons_zero, List.set_cons_succ]
    refine reg_take (i := 17) (v := ?_) rfl (by kernel_rfl) (by kernel_rfl) (by kernel_rfl) (fun _ _ _ h => h) (Or.inl ⟨by kernel_rfl, ?_⟩) hS ?_
    rotate_left
    · (intro w' hSw; go_simp <;> with_reducible rfl)
    try simp only [List.getElem_toArray, List.getElem_cons_succ, List.getElem_cons_zero, Act.put, List.setIfInBounds_toArray, List.set_cons_zero, List.set_cons_succ]
    refine wpAnyH_done (by kernel_rfl) ?_ _
    try simp only [List.getElem_toArray, List.getElem_cons_succ, List.getElem_cons_zero]
    try simp only [List.getElem_toArray, List.getElem_cons_succ, List.getElem_cons_zero, Act.put, List.setIfInBounds_toArray, List.set_cons_zero, List.set_cons_succ]
    clear hS
    go_upto_region 2 with (fail)
    have hS : (fun wx => wx = w2.drew) w2.drew := rfl
    have hS : (fun wx => wx = w2.drew) (w2.drew) := hS
    refine reg_start (fun wx => wx = w2.drew) (by kernel_rfl) hS ?_
    refine reg_take (i := 0) (v := ?_) rfl (by kernel_rfl) (by kernel_rfl) (by kernel_rfl) (fun _ _ _ h => h) (Or.inl ⟨by kernel_rfl, ?_⟩) hS ?_
    rotate_left
    · (intro w' hSw; obtain rfl := hSw; have u0 : w2.drew.cell? ⟨b, off, none⟩ = some (.int .i64 xf) := HC.out.1.1; have u1 : w2.drew.cell? ⟨b, off + m * 3, none⟩ = some (.int .i64 xt) := HC.out.1.2; have u2 := H2.out.bx.drew.cell 2; have u3 := H2.out.bx.drew.cell 3; have u4 := H2.out.bx.drew.cell 4; go_simp <;> with_reducible rfl)
    try simp only [List.getElem_toArray, List.getElem_cons_succ, List.getElem_cons_zero, Act.put, List.setIfInBounds_toArray, List.set_cons_zero, List.set_cons_succ]
    refine reg_take (i := 1) (v := ?_) rfl (by kernel_rfl) (by kernel_rfl) (by kernel_rfl) (fun _ _ _ h => h) (Or.inl ⟨by kernel_rfl, ?_⟩) hS ?_
    rotate_left
    · (intro w' hSw; obtain rfl := hSw; have u0 : w2.drew.cell? ⟨b, off, none⟩ = some (.int .i64 xf) := HC.out.1.1; have u1 : w2.drew.cell? ⟨b, off + m * 3, none⟩ = some (.int .i64 xt) := HC.out.1.2; have u2 := H2.out.bx.drew.cell 2; have u3 := H2.out.bx.drew.cell 3; have u4 := H2.out.bx.drew.cell 4; go_simp <;> with_reducible rfl)
    try simp only [List.getElem_toArray, List.getElem_cons_succ, List.getElem_cons_zero, Act.put, List.setIfInBounds_toArray, List.set_cons_zero, List.set_cons_succ]
    refine reg_take (i := 2) (v := ?_) rfl (by kernel_rfl) (by kernel_rfl) (by kernel_rfl) (fun _ _ _ h => h) (Or.inl ⟨by kernel_rfl, ?_⟩) hS ?_
    rotate_left
    · (intro w' hSw; obtain rfl := hSw; have u0 : w2.drew.cell? ⟨b, off, none⟩ = some (.int .i64 xf) := HC.out.1.1; have u1 : w2.drew.cell? ⟨b, off + m * 3, none⟩ = some (.int .i64 xt) := HC.out.1.2; have u2 := H2.out.bx.drew.cell 2; have u3 := H2.out.bx.drew.cell 3; have u4 := H2.out.bx.drew.cell 4; go_simp <;> with_reducible rfl)
    try simp only [List.getElem_toArray, List.getElem_cons_succ, List.getElem_cons_zero, Act.put, List.setIfInBounds_toArray, List.set_cons_zero, List.set_cons_succ]
    refine reg_take (i := 3) (v := ?_) rfl (by kernel_rfl) (by kernel_rfl) (by kernel_rfl) (fun _ _ _ h => h) (Or.inl ⟨by kernel_rfl, ?_⟩) hS ?_
    rotate_left
    · (intro w' hSw; obtain rfl := hSw; have u0 : w2.drew.cell? ⟨b, off, none⟩ = some (.int .i64 xf) := HC.out.1.1; have u1 : w2.drew.cell? ⟨b, off + m * 3, none⟩ = some (.int .i64 xt) := HC.out.1.2; have u2 := H2.out.bx.drew.cell 2; have u3 := H2.out.bx.drew.cell 3; have u4 := H2.out.bx.drew.cell 4; go_simp <;> with_reducible rfl)
    try simp only [List.getElem_toArray, List.getElem_cons_succ, List.getElem_cons_zero, Act.put, List.setIfInBounds_toArray, List.set_cons_zero, List.set_cons_succ]
    refine reg_take (i := 4) (v := ?_) rfl (by kernel_rfl) (by kernel_rfl) (by kernel_rfl) (fun _ _ _ h => h) (Or.inl ⟨by kernel_rfl, ?_⟩) hS ?_
    rotate_left
    · (intro w' hSw; obtain rfl := hSw; have u0 : w2.drew.cell? ⟨b, off, none⟩ = some (.int .i64 xf) := HC.out.1.1; have u1 : w2.drew.cell? ⟨b, off + m * 3, none⟩ = some (.int .i64 xt) := HC.out.1.2; have u2 := H2.out.bx.drew.cell 2; have u3 := H2.out.bx.drew.cell 3; have u4 := H2.out.bx.drew.cell 4; go_simp <;> with_reducible rfl)
    try simp only [List.getElem_toArray, List.getElem_cons_succ, List.getElem_cons_zero, Act.put, List.setIfInBounds_toArray, List.set_cons_zero, List.set_cons_succ]
    refine reg_take (i := 5) (v := ?_) rfl (by kernel_rfl) (by kernel_rfl) (by kernel_rfl) (fun _ _ _ h => h) (Or.inl ⟨by kernel_rfl, ?_⟩) hS ?_
    rotate_left
    · (intro w' hSw; obtain rfl := hSw; have u0 : w2.drew.cell? ⟨b, off, none⟩ = some (.int .i64 xf) := HC.out.1.1; have u1 : w2.drew.cell? ⟨b, off + m * 3, none⟩ = some (.int .i64 xt) := HC.out.1.2; have u2 := H2.out.bx.drew.cell 2; have u3 := H2.out.bx.drew.cell 3; have u4 := H2.out.bx.drew.cell 4; go_simp <;> with_reducible rfl)
    try simp only [List.getElem_toArray, List.getElem_cons_succ, List.getElem_cons_zero, Act.put, List.setIfInBounds_toArray, List.set_cons_zero, List.set_cons_succ]
    refine reg_take (i := 6) (v := ?_) rfl (by kernel_rfl) (by kernel_rfl) (by kernel_rfl) (fun _ _ _ h => h) (Or.inl ⟨by kernel_rfl, ?_⟩) hS ?_
    rotate_left
    · (intro w' hSw; obtain rfl := hSw; have u0 : w2.drew.cell? ⟨b, off, none⟩ = some (.int .i64 xf) := HC.out.1.1; have u1 : w2.drew.cell? ⟨b, off + m * 3, none⟩ = some (.int .i64 xt) := HC.out.1.2; have u2 := H2.out.bx.drew.cell 2; have u3 := H2.out.bx.drew.cell 3; have u4 := H2.out.bx.drew.cell 4; go_simp <;> with_reducible rfl)
    try simp only [List.getElem_toArray, List.getElem_cons_succ, List.getElem_cons_zero, Act.put, List.setIfInBounds_toArray, List.set_cons_zero, List.set_cons_succ]
    refine reg_take (i := 7) (v := ?_) rfl (by kernel_rfl) (by kernel_rfl) (by kernel_rfl) (fun _ _ _ h => h) (Or.inl ⟨by kernel_rfl, ?_⟩) hS ?_
    rotate_left
    · (intro w' hSw; obtain rfl := hSw; have u0 : w2.drew.cell? ⟨b, off, none⟩ = some (.int .i64 xf) := HC.out.1.1; have u1 : w2.drew.cell? ⟨b, off + m * 3, none⟩ = some (.int .i64 xt) := HC.out.1.2; have u2 := H2.out.bx.drew.cell 2; have u3 := H2.out.bx.drew.cell 3; have u4 := H2.out.bx.drew.cell 4; go_simp <;> with_reducible rfl)
    try simp only [List.getElem_toArray, List.getElem_cons_succ, List.getElem_cons_zero, Act.put, List.setIfInBounds_toArray, List.set_cons_zero, List.set_cons_succ]
    refine reg_take (i := 8) (v := ?_) rfl (by kernel_rfl) (by kernel_rfl) (by kernel_rfl) (fun _ _ _ h => h) (Or.inl ⟨by kernel_rfl, ?_⟩) hS ?_
    rotate_left
    · (intro w' hSw; obtain rfl := hSw; have u0 : w2.drew.cell? ⟨b, off, none⟩ = some (.int .i64 xf) := HC.out.1.1; have u1 : w2.drew.cell? ⟨b, off + m * 3, none⟩ = some (.int .i64 xt) := HC.out.1.2; have u2 := H2.out.bx.drew.cell 2; have u3 := H2.out.bx.drew.cell 3; have u4 := H2.out.bx.drew.cell 4; go_simp <;> with_reducible rfl)
    try simp only [List.getElem_toArray, List.getElem_cons_succ, List.getElem_cons_zero, Act.put, List.setIfInBounds_toArray, List.set_cons_zero, List.set_cons_succ]
    refine reg_take (i := 9) (v := ?_) rfl (by kernel_rfl) (by kernel_rfl) (by kernel_rfl) (fun _ _ _ h => h) (Or.inl ⟨by kernel_rfl, ?_⟩) hS ?_
    rotate_left
    · (intro w' hSw; obtain rfl := hSw; have u0 : w2.drew.cell? ⟨b, off, none⟩ = some (.int .i64 xf) := HC.out.1.1; have u1 : w2.drew.cell? ⟨b, off + m * 3, none⟩ = some (.int .i64 xt) := HC.out.1.2; have u2 := H2.out.bx.drew.cell 2; have u3 := H2.out.bx.drew.cell 3; have u4 := H2.out.bx.drew.cell 4; go_simp <;> with_reducible rfl)
    try simp only [List.getElem_toArray, List.getElem_cons_succ, List.getElem_cons_zero, Act.put, List.setIfInBounds_toArray, List.set_cons_zero, List.set_cons_succ]
    refine reg_take (i := 10) (v := ?_) rfl (by kernel_rfl) (by kernel_rfl) (by kernel_rfl) (fun _ _ _ h => h) (Or.inl ⟨by kernel_rfl, ?_⟩) hS ?_
    rotate_left
    · (intro w' hSw; obtain rfl := hSw; have u0 : w2.drew.cell? ⟨b, off, none⟩ = some (.int .i64 xf) := HC.out.1.1; have u1 : w2.drew.cell? ⟨b, off + m * 3, none⟩ = some (.int .i64 xt) := HC.out.1.2; have u2 := H2.out.bx.drew.cell 2; have u3 := H2.out.bx.drew.cell 3; have u4 := H2.out.bx.drew.cell 4; go_simp <;> with_reducible rfl)
    try simp only [List.getElem_toArray, List.getElem_cons_succ, List.getElem_cons_zero, Act.put, List.setIfInBounds_toArray, List.set_cons_zero, List.set_cons_succ]
    refine reg_take (i := 11) (v := ?_) rfl (by kernel_rfl) (by kernel_rfl) (by kernel_rfl) (fun _ _ _ h => h) (Or.inl ⟨by kernel_rfl, ?_⟩) hS ?_
    rotate_left
    · (intro w' hSw; obtain rfl := hSw; have u0 : w2.drew.cell? ⟨b, off, none⟩ = some (.int .i64 xf) := HC.out.1.1; have u1 : w2.drew.cell? ⟨b, off + m * 3, none⟩ = some (.int .i64 xt) := HC.out.1.2; have u2 := H2.out.bx.drew.cell 2; have u3 := H2.out.bx.drew.cell 3; have u4 := H2.out.bx.drew.cell 4; go_simp <;> with_reducible rfl)
    try simp only [List.getElem_toArray, List.getElem_cons_succ, List.getElem_cons_zero, Act.put, List.setIfInBounds_toArray, List.set_cons_zero, List.set_cons_succ]
    refine reg_take (i := 12) (v := ?_) rfl (by kernel_rfl) (by kernel_rfl) (by kernel_rfl) (fun _ _ _ h => h) (Or.inl ⟨by kernel_rfl, ?_⟩) hS ?_
    rotate_left
    · (intro w' hSw; obtain rfl := hSw; have u0 : w2.drew.cell? ⟨b, off, none⟩ = some (.int .i64 xf) := HC.out.1.1; have u1 : w2.drew.cell? ⟨b, off + m * 3, none⟩ = some (.int .i64 xt) := HC.out.1.2; have u2 := H2.out.bx.drew.cell 2; have u3 := H2.out.bx.drew.cell 3; have u4 := H2.out.bx.drew.cell 4; go_simp <;> with_reducible rfl)
    try simp only [List.getElem_toArray, List.getElem_cons_succ, List.getElem_cons_zero, Act.put, List.setIfInBounds_toArray, List.set_cons_zero, List.set_cons_succ]
    refine reg_take (i := 13) (v := ?_) rfl (by kernel_rfl) (by kernel_rfl) (by kernel_rfl) (fun _ _ _ h => h) (Or.inl ⟨by kernel_rfl, ?_⟩) hS ?_
    rotate_left
    · (intro w' hSw; obtain rfl := hSw; have u0 : w2.drew.cell? ⟨b, off, none⟩ = some (.int .i64 xf) := HC.out.1.1; have u1 : w2.drew.cell? ⟨b, off + m * 3, none⟩ = some (.int .i64 xt) := HC.out.1.2; have u2 := H2.out.bx.drew.cell 2; have u3 := H2.out.bx.drew.cell 3; have u4 := H2.out.bx.drew.cell 4; go_simp <;> with_reducible rfl)
    try simp only [List.getElem_toArray, List.getElem_cons_succ, List.getElem_cons_zero, Act.put, List.setIfInBounds_toArray, List.set_cons_zero, List.set_cons_succ]
    refine reg_take (i := 14) (v := ?_) rfl (by kernel_rfl) (by kernel_rfl) (by kernel_rfl) (fun _ _ _ h => h) (Or.inl ⟨by kernel_rfl, ?_⟩) hS ?_
    rotate_left
    · (intro w' hSw; obtain rfl := hSw; have u0 : w2.drew.cell? ⟨b, off, none⟩ = some (.int .i64 xf) := HC.out.1.1; have u1 : w2.drew.cell? ⟨b, off + m * 3, none⟩ = some (.int .i64 xt) := HC.out.1.2; have u2 := H2.out.bx.drew.cell 2; have u3 := H2.out.bx.drew.cell 3; have u4 := H2.out.bx.drew.cell 4; go_simp <;> with_reducible rfl)
    try simp only [List.getElem_toArray, List.getElem_cons_succ, List.getElem_cons_zero, Act.put, List.setIfInBounds_toArray, List.set_cons_zero, List.set_cons_succ]
    refine reg_take (i := 15) (v := ?_) rfl (by kernel_rfl) (by kernel_rfl) (by kernel_rfl) (fun _ _ _ h => h) (Or.inl ⟨by kernel_rfl, ?_⟩) hS ?_
    rotate_left
    · (intro w' hSw; obtain rfl := hSw; have u0 : w2.drew.cell? ⟨b, off, none⟩ = some (.int .i64 xf) := HC.out.1.1; have u1 : w2.drew.cell? ⟨b, off + m * 3, none⟩ = some (.int .i64 xt) := HC.out.1.2; have u2 := H2.out.bx.drew.cell 2; have u3 := H2.out.bx.drew.cell 3; have u4 := H2.out.bx.drew.cell 4; go_simp <;> with_reducible rfl)
    try simp only [List.getElem_toArray, List.getElem_cons_succ, List.getElem_cons_zero, Act.put, List.setIfInBounds_toArray, List.set_cons_zero, List.set_cons_succ]
    refine reg_take (i := 16) (v := ?_) rfl (by kernel_rfl) (by kernel_rfl) (by kernel_rfl) (fun _ _ _ h => h) (Or.inl ⟨by kernel_rfl, ?_⟩) hS ?_
    rotate_left
    · (intro w' hSw; obtain rfl := hSw; have u0 : w2.drew.cell? ⟨b, off, none⟩ = some (.int .i64 xf) := HC.out.1.1; have u1 : w2.drew.cell? ⟨b, off + m * 3, none⟩ = some (.int .i64 xt) := HC.out.1.2; have u2 := H2.out.bx.drew.cell 2; have u3 := H2.out.bx.drew.cell 3; have u4 := H2.out.bx.drew.cell 4; go_simp <;> with_reducible rfl)
    try simp only [List.getElem_toArray, List.getElem_cons_succ, List.getElem_cons_zero, Act.put, List.setIfInBounds_toArray, List.set_cons_zero, List.set_cons_succ]
    refine reg_take (i := 17) (v := ?_) rfl (by kernel_rfl) (by kernel_rfl) (by kernel_rfl) (fun _ _ _ h => h) (Or.inl ⟨by kernel_rfl, ?_⟩) hS ?_
    rotate_left
    · (intro w' hSw; obtain rfl := hSw; have u0 : w2.drew.cell? ⟨b, off, none⟩ = some (.int .i64 xf) := HC.out.1.1; have u1 : w2.drew.cell? ⟨b, off + m * 3, none⟩ = some (.int .i64 xt) := HC.out.1.2; have u2 := H2.out.bx.drew.cell 2; have u3 := H2.out.bx.drew.cell 3; have u4 := H2.out.bx.drew.cell 4; go_simp <;> with_reducible rfl)
    try simp only [List.getElem_toArray, List.getElem_cons_succ, List.getElem_cons_zero, Act.put, List.setIfInBounds_toArray, List.set_cons_zero, List.set_cons_succ]
    refine reg_take (i := 18) (v := ?_) rfl (by kernel_rfl) (by kernel_rfl) (by kernel_rfl) (fun _ _ _ h => h) (Or.inl ⟨by kernel_rfl, ?_⟩) hS ?_
    rotate_left
    · (intro w' hSw; obtain rfl := hSw; have u0 : w2.drew.cell? ⟨b, off, none⟩ = some (.int .i64 xf) := HC.out.1.1; have u1 : w2.drew.cell? ⟨b, off + m * 3, none⟩ = some (.int .i64 xt) := HC.out.1.2; have u2 := H2.out.bx.drew.cell 2; have u3 := H2.out.bx.drew.cell 3; have u4 := H2.out.bx.drew.cell 4; go_simp <;> with_reducible rfl)
    try simp only [List.getElem_toArray, List.getElem_cons_succ, List.getElem_cons_zero, Act.put, List.setIfInBounds_toArray, List.set_cons_zero, List.set_cons_succ]
    refine reg_take (i := 19) (v := ?_) rfl (by kernel_rfl) (by kernel_rfl) (by kernel_rfl) (fun _ _ _ h => h) (Or.inl ⟨by kernel_rfl, ?_⟩) hS ?_
    rotate_left
    · (intro w' hSw; obtain rfl := hSw; have u0 : w2.drew.cell? ⟨b, off, none⟩ = some (.int .i64 xf) := HC.out.1.1; have u1 : w2.drew.cell? ⟨b, off + m * 3, none⟩ = some (.int .i64 xt) := HC.out.1.2; have u2 := H2.out.bx.drew.cell 2; have u3 := H2.out.bx.drew.cell 3; have u4 := H2.out.bx.drew.cell 4; go_simp <;> with_reducible rfl)
    try simp only [List.getElem_toArray, List.getElem_cons_succ, List.getElem_cons_zero, Act.put, List.setIfInBounds_toArray, List.set_cons_zero, List.set_cons_succ]
    refine reg_take (i := 20) (v := ?_) rfl (by kernel_rfl) (by kernel_rfl) (by kernel_rfl) (fun _ _ _ h => h) (Or.inl ⟨by kernel_rfl, ?_⟩) hS ?_
    rotate_left
    · (intro w' hSw; obtain rfl := hSw; have u0 : w2.drew.cell? ⟨b, off, none⟩ = some (.int .i64 xf) := HC.out.1.1; have u1 : w2.drew.cell? ⟨b, off + m * 3, none⟩ = some (.int .i64 xt) := HC.out.1.2; have u2 := H2.out.bx.drew.cell 2; have u3 := H2.out.bx.drew.cell 3; have u4 := H2.out.bx.drew.cell 4; go_simp <;> with_reducible rfl)
    try simp only [List.getElem_toArray, List.getElem_cons_succ, List.getElem_cons_zero, Act.put, List.setIfInBounds_toArray, List.set_cons_zero, List.set_cons_succ]
    refine reg_take (i := 21) (v := ?_) rfl (by kernel_rfl) (by kernel_rfl) (by kernel_rfl) (fun _ _ _ h => h) (Or.inl ⟨by kernel_rfl, ?_⟩) hS ?_
    rotate_left
    · (intro w' hSw; obtain rfl := hSw; have u0 : w2.drew.cell? ⟨b, off, none⟩ = some (.int .i64 xf) := HC.out.1.1; have u1 : w2.drew.cell? ⟨b, off + m * 3, none⟩ = some (.int .i64 xt) := HC.out.1.2; have u2 := H2.out.bx.drew.cell 2; have u3 := H2.out.bx.drew.cell 3; have u4 := H2.out.bx.drew.cell 4; go_simp <;> with_reducible rfl)
    try simp only [List.getElem_toArray, List.getElem_cons_succ, List.getElem_cons_zero, Act.put, List.setIfInBounds_toArray, List.set_cons_zero, List.set_cons_succ]
    refine reg_take (i := 22) (v := ?_) rfl (by kernel_rfl) (by kernel_rfl) (by kernel_rfl) (fun _ _ _ h => h) (Or.inl ⟨by kernel_rfl, ?_⟩) hS ?_
    rotate_left
    · (intro w' hSw; obtain rfl := hSw; have u0 : w2.drew.cell? ⟨b, off, none⟩ = some (.int .i64 xf) := HC.out.1.1; have u1 : w2.drew.cell? ⟨b, off + m * 3, none⟩ = some (.int .i64 xt) := HC.out.1.2; have u2 := H2.out.bx.drew.cell 2; have u3 := H2.out.bx.drew.cell 3; have u4 := H2.out.bx.drew.cell 4; go_simp <;> with_reducible rfl)
    try simp only [List.getElem_toArray, List.getElem_cons_succ, List.getElem_cons_zero, Act.put, List.setIfInBounds_toArray, List.set_cons_zero, List.set_cons_succ]
    refine reg_take (i := 23) (v := ?_) rfl (by kernel_rfl) (by kernel_rfl) (by kernel_rfl) (fun _ _ _ h => h) (Or.inl ⟨by kernel_rfl, ?_⟩) hS ?_
    rotate_left
    · (intro w' hSw; obtain rfl := hSw; have u0 : w2.drew.cell? ⟨b, off, none⟩ = some (.int .i64 xf) := HC.out.1.1; have u1 : w2.drew.cell? ⟨b, off + m * 3, none⟩ = some (.int .i64 xt) := HC.out.1.2; have u2 := H2.out.bx.drew.cell 2; have u3 := H2.out.bx.drew.cell 3; have u4 := H2.out.bx.drew.cell 4; go_simp <;> with_reducible rfl)
    try simp only [List.getElem_toArray, List.getElem_cons_succ, List.getElem_cons_zero, Act.put, List.setIfInBounds_toArray, List.set_cons_zero, List.set_cons_succ]
    refine reg_take (i := 24) (v := ?_) rfl (by kernel_rfl) (by kernel_rfl) (by kernel_rfl) (fun _ _ _ h => h) (Or.inl ⟨by kernel_rfl, ?_⟩) hS ?_
    rotate_left
    · (intro w' hSw; obtain rfl := hSw; have u0 : w2.drew.cell? ⟨b, off, none⟩ = some (.int .i64 xf) := HC.out.1.1; have u1 : w2.drew.cell? ⟨b, off + m * 3, none⟩ = some (.int .i64 xt) := HC.out.1.2; have u2 := H2.out.bx.drew.cell 2; have u3 := H2.out.bx.drew.cell 3; have u4 := H2.out.bx.drew.cell 4; go_simp <;> with_reducible rfl)
    try simp only [List.getElem_toArray, List.getElem_cons_succ, List.getElem_cons_zero, Act.put, List.setIfInBounds_toArray, List.set_cons_zero, List.set_cons_succ]
    refine reg_take (i := 25) (v := ?_) rfl (by kernel_rfl) (by kernel_rfl) (by kernel_rfl) (fun _ _ _ h => h) (Or.inl ⟨by kernel_rfl, ?_⟩) hS ?_
    rotate_left
    · (intro w' hSw; obtain rfl := hSw; have u0 : w2.drew.cell? ⟨b, off, none⟩ = some (.int .i64 xf) := HC.out.1.1; have u1 : w2.drew.cell? ⟨b, off + m * 3, none⟩ = some (.int .i64 xt) := HC.out.1.2; have u2 := H2.out.bx.drew.cell 2; have u3 := H2.out.bx.drew.cell 3; have u4 := H2.out.bx.drew.cell 4; go_simp <;> with_reducible rfl)
    try simp only [List.getElem_toArray, List.getElem_cons_succ, List.getElem_cons_zero, Act.put, List.setIfInBounds_toArray, List.set_cons_zero, List.set_cons_succ]
    refine reg_take (i := 26) (v := ?_) rfl (by kernel_rfl) (by kernel_rfl) (by kernel_rfl) (fun _ _ _ h => h) (Or.inl ⟨by kernel_rfl, ?_⟩) hS ?_
    rotate_left
    · (intro w' hSw; obtain rfl := hSw; have u0 : w2.drew.cell? ⟨b, off, none⟩ = some (.int .i64 xf) := HC.out.1.1; have u1 : w2.drew.cell? ⟨b, off + m * 3, none⟩ = some (.int .i64 xt) := HC.out.1.2; have u2 := H2.out.bx.drew.cell 2; have u3 := H2.out.bx.drew.cell 3; have u4 := H2.out.bx.drew.cell 4; go_simp <;> with_reducible rfl)
    try simp only [List.getElem_toArray, List.getElem_cons_succ, List.getElem_cons_zero, Act.put, List.setIfInBounds_toArray, List.set_cons_zero, List.set_cons_succ]
    refine reg_take (i := 27) (v := ?_) rfl (by kernel_rfl) (by kernel_rfl) (by kernel_rfl) (fun _ _ _ h => h) (Or.inl ⟨by kernel_rfl, ?_⟩) hS ?_
    rotate_left
    · (intro w' hSw; obtain rfl := hSw; have u0 : w2.drew.cell? ⟨b, off, none⟩ = some (.int .i64 xf) := HC.out.1.1; have u1 : w2.drew.cell? ⟨b, off + m * 3, none⟩ = some (.int .i64 xt) := HC.out.1.2; have u2 := H2.out.bx.drew.cell 2; have u3 := H2.out.bx.drew.cell 3; have u4 := H2.out.bx.drew.cell 4; go_simp <;> with_reducible rfl)
    try simp only [List.getElem_toArray, List.getElem_cons_succ, List.getElem_cons_zero, Act.put, List.setIfInBounds_toArray, List.set_cons_zero, List.set_cons_succ]
    refine reg_take (i := 28) (v := ?_) rfl (by kernel_rfl) (by kernel_rfl) (by kernel_rfl) (fun _ _ _ h => h) (Or.inl ⟨by kernel_rfl, ?_⟩) hS ?_
    rotate_left
    · (intro w' hSw; obtain rfl := hSw; have u0 : w2.drew.cell? ⟨b, off, none⟩ = some (.int .i64 xf) := HC.out.1.1; have u1 : w2.drew.cell? ⟨b, off + m * 3, none⟩ = some (.int .i64 xt) := HC.out.1.2; have u2 := H2.out.bx.drew.cell 2; have u3 := H2.out.bx.drew.cell 3; have u4 := H2.out.bx.drew.cell 4; go_simp <;> with_reducible rfl)
    try simp only [List.getElem_toArray, List.getElem_cons_succ, List.getElem_cons_zero, Act.put, List.setIfInBounds_toArray, List.set_cons_zero, List.set_cons_succ]
    refine reg_take (i := 29) (v := ?_) rfl (by kernel_rfl) (by kernel_rfl) (by kernel_rfl) (fun _ _ _ h => h) (Or.inl ⟨by kernel_rfl, ?_⟩) hS ?_
    rotate_left
    · (intro w' hSw; obtain rfl := hSw; have u0 : w2.drew.cell? ⟨b, off, none⟩ = some (.int .i64 xf) := HC.out.1.1; have u1 : w2.drew.cell? ⟨b, off + m * 3, none⟩ = some (.int .i64 xt) := HC.out.1.2; have u2 := H2.out.bx.drew.cell 2; have u3 := H2.out.bx.drew.cell 3; have u4 := H2.out.bx.drew.cell 4; go_simp <;> with_reducible rfl)
    try simp only [List.getElem_toArray, List.getElem_cons_succ, List.getElem_cons_zero, Act.put, List.setIfInBounds_toArray, List.set_cons_zero, List.set_cons_succ]
    refine wpAnyH_done (by kernel_rfl) ?_ _
    try simp only [List.getElem_toArray, List.getElem_cons_succ, List.getElem_cons_zero]
    try simp only [List.getElem_toArray, List.getElem_cons_succ, List.getElem_cons_zero, Act.put, List.setIfInBounds_toArray, List.set_cons_zero, List.set_cons_succ]
    clear hS
    go_wp2_with fail
    go_ret2
    exact ⟨H2.out.bel.drew, .inl ⟨_, c2, rfl, HC.out.2.2.1, HC.out.2.1⟩⟩
  · have HN := Lib.hid hN
    clear hN
    go_wp2_with fail
    refine HK.out.to (fun wx => DcS w wx g #[.int .i64 (xa : Nat), .int .i64 (xb : Nat), .int .i64 xf, .int .i64 xt, .int .i64 (xn : Nat)] p (.slice Ab ol cb)) (fun _ h => h) (H2.out) ?_
    clear HK hS
    have hS : (fun wx => DcS w wx g #[.int .i64 (xa : Nat), .int .i64 (xb : Nat), .int .i64 xf, .int .i64 xt, .int .i64 (xn : Nat)] p (.slice Ab ol cb)) (w2) := H2.out
    try simp only [List.getElem_toArray, List.getElem_cons_succ, List.getElem_cons_zero, Act.put, List.setIfInBounds_toArray, List.set_cons_zero, List.set_cons_succ]
    refine reg_take (i := 13) (v := ?_) rfl (by kernel_rfl) (by kernel_rfl) (by kernel_rfl) (fun _ _ _ h => h) (Or.inl ⟨by kernel_rfl, ?_⟩) hS ?_
    rotate_left
    · (intro w' hSw; go_simp <;> with_reducible rfl)
    try simp only [List.getElem_toArray, List.getElem_cons_succ, List.getElem_cons_zero, Act.put, List.setIfInBounds_toArray, List.set_cons_zero, List.set_cons_succ]
    refine reg_take (i := 14) (v := ?_) rfl (by kernel_rfl) (by kernel_rfl) (by kernel_rfl) (fun _ _ _ h => h) (Or.inl ⟨by kernel_rfl, ?_⟩) hS ?_
    rotate_left
    · (intro w' hSw; go_simp <;> with_reducible rfl)
    try simp only [List.getElem_toArray, List.getElem_cons_succ, List.getElem_cons_zero, Act.put, List.setIfInBounds_toArray, List.set_cons_zero, List.set_cons_succ]
    refine reg_take (i := 15) (v := ?_) rfl (by kernel_rfl) (by kernel_rfl) (by kernel_rfl) (fun _ _ _ h => h) (Or.inl ⟨by kernel_rfl, ?_⟩) hS ?_
    rotate_left
    · (intro w' hSw; go_simp <;> with_reducible rfl)
    try simp only [List.getElem_toArray, List.getElem_cons_succ, List.getElem_cons_zero, Act.put, List.setIfInBounds_toArray, List.set_cons_zero, List.set_cons_succ]
    refine reg_take (i := 16) (v := ?_) rfl (by kernel_rfl) (by kernel_rfl) (by kernel_rfl) (fun _ _ _ h => h) (Or.inl ⟨by kernel_rfl, ?_⟩) hS ?_
    rotate_left
    · (intro w' hSw; go_simp <;> with_reducible rfl)
    try simp only [List.getElem_toArray, List.getElem_cons_succ, List.getElem_cons_zero, Act.put, List.setIfInBounds_toArray, List.set_cons_zero, List.set_cons_succ]
    refine reg_take (i := 17) (v := ?_) rfl (by kernel_rfl) (by kernel_rfl) (by kernel_rfl) (fun _ _ _ h => h) (Or.inl ⟨by kernel_rfl, ?_⟩) hS ?_
    rotate_left
    · (intro w' hSw; go_simp <;> with_reducible rfl)
    try simp only [List.getElem_toArray, List.getElem_cons_succ, List.getElem_cons_zero, Act.put, List.setIfInBounds_toArray, List.set_cons_zero, List.set_cons_succ]
    refine wpAnyH_done (by kernel_rfl) ?_ _
    try simp only [List.getElem_toArray, List.getElem_cons_succ, List.getElem_cons_zero]
    try simp only [List.getElem_toArray, List.getElem_cons_succ, List.getElem_cons_zero, Act.put, List.setIfInBounds_toArray, List.set_cons_zero, List.set_cons_succ]
    clear hS
    go_upto_region 2 with (fail)
    have hS : (fun wx => wx = w2.drew) w2.drew := rfl
    have hS : (fun wx => wx = w2.drew) (w2.drew) := hS
    refine reg_start (fun wx => wx = w2.drew) (by kernel_rfl) hS ?_
    refine reg_take (i := 0) (v := ?_) rfl (by kernel_rfl) (by kernel_rfl) (by kernel_rfl) (fun _ _ _ h => h) (Or.inl ⟨by kernel_rfl, ?_⟩) hS ?_
    rotate_left
    · (intro w' hSw; go_simp <;> with_reducible rfl)
    try simp only [List.getElem_toArray, List.getElem_cons_succ, List.getElem_cons_zero, Act.put, List.setIfInBounds_toArray, List.set_cons_zero, List.set_cons_succ]
    refine reg_take (i := 1) (v := ?_) rfl (by kernel_rfl) (by kernel_rfl) (by kernel_rfl) (fun _ _ _ h => h) (Or.inl ⟨by kernel_rfl, ?_⟩) hS ?_
    rotate_left
    · (intro w' hSw; go_simp <;> with_reducible rfl)
    try simp only [List.getElem_toArray, List.getElem_cons_succ, List.getElem_cons_zero, Act.put, List.setIfInBounds_toArray, List.set_cons_zero, List.set_cons_succ]
    refine reg_take (i := 2) (v := ?_) rfl (by kernel_rfl) (by kernel_rfl) (by kernel_rfl) (fun _ _ _ h => h) (Or.inl ⟨by kernel_rfl, ?_⟩) hS ?_
    rotate_left
    · (intro w' hSw; go_simp <;> with_reducible rfl)
    try simp only [List.getElem_toArray, List.getElem_cons_succ, List.getElem_cons_zero, Act.put, List.setIfInBounds_toArray, List.set_cons_zero, List.set_cons_succ]
    refine reg_take (i := 3) (v := undef) rfl (by kernel_rfl) (by kernel_rfl) (by kernel_rfl) (fun _ _ _ h => h) (Or.inr ⟨by kernel_rfl, rfl⟩) hS ?_
    try simp only [List.getElem_toArray, List.getElem_cons_succ, List.getElem_cons_zero, Act.put, List.setIfInBounds_toArray, List.set_cons_zero, List.set_cons_succ]
    refine reg_take (i := 4) (v := undef) rfl (by kernel_rfl) (by kernel_rfl) (by kernel_rfl) (fun _ _ _ h => h) (Or.inr ⟨by kernel_rfl, rfl⟩) hS ?_
    try simp only [List.getElem_toArray, List.getElem_cons_succ, List.getElem_cons_zero, Act.put, List.setIfInBounds_toArray, List.set_cons_zero, List.set_cons_succ]
    refine reg_take (i := 5) (v := undef) rfl (by kernel_rfl) (by kernel_rfl) (by kernel_rfl) (fun _ _ _ h => h) (Or.inr ⟨by kernel_rfl, rfl⟩) hS ?_
    try simp only [List.getElem_toArray, List.getElem_cons_succ, List.getElem_cons_zero, Act.put, List.setIfInBounds_toArray, List.set_cons_zero, List.set_cons_succ]
    refine reg_take (i := 6) (v := undef) rfl (by kernel_rfl) (by kernel_rfl) (by kernel_rfl) (fun _ _ _ h => h) (Or.inr ⟨by kernel_rfl, rfl⟩) hS ?_
    try simp only [List.getElem_toArray, List.getElem_cons_succ, List.getElem_cons_zero, Act.put, List.setIfInBounds_toArray, List.set_cons_zero, List.set_cons_succ]
    refine reg_take (i := 7) (v := undef) rfl (by kernel_rfl) (by kernel_rfl) (by kernel_rfl) (fun _ _ _ h => h) (Or.inr ⟨by kernel_rfl, rfl⟩) hS ?_
    try simp only [List.getElem_toArray, List.getElem_cons_succ, List.getElem_cons_zero, Act.put, List.setIfInBounds_toArray, List.set_cons_zero, List.set_cons_succ]
    refine reg_take (i := 8) (v := ?_) rfl (by kernel_rfl) (by kernel_rfl) (by kernel_rfl) (fun _ _ _ h => h) (Or.inl ⟨by kernel_rfl, ?_⟩) hS ?_
    rotate_left
    · (intro w' hSw; go_simp <;> with_reducible rfl)
    try simp only [List.getElem_toArray, List.getElem_cons_succ, List.getElem_cons_zero, Act.put, List.setIfInBounds_toArray, List.set_cons_zero, List.set_cons_succ]
    refine reg_take (i := 9) (v := ?_) rfl (by kernel_rfl) (by kernel_rfl) (by kernel_rfl) (fun _ _ _ h => h) (Or.inl ⟨by kernel_rfl, ?_⟩) hS ?_
    rotate_left
    · (intro w' hSw; go_simp <;> with_reducible rfl)
    try simp only [List.getElem_toArray, List.getElem_cons_succ, List.getElem_cons_zero, Act.put, List.setIfInBounds_toArray, List.set_cons_zero, List.set_cons_succ]
    refine reg_take (i := 10) (v := undef) rfl (by kernel_rfl) (by kernel_rfl) (by kernel_rfl) (fun _ _ _ h => h) (Or.inr ⟨by kernel_rfl, rfl⟩) hS ?_
    try simp only [List.getElem_toArray, List.getElem_cons_succ, List.getElem_cons_zero, Act.put, List.setIfInBounds_toArray, List.set_cons_zero, List.set_cons_succ]
    refine reg_take (i := 11) (v := undef) rfl (by kernel_rfl) (by kernel_rfl) (by kernel_rfl) (fun _ _ _ h => h) (Or.inr ⟨by kernel_rfl, rfl⟩) hS ?_
    try simp only [List.getElem_toArray, List.getElem_cons_succ, List.getElem_cons_zero, Act.put, List.setIfInBounds_toArray, List.set_cons_zero, List.set_cons_succ]
    refine reg_take (i := 12) (v := undef) rfl (by kernel_rfl) (by kernel_rfl) (by kernel_rfl) (fun _ _ _ h => h) (Or.inr ⟨by kernel_rfl, rfl⟩) hS ?_
    try simp only [List.getElem_toArray, List.getElem_cons_succ, List.getElem_cons_zero, Act.put, List.setIfInBounds_toArray, List.set_cons_zero, List.set_cons_succ]
    refine reg_take (i := 13) (v := undef) rfl (by kernel_rfl) (by kernel_rfl) (by kernel_rfl) (fun _ _ _ h => h) (Or.inr ⟨by kernel_rfl, rfl⟩) hS ?_
    try simp only [List.getElem_toArray, List.getElem_cons_succ, List.getElem_cons_zero, Act.put, List.setIfInBounds_toArray, List.set_cons_zero, List.set_cons_succ]
    refine reg_take (i := 14) (v := undef) rfl (by kernel_rfl) (by kernel_rfl) (by kernel_rfl) (fun _ _ _ h => h) (Or.inr ⟨by kernel_rfl, rfl⟩) hS ?_
    try simp only [List.getElem_toArray, List.getElem_cons_succ, List.getElem_cons_zero, Act.put, List.setIfInBounds_toArray, List.set_cons_zero, List.set_cons_succ]
    refine reg_take (i := 15) (v := undef) rfl (by kernel_rfl) (by kernel_rfl) (by kernel_rfl) (fun _ _ _ h => h) (Or.inr ⟨by kernel_rfl, rfl⟩) hS ?_
    try simp only [List.getElem_toArray, List.getElem_cons_succ, List.getElem_cons_zero, Act.put, List.setIfInBounds_toArray, List.set_cons_zero, List.set_cons_succ]
    refine reg_take (i := 16) (v := undef) rfl (by kernel_rfl) (by kernel_rfl) (by kernel_rfl) (fun _ _ _ h => h) (Or.inr ⟨by kernel_rfl, rfl⟩) hS ?_
    try simp only [List.getElem_toArray, List.getElem_cons_succ, List.getElem_cons_zero, Act.put, List.setIfInBounds_toArray, List.set_cons_zero, List.set_cons_succ]
    refine reg_take (i := 17) (v := ?_) rfl (by kernel_rfl) (by kernel_rfl) (by kernel_rfl) (fun _ _ _ h => h) (Or.inl ⟨by kernel_rfl, ?_⟩) hS ?_
    rotate_left
    · (intro w' hSw; go_simp <;> with_reducible rfl)
    try simp only [List.getElem_toArray, List.getElem_cons_succ, List.getElem_cons_zero, Act.put, List.setIfInBounds_toArray, List.set_cons_zero, List.set_cons_succ]
    refine reg_take (i := 18) (v := ?_) rfl (by kernel_rfl) (by kernel_rfl) (by kernel_rfl) (fun _ _ _ h => h) (Or.inl ⟨by kernel_rfl, ?_⟩) hS ?_
    rotate_left
    · (intro w' hSw; go_simp <;> with_reducible rfl)
    try simp only [List.getElem_toArray, List.getElem_cons_succ, List.getElem_cons_zero, Act.put, List.setIfInBounds_toArray, List.set_cons_zero, List.set_cons_succ]
    refine reg_take (i := 19) (v := undef) rfl (by kernel_rfl) (by kernel_rfl) (by kernel_rfl) (fun _ _ _ h => h) (Or.inr ⟨by kernel_rfl, rfl⟩) hS ?_
    try simp only [List.getElem_toArray, List.getElem_cons_succ, List.getElem_cons_zero, Act.put, List.setIfInBounds_toArray, List.set_cons_zero, List.set_cons_succ]
    refine reg_take (i := 20) (v := undef) rfl (by kernel_rfl) (by kernel_rfl) (by kernel_rfl) (fun _ _ _ h => h) (Or.inr ⟨by kernel_rfl, rfl⟩) hS ?_
    try simp only [List.getElem_toArray, List.getElem_cons_succ, List.getElem_cons_zero, Act.put, List.setIfInBounds_toArray, List.set_cons_zero, List.set_cons_succ]
    refine reg_take (i := 21) (v := undef) rfl (by kernel_rfl) (by kernel_rfl) (by kernel_rfl) (fun _ _ _ h => h) (Or.inr ⟨by kernel_rfl, rfl⟩) hS ?_
    try simp only [List.getElem_toArray, List.getElem_cons_succ, List.getElem_cons_zero, Act.put, List.setIfInBounds_toArray, List.set_cons_zero, List.set_cons_succ]
    refine reg_take (i := 22) (v := undef) rfl (by kernel_rfl) (by kernel_rfl) (by kernel_rfl) (fun _ _ _ h => h) (Or.inr ⟨by kernel_rfl, rfl⟩) hS ?_
    try simp only [List.getElem_toArray, List.getElem_cons_succ, List.getElem_cons_zero, Act.put, List.setIfInBounds_toArray, List.set_cons_zero, List.set_cons_succ]
    refine reg_take (i := 23) (v := undef) rfl (by kernel_rfl) (by kernel_rfl) (by kernel_rfl) (fun _ _ _ h => h) (Or.inr ⟨by kernel_rfl, rfl⟩) hS ?_
    try simp only [List.getElem_toArray, List.getElem_cons_succ, List.getElem_cons_zero, Act.put, List.setIfInBounds_toArray, List.set_cons_zero, List.set_cons_succ]
    refine reg_take (i := 24) (v := undef) rfl (by kernel_rfl) (by kernel_rfl) (by kernel_rfl) (fun _ _ _ h => h) (Or.inr ⟨by kernel_rfl, rfl⟩) hS ?_
    try simp only [List.getElem_toArray, List.getElem_cons_succ, List.getElem_cons_zero, Act.put, List.setIfInBounds_toArray, List.set_cons_zero, List.set_cons_succ]
    refine reg_take (i := 25) (v := undef) rfl (by kernel_rfl) (by kernel_rfl) (by kernel_rfl) (fun _ _ _ h => h) (Or.inr ⟨by kernel_rfl, rfl⟩) hS ?_
    try simp only [List.getElem_toArray, List.getElem_cons_succ, List.getElem_cons_zero, Act.put, List.setIfInBounds_toArray, List.set_cons_zero, List.set_cons_succ]
    refine reg_take (i := 26) (v := undef) rfl (by kernel_rfl) (by kernel_rfl) (by kernel_rfl) (fun _ _ _ h => h) (Or.inr ⟨by kernel_rfl, rfl⟩) hS ?_
    try simp only [List.getElem_toArray, List.getElem_cons_succ, List.getElem_cons_zero, Act.put, List.setIfInBounds_toArray, List.set_cons_zero, List.set_cons_succ]
    refine reg_take (i := 27) (v := undef) rfl (by kernel_rfl) (by kernel_rfl) (by kernel_rfl) (fun _ _ _ h => h) (Or.inr ⟨by kernel_rfl, rfl⟩) hS ?_
    try simp only [List.getElem_toArray, List.getElem_cons_succ, List.getElem_cons_zero, Act.put, List.setIfInBounds_toArray, List.set_cons_zero, List.set_cons_succ]
    refine reg_take (i := 28) (v := undef) rfl (by kernel_rfl) (by kernel_rfl) (by kernel_rfl) (fun _ _ _ h => h) (Or.inr ⟨by kernel_rfl, rfl⟩) hS ?_
    try simp only [List.getElem_toArray, List.getElem_cons_succ, List.getElem_cons_zero, Act.put, List.setIfInBounds_toArray, List.set_cons_zero, List.set_cons_succ]
    refine reg_take (i := 29) (v := ?_) rfl (by kernel_rfl) (by kernel_rfl) (by kernel_rfl) (fun _ _ _ h => h) (Or.inl ⟨by kernel_rfl, ?_⟩) hS ?_
    rotate_left
    · (intro w' hSw; go_simp <;> with_reducible rfl)
    try simp only [List.getElem_toArray, List.getElem_cons_succ, List.getElem_cons_zero, Act.put, List.setIfInBounds_toArray, List.set_cons_zero, List.set_cons_succ]
    refine wpAnyH_done (by kernel_rfl) ?_ _
    try simp only [List.getElem_toArray, List.getElem_cons_succ, List.getElem_cons_zero]
    try simp only [List.getElem_toArray, List.getElem_cons_succ, List.getElem_cons_zero, Act.put, List.setIfInBounds_toArray, List.set_cons_zero, List.set_cons_succ]
    clear hS
    go_wp2_with fail
    go_ret2
    exact ⟨H2.out.bel.drew, .inr ⟨HN.out, rfl⟩⟩
end Go.Proofs.YtopbbicjbjmdnaaGreatDoor
namespace Go.Proofs.YtopbbicjbjmdnaaGreatDoor
open Go.RowKit
def ptCells (l : List Pt) : List Value := l.flatMap fun p => [.int .i64 p.t, .int .i64 p.v, .int .i64 p.s]
theorem ptCells_append (l l' : List Pt) : ptCells (l ++ l') = ptCells l ++ ptCells l' := by simp [ptCells]
theorem ptCells_length (l : List Pt) : (ptCells l).length = l.length * 3 := by
  induction l with
  | nil => rfl
  | cons p l ih =>
    show (Value.int .i64 p.t :: Value.int .i64 p.v :: Value.int .i64 p.s :: ptCells l).length = _
    simp only [List.length_cons, ih]
    omega
theorem ptCells_at : ∀ (l : List Pt) (j : Nat) (p : Pt), l[j]? = some p → (ptCells l)[j * 3]? = some (.int .i64 p.t) ∧ (ptCells l)[j * 3 + 1]? = some (.int .i64 p.v) ∧ (ptCells l)[j * 3 + 2]? = some (.int .i64 p.s)
  | [], _, _, h => by simp at h
  | q :: l, 0, p, h => by
    simp at h
    subst h
    exact ⟨rfl, rfl, rfl⟩
  | q :: l, j + 1, p, h => by
    simp at h
    obtain ⟨h1, h2, h3⟩ := ptCells_at l j p h
    have e : ptCells (q :: l) = .int .i64 q.t :: .int .i64 q.v :: .int .i64 q.s :: ptCells l := rfl
    rw [e, show (j + 1) * 3 = j * 3 + 1 + 1 + 1 by omega]
    simp only [List.getElem?_cons_succ]
    exact ⟨h1, h2, h3⟩
/-- The slice v owns just the points l. -/
def PtRow (w : World) (base : Nat) (v : Value) (l : List Pt) : Prop := w.ownsRow base 30 3 v l.length (ptCells l)
namespace PtRow
variable {w w' : World} {base : Nat} {v : Value} {l : List Pt}
theorem nil (w : World) (base : Nat) : PtRow w base (.slice none 0 0) [] := ⟨rfl, .inl ⟨rfl, rfl⟩⟩
theorem form (h : PtRow w base v l) : ∃ A c, v = .slice A l.length c ∧ l.length ≤ c := by
  obtain ⟨A, c, h1, h2, -⟩ := own_form h
  exact ⟨A, c, h1, h2⟩
theorem sl {A : Option Addr} {c : Nat} (h : PtRow w base (.slice A l.length c) l) : SlP w (fun k => base ≤ k ∧ (Value.slice A l.length c).ownBlock = some k) A l.length (fun j => l.getD j ⟨0, 0, 0⟩) := by
  intro hn
  obtain ⟨g, hA, hb⟩ : ∃ g, A = some ⟨g, 0, none⟩ ∧ base ≤ g := by
    rcases h.2 with ⟨_, h0⟩ | ⟨g, _, _, hv, hb, _⟩
    · omega
    · exact ⟨g, by injection hv, hb⟩
  subst hA
  refine ⟨g, 0, rfl, ⟨hb, rfl⟩, fun j hj => ?_⟩
  have hadd : ∀ i, (⟨g, 0, none⟩ : Addr).add i = ⟨g, 0 + i, none⟩ := fun i => by unfold Addr.add; split <;> simp_all
  obtain ⟨h1, h2, h3⟩ := ptCells_at l j l[j] (List.getElem?_eq_getElem hj)
  have e : (fun j => l.getD j (⟨0, 0, 0⟩ : Pt)) j = l[j] := by simp [List.getD_eq_getElem?_getD, hj]
  rw [e]
  have c1 := World.ownsRow.cells h (g := g) rfl _ _ h1
  have c2 := World.ownsRow.cells h (g := g) rfl _ _ h2
  have c3 := World.ownsRow.cells h (g := g) rfl _ _ h3
  rw [hadd] at c1 c2 c3
  exact ⟨c1, c2, c3⟩
theorem keeps {S : Nat → Prop} (h : PtRow w base v l) (hk : Keeps S w w') (hne : ∀ g, v.ownBlock = some g → ¬ S g) : PtRow w' base v l := own_keeps h hk hne
theorem below (h : PtRow w base v l) (hb : Below w.heap.size w w') : PtRow w' base v l := own_keeps h (Keeps.of_below (S := fun _ => False) hb) (fun _ _ h => h)
theorem ownBlock_lt (h : PtRow w base v l) : ∀ g, v.ownBlock = some g → base ≤ g ∧ g < w.heap.size := by
  intro g hg
  rcases h.2 with ⟨rfl, _⟩ | ⟨g', cap, cur, rfl, hb, hh, _⟩
  · simp [Value.ownBlock] at hg
  · have : g' = g := by simpa [Value.ownBlock] using hg
    subst this
    exact ⟨hb, (Array.getElem?_eq_some_iff.1 hh).1⟩
end PtRow
/-- Behind an append: known blocks of another type than the row's stay. -/
theorem Own.grown {w0 w w' : World} {L : List (Nat × TypeId × Array Value)} {row : Option Nat} (h : Own w0 L w) (hg : w.grownBy w' row) (hrow : ∀ k, row = some k → w0.heap.size ≤ k ∧ ∀ b ∈ L, b.1 ≠ k) : Own w0 L w' := by
  have hk : Keeps (fun k => row = some k) w w' := (Keeps.refl _ w).grown hg (fun k e _ => e)
  refine ⟨?_, fun b hb => ⟨(h.blk b hb).1, (h.blk b hb).2.keeps hk (fun e => (hrow _ e).2 b hb rfl)⟩, h.nd⟩
  exact h.bel.trans (hk.below h.bel.size (fun k hlt e => by have := (hrow k e).1; omega))
theorem points_info : (Tryz.prog.info? 30).map (fun i => (i.zero, i.size, i.bytes)) = some (some (.agg #[.int .i64 0, .int .i64 0, .int .i64 0]), 3, 24) := by kernel_rfl
/-- append(back, p): p lies alone in the block g. -/
theorem run_append_pt {w : World} {base g : Nat} {v : Value} {l : List Pt} {p : Pt} {c : Nat} {ty : TypeId} (hown : PtRow w base v l) (hg : Blk w g 30 #[.int .i64 p.t, .int .i64 p.v, .int .i64 p.s])
    (h63 : l.length < 4294967296) (hbase : base ≤ w.heap.size) :
    ∃ v' w', (Builtin.append_ #[31, 31] ty #[v, .slice (some ⟨g, 0, none⟩) 1 c]).run Tryz.prog w = .ok v' w' ∧ PtRow w' base v' (l ++ [p]) ∧ w.grownBy w' v.ownBlock ∧ (v'.ownBlock = v.ownBlock ∨ v'.ownBlock = some w.heap.size) := by
  obtain ⟨i, hi, hz, hs, hb⟩ := info_parts points_info
  have hadd : ∀ i, (⟨g, 0, none⟩ : Addr).add i = ⟨g, 0 + i, none⟩ := fun i => by unfold Addr.add; split <;> simp_all
  obtain ⟨v', w', h1, h2, h3, _, h4⟩ := run_append_own_at (P := Tryz.prog) w base 31 ty 30 i _ 3 24 Tryz.underlying31 hi hz hs hb rfl (by decide) v l.length (ptCells l) hown ⟨g, 0, none⟩ 1 c [.int .i64 p.t, .int .i64 p.v, .int .i64 p.s] rfl
    (fun j u hu => by
      rw [hadd, Nat.zero_add, hg.cell j]
      simpa using hu)
    (by intro u hu; simp at hu; rcases hu with rfl | rfl | rfl <;> rfl) (by unfold maxLen; omega) (by omega) hbase
  refine ⟨v', w', h1, ?_, h3, h4⟩
  unfold PtRow
  rw [ptCells_append, List.length_append]
  exact h2
theorem wpList_append_pt {w : World} {base g : Nat} {v : Value} {l : List Pt} {p : Pt} {c : Nat} {ops : Array Oper} {rest : List Oper} {o : Oper} {a : Act} {Q : Exit → Act → World → Prop} (hgd : o.guard = none) (s x : Operand)
    (ho : o.op = .call { callee := .builtin .append, args := #[s, x], argTypes := #[31, 31] }) (hs : a.eval s = v) (hx : a.eval x = .slice (some ⟨g, 0, none⟩) 1 c)
    (hown : PtRow w base v l) (hg : Blk w g 30 #[.int .i64 p.t, .int .i64 p.v, .int .i64 p.s]) (h63 : l.length < 4294967296) (hbase : base ≤ w.heap.size)
    (h : ∀ v' w', PtRow w' base v' (l ++ [p]) → w.grownBy w' v.ownBlock → (v'.ownBlock = v.ownBlock ∨ v'.ownBlock = some w.heap.size) → wpList Tryz.prog ops Q rest (a.put o.dst v') w') : wpList Tryz.prog ops Q (o :: rest) a w := by
  refine wpList_plain hgd fun K hK => ?_
  obtain ⟨v', w', hrun, h2, h3, h4⟩ := run_append_pt (ty := o.type) (c := c) hown hg h63 hbase
  unfold Oper.wp execOp
  simp only [ho, resolve, invoke, builtin, Sem.run_bind, Sem.run_pure, Result.andThen_ok, List.map_toArray, List.map_cons, List.map_nil, hs, hx, hrun]
  exact hK _ _ (h v' w' h2 h3 h4)
end Go.Proofs.YtopbbicjbjmdnaaGreatDoor
