/-
  Texts of this proof, joined: ColP, ColQ, ColR.
-/
import Derived.Test.YtopbbicjbjmdnaaGreatDoorJ11
import Derived.Test.YtopbbicjbjmdnaaGreatDoorJ08
import Derived.Lib.ConvBytes
import Derived.WalkKit
import Derived.WalkSpells
import Derived.WalkLawsBesides
import Derived.Outline
import Derived.Deep.Cut
import Derived.Laws.IdiomCopy
import Derived.Laws.OwnMore
namespace Go.Proofs.YtopbbicjbjmdnaaGreatDoor
open Go.RowKit
set_option linter.unusedVariables false
set_option linter.unusedSimpArgs false
theorem cAt_succ (I : List Nat) (j : Nat) : cAt I (j + 1) = cAt I j + (V.vtext (I.drop (cAt I j)) 1048576).2.1 := rfl
theorem oneU8c (w : World) : (sizeOf 5).run Tryz.prog w = .ok 1 w := by kernel_rfl
theorem bytesWorld_keeps (w : World) (e : TypeId) (s : ByteArray) : Keeps (fun _ => False) w (Lib.bytesWorld w e s) :=
  ⟨rfl, rfl, rfl, by rw [Lib.bytesWorld_size]; omega, fun k hk _ => Lib.bytesWorld_at_old w e s k hk⟩
theorem bytesWorld_sl (w : World) (e : TypeId) {p : List Nat} (hp : ∀ j, p.getD j 0 < 256) : Sl (Lib.bytesWorld w e (strB p)) (fun k => k = w.heap.size) (some ⟨w.heap.size, 0, none⟩) p.length (byteC p) := fun _ => by
  refine ⟨w.heap.size, 0, rfl, rfl, fun j hj => ?_⟩
  have h := Lib.bytesWorld_cell w e (strB p) j (by rw [strB_size]; exact hj)
  rw [Nat.zero_add, h]
  unfold byteC strB
  have hpj := hp j
  simp [List.getD_eq_getElem?_getD, hj] at hpj ⊢
  omega
/-- A part: its slice and its bytes, above block y. -/
def PartV (w : World) (y : Nat) (v : Value) (p : List Nat) : Prop := ∃ A c, v = .slice A p.length c ∧ Sl w (fun k => y < k) A p.length (byteC p)
theorem PartV.keeps {w w' : World} {y : Nat} {v : Value} {p : List Nat} (h : PartV w y v p) (hk : Keeps (fun k => k = y) w w') : PartV w' y v p := by
  obtain ⟨A, c, h1, h2⟩ := h
  exact ⟨A, c, h1, h2.keeps hk (fun k hk e => by omega)⟩
theorem keeps_any {w w' : World} {y : Nat} (h : Keeps (fun _ => False) w w') : Keeps (fun k => k = y) w w' := h.mono (fun _ _ h => h.elim)
/-- The state of parts: its columns at block y, the inner bytes, the parts ahead of j. -/
structure PSt (w wr : World) (y : Nat) (pv : Fin 3 → Value) (A : Option Addr) (I : List Nat) (j : Nat) : Prop where
  blk : Blk wr y 93 #[pv 0, pv 1, pv 2]
  inn : Sl wr (fun k => y < k) A I.length (byteC I)
  keep : Keeps (fun _ => False) w wr
  base : w.heap.size ≤ y
  part : ∀ c : Fin 3, c.val < j → PartV wr y (pv c) (cPt I c.val)
  shp : ∀ c, ∃ A n c0, pv c = .slice A n c0
theorem PSt.move {w wr w' : World} {y j j' : Nat} {pv pv' : Fin 3 → Value} {A : Option Addr} {I : List Nat} (h : PSt w wr y pv A I j) (hk : Keeps (fun k => k = y) wr w') (hb : Blk w' y 93 #[pv' 0, pv' 1, pv' 2])
    (hp : ∀ c : Fin 3, c.val < j' → PartV w' y (pv' c) (cPt I c.val)) (hs : ∀ c, ∃ A n c0, pv' c = .slice A n c0) : PSt w w' y pv' A I j' :=
  ⟨hb, h.inn.keeps hk (fun k hk e => by omega), h.keep.trans hk (fun k hk e => by have := h.base; omega), h.base, hp, hs⟩
theorem PSt.keeps {w wr w' : World} {y j : Nat} {pv : Fin 3 → Value} {A : Option Addr} {I : List Nat} (h : PSt w wr y pv A I j) (hk : Keeps (fun _ => False) wr w') : PSt w w' y pv A I j :=
  h.move (keeps_any hk) (h.blk.keeps hk (fun h => h)) (fun c hc => (h.part c hc).keeps (keeps_any hk)) h.shp
theorem PSt.drew {w wr : World} {y j : Nat} {pv : Fin 3 → Value} {A : Option Addr} {I : List Nat} (h : PSt w wr y pv A I j) : PSt w wr.drew y pv A I j := h.keeps ((Keeps.refl _ wr).drew)
theorem PSt.same {w wr : World} {y j : Nat} {pv : Fin 3 → Value} {A : Option Addr} {I : List Nat} (h : PSt w wr y pv A I j) (i : Nat) (u : Value) (e : #[pv 0, pv 1, pv 2].setIfInBounds i u = #[pv 0, pv 1, pv 2]) : PSt w (wr.setCell ⟨y, i, none⟩ u) y pv A I j := by
  have hk : Keeps (fun k => k = y) wr (wr.setCell ⟨y, i, none⟩ u) := (Keeps.refl (fun k => k = y) wr).setCell (p := ⟨y, i, none⟩) (fun _ => rfl) u
  have hb := h.blk.set i u
  rw [e] at hb
  exact h.move hk hb (fun c hc => (h.part c hc).keeps hk) h.shp
theorem PSt.put {w wr : World} {y j : Nat} {pv : Fin 3 → Value} {A : Option Addr} {I : List Nat} (h : PSt w wr y pv A I j) : PSt w (setFrom wr y 0 [pv 0, pv 1, pv 2]) y pv A I j := by
  have := ((h.same 0 (pv 0) rfl).same 1 (pv 1) rfl).same 2 (pv 2) rfl
  exact this
theorem upd_cells (pv : Fin 3 → Value) (c : Fin 3) (u : Value) : #[pv 0, pv 1, pv 2].setIfInBounds c.val u = #[upd pv c u 0, upd pv c u 1, upd pv c u 2] := by
  match c with
  | 0 => rfl
  | 1 => rfl
  | 2 => rfl
theorem PSt.storeAt {w wr W : World} {y : Nat} {pv : Fin 3 → Value} {A : Option Addr} {I : List Nat} (c : Fin 3) (h : PSt w wr y pv A I c.val) (hk0 : Keeps (fun _ => False) wr W) (n k : Nat) (hn : n = (cPt I c.val).length)
    (hs : Sl W (fun k => k = wr.heap.size) (some ⟨wr.heap.size, 0, none⟩) (cPt I c.val).length (byteC (cPt I c.val))) :
    PSt w (W.setCell ⟨y, c.val, none⟩ (.slice (some ⟨wr.heap.size, 0, none⟩) n k)) y (upd pv c (.slice (some ⟨wr.heap.size, 0, none⟩) n k)) A I (c.val + 1) := by
  subst hn
  have h1 := h.keeps hk0
  have hk : Keeps (fun k => k = y) W (W.setCell ⟨y, c.val, none⟩ (.slice (some ⟨wr.heap.size, 0, none⟩) (cPt I c.val).length k)) := (Keeps.refl (fun k => k = y) W).setCell (p := ⟨y, c.val, none⟩) (fun _ => rfl) _
  have hylt := h.blk.lt
  have hbk := h1.blk.set c.val (.slice (some ⟨wr.heap.size, 0, none⟩) (cPt I c.val).length k)
  rw [upd_cells] at hbk
  refine h1.move hk hbk (fun d hd => ?_) (fun d => ?_)
  · by_cases hdc : d = c
    · subst hdc
      rw [upd_same]
      refine ⟨_, k, rfl, ?_⟩
      have := hs.keeps hk (fun k hk e => by omega)
      exact this.mono (fun k hk => by omega)
    · rw [upd_ne _ _ hdc]
      exact (h1.part d (by have : d.val ≠ c.val := fun e => hdc (Fin.ext e); omega)).keeps hk
  · by_cases hdc : d = c
    · subst hdc
      rw [upd_same]
      exact ⟨_, _, _, rfl⟩
    · rw [upd_ne _ _ hdc]; exact h.shp d
theorem PSt.store {w wr : World} {y : Nat} {pv : Fin 3 → Value} {A : Option Addr} {I : List Nat} (c : Fin 3) (h : PSt w wr y pv A I c.val) (hb : ∀ i, (cPt I c.val).getD i 0 < 256) (k : Nat) :
    PSt w ((Lib.bytesWorld wr 5 (strB (cPt I c.val))).setCell ⟨y, c.val, none⟩ (.slice (some ⟨wr.heap.size, 0, none⟩) (strB (cPt I c.val)).size k)) y (upd pv c (.slice (some ⟨wr.heap.size, 0, none⟩) (strB (cPt I c.val)).size k)) A I (c.val + 1) :=
  h.storeAt c (bytesWorld_keeps wr 5 _) _ k (strB_size _) (bytesWorld_sl wr 5 hb)
theorem PSt.storeN {w wr : World} {y : Nat} {pv : Fin 3 → Value} {A : Option Addr} {I T : List Nat} (c : Fin 3) (j : Nat) (hj : c.val = j) (h : PSt w wr y pv A I j) (hT : T = cPt I j) (hb : ∀ i, T.getD i 0 < 256) (k : Nat) :
    PSt w ((Lib.bytesWorld wr 5 (strB T)).setCell ⟨y, j, none⟩ (.slice (some ⟨wr.heap.size, 0, none⟩) (strB T).size k)) y (upd pv c (.slice (some ⟨wr.heap.size, 0, none⟩) (strB T).size k)) A I (j + 1) := by
  subst hj
  subst hT
  exact h.store c hb k
def mk3 (a b c : Value) (i : Fin 3) : Value := match i with | 0 => a | 1 => b | 2 => c
theorem mk3_of (f : Fin 3 → Value) {a b c : Value} (h0 : f 0 = a) (h1 : f 1 = b) (h2 : f 2 = c) : f = mk3 a b c := by
  funext i
  match i with
  | 0 => exact h0
  | 1 => exact h1
  | 2 => exact h2
theorem sl_lt {w : World} {D : Nat → Prop} {A : Option Addr} {n : Nat} {f : Nat → Value} (h : Sl w D A n f) : Sl w (fun k => k < w.heap.size) A n f := fun hn => by
  obtain ⟨b, off, e, hd, hc⟩ := h hn
  exact ⟨b, off, e, World.block_lt_of_cell? w _ (hc 0 hn), hc⟩
def PartsPost (b : List Nat) (w : World) (e : Ending) (w' : World) : Prop :=
  ∃ (n : Int) (y : Nat) (pv : Fin 3 → Value) (ok : Bool), e = .returned (.tuple #[.int .i64 n, .agg #[pv 0, pv 1, pv 2], .bool ok]) ∧ Keeps (fun _ => False) w w' ∧ (∀ c, ∃ A n c0, pv c = .slice A n c0) ∧
    (ok = true → Parts b ∧ n = ((V.vget (F.openI b)).1 : Nat) ∧ ∀ c : Fin 3, PartV w' y (pv c) (cPt (F.openI b) c.val)) ∧ (ok = false → ¬ Parts b)
theorem parts_no {b : List Nat} {w w' : World} {y j : Nat} {n : Int} {pv : Fin 3 → Value} {A : Option Addr} {I : List Nat} (h : PSt w w' y pv A I j) (hn : ¬ Parts b) : PartsPost b w (.returned (.tuple #[.int .i64 n, .agg #[pv 0, pv 1, pv 2], .bool false])) w' :=
  ⟨n, y, pv, false, rfl, h.keep, h.shp, (fun h => absurd h (by decide)), (fun _ => hn)⟩
theorem parts_yes {b : List Nat} {w w' : World} {y M : Nat} {pv : Fin 3 → Value} {A : Option Addr} {I : List Nat} (hI : I = F.openI b) (h : PSt w w' y pv A I 3) (hP : Parts b) (hM : M = (V.vget I).1) : PartsPost b w (.returned (.tuple #[.int .i64 (M : Nat), .agg #[pv 0, pv 1, pv 2], .bool true])) w' := by
  subst hI
  subst hM
  exact ⟨_, y, pv, true, rfl, h.keep, h.shp, (fun _ => ⟨hP, rfl, fun c => h.part c c.isLt⟩), (fun h => absurd h (by decide))⟩
theorem openI_byte {b : List Nat} (hb : ∀ j, b.getD j 0 < 256) : ∀ j, (F.openI b).getD j 0 < 256 := by
  intro j
  unfold F.openI F.withI
  split
  · split
    · exact V.getD_drop_lt (V.getD_take_lt hb _) _ j
    · simp
  · simp
theorem openI_len (b : List Nat) : (F.openI b).length ≤ b.length := by
  unfold F.openI F.withI
  split
  · split
    · rw [List.length_drop, List.length_take]; omega
    · simp
  · simp
set_option maxRecDepth 100000 in
set_option maxHeartbeats 8000000 in
theorem parts_any (w : World) (A : Option Addr) (len c : Nat) (D : Nat → Prop) (b : List Nat) (hl : b.length = len) (hsl : Sl w D A len (byteC b)) (hb : ∀ j, b.getD j 0 < 256) (hlen : len ≤ 1048576) (hlc : len ≤ c) (hv : V.HErr w) :
    Calls Tryz.prog 67 #[.slice A len c] w (PartsPost b w) := by
  obtain ⟨y, hy⟩ : ∃ y, y = w.heap.size := ⟨_, rfl⟩
  have hk0 : Keeps (fun _ => False) w (w.alloc (.cells #[.slice none 0 0, .slice none 0 0, .slice none 0 0] 93)) := (Keeps.refl _ w).alloc _
  have HS := Lib.hid (And.intro hl (And.intro (hsl.keeps hk0 (fun _ _ h => h)) (And.intro hb (And.intro hv (And.intro hy hk0)))))
  clear hl hsl hb hv hy hk0
  go_enter Tryz.func67, Tryz.ntmps67
  go_wp2_with fail
  refine (F.open_any _ _ _ _ D b HS.out.1 HS.out.2.1 HS.out.2.2.1 (by omega) hlc).mono ?_
  rintro e w2 ⟨A1, c1, rfl, ho, hk⟩
  rw [← HS.out.2.2.2.2.1]
  obtain ⟨A1', c1', hv1, hc1, -⟩ := own_form ho
  injection hv1 with q1 q2 q3
  subst q1; subst q3
  clear q2
  have hcm : c1 ≤ 9223372036854775807 := by
    rcases ho.2 with ⟨h1, -⟩ | ⟨g, cap, cur, h1, -, -, -, h2, -⟩
    · injection h1 with _ _ h1; omega
    · injection h1 with _ _ h1; unfold maxLen at h2; omega
  obtain ⟨I, hI⟩ : ∃ I, I = F.openI b := ⟨_, rfl⟩
  rw [← hI] at ho hc1 ⊢
  have hIb : ∀ j, I.getD j 0 < 256 := by rw [hI]; exact openI_byte HS.out.2.2.1
  have hIl : I.length ≤ 1048576 := by have := openI_len b; rw [← hI, HS.out.1] at this; omega
  have hst : PSt w w2 y (fun _ => .slice none 0 0) A1 I 0 := by
    refine ⟨?_, ?_, HS.out.2.2.2.2.2.trans' hk, by have := HS.out.2.2.2.2.1; omega, fun c hc => absurd hc (Nat.not_lt_zero _), fun c => ⟨none, 0, 0, rfl⟩⟩
    · rw [HS.out.2.2.2.2.1]
      exact (Blk.fresh w _ _).keeps hk (fun h => h)
    · refine (F.own_sl rfl ho).mono (fun k hk => ?_)
      have h1 := (ho.lt k hk).1
      have h2 := HS.out.2.2.2.2.1
      have h3 : (w.alloc (.cells #[.slice none 0 0, .slice none 0 0, .slice none 0 0] 93)).heap.size = w.heap.size + 1 := by simp
      omega
  have HI := Lib.hid (And.intro hI (And.intro hIb hIl))
  have HT := Lib.hid hst
  clear hst ho hk hI hIb hIl
  obtain ⟨K, hK⟩ : ∃ K, K = F.openK b := ⟨_, rfl⟩
  obtain ⟨E, hE⟩ : ∃ E, E = F.openE b := ⟨_, rfl⟩
  rw [← hK, ← hE]
  have HK := Lib.hid (And.intro hK hE)
  clear hK hE
  by_cases hE0 : E = 0
  · by_cases hK3 : K = 3
    · subst hE0
      subst hK3
      rw [show ((3 : Nat) : Int) = 3 from rfl]
      go_wp2_with fail
      refine (V.vread_any _ _ _ _ _ I rfl HI.out.2.1 HT.out.inn (by have := HI.out.2.2; omega) (HS.out.2.2.2.1.below HT.out.keep.to_below)).mono ?_
      rintro e w5 ⟨rfl, hb5⟩
      have H5 := Lib.hid (HT.out.keeps (Keeps.of_below hb5))
      have hM64 := (V.vget_lt I).1
      obtain ⟨M, hM⟩ : ∃ M, M = (V.vget I).1 := ⟨_, rfl⟩
      obtain ⟨q0, hq0⟩ : ∃ q, q = (V.vget I).2.1 := ⟨_, rfl⟩
      obtain ⟨R, hR⟩ : ∃ R, R = (V.vget I).2.2 := ⟨_, rfl⟩
      rw [← hM, ← hq0, ← hR]
      rw [← hM] at hM64
      have HU := Lib.hid (And.intro hM (And.intro hq0 hR))
      clear hM hq0 hR hb5 HT
      by_cases hR0 : R = 0
      · subst hR0
        by_cases hM4 : M ≤ 4096
        · have hq10 : q0 ≤ 10 := by rw [HU.out.2.1]; exact (V.vget_lt I).2.1
          have hmw : IntKind.i64.wrap (M : Int) = (M : Int) := by rw [IntKind.wrap_i64]; omega
          have d4 : decide ((4096 : Int) < (M : Int)) = false := by simp; omega
          rw [show ((0 : Nat) : Int) = 0 from rfl]
          go_wp2_with fail
          go_loopw [9, 40] (fun at_ i wr => ∃ (j : Nat) (pv : Fin 3 → Value), j ≤ 3 ∧ i = .int .i64 j ∧ at_ = .int .i64 (cAt I j : Nat) ∧ PSt w wr y pv A1 I j ∧ ∀ i, i < j → cEr I i = 0) (fun _ i _ => 3 - (intOf i).toNat)
          case atStart => exact ⟨0, _, Nat.zero_le _, rfl, by rw [HU.out.2.1]; rfl, H5.out, fun i hi => absurd hi (Nat.not_lt_zero _)⟩
          case round =>
            obtain ⟨j, pv, hj, rfl, rfl, hP, hEr⟩ := hrel
            obtain ⟨u1, u2⟩ := parts_up HI.out.2.1 HU.out.2.2.symm j hEr
            clear u1
            obtain ⟨B0, n0, k0, e0⟩ := hP.shp 0
            obtain ⟨B1, n1, k1, e1⟩ := hP.shp 1
            obtain ⟨B2, n2, k2, e2⟩ := hP.shp 2
            obtain rfl := mk3_of pv e0 e1 e2
            clear e0 e1 e2
            have HB := Lib.hid hP
            have HEr := Lib.hid hEr
            clear hP hEr
            have hIl := HI.out.2.2
            have h4 : j = 0 ∨ j = 1 ∨ j = 2 ∨ j = 3 := by omega
            rcases h4 with rfl | rfl | rfl | rfl
            ·
              rw [show ((0 : Nat) : Int) = 0 from rfl]
              obtain ⟨q, hq⟩ : ∃ q, q = cAt I 0 := ⟨_, rfl⟩
              rw [← hq] at u2 ⊢
              obtain ⟨A2, hA1, hA2⟩ := V.slice_from (P := Tryz.prog) 25 5 Tryz.underlying25 oneU8c A1 I.length c1 q u2 hc1
              have s2 := sl_lt (hA2 wr _ I HB.out.inn)
              have HQ := Lib.hid (And.intro hq s2)
              clear hq s2 hA2
              go_wp2_with fail
              refine (V.vreadText_any _ _ _ _ (I.drop q) 1048576 (by rw [List.length_drop]) (V.getD_drop_lt HI.out.2.1 q) HQ.out.2 (by omega) (by omega) (HS.out.2.2.2.1.below HB.out.keep.to_below) (by omega) (by omega)).mono ?_
              rintro e w6 ⟨rfl, hb6⟩
              have H6 := Lib.hid (HB.out.keeps (Keeps.of_below hb6))
              obtain ⟨T, hT⟩ : ∃ T, T = (V.vtext (I.drop q) 1048576).1 := ⟨_, rfl⟩
              obtain ⟨U, hU⟩ : ∃ U, U = (V.vtext (I.drop q) 1048576).2.1 := ⟨_, rfl⟩
              obtain ⟨R2, hR2⟩ : ∃ R, R = (V.vtext (I.drop q) 1048576).2.2 := ⟨_, rfl⟩
              rw [← hT, ← hU, ← hR2]
              have eT : T = cPt I 0 := by unfold cPt; rw [← HQ.out.1]; exact hT
              have eR : R2 = cEr I 0 := by unfold cEr; rw [← HQ.out.1]; exact hR2
              have eU : cAt I (0 + 1) = q + U := by rw [cAt_succ, ← HQ.out.1, ← hU]
              have hU2 : R2 = 0 → U ≤ 1048576 ∧ ∀ i, T.getD i 0 < 256 := fun h0 => by
                obtain ⟨g1, g2, g3⟩ := vtext_get (l := I.drop q) (most := 1048576) (V.getD_drop_lt HI.out.2.1 q) (by rw [← hR2]; exact h0)
                rw [← hU, ← hT] at g2
                rw [← hU, List.length_drop] at g1
                refine ⟨by omega, V.getD_all_lt (fun x hx => ?_)⟩
                have hm : x ∈ (I.drop q).take U := by rw [g2]; exact List.mem_append_right _ hx
                exact F.mem_byte HI.out.2.1 x (List.mem_of_mem_drop (List.mem_of_mem_take hm))
              have HT2 := Lib.hid (And.intro eT (And.intro eR eU))
              clear hT hU hR2 eT eR eU hb6
              by_cases hR3 : R2 = 0
              · subst hR3
                obtain ⟨hUb, hTb⟩ := hU2 rfl
                have HTb := Lib.hid hTb
                clear hU2 hTb
                rw [show ((0 : Nat) : Int) = 0 from rfl]
                have hcv := Lib.run_convert_string_bytes (P := Tryz.prog) w6 9 25 5 (strB T) Tryz.underlying9 Tryz.underlying25 Tryz.underlying5
                have hbk := H6.out.blk.keeps (bytesWorld_keeps w6 5 (strB T)) (fun h => h)
                have z0 : (Lib.bytesWorld w6 5 (strB T)).cell? ⟨y, 0, none⟩ = some (.slice B0 n0 k0) := hbk.cell 0
                have z1 : (Lib.bytesWorld w6 5 (strB T)).cell? ⟨y, 1, none⟩ = some (.slice B1 n1 k1) := hbk.cell 1
                have z2 : (Lib.bytesWorld w6 5 (strB T)).cell? ⟨y, 2, none⟩ = some (.slice B2 n2 k2) := hbk.cell 2
                have zf := hbk.frozen
                clear hbk
                go_wp2_with fail
                clear z0 z1 z2 zf hcv
                go_roundw
                case rel =>
                  refine ⟨0 + 1, upd (mk3 (.slice B0 n0 k0) (.slice B1 n1 k1) (.slice B2 n2 k2)) 0 (.slice (some ⟨w6.heap.size, 0, none⟩) (strB T).size (grownCap w6 (strB T).size 0 5)), by omega, by go_num, by rw [HT2.out.2.2]; go_num, ?_, fun i hi => ?_⟩
                  rotate_left
                  · rcases Nat.lt_or_ge i 0 with h1 | h1
                    · exact HEr.out i h1
                    · obtain rfl : i = 0 := by omega
                      exact HT2.out.2.1.symm
                  · exact H6.out.storeN 0 0 rfl HT2.out.1 HTb.out _
                case measure => simp [intOf]
              · have HN := Lib.hid (show ¬ Parts b from fun h => hR3 (by rw [HT2.out.2.1, HI.out.1]; exact h.t 0 (by omega)))
                have d0 : decide ((R2 : Int) = 0) = false := by simp; omega
                have d0' : ¬ (R2 : Int) = 0 := by omega
                clear hU2
                go_wp2_with fail
                refine wp_gen (fun w' => PSt w w' y (mk3 (.slice B0 n0 k0) (.slice B1 n1 k1) (.slice B2 n2 k2)) A1 I 0) H6.out ?_
                clear H6
                intro w7 hS0
                have hS : (fun w' => PSt w w' y (mk3 (.slice B0 n0 k0) (.slice B1 n1 k1) (.slice B2 n2 k2)) A1 I 0) (w7.drew) := hS0.drew
                refine reg_start (fun w' => PSt w w' y (mk3 (.slice B0 n0 k0) (.slice B1 n1 k1) (.slice B2 n2 k2)) A1 I 0) (by kernel_rfl) hS ?_
                refine reg_take (i := 0) (v := ?_) rfl (by kernel_rfl) (by kernel_rfl) (by kernel_rfl) (fun _ _ _ h => h) (Or.inl ⟨by kernel_rfl, ?_⟩) hS ?_
                rotate_left
                · (intro w' hSw; have z0 : w'.cell? ⟨y, 0, none⟩ = some (.slice B0 n0 k0) := hSw.blk.cell 0; have z1 : w'.cell? ⟨y, 1, none⟩ = some (.slice B1 n1 k1) := hSw.blk.cell 1; have z2 : w'.cell? ⟨y, 2, none⟩ = some (.slice B2 n2 k2) := hSw.blk.cell 2; go_simp <;> with_reducible rfl)
                try simp only [List.getElem_toArray, List.getElem_cons_succ, List.getElem_cons_zero, Act.put, List.setIfInBounds_toArray, List.set_cons_zero, List.set_cons_succ]
                refine reg_take (i := 1) (v := ?_) rfl (by kernel_rfl) (by kernel_rfl) (by kernel_rfl) (fun _ _ _ h => h) (Or.inl ⟨by kernel_rfl, ?_⟩) hS ?_
                rotate_left
                · (intro w' hSw; go_simp <;> with_reducible rfl)
                try simp only [List.getElem_toArray, List.getElem_cons_succ, List.getElem_cons_zero, Act.put, List.setIfInBounds_toArray, List.set_cons_zero, List.set_cons_succ]
                clear hS0
                generalize w7.drew = wd at hS ⊢
                have z0 : wd.cell? ⟨y, 0, none⟩ = some (.slice B0 n0 k0) := hS.blk.cell 0
                have z1 : wd.cell? ⟨y, 1, none⟩ = some (.slice B1 n1 k1) := hS.blk.cell 1
                have z2 : wd.cell? ⟨y, 2, none⟩ = some (.slice B2 n2 k2) := hS.blk.cell 2
                have zf := hS.blk.frozen
                have HP : Hid (PSt w (setFrom wd y 0 [.slice B0 n0 k0, .slice B1 n1 k1, .slice B2 n2 k2]) y (mk3 (.slice B0 n0 k0) (.slice B1 n1 k1) (.slice B2 n2 k2)) A1 I 0) := Lib.hid hS.put
                refine reg_call (i := 2) rfl (by kernel_rfl) (fun K hK => ?_)
                have HK := Lib.hid hK
                clear hK
                go_simp
                clear z0 z1 z2 zf
                go_wp2_with fail
                refine HK.out.go (fun w' => PSt w w' y (mk3 (.slice B0 n0 k0) (.slice B1 n1 k1) (.slice B2 n2 k2)) A1 I 0) (fun _ h => h) (HP.out) ?_
                clear HK hS
                intro w71 hS
                try simp only [List.getElem_toArray, List.getElem_cons_succ, List.getElem_cons_zero, Act.put, List.setIfInBounds_toArray, List.set_cons_zero, List.set_cons_succ]
                refine reg_take (i := 3) (v := ?_) rfl (by kernel_rfl) (by kernel_rfl) (by kernel_rfl) (fun _ _ _ h => h) (Or.inl ⟨by kernel_rfl, ?_⟩) hS ?_
                rotate_left
                · (intro w' hSw; go_simp <;> with_reducible rfl)
                try simp only [List.getElem_toArray, List.getElem_cons_succ, List.getElem_cons_zero, Act.put, List.setIfInBounds_toArray, List.set_cons_zero, List.set_cons_succ]
                refine wpAnyH_done (by kernel_rfl) ?_ _
                try simp only [List.getElem_toArray, List.getElem_cons_succ, List.getElem_cons_zero]
                try simp only [List.getElem_toArray, List.getElem_cons_succ, List.getElem_cons_zero, Act.put, List.setIfInBounds_toArray, List.set_cons_zero, List.set_cons_succ]
                have z0 : w71.cell? ⟨y, 0, none⟩ = some (.slice B0 n0 k0) := hS.blk.cell 0
                have z1 : w71.cell? ⟨y, 1, none⟩ = some (.slice B1 n1 k1) := hS.blk.cell 1
                have z2 : w71.cell? ⟨y, 2, none⟩ = some (.slice B2 n2 k2) := hS.blk.cell 2
                have HQ := Lib.hid (And.intro hS HN.out)
                clear hS HP
                go_wp2_with fail
                exact bodyPost_ret (v := .tuple #[.int .i64 0, .agg #[.slice B0 n0 k0, .slice B1 n1 k1, .slice B2 n2 k2], .bool false]) (by simp [results, Tryz.results67, go_sem, z0, z1, z2]) rfl (parts_no HQ.out.1 HQ.out.2)
            ·
              rw [show ((1 : Nat) : Int) = 1 from rfl]
              obtain ⟨q, hq⟩ : ∃ q, q = cAt I 1 := ⟨_, rfl⟩
              rw [← hq] at u2 ⊢
              obtain ⟨A2, hA1, hA2⟩ := V.slice_from (P := Tryz.prog) 25 5 Tryz.underlying25 oneU8c A1 I.length c1 q u2 hc1
              have s2 := sl_lt (hA2 wr _ I HB.out.inn)
              have HQ := Lib.hid (And.intro hq s2)
              clear hq s2 hA2
              go_wp2_with fail
              refine (V.vreadText_any _ _ _ _ (I.drop q) 1048576 (by rw [List.length_drop]) (V.getD_drop_lt HI.out.2.1 q) HQ.out.2 (by omega) (by omega) (HS.out.2.2.2.1.below HB.out.keep.to_below) (by omega) (by omega)).mono ?_
              rintro e w6 ⟨rfl, hb6⟩
              have H6 := Lib.hid (HB.out.keeps (Keeps.of_below hb6))
              obtain ⟨T, hT⟩ : ∃ T, T = (V.vtext (I.drop q) 1048576).1 := ⟨_, rfl⟩
              obtain ⟨U, hU⟩ : ∃ U, U = (V.vtext (I.drop q) 1048576).2.1 := ⟨_, rfl⟩
              obtain ⟨R2, hR2⟩ : ∃ R, R = (V.vtext (I.drop q) 1048576).2.2 := ⟨_, rfl⟩
              rw [← hT, ← hU, ← hR2]
              have eT : T = cPt I 1 := by unfold cPt; rw [← HQ.out.1]; exact hT
              have eR : R2 = cEr I 1 := by unfold cEr; rw [← HQ.out.1]; exact hR2
              have eU : cAt I (1 + 1) = q + U := by rw [cAt_succ, ← HQ.out.1, ← hU]
              have hU2 : R2 = 0 → U ≤ 1048576 ∧ ∀ i, T.getD i 0 < 256 := fun h0 => by
                obtain ⟨g1, g2, g3⟩ := vtext_get (l := I.drop q) (most := 1048576) (V.getD_drop_lt HI.out.2.1 q) (by rw [← hR2]; exact h0)
                rw [← hU, ← hT] at g2
                rw [← hU, List.length_drop] at g1
                refine ⟨by omega, V.getD_all_lt (fun x hx => ?_)⟩
                have hm : x ∈ (I.drop q).take U := by rw [g2]; exact List.mem_append_right _ hx
                exact F.mem_byte HI.out.2.1 x (List.mem_of_mem_drop (List.mem_of_mem_take hm))
              have HT2 := Lib.hid (And.intro eT (And.intro eR eU))
              clear hT hU hR2 eT eR eU hb6
              by_cases hR3 : R2 = 0
              · subst hR3
                obtain ⟨hUb, hTb⟩ := hU2 rfl
                have HTb := Lib.hid hTb
                clear hU2 hTb
                rw [show ((0 : Nat) : Int) = 0 from rfl]
                have hcv := Lib.run_convert_string_bytes (P := Tryz.prog) w6 9 25 5 (strB T) Tryz.underlying9 Tryz.underlying25 Tryz.underlying5
                have hbk := H6.out.blk.keeps (bytesWorld_keeps w6 5 (strB T)) (fun h => h)
                have z0 : (Lib.bytesWorld w6 5 (strB T)).cell? ⟨y, 0, none⟩ = some (.slice B0 n0 k0) := hbk.cell 0
                have z1 : (Lib.bytesWorld w6 5 (strB T)).cell? ⟨y, 1, none⟩ = some (.slice B1 n1 k1) := hbk.cell 1
                have z2 : (Lib.bytesWorld w6 5 (strB T)).cell? ⟨y, 2, none⟩ = some (.slice B2 n2 k2) := hbk.cell 2
                have zf := hbk.frozen
                clear hbk
                go_wp2_with fail
                clear z0 z1 z2 zf hcv
                go_roundw
                case rel =>
                  refine ⟨1 + 1, upd (mk3 (.slice B0 n0 k0) (.slice B1 n1 k1) (.slice B2 n2 k2)) 1 (.slice (some ⟨w6.heap.size, 0, none⟩) (strB T).size (grownCap w6 (strB T).size 0 5)), by omega, by go_num, by rw [HT2.out.2.2]; go_num, ?_, fun i hi => ?_⟩
                  rotate_left
                  · rcases Nat.lt_or_ge i 1 with h1 | h1
                    · exact HEr.out i h1
                    · obtain rfl : i = 1 := by omega
                      exact HT2.out.2.1.symm
                  · exact H6.out.storeN 1 1 rfl HT2.out.1 HTb.out _
                case measure => simp [intOf]
              · have HN := Lib.hid (show ¬ Parts b from fun h => hR3 (by rw [HT2.out.2.1, HI.out.1]; exact h.t 1 (by omega)))
                have d0 : decide ((R2 : Int) = 0) = false := by simp; omega
                have d0' : ¬ (R2 : Int) = 0 := by omega
                clear hU2
                go_wp2_with fail
                refine wp_gen (fun w' => PSt w w' y (mk3 (.slice B0 n0 k0) (.slice B1 n1 k1) (.slice B2 n2 k2)) A1 I 1) H6.out ?_
                clear H6
                intro w7 hS0
                have hS : (fun w' => PSt w w' y (mk3 (.slice B0 n0 k0) (.slice B1 n1 k1) (.slice B2 n2 k2)) A1 I 1) (w7.drew) := hS0.drew
                refine reg_start (fun w' => PSt w w' y (mk3 (.slice B0 n0 k0) (.slice B1 n1 k1) (.slice B2 n2 k2)) A1 I 1) (by kernel_rfl) hS ?_
                refine reg_take (i := 0) (v := ?_) rfl (by kernel_rfl) (by kernel_rfl) (by kernel_rfl) (fun _ _ _ h => h) (Or.inl ⟨by kernel_rfl, ?_⟩) hS ?_
                rotate_left
                · (intro w' hSw; have z0 : w'.cell? ⟨y, 0, none⟩ = some (.slice B0 n0 k0) := hSw.blk.cell 0; have z1 : w'.cell? ⟨y, 1, none⟩ = some (.slice B1 n1 k1) := hSw.blk.cell 1; have z2 : w'.cell? ⟨y, 2, none⟩ = some (.slice B2 n2 k2) := hSw.blk.cell 2; go_simp <;> with_reducible rfl)
                try simp only [List.getElem_toArray, List.getElem_cons_succ, List.getElem_cons_zero, Act.put, List.setIfInBounds_toArray, List.set_cons_zero, List.set_cons_succ]
                refine reg_take (i := 1) (v := ?_) rfl (by kernel_rfl) (by kernel_rfl) (by kernel_rfl) (fun _ _ _ h => h) (Or.inl ⟨by kernel_rfl, ?_⟩) hS ?_
                rotate_left
                · (intro w' hSw; go_simp <;> with_reducible rfl)
                try simp only [List.getElem_toArray, List.getElem_cons_succ, List.getElem_cons_zero, Act.put, List.setIfInBounds_toArray, List.set_cons_zero, List.set_cons_succ]
                clear hS0
                generalize w7.drew = wd at hS ⊢
                have z0 : wd.cell? ⟨y, 0, none⟩ = some (.slice B0 n0 k0) := hS.blk.cell 0
                have z1 : wd.cell? ⟨y, 1, none⟩ = some (.slice B1 n1 k1) := hS.blk.cell 1
                have z2 : wd.cell? ⟨y, 2, none⟩ = some (.slice B2 n2 k2) := hS.blk.cell 2
                have zf := hS.blk.frozen
                have HP : Hid (PSt w (setFrom wd y 0 [.slice B0 n0 k0, .slice B1 n1 k1, .slice B2 n2 k2]) y (mk3 (.slice B0 n0 k0) (.slice B1 n1 k1) (.slice B2 n2 k2)) A1 I 1) := Lib.hid hS.put
                refine reg_call (i := 2) rfl (by kernel_rfl) (fun K hK => ?_)
                have HK := Lib.hid hK
                clear hK
                go_simp
                clear z0 z1 z2 zf
                go_wp2_with fail
                refine HK.out.go (fun w' => PSt w w' y (mk3 (.slice B0 n0 k0) (.slice B1 n1 k1) (.slice B2 n2 k2)) A1 I 1) (fun _ h => h) (HP.out) ?_
                clear HK hS
                intro w71 hS
                try simp only [List.getElem_toArray, List.getElem_cons_succ, List.getElem_cons_zero, Act.put, List.setIfInBounds_toArray, List.set_cons_zero, List.set_cons_succ]
                refine reg_take (i := 3) (v := ?_) rfl (by kernel_rfl) (by kernel_rfl) (by kernel_rfl) (fun _ _ _ h => h) (Or.inl ⟨by kernel_rfl, ?_⟩) hS ?_
                rotate_left
                · (intro w' hSw; go_simp <;> with_reducible rfl)
                try simp only [List.getElem_toArray, List.getElem_cons_succ, List.getElem_cons_zero, Act.put, List.setIfInBounds_toArray, List.set_cons_zero, List.set_cons_succ]
                refine wpAnyH_done (by kernel_rfl) ?_ _
                try simp only [List.getElem_toArray, List.getElem_cons_succ, List.getElem_cons_zero]
                try simp only [List.getElem_toArray, List.getElem_cons_succ, List.getElem_cons_zero, Act.put, List.setIfInBounds_toArray, List.set_cons_zero, List.set_cons_succ]
                have z0 : w71.cell? ⟨y, 0, none⟩ = some (.slice B0 n0 k0) := hS.blk.cell 0
                have z1 : w71.cell? ⟨y, 1, none⟩ = some (.slice B1 n1 k1) := hS.blk.cell 1
                have z2 : w71.cell? ⟨y, 2, none⟩ = some (.slice B2 n2 k2) := hS.blk.cell 2
                have HQ := Lib.hid (And.intro hS HN.out)
                clear hS HP
                go_wp2_with fail
                exact bodyPost_ret (v := .tuple #[.int .i64 0, .agg #[.slice B0 n0 k0, .slice B1 n1 k1, .slice B2 n2 k2], .bool false]) (by simp [results, Tryz.results67, go_sem, z0, z1, z2]) rfl (parts_no HQ.out.1 HQ.out.2)
            ·
              rw [show ((2 : Nat) : Int) = 2 from rfl]
              obtain ⟨q, hq⟩ : ∃ q, q = cAt I 2 := ⟨_, rfl⟩
              rw [← hq] at u2 ⊢
              obtain ⟨A2, hA1, hA2⟩ := V.slice_from (P := Tryz.prog) 25 5 Tryz.underlying25 oneU8c A1 I.length c1 q u2 hc1
              have s2 := sl_lt (hA2 wr _ I HB.out.inn)
              have HQ := Lib.hid (And.intro hq s2)
              clear hq s2 hA2
              go_wp2_with fail
              refine (V.vreadText_any _ _ _ _ (I.drop q) 1048576 (by rw [List.length_drop]) (V.getD_drop_lt HI.out.2.1 q) HQ.out.2 (by omega) (by omega) (HS.out.2.2.2.1.below HB.out.keep.to_below) (by omega) (by omega)).mono ?_
              rintro e w6 ⟨rfl, hb6⟩
              have H6 := Lib.hid (HB.out.keeps (Keeps.of_below hb6))
              obtain ⟨T, hT⟩ : ∃ T, T = (V.vtext (I.drop q) 1048576).1 := ⟨_, rfl⟩
              obtain ⟨U, hU⟩ : ∃ U, U = (V.vtext (I.drop q) 1048576).2.1 := ⟨_, rfl⟩
              obtain ⟨R2, hR2⟩ : ∃ R, R = (V.vtext (I.drop q) 1048576).2.2 := ⟨_, rfl⟩
              rw [← hT, ← hU, ← hR2]
              have eT : T = cPt I 2 := by unfold cPt; rw [← HQ.out.1]; exact hT
              have eR : R2 = cEr I 2 := by unfold cEr; rw [← HQ.out.1]; exact hR2
              have eU : cAt I (2 + 1) = q + U := by rw [cAt_succ, ← HQ.out.1, ← hU]
              have hU2 : R2 = 0 → U ≤ 1048576 ∧ ∀ i, T.getD i 0 < 256 := fun h0 => by
                obtain ⟨g1, g2, g3⟩ := vtext_get (l := I.drop q) (most := 1048576) (V.getD_drop_lt HI.out.2.1 q) (by rw [← hR2]; exact h0)
                rw [← hU, ← hT] at g2
                rw [← hU, List.length_drop] at g1
                refine ⟨by omega, V.getD_all_lt (fun x hx => ?_)⟩
                have hm : x ∈ (I.drop q).take U := by rw [g2]; exact List.mem_append_right _ hx
                exact F.mem_byte HI.out.2.1 x (List.mem_of_mem_drop (List.mem_of_mem_take hm))
              have HT2 := Lib.hid (And.intro eT (And.intro eR eU))
              clear hT hU hR2 eT eR eU hb6
              by_cases hR3 : R2 = 0
              · subst hR3
                obtain ⟨hUb, hTb⟩ := hU2 rfl
                have HTb := Lib.hid hTb
                clear hU2 hTb
                rw [show ((0 : Nat) : Int) = 0 from rfl]
                have hcv := Lib.run_convert_string_bytes (P := Tryz.prog) w6 9 25 5 (strB T) Tryz.underlying9 Tryz.underlying25 Tryz.underlying5
                have hbk := H6.out.blk.keeps (bytesWorld_keeps w6 5 (strB T)) (fun h => h)
                have z0 : (Lib.bytesWorld w6 5 (strB T)).cell? ⟨y, 0, none⟩ = some (.slice B0 n0 k0) := hbk.cell 0
                have z1 : (Lib.bytesWorld w6 5 (strB T)).cell? ⟨y, 1, none⟩ = some (.slice B1 n1 k1) := hbk.cell 1
                have z2 : (Lib.bytesWorld w6 5 (strB T)).cell? ⟨y, 2, none⟩ = some (.slice B2 n2 k2) := hbk.cell 2
                have zf := hbk.frozen
                clear hbk
                go_wp2_with fail
                clear z0 z1 z2 zf hcv
                go_roundw
                case rel =>
                  refine ⟨2 + 1, upd (mk3 (.slice B0 n0 k0) (.slice B1 n1 k1) (.slice B2 n2 k2)) 2 (.slice (some ⟨w6.heap.size, 0, none⟩) (strB T).size (grownCap w6 (strB T).size 0 5)), by omega, by go_num, by rw [HT2.out.2.2]; go_num, ?_, fun i hi => ?_⟩
                  rotate_left
                  · rcases Nat.lt_or_ge i 2 with h1 | h1
                    · exact HEr.out i h1
                    · obtain rfl : i = 2 := by omega
                      exact HT2.out.2.1.symm
                  · exact H6.out.storeN 2 2 rfl HT2.out.1 HTb.out _
                case measure => simp [intOf]
              · have HN := Lib.hid (show ¬ Parts b from fun h => hR3 (by rw [HT2.out.2.1, HI.out.1]; exact h.t 2 (by omega)))
                have d0 : decide ((R2 : Int) = 0) = false := by simp; omega
                have d0' : ¬ (R2 : Int) = 0 := by omega
                clear hU2
                go_wp2_with fail
                refine wp_gen (fun w' => PSt w w' y (mk3 (.slice B0 n0 k0) (.slice B1 n1 k1) (.slice B2 n2 k2)) A1 I 2) H6.out ?_
                clear H6
                intro w7 hS0
                have hS : (fun w' => PSt w w' y (mk3 (.slice B0 n0 k0) (.slice B1 n1 k1) (.slice B2 n2 k2)) A1 I 2) (w7.drew) := hS0.drew
                refine reg_start (fun w' => PSt w w' y (mk3 (.slice B0 n0 k0) (.slice B1 n1 k1) (.slice B2 n2 k2)) A1 I 2) (by kernel_rfl) hS ?_
                refine reg_take (i := 0) (v := ?_) rfl (by kernel_rfl) (by kernel_rfl) (by kernel_rfl) (fun _ _ _ h => h) (Or.inl ⟨by kernel_rfl, ?_⟩) hS ?_
                rotate_left
                · (intro w' hSw; have z0 : w'.cell? ⟨y, 0, none⟩ = some (.slice B0 n0 k0) := hSw.blk.cell 0; have z1 : w'.cell? ⟨y, 1, none⟩ = some (.slice B1 n1 k1) := hSw.blk.cell 1; have z2 : w'.cell? ⟨y, 2, none⟩ = some (.slice B2 n2 k2) := hSw.blk.cell 2; go_simp <;> with_reducible rfl)
                try simp only [List.getElem_toArray, List.getElem_cons_succ, List.getElem_cons_zero, Act.put, List.setIfInBounds_toArray, List.set_cons_zero, List.set_cons_succ]
                refine reg_take (i := 1) (v := ?_) rfl (by kernel_rfl) (by kernel_rfl) (by kernel_rfl) (fun _ _ _ h => h) (Or.inl ⟨by kernel_rfl, ?_⟩) hS ?_
                rotate_left
                · (intro w' hSw; go_simp <;> with_reducible rfl)
                try simp only [List.getElem_toArray, List.getElem_cons_succ, List.getElem_cons_zero, Act.put, List.setIfInBounds_toArray, List.set_cons_zero, List.set_cons_succ]
                clear hS0
                generalize w7.drew = wd at hS ⊢
                have z0 : wd.cell? ⟨y, 0, none⟩ = some (.slice B0 n0 k0) := hS.blk.cell 0
                have z1 : wd.cell? ⟨y, 1, none⟩ = some (.slice B1 n1 k1) := hS.blk.cell 1
                have z2 : wd.cell? ⟨y, 2, none⟩ = some (.slice B2 n2 k2) := hS.blk.cell 2
                have zf := hS.blk.frozen
                have HP : Hid (PSt w (setFrom wd y 0 [.slice B0 n0 k0, .slice B1 n1 k1, .slice B2 n2 k2]) y (mk3 (.slice B0 n0 k0) (.slice B1 n1 k1) (.slice B2 n2 k2)) A1 I 2) := Lib.hid hS.put
                refine reg_call (i := 2) rfl (by kernel_rfl) (fun K hK => ?_)
                have HK := Lib.hid hK
                clear hK
                go_simp
                clear z0 z1 z2 zf
                go_wp2_with fail
                refine HK.out.go (fun w' => PSt w w' y (mk3 (.slice B0 n0 k0) (.slice B1 n1 k1) (.slice B2 n2 k2)) A1 I 2) (fun _ h => h) (HP.out) ?_
                clear HK hS
                intro w71 hS
                try simp only [List.getElem_toArray, List.getElem_cons_succ, List.getElem_cons_zero, Act.put, List.setIfInBounds_toArray, List.set_cons_zero, List.set_cons_succ]
                refine reg_take (i := 3) (v := ?_) rfl (by kernel_rfl) (by kernel_rfl) (by kernel_rfl) (fun _ _ _ h => h) (Or.inl ⟨by kernel_rfl, ?_⟩) hS ?_
                rotate_left
                · (intro w' hSw; go_simp <;> with_reducible rfl)
                try simp only [List.getElem_toArray, List.getElem_cons_succ, List.getElem_cons_zero, Act.put, List.setIfInBounds_toArray, List.set_cons_zero, List.set_cons_succ]
                refine wpAnyH_done (by kernel_rfl) ?_ _
                try simp only [List.getElem_toArray, List.getElem_cons_succ, List.getElem_cons_zero]
                try simp only [List.getElem_toArray, List.getElem_cons_succ, List.getElem_cons_zero, Act.put, List.setIfInBounds_toArray, List.set_cons_zero, List.set_cons_succ]
                have z0 : w71.cell? ⟨y, 0, none⟩ = some (.slice B0 n0 k0) := hS.blk.cell 0
                have z1 : w71.cell? ⟨y, 1, none⟩ = some (.slice B1 n1 k1) := hS.blk.cell 1
                have z2 : w71.cell? ⟨y, 2, none⟩ = some (.slice B2 n2 k2) := hS.blk.cell 2
                have HQ := Lib.hid (And.intro hS HN.out)
                clear hS HP
                go_wp2_with fail
                exact bodyPost_ret (v := .tuple #[.int .i64 0, .agg #[.slice B0 n0 k0, .slice B1 n1 k1, .slice B2 n2 k2], .bool false]) (by simp [results, Tryz.results67, go_sem, z0, z1, z2]) rfl (parts_no HQ.out.1 HQ.out.2)
            · rw [show ((3 : Nat) : Int) = 3 from rfl]
              obtain ⟨q, hq⟩ : ∃ q, q = cAt I 3 := ⟨_, rfl⟩
              rw [← hq] at u2 ⊢
              have HQ := Lib.hid hq
              clear hq
              by_cases hz : q = I.length
              · have dz : decide ((q : Int) = (I.length : Int)) = true := by simp; omega
                have HPt := Lib.hid (show Parts b from ⟨HK.out.2.symm, HK.out.1.symm, by rw [← HI.out.1]; exact HU.out.2.2.symm, by rw [← HI.out.1, ← HU.out.1]; exact hM4, by rw [← HI.out.1]; exact HEr.out, by rw [← HI.out.1, ← HQ.out]; exact hz⟩)
                go_wp2_with fail
                refine wp_gen (fun w' => PSt w w' y (mk3 (.slice B0 n0 k0) (.slice B1 n1 k1) (.slice B2 n2 k2)) A1 I 3) HB.out ?_
                clear HB
                intro w6 hS0
                have hS : (fun w' => PSt w w' y (mk3 (.slice B0 n0 k0) (.slice B1 n1 k1) (.slice B2 n2 k2)) A1 I 3) (w6.drew) := hS0.drew
                refine reg_start (fun w' => PSt w w' y (mk3 (.slice B0 n0 k0) (.slice B1 n1 k1) (.slice B2 n2 k2)) A1 I 3) (by kernel_rfl) hS ?_
                refine reg_take (i := 0) (v := ?_) rfl (by kernel_rfl) (by kernel_rfl) (by kernel_rfl) (fun _ _ _ h => h) (Or.inl ⟨by kernel_rfl, ?_⟩) hS ?_
                rotate_left
                · (intro w' hSw; have z0 : w'.cell? ⟨y, 0, none⟩ = some (.slice B0 n0 k0) := hSw.blk.cell 0; have z1 : w'.cell? ⟨y, 1, none⟩ = some (.slice B1 n1 k1) := hSw.blk.cell 1; have z2 : w'.cell? ⟨y, 2, none⟩ = some (.slice B2 n2 k2) := hSw.blk.cell 2; go_simp <;> with_reducible rfl)
                try simp only [List.getElem_toArray, List.getElem_cons_succ, List.getElem_cons_zero, Act.put, List.setIfInBounds_toArray, List.set_cons_zero, List.set_cons_succ]
                refine reg_take (i := 1) (v := ?_) rfl (by kernel_rfl) (by kernel_rfl) (by kernel_rfl) (fun _ _ _ h => h) (Or.inl ⟨by kernel_rfl, ?_⟩) hS ?_
                rotate_left
                · (intro w' hSw; have z0 : w'.cell? ⟨y, 0, none⟩ = some (.slice B0 n0 k0) := hSw.blk.cell 0; have z1 : w'.cell? ⟨y, 1, none⟩ = some (.slice B1 n1 k1) := hSw.blk.cell 1; have z2 : w'.cell? ⟨y, 2, none⟩ = some (.slice B2 n2 k2) := hSw.blk.cell 2; go_simp <;> with_reducible rfl)
                try simp only [List.getElem_toArray, List.getElem_cons_succ, List.getElem_cons_zero, Act.put, List.setIfInBounds_toArray, List.set_cons_zero, List.set_cons_succ]
                refine reg_take (i := 2) (v := ?_) rfl (by kernel_rfl) (by kernel_rfl) (by kernel_rfl) (fun _ _ _ h => h) (Or.inl ⟨by kernel_rfl, ?_⟩) hS ?_
                rotate_left
                · (intro w' hSw; have z0 : w'.cell? ⟨y, 0, none⟩ = some (.slice B0 n0 k0) := hSw.blk.cell 0; have z1 : w'.cell? ⟨y, 1, none⟩ = some (.slice B1 n1 k1) := hSw.blk.cell 1; have z2 : w'.cell? ⟨y, 2, none⟩ = some (.slice B2 n2 k2) := hSw.blk.cell 2; go_simp <;> with_reducible rfl)
                try simp only [List.getElem_toArray, List.getElem_cons_succ, List.getElem_cons_zero, Act.put, List.setIfInBounds_toArray, List.set_cons_zero, List.set_cons_succ]
                refine reg_take (i := 3) (v := ?_) rfl (by kernel_rfl) (by kernel_rfl) (by kernel_rfl) (fun _ _ _ h => h) (Or.inl ⟨by kernel_rfl, ?_⟩) hS ?_
                rotate_left
                · (intro w' hSw; have z0 : w'.cell? ⟨y, 0, none⟩ = some (.slice B0 n0 k0) := hSw.blk.cell 0; have z1 : w'.cell? ⟨y, 1, none⟩ = some (.slice B1 n1 k1) := hSw.blk.cell 1; have z2 : w'.cell? ⟨y, 2, none⟩ = some (.slice B2 n2 k2) := hSw.blk.cell 2; go_simp <;> with_reducible rfl)
                try simp only [List.getElem_toArray, List.getElem_cons_succ, List.getElem_cons_zero, Act.put, List.setIfInBounds_toArray, List.set_cons_zero, List.set_cons_succ]
                refine reg_take (i := 4) (v := ?_) rfl (by kernel_rfl) (by kernel_rfl) (by kernel_rfl) (fun _ _ _ h => h) (Or.inl ⟨by kernel_rfl, ?_⟩) hS ?_
                rotate_left
                · (intro w' hSw; have z0 : w'.cell? ⟨y, 0, none⟩ = some (.slice B0 n0 k0) := hSw.blk.cell 0; have z1 : w'.cell? ⟨y, 1, none⟩ = some (.slice B1 n1 k1) := hSw.blk.cell 1; have z2 : w'.cell? ⟨y, 2, none⟩ = some (.slice B2 n2 k2) := hSw.blk.cell 2; go_simp <;> with_reducible rfl)
                try simp only [List.getElem_toArray, List.getElem_cons_succ, List.getElem_cons_zero, Act.put, List.setIfInBounds_toArray, List.set_cons_zero, List.set_cons_succ]
                refine reg_take (i := 5) (v := ?_) rfl (by kernel_rfl) (by kernel_rfl) (by kernel_rfl) (fun _ _ _ h => h) (Or.inl ⟨by kernel_rfl, ?_⟩) hS ?_
                rotate_left
                · (intro w' hSw; have z0 : w'.cell? ⟨y, 0, none⟩ = some (.slice B0 n0 k0) := hSw.blk.cell 0; have z1 : w'.cell? ⟨y, 1, none⟩ = some (.slice B1 n1 k1) := hSw.blk.cell 1; have z2 : w'.cell? ⟨y, 2, none⟩ = some (.slice B2 n2 k2) := hSw.blk.cell 2; go_simp <;> with_reducible rfl)
                try simp only [List.getElem_toArray, List.getElem_cons_succ, List.getElem_cons_zero, Act.put, List.setIfInBounds_toArray, List.set_cons_zero, List.set_cons_succ]
                refine reg_take (i := 6) (v := ?_) rfl (by kernel_rfl) (by kernel_rfl) (by kernel_rfl) (fun _ _ _ h => h) (Or.inl ⟨by kernel_rfl, ?_⟩) hS ?_
                rotate_left
                · (intro w' hSw; have z0 : w'.cell? ⟨y, 0, none⟩ = some (.slice B0 n0 k0) := hSw.blk.cell 0; have z1 : w'.cell? ⟨y, 1, none⟩ = some (.slice B1 n1 k1) := hSw.blk.cell 1; have z2 : w'.cell? ⟨y, 2, none⟩ = some (.slice B2 n2 k2) := hSw.blk.cell 2; go_simp <;> with_reducible rfl)
                try simp only [List.getElem_toArray, List.getElem_cons_succ, List.getElem_cons_zero, Act.put, List.setIfInBounds_toArray, List.set_cons_zero, List.set_cons_succ]
                refine reg_take (i := 7) (v := ?_) rfl (by kernel_rfl) (by kernel_rfl) (by kernel_rfl) (fun _ _ _ h => h) (Or.inl ⟨by kernel_rfl, ?_⟩) hS ?_
                rotate_left
                · (intro w' hSw; go_simp <;> with_reducible rfl)
                try simp only [List.getElem_toArray, List.getElem_cons_succ, List.getElem_cons_zero, Act.put, List.setIfInBounds_toArray, List.set_cons_zero, List.set_cons_succ]
                clear hS0
                generalize w6.drew = wd at hS ⊢
                have z0 : wd.cell? ⟨y, 0, none⟩ = some (.slice B0 n0 k0) := hS.blk.cell 0
                have z1 : wd.cell? ⟨y, 1, none⟩ = some (.slice B1 n1 k1) := hS.blk.cell 1
                have z2 : wd.cell? ⟨y, 2, none⟩ = some (.slice B2 n2 k2) := hS.blk.cell 2
                have zf := hS.blk.frozen
                have HP : Hid (PSt w (setFrom wd y 0 [.slice B0 n0 k0, .slice B1 n1 k1, .slice B2 n2 k2]) y (mk3 (.slice B0 n0 k0) (.slice B1 n1 k1) (.slice B2 n2 k2)) A1 I 3) := Lib.hid hS.put
                refine reg_call (i := 8) rfl (by kernel_rfl) (fun K hK => ?_)
                have HK := Lib.hid hK
                clear hK
                go_simp
                clear z0 z1 z2 zf
                go_wp2_with fail
                refine HK.out.go (fun w' => PSt w w' y (mk3 (.slice B0 n0 k0) (.slice B1 n1 k1) (.slice B2 n2 k2)) A1 I 3) (fun _ h => h) (HP.out) ?_
                clear HK hS
                intro w7 hS
                try simp only [List.getElem_toArray, List.getElem_cons_succ, List.getElem_cons_zero, Act.put, List.setIfInBounds_toArray, List.set_cons_zero, List.set_cons_succ]
                refine reg_take (i := 9) (v := ?_) rfl (by kernel_rfl) (by kernel_rfl) (by kernel_rfl) (fun _ _ _ h => h) (Or.inl ⟨by kernel_rfl, ?_⟩) hS ?_
                rotate_left
                · (intro w' hSw; go_simp <;> with_reducible rfl)
                try simp only [List.getElem_toArray, List.getElem_cons_succ, List.getElem_cons_zero, Act.put, List.setIfInBounds_toArray, List.set_cons_zero, List.set_cons_succ]
                refine wpAnyH_done (by kernel_rfl) ?_ _
                try simp only [List.getElem_toArray, List.getElem_cons_succ, List.getElem_cons_zero]
                try simp only [List.getElem_toArray, List.getElem_cons_succ, List.getElem_cons_zero, Act.put, List.setIfInBounds_toArray, List.set_cons_zero, List.set_cons_succ]
                have z0 : w7.cell? ⟨y, 0, none⟩ = some (.slice B0 n0 k0) := hS.blk.cell 0
                have z1 : w7.cell? ⟨y, 1, none⟩ = some (.slice B1 n1 k1) := hS.blk.cell 1
                have z2 : w7.cell? ⟨y, 2, none⟩ = some (.slice B2 n2 k2) := hS.blk.cell 2
                have HQ2 := Lib.hid hS
                clear hS HP
                go_wp2_with fail
                exact bodyPost_ret (v := .tuple #[.int .i64 M, .agg #[.slice B0 n0 k0, .slice B1 n1 k1, .slice B2 n2 k2], .bool true]) (by simp [results, Tryz.results67, go_sem, z0, z1, z2, hmw] <;> omega) rfl (parts_yes HI.out.1 HQ2.out HPt.out HU.out.1)
              · have dz : decide ((q : Int) = (I.length : Int)) = false := by simp; omega
                have HN := Lib.hid (show ¬ Parts b from fun h => hz (by rw [HQ.out, HI.out.1]; exact h.z))
                go_wp2_with fail
                refine wp_gen (fun w' => PSt w w' y (mk3 (.slice B0 n0 k0) (.slice B1 n1 k1) (.slice B2 n2 k2)) A1 I 3) HB.out ?_
                clear HB
                intro w6 hS0
                have hS : (fun w' => PSt w w' y (mk3 (.slice B0 n0 k0) (.slice B1 n1 k1) (.slice B2 n2 k2)) A1 I 3) (w6.drew) := hS0.drew
                refine reg_start (fun w' => PSt w w' y (mk3 (.slice B0 n0 k0) (.slice B1 n1 k1) (.slice B2 n2 k2)) A1 I 3) (by kernel_rfl) hS ?_
                refine reg_take (i := 0) (v := ?_) rfl (by kernel_rfl) (by kernel_rfl) (by kernel_rfl) (fun _ _ _ h => h) (Or.inl ⟨by kernel_rfl, ?_⟩) hS ?_
                rotate_left
                · (intro w' hSw; have z0 : w'.cell? ⟨y, 0, none⟩ = some (.slice B0 n0 k0) := hSw.blk.cell 0; have z1 : w'.cell? ⟨y, 1, none⟩ = some (.slice B1 n1 k1) := hSw.blk.cell 1; have z2 : w'.cell? ⟨y, 2, none⟩ = some (.slice B2 n2 k2) := hSw.blk.cell 2; go_simp <;> with_reducible rfl)
                try simp only [List.getElem_toArray, List.getElem_cons_succ, List.getElem_cons_zero, Act.put, List.setIfInBounds_toArray, List.set_cons_zero, List.set_cons_succ]
                refine reg_take (i := 1) (v := ?_) rfl (by kernel_rfl) (by kernel_rfl) (by kernel_rfl) (fun _ _ _ h => h) (Or.inl ⟨by kernel_rfl, ?_⟩) hS ?_
                rotate_left
                · (intro w' hSw; have z0 : w'.cell? ⟨y, 0, none⟩ = some (.slice B0 n0 k0) := hSw.blk.cell 0; have z1 : w'.cell? ⟨y, 1, none⟩ = some (.slice B1 n1 k1) := hSw.blk.cell 1; have z2 : w'.cell? ⟨y, 2, none⟩ = some (.slice B2 n2 k2) := hSw.blk.cell 2; go_simp <;> with_reducible rfl)
                try simp only [List.getElem_toArray, List.getElem_cons_succ, List.getElem_cons_zero, Act.put, List.setIfInBounds_toArray, List.set_cons_zero, List.set_cons_succ]
                refine reg_take (i := 2) (v := ?_) rfl (by kernel_rfl) (by kernel_rfl) (by kernel_rfl) (fun _ _ _ h => h) (Or.inl ⟨by kernel_rfl, ?_⟩) hS ?_
                rotate_left
                · (intro w' hSw; have z0 : w'.cell? ⟨y, 0, none⟩ = some (.slice B0 n0 k0) := hSw.blk.cell 0; have z1 : w'.cell? ⟨y, 1, none⟩ = some (.slice B1 n1 k1) := hSw.blk.cell 1; have z2 : w'.cell? ⟨y, 2, none⟩ = some (.slice B2 n2 k2) := hSw.blk.cell 2; go_simp <;> with_reducible rfl)
                try simp only [List.getElem_toArray, List.getElem_cons_succ, List.getElem_cons_zero, Act.put, List.setIfInBounds_toArray, List.set_cons_zero, List.set_cons_succ]
                refine reg_take (i := 3) (v := ?_) rfl (by kernel_rfl) (by kernel_rfl) (by kernel_rfl) (fun _ _ _ h => h) (Or.inl ⟨by kernel_rfl, ?_⟩) hS ?_
                rotate_left
                · (intro w' hSw; have z0 : w'.cell? ⟨y, 0, none⟩ = some (.slice B0 n0 k0) := hSw.blk.cell 0; have z1 : w'.cell? ⟨y, 1, none⟩ = some (.slice B1 n1 k1) := hSw.blk.cell 1; have z2 : w'.cell? ⟨y, 2, none⟩ = some (.slice B2 n2 k2) := hSw.blk.cell 2; go_simp <;> with_reducible rfl)
                try simp only [List.getElem_toArray, List.getElem_cons_succ, List.getElem_cons_zero, Act.put, List.setIfInBounds_toArray, List.set_cons_zero, List.set_cons_succ]
                refine reg_take (i := 4) (v := ?_) rfl (by kernel_rfl) (by kernel_rfl) (by kernel_rfl) (fun _ _ _ h => h) (Or.inl ⟨by kernel_rfl, ?_⟩) hS ?_
                rotate_left
                · (intro w' hSw; have z0 : w'.cell? ⟨y, 0, none⟩ = some (.slice B0 n0 k0) := hSw.blk.cell 0; have z1 : w'.cell? ⟨y, 1, none⟩ = some (.slice B1 n1 k1) := hSw.blk.cell 1; have z2 : w'.cell? ⟨y, 2, none⟩ = some (.slice B2 n2 k2) := hSw.blk.cell 2; go_simp <;> with_reducible rfl)
                try simp only [List.getElem_toArray, List.getElem_cons_succ, List.getElem_cons_zero, Act.put, List.setIfInBounds_toArray, List.set_cons_zero, List.set_cons_succ]
                refine reg_take (i := 5) (v := ?_) rfl (by kernel_rfl) (by kernel_rfl) (by kernel_rfl) (fun _ _ _ h => h) (Or.inl ⟨by kernel_rfl, ?_⟩) hS ?_
                rotate_left
                · (intro w' hSw; have z0 : w'.cell? ⟨y, 0, none⟩ = some (.slice B0 n0 k0) := hSw.blk.cell 0; have z1 : w'.cell? ⟨y, 1, none⟩ = some (.slice B1 n1 k1) := hSw.blk.cell 1; have z2 : w'.cell? ⟨y, 2, none⟩ = some (.slice B2 n2 k2) := hSw.blk.cell 2; go_simp <;> with_reducible rfl)
                try simp only [List.getElem_toArray, List.getElem_cons_succ, List.getElem_cons_zero, Act.put, List.setIfInBounds_toArray, List.set_cons_zero, List.set_cons_succ]
                refine reg_take (i := 6) (v := ?_) rfl (by kernel_rfl) (by kernel_rfl) (by kernel_rfl) (fun _ _ _ h => h) (Or.inl ⟨by kernel_rfl, ?_⟩) hS ?_
                rotate_left
                · (intro w' hSw; have z0 : w'.cell? ⟨y, 0, none⟩ = some (.slice B0 n0 k0) := hSw.blk.cell 0; have z1 : w'.cell? ⟨y, 1, none⟩ = some (.slice B1 n1 k1) := hSw.blk.cell 1; have z2 : w'.cell? ⟨y, 2, none⟩ = some (.slice B2 n2 k2) := hSw.blk.cell 2; go_simp <;> with_reducible rfl)
                try simp only [List.getElem_toArray, List.getElem_cons_succ, List.getElem_cons_zero, Act.put, List.setIfInBounds_toArray, List.set_cons_zero, List.set_cons_succ]
                refine reg_take (i := 7) (v := ?_) rfl (by kernel_rfl) (by kernel_rfl) (by kernel_rfl) (fun _ _ _ h => h) (Or.inl ⟨by kernel_rfl, ?_⟩) hS ?_
                rotate_left
                · (intro w' hSw; go_simp <;> with_reducible rfl)
                try simp only [List.getElem_toArray, List.getElem_cons_succ, List.getElem_cons_zero, Act.put, List.setIfInBounds_toArray, List.set_cons_zero, List.set_cons_succ]
                clear hS0
                generalize w6.drew = wd at hS ⊢
                have z0 : wd.cell? ⟨y, 0, none⟩ = some (.slice B0 n0 k0) := hS.blk.cell 0
                have z1 : wd.cell? ⟨y, 1, none⟩ = some (.slice B1 n1 k1) := hS.blk.cell 1
                have z2 : wd.cell? ⟨y, 2, none⟩ = some (.slice B2 n2 k2) := hS.blk.cell 2
                have zf := hS.blk.frozen
                have HP : Hid (PSt w (setFrom wd y 0 [.slice B0 n0 k0, .slice B1 n1 k1, .slice B2 n2 k2]) y (mk3 (.slice B0 n0 k0) (.slice B1 n1 k1) (.slice B2 n2 k2)) A1 I 3) := Lib.hid hS.put
                refine reg_call (i := 8) rfl (by kernel_rfl) (fun K hK => ?_)
                have HK := Lib.hid hK
                clear hK
                go_simp
                clear z0 z1 z2 zf
                go_wp2_with fail
                refine HK.out.go (fun w' => PSt w w' y (mk3 (.slice B0 n0 k0) (.slice B1 n1 k1) (.slice B2 n2 k2)) A1 I 3) (fun _ h => h) (HP.out) ?_
                clear HK hS
                intro w7 hS
                try simp only [List.getElem_toArray, List.getElem_cons_succ, List.getElem_cons_zero, Act.put, List.setIfInBounds_toArray, List.set_cons_zero, List.set_cons_succ]
                refine reg_take (i := 9) (v := ?_) rfl (by kernel_rfl) (by kernel_rfl) (by kernel_rfl) (fun _ _ _ h => h) (Or.inl ⟨by kernel_rfl, ?_⟩) hS ?_
                rotate_left
                · (intro w' hSw; go_simp <;> with_reducible rfl)
                try simp only [List.getElem_toArray, List.getElem_cons_succ, List.getElem_cons_zero, Act.put, List.setIfInBounds_toArray, List.set_cons_zero, List.set_cons_succ]
                refine wpAnyH_done (by kernel_rfl) ?_ _
                try simp only [List.getElem_toArray, List.getElem_cons_succ, List.getElem_cons_zero]
                try simp only [List.getElem_toArray, List.getElem_cons_succ, List.getElem_cons_zero, Act.put, List.setIfInBounds_toArray, List.set_cons_zero, List.set_cons_succ]
                have z0 : w7.cell? ⟨y, 0, none⟩ = some (.slice B0 n0 k0) := hS.blk.cell 0
                have z1 : w7.cell? ⟨y, 1, none⟩ = some (.slice B1 n1 k1) := hS.blk.cell 1
                have z2 : w7.cell? ⟨y, 2, none⟩ = some (.slice B2 n2 k2) := hS.blk.cell 2
                have HQ2 := Lib.hid hS
                clear hS HP
                go_wp2_with fail
                exact bodyPost_ret (v := .tuple #[.int .i64 M, .agg #[.slice B0 n0 k0, .slice B1 n1 k1, .slice B2 n2 k2], .bool false]) (by simp [results, Tryz.results67, go_sem, z0, z1, z2, hmw] <;> omega) rfl (parts_no HQ2.out HN.out)
        · have HN := Lib.hid (show ¬ Parts b from fun h => hM4 (by rw [HU.out.1, HI.out.1]; exact h.m))
          have d4 : decide ((4096 : Int) < (M : Int)) = true := by simp; omega
          have d4' : 4096 < M := by omega
          rw [show ((0 : Nat) : Int) = 0 from rfl]
          go_wp2_with fail
          refine wp_gen (fun w' => PSt w w' y (fun _ => .slice none 0 0) A1 I 0) H5.out ?_
          clear H5
          intro w6 hS0
          have hS : (fun w' => PSt w w' y (fun _ => .slice none 0 0) A1 I 0) (w6.drew) := hS0.drew
          refine reg_start (fun w' => PSt w w' y (fun _ => .slice none 0 0) A1 I 0) (by kernel_rfl) hS ?_
          refine reg_take (i := 0) (v := ?_) rfl (by kernel_rfl) (by kernel_rfl) (by kernel_rfl) (fun _ _ _ h => h) (Or.inl ⟨by kernel_rfl, ?_⟩) hS ?_
          rotate_left
          · (intro w' hSw; have z0 : w'.cell? ⟨y, 0, none⟩ = some (.slice none 0 0) := hSw.blk.cell 0; have z1 : w'.cell? ⟨y, 1, none⟩ = some (.slice none 0 0) := hSw.blk.cell 1; have z2 : w'.cell? ⟨y, 2, none⟩ = some (.slice none 0 0) := hSw.blk.cell 2; go_simp <;> with_reducible rfl)
          try simp only [List.getElem_toArray, List.getElem_cons_succ, List.getElem_cons_zero, Act.put, List.setIfInBounds_toArray, List.set_cons_zero, List.set_cons_succ]
          refine reg_take (i := 1) (v := ?_) rfl (by kernel_rfl) (by kernel_rfl) (by kernel_rfl) (fun _ _ _ h => h) (Or.inl ⟨by kernel_rfl, ?_⟩) hS ?_
          rotate_left
          · (intro w' hSw; go_simp <;> with_reducible rfl)
          try simp only [List.getElem_toArray, List.getElem_cons_succ, List.getElem_cons_zero, Act.put, List.setIfInBounds_toArray, List.set_cons_zero, List.set_cons_succ]
          clear hS0
          generalize w6.drew = wd at hS ⊢
          have z0 : wd.cell? ⟨y, 0, none⟩ = some (.slice none 0 0) := hS.blk.cell 0
          have z1 : wd.cell? ⟨y, 1, none⟩ = some (.slice none 0 0) := hS.blk.cell 1
          have z2 : wd.cell? ⟨y, 2, none⟩ = some (.slice none 0 0) := hS.blk.cell 2
          have zf := hS.blk.frozen
          have HP : Hid (PSt w (setFrom wd y 0 [.slice none 0 0, .slice none 0 0, .slice none 0 0]) y (fun _ => .slice none 0 0) A1 I 0) := Lib.hid hS.put
          refine reg_call (i := 2) rfl (by kernel_rfl) (fun K hK => ?_)
          have HK := Lib.hid hK
          clear hK
          go_simp
          clear z0 z1 z2 zf
          go_wp2_with fail
          refine HK.out.go (fun w' => PSt w w' y (fun _ => .slice none 0 0) A1 I 0) (fun _ h => h) (HP.out) ?_
          clear HK hS
          intro w61 hS
          try simp only [List.getElem_toArray, List.getElem_cons_succ, List.getElem_cons_zero, Act.put, List.setIfInBounds_toArray, List.set_cons_zero, List.set_cons_succ]
          refine reg_take (i := 3) (v := ?_) rfl (by kernel_rfl) (by kernel_rfl) (by kernel_rfl) (fun _ _ _ h => h) (Or.inl ⟨by kernel_rfl, ?_⟩) hS ?_
          rotate_left
          · (intro w' hSw; go_simp <;> with_reducible rfl)
          try simp only [List.getElem_toArray, List.getElem_cons_succ, List.getElem_cons_zero, Act.put, List.setIfInBounds_toArray, List.set_cons_zero, List.set_cons_succ]
          refine wpAnyH_done (by kernel_rfl) ?_ _
          try simp only [List.getElem_toArray, List.getElem_cons_succ, List.getElem_cons_zero]
          try simp only [List.getElem_toArray, List.getElem_cons_succ, List.getElem_cons_zero, Act.put, List.setIfInBounds_toArray, List.set_cons_zero, List.set_cons_succ]
          have z0 : w61.cell? ⟨y, 0, none⟩ = some (.slice none 0 0) := hS.blk.cell 0
          have z1 : w61.cell? ⟨y, 1, none⟩ = some (.slice none 0 0) := hS.blk.cell 1
          have z2 : w61.cell? ⟨y, 2, none⟩ = some (.slice none 0 0) := hS.blk.cell 2
          have HQ := Lib.hid (And.intro hS HN.out)
          clear hS HP
          go_wp2_with fail
          exact bodyPost_ret (v := .tuple #[.int .i64 0, .agg #[.slice none 0 0, .slice none 0 0, .slice none 0 0], .bool false]) (by simp [results, Tryz.results67, go_sem, z0, z1, z2]) rfl (parts_no HQ.out.1 HQ.out.2)
      · have HN := Lib.hid (show ¬ Parts b from fun h => hR0 (by rw [HU.out.2.2, HI.out.1]; exact h.v))
        have d0 : decide ((R : Int) = 0) = false := by simp; omega
        have d0' : ¬ (R : Int) = 0 := by omega
        go_wp2_with fail
        refine wp_gen (fun w' => PSt w w' y (fun _ => .slice none 0 0) A1 I 0) H5.out ?_
        clear H5
        intro w6 hS0
        have hS : (fun w' => PSt w w' y (fun _ => .slice none 0 0) A1 I 0) (w6.drew) := hS0.drew
        refine reg_start (fun w' => PSt w w' y (fun _ => .slice none 0 0) A1 I 0) (by kernel_rfl) hS ?_
        refine reg_take (i := 0) (v := ?_) rfl (by kernel_rfl) (by kernel_rfl) (by kernel_rfl) (fun _ _ _ h => h) (Or.inl ⟨by kernel_rfl, ?_⟩) hS ?_
        rotate_left
        · (intro w' hSw; have z0 : w'.cell? ⟨y, 0, none⟩ = some (.slice none 0 0) := hSw.blk.cell 0; have z1 : w'.cell? ⟨y, 1, none⟩ = some (.slice none 0 0) := hSw.blk.cell 1; have z2 : w'.cell? ⟨y, 2, none⟩ = some (.slice none 0 0) := hSw.blk.cell 2; go_simp <;> with_reducible rfl)
        try simp only [List.getElem_toArray, List.getElem_cons_succ, List.getElem_cons_zero, Act.put, List.setIfInBounds_toArray, List.set_cons_zero, List.set_cons_succ]
        refine reg_take (i := 1) (v := ?_) rfl (by kernel_rfl) (by kernel_rfl) (by kernel_rfl) (fun _ _ _ h => h) (Or.inl ⟨by kernel_rfl, ?_⟩) hS ?_
        rotate_left
        · (intro w' hSw; go_simp <;> with_reducible rfl)
        try simp only [List.getElem_toArray, List.getElem_cons_succ, List.getElem_cons_zero, Act.put, List.setIfInBounds_toArray, List.set_cons_zero, List.set_cons_succ]
        clear hS0
        generalize w6.drew = wd at hS ⊢
        have z0 : wd.cell? ⟨y, 0, none⟩ = some (.slice none 0 0) := hS.blk.cell 0
        have z1 : wd.cell? ⟨y, 1, none⟩ = some (.slice none 0 0) := hS.blk.cell 1
        have z2 : wd.cell? ⟨y, 2, none⟩ = some (.slice none 0 0) := hS.blk.cell 2
        have zf := hS.blk.frozen
        have HP : Hid (PSt w (setFrom wd y 0 [.slice none 0 0, .slice none 0 0, .slice none 0 0]) y (fun _ => .slice none 0 0) A1 I 0) := Lib.hid hS.put
        refine reg_call (i := 2) rfl (by kernel_rfl) (fun K hK => ?_)
        have HK := Lib.hid hK
        clear hK
        go_simp
        clear z0 z1 z2 zf
        go_wp2_with fail
        refine HK.out.go (fun w' => PSt w w' y (fun _ => .slice none 0 0) A1 I 0) (fun _ h => h) (HP.out) ?_
        clear HK hS
        intro w61 hS
        try simp only [List.getElem_toArray, List.getElem_cons_succ, List.getElem_cons_zero, Act.put, List.setIfInBounds_toArray, List.set_cons_zero, List.set_cons_succ]
        refine reg_take (i := 3) (v := ?_) rfl (by kernel_rfl) (by kernel_rfl) (by kernel_rfl) (fun _ _ _ h => h) (Or.inl ⟨by kernel_rfl, ?_⟩) hS ?_
        rotate_left
        · (intro w' hSw; go_simp <;> with_reducible rfl)
        try simp only [List.getElem_toArray, List.getElem_cons_succ, List.getElem_cons_zero, Act.put, List.setIfInBounds_toArray, List.set_cons_zero, List.set_cons_succ]
        refine wpAnyH_done (by kernel_rfl) ?_ _
        try simp only [List.getElem_toArray, List.getElem_cons_succ, List.getElem_cons_zero]
        try simp only [List.getElem_toArray, List.getElem_cons_succ, List.getElem_cons_zero, Act.put, List.setIfInBounds_toArray, List.set_cons_zero, List.set_cons_succ]
        have z0 : w61.cell? ⟨y, 0, none⟩ = some (.slice none 0 0) := hS.blk.cell 0
        have z1 : w61.cell? ⟨y, 1, none⟩ = some (.slice none 0 0) := hS.blk.cell 1
        have z2 : w61.cell? ⟨y, 2, none⟩ = some (.slice none 0 0) := hS.blk.cell 2
        have HQ := Lib.hid (And.intro hS HN.out)
        clear hS HP
        go_wp2_with fail
        exact bodyPost_ret (v := .tuple #[.int .i64 0, .agg #[.slice none 0 0, .slice none 0 0, .slice none 0 0], .bool false]) (by simp [results, Tryz.results67, go_sem, z0, z1, z2]) rfl (parts_no HQ.out.1 HQ.out.2)
    · have HN := Lib.hid (show ¬ Parts b from fun h => hK3 (by rw [HK.out.1]; exact h.k))
      subst hE0
      have d3 : decide ((K : Int) = 3) = false := by simp; omega
      have d3' : ¬ (K : Int) = 3 := by omega
      go_wp2_with fail
      refine wp_gen (fun w' => PSt w w' y (fun _ => .slice none 0 0) A1 I 0) HT.out ?_
      clear HT
      intro w3 hS0
      have hS : (fun w' => PSt w w' y (fun _ => .slice none 0 0) A1 I 0) (w3.drew) := hS0.drew
      refine reg_start (fun w' => PSt w w' y (fun _ => .slice none 0 0) A1 I 0) (by kernel_rfl) hS ?_
      refine reg_take (i := 0) (v := ?_) rfl (by kernel_rfl) (by kernel_rfl) (by kernel_rfl) (fun _ _ _ h => h) (Or.inl ⟨by kernel_rfl, ?_⟩) hS ?_
      rotate_left
      · (intro w' hSw; have z0 : w'.cell? ⟨y, 0, none⟩ = some (.slice none 0 0) := hSw.blk.cell 0; have z1 : w'.cell? ⟨y, 1, none⟩ = some (.slice none 0 0) := hSw.blk.cell 1; have z2 : w'.cell? ⟨y, 2, none⟩ = some (.slice none 0 0) := hSw.blk.cell 2; go_simp <;> with_reducible rfl)
      try simp only [List.getElem_toArray, List.getElem_cons_succ, List.getElem_cons_zero, Act.put, List.setIfInBounds_toArray, List.set_cons_zero, List.set_cons_succ]
      refine reg_take (i := 1) (v := ?_) rfl (by kernel_rfl) (by kernel_rfl) (by kernel_rfl) (fun _ _ _ h => h) (Or.inl ⟨by kernel_rfl, ?_⟩) hS ?_
      rotate_left
      · (intro w' hSw; go_simp <;> with_reducible rfl)
      try simp only [List.getElem_toArray, List.getElem_cons_succ, List.getElem_cons_zero, Act.put, List.setIfInBounds_toArray, List.set_cons_zero, List.set_cons_succ]
      clear hS0
      generalize w3.drew = wd at hS ⊢
      have z0 : wd.cell? ⟨y, 0, none⟩ = some (.slice none 0 0) := hS.blk.cell 0
      have z1 : wd.cell? ⟨y, 1, none⟩ = some (.slice none 0 0) := hS.blk.cell 1
      have z2 : wd.cell? ⟨y, 2, none⟩ = some (.slice none 0 0) := hS.blk.cell 2
      have zf := hS.blk.frozen
      have HP : Hid (PSt w (setFrom wd y 0 [.slice none 0 0, .slice none 0 0, .slice none 0 0]) y (fun _ => .slice none 0 0) A1 I 0) := Lib.hid hS.put
      refine reg_call (i := 2) rfl (by kernel_rfl) (fun K hK => ?_)
      have HK := Lib.hid hK
      clear hK
      go_simp
      clear z0 z1 z2 zf
      go_wp2_with fail
      refine HK.out.go (fun w' => PSt w w' y (fun _ => .slice none 0 0) A1 I 0) (fun _ h => h) (HP.out) ?_
      clear HK hS
      intro w31 hS
      try simp only [List.getElem_toArray, List.getElem_cons_succ, List.getElem_cons_zero, Act.put, List.setIfInBounds_toArray, List.set_cons_zero, List.set_cons_succ]
      refine reg_take (i := 3) (v := ?_) rfl (by kernel_rfl) (by kernel_rfl) (by kernel_rfl) (fun _ _ _ h => h) (Or.inl ⟨by kernel_rfl, ?_⟩) hS ?_
      rotate_left
      · (intro w' hSw; go_simp <;> with_reducible rfl)
      try simp only [List.getElem_toArray, List.getElem_cons_succ, List.getElem_cons_zero, Act.put, List.setIfInBounds_toArray, List.set_cons_zero, List.set_cons_succ]
      refine wpAnyH_done (by kernel_rfl) ?_ _
      try simp only [List.getElem_toArray, List.getElem_cons_succ, List.getElem_cons_zero]
      try simp only [List.getElem_toArray, List.getElem_cons_succ, List.getElem_cons_zero, Act.put, List.setIfInBounds_toArray, List.set_cons_zero, List.set_cons_succ]
      have z0 : w31.cell? ⟨y, 0, none⟩ = some (.slice none 0 0) := hS.blk.cell 0
      have z1 : w31.cell? ⟨y, 1, none⟩ = some (.slice none 0 0) := hS.blk.cell 1
      have z2 : w31.cell? ⟨y, 2, none⟩ = some (.slice none 0 0) := hS.blk.cell 2
      have HQ := Lib.hid (And.intro hS HN.out)
      clear hS HP
      go_wp2_with fail
      exact bodyPost_ret (v := .tuple #[.int .i64 0, .agg #[.slice none 0 0, .slice none 0 0, .slice none 0 0], .bool false]) (by simp [results, Tryz.results67, go_sem, z0, z1, z2]) rfl (parts_no HQ.out.1 HQ.out.2)
  · have HN := Lib.hid (show ¬ Parts b from fun h => hE0 (by rw [HK.out.2]; exact h.e))
    go_wp2_with fail
    refine wp_gen (fun w' => PSt w w' y (fun _ => .slice none 0 0) A1 I 0) HT.out ?_
    clear HT
    intro w3 hS0
    have hS : (fun w' => PSt w w' y (fun _ => .slice none 0 0) A1 I 0) (w3.drew) := hS0.drew
    refine reg_start (fun w' => PSt w w' y (fun _ => .slice none 0 0) A1 I 0) (by kernel_rfl) hS ?_
    refine reg_take (i := 0) (v := ?_) rfl (by kernel_rfl) (by kernel_rfl) (by kernel_rfl) (fun _ _ _ h => h) (Or.inl ⟨by kernel_rfl, ?_⟩) hS ?_
    rotate_left
    · (intro w' hSw; have z0 : w'.cell? ⟨y, 0, none⟩ = some (.slice none 0 0) := hSw.blk.cell 0; have z1 : w'.cell? ⟨y, 1, none⟩ = some (.slice none 0 0) := hSw.blk.cell 1; have z2 : w'.cell? ⟨y, 2, none⟩ = some (.slice none 0 0) := hSw.blk.cell 2; go_simp <;> with_reducible rfl)
    try simp only [List.getElem_toArray, List.getElem_cons_succ, List.getElem_cons_zero, Act.put, List.setIfInBounds_toArray, List.set_cons_zero, List.set_cons_succ]
    refine reg_take (i := 1) (v := ?_) rfl (by kernel_rfl) (by kernel_rfl) (by kernel_rfl) (fun _ _ _ h => h) (Or.inl ⟨by kernel_rfl, ?_⟩) hS ?_
    rotate_left
    · (intro w' hSw; go_simp <;> with_reducible rfl)
    try simp only [List.getElem_toArray, List.getElem_cons_succ, List.getElem_cons_zero, Act.put, List.setIfInBounds_toArray, List.set_cons_zero, List.set_cons_succ]
    clear hS0
    generalize w3.drew = wd at hS ⊢
    have z0 : wd.cell? ⟨y, 0, none⟩ = some (.slice none 0 0) := hS.blk.cell 0
    have z1 : wd.cell? ⟨y, 1, none⟩ = some (.slice none 0 0) := hS.blk.cell 1
    have z2 : wd.cell? ⟨y, 2, none⟩ = some (.slice none 0 0) := hS.blk.cell 2
    have zf := hS.blk.frozen
    have HP : Hid (PSt w (setFrom wd y 0 [.slice none 0 0, .slice none 0 0, .slice none 0 0]) y (fun _ => .slice none 0 0) A1 I 0) := Lib.hid hS.put
    refine reg_call (i := 2) rfl (by kernel_rfl) (fun K hK => ?_)
    have HK := Lib.hid hK
    clear hK
    go_simp
    clear z0 z1 z2 zf
    go_wp2_with fail
    refine HK.out.go (fun w' => PSt w w' y (fun _ => .slice none 0 0) A1 I 0) (fun _ h => h) (HP.out) ?_
    clear HK hS
    intro w31 hS
    try simp only [List.getElem_toArray, List.getElem_cons_succ, List.getElem_cons_zero, Act.put, List.setIfInBounds_toArray, List.set_cons_zero, List.set_cons_succ]
    refine reg_take (i := 3) (v := ?_) rfl (by kernel_rfl) (by kernel_rfl) (by kernel_rfl) (fun _ _ _ h => h) (Or.inl ⟨by kernel_rfl, ?_⟩) hS ?_
    rotate_left
    · (intro w' hSw; go_simp <;> with_reducible rfl)
    try simp only [List.getElem_toArray, List.getElem_cons_succ, List.getElem_cons_zero, Act.put, List.setIfInBounds_toArray, List.set_cons_zero, List.set_cons_succ]
    refine wpAnyH_done (by kernel_rfl) ?_ _
    try simp only [List.getElem_toArray, List.getElem_cons_succ, List.getElem_cons_zero]
    try simp only [List.getElem_toArray, List.getElem_cons_succ, List.getElem_cons_zero, Act.put, List.setIfInBounds_toArray, List.set_cons_zero, List.set_cons_succ]
    have z0 : w31.cell? ⟨y, 0, none⟩ = some (.slice none 0 0) := hS.blk.cell 0
    have z1 : w31.cell? ⟨y, 1, none⟩ = some (.slice none 0 0) := hS.blk.cell 1
    have z2 : w31.cell? ⟨y, 2, none⟩ = some (.slice none 0 0) := hS.blk.cell 2
    have HQ := Lib.hid (And.intro hS HN.out)
    clear hS HP
    go_wp2_with fail
    exact bodyPost_ret (v := .tuple #[.int .i64 0, .agg #[.slice none 0 0, .slice none 0 0, .slice none 0 0], .bool false]) (by simp [results, Tryz.results67, go_sem, z0, z1, z2]) rfl (parts_no HQ.out.1 HQ.out.2)
end Go.Proofs.YtopbbicjbjmdnaaGreatDoor
namespace Go.Proofs.YtopbbicjbjmdnaaGreatDoor
open Go.RowKit
set_option linter.unusedVariables false
set_option linter.unusedSimpArgs false
theorem run_copy_wide {P : Program} (w : World) (dT sT ty elem : TypeId) (b dLen dCap : Nat) (a : Addr) (sLen sCap size : Nat) (cs : List Value)
    (hu : P.underlying dT = some (.slice elem)) (hs : (P.info? elem).map (·.size) = some size) (hn : cs.length = Nat.min sLen dLen * size)
    (hsrc : ∀ j v, cs[j]? = some v → w.cell? (a.add j) = some v) (hc : ∀ j, j < cs.length → (w.cell? ⟨b, 0 + j, none⟩).isSome = true) (hf : ∀ j, j < cs.length → w.frozen? ⟨b, 0 + j, none⟩ = false) (h1 : ∀ v ∈ cs, v.oneCell' = true) :
    (Builtin.copy_ #[dT, sT] ty #[.slice (some ⟨b, 0, none⟩) dLen dCap, .slice (some a) sLen sCap]).run P w = .ok (goInt (Nat.min sLen dLen)) (w.setCells b 0 cs) := by
  have hl := run_loadCells_list (P := P) w a cs hsrc
  have hst := run_storeCells_cells (P := P) b 0 cs 0 w (by simpa using hc) (by simpa using hf) h1
  cases hq : P.info? elem with
  | none => simp [hq] at hs
  | some i =>
    have hi : i.size = size := by simpa [hq] using hs
    simp [Builtin.copy_, run_underlying hu, Builtin.lenOf, Builtin.firstCells, sizeOf, typeInfo, hq, hi, ← hn, hl, hst]
set_option maxRecDepth 100000 in
set_option maxHeartbeats 4000000 in
/-- The closure gives point k. -/
theorem clo_any (w : World) (xt xv xs bt ot bv ov bs os_ n ct cv cs k : Nat) (t : Int) (v : Nat) (s : Int) (hk : k < n)
    (ht : w.cell? ⟨xt, 0, none⟩ = some (.slice (some ⟨bt, ot, none⟩) n ct)) (hv : w.cell? ⟨xv, 0, none⟩ = some (.slice (some ⟨bv, ov, none⟩) n cv)) (hs : w.cell? ⟨xs, 0, none⟩ = some (.slice (some ⟨bs, os_, none⟩) n cs))
    (tc : w.cell? ⟨bt, ot + k, none⟩ = some (.int .i64 t)) (vc : w.cell? ⟨bv, ov + k, none⟩ = some (.int .u64 (v : Nat))) (sc : w.cell? ⟨bs, os_ + k, none⟩ = some (.int .i64 s)) :
    Calls Tryz.prog 70 #[.int .i64 k, .pointer (some ⟨xt, 0, none⟩), .pointer (some ⟨xv, 0, none⟩), .pointer (some ⟨xs, 0, none⟩)] w fun e w' => e = .returned (.agg #[.int .i64 t, .int .i64 (IntKind.i64.wrap (v : Nat)), .int .i64 s]) ∧ Below w.heap.size w w' := by
  have old : ∀ {a : Addr} {u : Value}, w.cell? a = some u → ∀ w', Below w.heap.size w w' → w'.cell? a = some u := fun {a u} h w' hb => (World.cell?_of_block (w := w) (a := a) (hb.block a.block (World.block_lt_of_cell? w _ h))).trans h
  have HC := Lib.hid (show ∀ w', Below w.heap.size w w' → w'.cell? ⟨xt, 0, none⟩ = some (.slice (some ⟨bt, ot, none⟩) n ct) ∧ w'.cell? ⟨xv, 0, none⟩ = some (.slice (some ⟨bv, ov, none⟩) n cv) ∧ w'.cell? ⟨xs, 0, none⟩ = some (.slice (some ⟨bs, os_, none⟩) n cs) ∧
    w'.cell? ⟨bt, ot + k, none⟩ = some (.int .i64 t) ∧ w'.cell? ⟨bv, ov + k, none⟩ = some (.int .u64 (v : Nat)) ∧ w'.cell? ⟨bs, os_ + k, none⟩ = some (.int .i64 s) from fun w' hb => ⟨old ht w' hb, old hv w' hb, old hs w' hb, old tc w' hb, old vc w' hb, old sc w' hb⟩)
  clear old ht hv hs tc vc sc
  obtain ⟨x, hx⟩ : ∃ x, x = w.heap.size := ⟨_, rfl⟩
  have o0 := (Own.start w).alloc hx 30 #[.int .i64 0, .int .i64 0, .int .i64 0]
  have HO := Lib.hid (And.intro hx o0)
  clear hx o0
  go_enter Tryz.func70, Tryz.ntmps70
  go_wp2_with fail
  rw [← HO.out.1]
  refine wp_gen (Own w [(x, 30, #[.int .i64 0, .int .i64 0, .int .i64 0])]) HO.out.2 ?_
  clear HO
  intro w1 hS0
  have hS : (OwnR w x 30 3 []) (w1.drew) := (OwnR.of (hS0.drewN 1) rfl)
  refine reg_start (OwnR w x 30 3 []) (by kernel_rfl) hS ?_
  clear hS0
  refine reg_take (i := 0) (v := ?_) rfl (by kernel_rfl) (by kernel_rfl) (by kernel_rfl) (fun _ _ _ h => h) (Or.inl ⟨by kernel_rfl, ?_⟩) hS ?_
  rotate_left
  · (intro w' hSw; obtain ⟨c0, c1, c2, c3, c4, c5⟩ := HC.out w' hSw.rest.bel; go_simp <;> with_reducible rfl)
  try simp only [List.getElem_toArray, List.getElem_cons_succ, List.getElem_cons_zero, Act.put, List.setIfInBounds_toArray, List.set_cons_zero, List.set_cons_succ]
  refine reg_take (i := 1) (v := ?_) rfl (by kernel_rfl) (by kernel_rfl) (by kernel_rfl) (fun _ _ _ h => h) (Or.inl ⟨by kernel_rfl, ?_⟩) hS ?_
  rotate_left
  · (intro w' hSw; obtain ⟨c0, c1, c2, c3, c4, c5⟩ := HC.out w' hSw.rest.bel; go_simp <;> with_reducible rfl)
  try simp only [List.getElem_toArray, List.getElem_cons_succ, List.getElem_cons_zero, Act.put, List.setIfInBounds_toArray, List.set_cons_zero, List.set_cons_succ]
  refine reg_take (i := 2) (v := ?_) rfl (by kernel_rfl) (by kernel_rfl) (by kernel_rfl) (fun _ _ _ h => h) (Or.inl ⟨by kernel_rfl, ?_⟩) hS ?_
  rotate_left
  · (intro w' hSw; obtain ⟨c0, c1, c2, c3, c4, c5⟩ := HC.out w' hSw.rest.bel; go_simp <;> with_reducible rfl)
  try simp only [List.getElem_toArray, List.getElem_cons_succ, List.getElem_cons_zero, Act.put, List.setIfInBounds_toArray, List.set_cons_zero, List.set_cons_succ]
  refine reg_take (i := 3) (v := ?_) rfl (by kernel_rfl) (by kernel_rfl) (by kernel_rfl) (fun _ _ _ h => h) (Or.inl ⟨by kernel_rfl, ?_⟩) hS ?_
  rotate_left
  · (intro w' hSw; obtain ⟨c0, c1, c2, c3, c4, c5⟩ := HC.out w' hSw.rest.bel; go_simp <;> with_reducible rfl)
  try simp only [List.getElem_toArray, List.getElem_cons_succ, List.getElem_cons_zero, Act.put, List.setIfInBounds_toArray, List.set_cons_zero, List.set_cons_succ]
  refine reg_take (i := 4) (v := ?_) rfl (by kernel_rfl) (by kernel_rfl) (by kernel_rfl) (fun _ _ _ h => h) (Or.inl ⟨by kernel_rfl, ?_⟩) hS ?_
  rotate_left
  · (intro w' hSw; obtain ⟨c0, c1, c2, c3, c4, c5⟩ := HC.out w' hSw.rest.bel; go_simp <;> with_reducible rfl)
  try simp only [List.getElem_toArray, List.getElem_cons_succ, List.getElem_cons_zero, Act.put, List.setIfInBounds_toArray, List.set_cons_zero, List.set_cons_succ]
  refine reg_take (i := 5) (v := ?_) rfl (by kernel_rfl) (by kernel_rfl) (by kernel_rfl) (fun _ _ _ h => h) (Or.inl ⟨by kernel_rfl, ?_⟩) hS ?_
  rotate_left
  · (intro w' hSw; obtain ⟨c0, c1, c2, c3, c4, c5⟩ := HC.out w' hSw.rest.bel; go_simp <;> with_reducible rfl)
  try simp only [List.getElem_toArray, List.getElem_cons_succ, List.getElem_cons_zero, Act.put, List.setIfInBounds_toArray, List.set_cons_zero, List.set_cons_succ]
  refine reg_take (i := 6) (v := ?_) rfl (by kernel_rfl) (by kernel_rfl) (by kernel_rfl) (fun _ _ _ h => h) (Or.inl ⟨by kernel_rfl, ?_⟩) hS ?_
  rotate_left
  · (intro w' hSw; obtain ⟨c0, c1, c2, c3, c4, c5⟩ := HC.out w' hSw.rest.bel; go_simp <;> with_reducible rfl)
  try simp only [List.getElem_toArray, List.getElem_cons_succ, List.getElem_cons_zero, Act.put, List.setIfInBounds_toArray, List.set_cons_zero, List.set_cons_succ]
  refine reg_take (i := 7) (v := ?_) rfl (by kernel_rfl) (by kernel_rfl) (by kernel_rfl) (fun _ _ _ h => h) (Or.inl ⟨by kernel_rfl, ?_⟩) hS ?_
  rotate_left
  · (intro w' hSw; obtain ⟨c0, c1, c2, c3, c4, c5⟩ := HC.out w' hSw.rest.bel; go_simp <;> with_reducible rfl)
  try simp only [List.getElem_toArray, List.getElem_cons_succ, List.getElem_cons_zero, Act.put, List.setIfInBounds_toArray, List.set_cons_zero, List.set_cons_succ]
  refine reg_take (i := 8) (v := ?_) rfl (by kernel_rfl) (by kernel_rfl) (by kernel_rfl) (fun _ _ _ h => h) (Or.inl ⟨by kernel_rfl, ?_⟩) hS ?_
  rotate_left
  · (intro w' hSw; obtain ⟨c0, c1, c2, c3, c4, c5⟩ := HC.out w' hSw.rest.bel; go_simp <;> with_reducible rfl)
  try simp only [List.getElem_toArray, List.getElem_cons_succ, List.getElem_cons_zero, Act.put, List.setIfInBounds_toArray, List.set_cons_zero, List.set_cons_succ]
  refine reg_take (i := 9) (v := ?_) rfl (by kernel_rfl) (by kernel_rfl) (by kernel_rfl) (fun _ _ _ h => h) (Or.inl ⟨by kernel_rfl, ?_⟩) hS ?_
  rotate_left
  · (intro w' hSw; obtain ⟨c0, c1, c2, c3, c4, c5⟩ := HC.out w' hSw.rest.bel; go_simp <;> with_reducible rfl)
  try simp only [List.getElem_toArray, List.getElem_cons_succ, List.getElem_cons_zero, Act.put, List.setIfInBounds_toArray, List.set_cons_zero, List.set_cons_succ]
  refine reg_take (i := 10) (v := ?_) rfl (by kernel_rfl) (by kernel_rfl) (by kernel_rfl) (fun _ _ _ h => h) (Or.inl ⟨by kernel_rfl, ?_⟩) hS ?_
  rotate_left
  · (intro w' hSw; obtain ⟨c0, c1, c2, c3, c4, c5⟩ := HC.out w' hSw.rest.bel; go_simp <;> with_reducible rfl)
  try simp only [List.getElem_toArray, List.getElem_cons_succ, List.getElem_cons_zero, Act.put, List.setIfInBounds_toArray, List.set_cons_zero, List.set_cons_succ]
  refine reg_take (i := 11) (v := ?_) rfl (by kernel_rfl) (by kernel_rfl) (by kernel_rfl) (fun _ _ _ h => h) (Or.inl ⟨by kernel_rfl, ?_⟩) hS ?_
  rotate_left
  · (intro w' hSw; obtain ⟨c0, c1, c2, c3, c4, c5⟩ := HC.out w' hSw.rest.bel; go_simp <;> with_reducible rfl)
  try simp only [List.getElem_toArray, List.getElem_cons_succ, List.getElem_cons_zero, Act.put, List.setIfInBounds_toArray, List.set_cons_zero, List.set_cons_succ]
  refine reg_take (i := 12) (v := ?_) rfl (by kernel_rfl) (by kernel_rfl) (by kernel_rfl) (fun _ _ _ h => h) (Or.inl ⟨by kernel_rfl, ?_⟩) hS ?_
  rotate_left
  · (intro w' hSw; obtain ⟨c0, c1, c2, c3, c4, c5⟩ := HC.out w' hSw.rest.bel; go_simp <;> with_reducible rfl)
  try simp only [List.getElem_toArray, List.getElem_cons_succ, List.getElem_cons_zero, Act.put, List.setIfInBounds_toArray, List.set_cons_zero, List.set_cons_succ]
  refine reg_take (i := 13) (v := ?_) rfl (by kernel_rfl) (by kernel_rfl) (by kernel_rfl) (fun _ _ _ h => h) (Or.inl ⟨by kernel_rfl, ?_⟩) hS ?_
  rotate_left
  · (intro w' hSw; obtain ⟨c0, c1, c2, c3, c4, c5⟩ := HC.out w' hSw.rest.bel; go_simp <;> with_reducible rfl)
  try simp only [List.getElem_toArray, List.getElem_cons_succ, List.getElem_cons_zero, Act.put, List.setIfInBounds_toArray, List.set_cons_zero, List.set_cons_succ]
  generalize w1.drew = wd at hS ⊢
  obtain ⟨p0, p1, p2, hO⟩ := hS.three
  have z0_0 := hO.cell 0 0 rfl rfl; have z0_1 := hO.cell 0 1 rfl rfl; have z0_2 := hO.cell 0 2 rfl rfl
  have zf0 := hO.free 0 rfl
  have HW := Lib.hid (hS.put [.int .i64 t, .int .i64 (IntKind.i64.wrap (v : Nat)), .int .i64 s] rfl)
  clear hO
  refine reg_call (i := 14) rfl (by kernel_rfl) (fun K hK => ?_)
  have HK := Lib.hid hK
  clear hK
  go_simp
  clear z0_0 z0_1 z0_2 zf0
  go_wp2_with fail
  refine HK.out.go (Own w [(x, 30, #[.int .i64 t, .int .i64 (IntKind.i64.wrap (v : Nat)), .int .i64 s])]) (fun _ h => OwnR.of h rfl) (HW.out) ?_
  clear HK hS
  intro w4 hS
  try simp only [List.getElem_toArray, List.getElem_cons_succ, List.getElem_cons_zero, Act.put, List.setIfInBounds_toArray, List.set_cons_zero, List.set_cons_succ]
  refine wpAnyH_done (by kernel_rfl) ?_ _
  try simp only [List.getElem_toArray, List.getElem_cons_succ, List.getElem_cons_zero]
  try simp only [List.getElem_toArray, List.getElem_cons_succ, List.getElem_cons_zero, Act.put, List.setIfInBounds_toArray, List.set_cons_zero, List.set_cons_succ]
  have z0_0 := hS.cell 0 0 rfl rfl; have z0_1 := hS.cell 0 1 rfl rfl; have z0_2 := hS.cell 0 2 rfl rfl
  have HS := Lib.hid hS
  clear hS
  go_wp2_with fail
  exact bodyPost_ret (v := .agg #[.int .i64 t, .int .i64 (IntKind.i64.wrap (v : Nat)), .int .i64 s]) (by simp [results, Tryz.results70, go_sem, z0_0, z0_1, z0_2]) rfl ⟨rfl, HS.out.bel⟩
end Go.Proofs.YtopbbicjbjmdnaaGreatDoor
namespace Go.Proofs.YtopbbicjbjmdnaaGreatDoor
open Go.RowKit
set_option linter.unusedVariables false
set_option linter.unusedSimpArgs false
/-- What the closure has captured: three variables that hold the lists of n numbers. -/
def CapIs (w : World) (xt xv xs n : Nat) (t : Nat → Int) (v : Nat → Nat) (s : Nat → Int) : Prop :=
  0 < n → ∃ bt ot ct bv ov cv bs os_ cs, w.cell? ⟨xt, 0, none⟩ = some (.slice (some ⟨bt, ot, none⟩) n ct) ∧ w.cell? ⟨xv, 0, none⟩ = some (.slice (some ⟨bv, ov, none⟩) n cv) ∧ w.cell? ⟨xs, 0, none⟩ = some (.slice (some ⟨bs, os_, none⟩) n cs) ∧
    ∀ j, j < n → w.cell? ⟨bt, ot + j, none⟩ = some (.int .i64 (t j)) ∧ w.cell? ⟨bv, ov + j, none⟩ = some (.int .u64 (v j : Nat)) ∧ w.cell? ⟨bs, os_ + j, none⟩ = some (.int .i64 (s j))
theorem old_cell {w w' : World} {a : Addr} {u : Value} (hb : Below w.heap.size w w') (h : w.cell? a = some u) : w'.cell? a = some u := (World.cell?_of_block (w := w) (a := a) (hb.block a.block (World.block_lt_of_cell? w _ h))).trans h
theorem CapIs.below {w w' : World} {xt xv xs n : Nat} {t : Nat → Int} {v : Nat → Nat} {s : Nat → Int} (h : CapIs w xt xv xs n t v s) (hb : Below w.heap.size w w') : CapIs w' xt xv xs n t v s := fun hn => by
  obtain ⟨bt, ot, ct, bv, ov, cv, bs, os_, cs, h1, h2, h3, h4⟩ := h hn
  exact ⟨bt, ot, ct, bv, ov, cv, bs, os_, cs, old_cell hb h1, old_cell hb h2, old_cell hb h3, fun j hj => ⟨old_cell hb (h4 j hj).1, old_cell hb (h4 j hj).2.1, old_cell hb (h4 j hj).2.2⟩⟩
def capV (xt xv xs : Nat) : Value := .func (.func 70) #[] #[.pointer (some ⟨xt, 0, none⟩), .pointer (some ⟨xv, 0, none⟩), .pointer (some ⟨xs, 0, none⟩)]
/-- The closure, at a place below n. -/
theorem clo_at (w : World) (xt xv xs n k : Nat) (t : Nat → Int) (v : Nat → Nat) (s : Nat → Int) (h : CapIs w xt xv xs n t v s) (hk : k < n) :
    Calls Tryz.prog 70 #[.int .i64 k, .pointer (some ⟨xt, 0, none⟩), .pointer (some ⟨xv, 0, none⟩), .pointer (some ⟨xs, 0, none⟩)] w fun e w' => e = .returned (.agg #[.int .i64 (t k), .int .i64 (IntKind.i64.wrap (v k : Nat)), .int .i64 (s k)]) ∧ Below w.heap.size w w' := by
  obtain ⟨bt, ot, ct, bv, ov, cv, bs, os_, cs, h1, h2, h3, h4⟩ := h (by omega)
  exact clo_any w xt xv xs bt ot bv ov bs os_ n ct cv cs k (t k) (v k) (s k) hk h1 h2 h3 (h4 k hk).1 (h4 k hk).2.1 (h4 k hk).2.2
/-- The first k of n points stand in the row at block g. -/
structure RowP (wr : World) (g n k : Nat) (f : Nat → Pt) : Prop where
  blk : ∃ cur, Blk wr g 30 cur ∧ cur.size = n * 3 ∧ ∀ j, j < k → cur[j * 3]? = some (.int .i64 (f j).t) ∧ cur[j * 3 + 1]? = some (.int .i64 (f j).v) ∧ cur[j * 3 + 2]? = some (.int .i64 (f j).s)
theorem RowP.below {w w' : World} {g n k : Nat} {f : Nat → Pt} (h : RowP w g n k f) (hb : Below w.heap.size w w') : RowP w' g n k f := by
  obtain ⟨cur, h1, h2, h3⟩ := h.blk
  exact ⟨cur, h1.below hb h1.lt, h2, h3⟩
/-- Point k is stored. -/
theorem RowP.put {w : World} {g n k : Nat} {f : Nat → Pt} {p : Pt} (h : RowP w g n k f) (hk : k < n) (hp : f k = p) : RowP (((w.setCell ⟨g, k * 3, none⟩ (.int .i64 p.t)).setCell ⟨g, k * 3 + 1, none⟩ (.int .i64 p.v)).setCell ⟨g, k * 3 + 2, none⟩ (.int .i64 p.s)) g n (k + 1) f := by
  obtain ⟨cur, h1, h2, h3⟩ := h.blk
  refine ⟨_, ((h1.set (k * 3) _).set (k * 3 + 1) _).set (k * 3 + 2) _, by simp [h2], fun j hj => ?_⟩
  simp only [Array.getElem?_setIfInBounds, Array.size_setIfInBounds, h2]
  rcases Nat.lt_or_ge j k with h4 | h4
  · rw [if_neg (by omega), if_neg (by omega), if_neg (by omega), if_neg (by omega), if_neg (by omega), if_neg (by omega), if_neg (by omega), if_neg (by omega), if_neg (by omega)]
    exact h3 j h4
  · obtain rfl : j = k := by omega
    rw [if_neg (by omega), if_neg (by omega), if_pos rfl, if_pos (by omega), if_neg (by omega), if_pos rfl, if_pos (by omega), if_pos rfl, if_pos (by omega), hp]
    exact ⟨rfl, rfl, rfl⟩
end Go.Proofs.YtopbbicjbjmdnaaGreatDoor
