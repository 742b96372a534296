/-
  Texts of this proof, joined: SgK, SgB, SgI, SgJ.
-/
import Derived.Test.YtopbbicjbjmdnaaGreatDoorJ07
import Derived.Test.YtopbbicjbjmdnaaGreatDoorJ14
namespace Go.Proofs.YtopbbicjbjmdnaaGreatDoor
open Go.RowKit Go.Maps
set_option maxRecDepth 100000
set_option linter.unusedVariables false
set_option linter.unusedSimpArgs false
theorem grown_bel {w0 w w' : World} {e : TypeId} {n size : Nat} {v : Value} {xs : List Value} (hb : Below w0.heap.size w0 w) (ho : w.ownsRow w0.heap.size e size v n xs) (hg : w.grownBy w' v.ownBlock) : Below w0.heap.size w0 w' := by
  have hk : Keeps (fun k => v.ownBlock = some k) w w' := (Keeps.refl _ w).grown hg (fun k e _ => e)
  exact hb.trans (hk.below hb.size (fun k hlt e => by have := (ho.lt k e).1; omega))
/-- What few counts. -/
def fewN (nm : Nat → ByteArray) (pn : Nat → Nat) (k : Nat) : Nat → Nat
  | 0 => 10 * k
  | i + 1 => fewN nm pn k i + pn i + (nm i).size
theorem fewN_mono (nm : Nat → ByteArray) (pn : Nat → Nat) (k i : Nat) : ∀ d, fewN nm pn k i ≤ fewN nm pn k (i + d)
  | 0 => Nat.le_refl _
  | d + 1 => by
    have := fewN_mono nm pn k i d
    show _ ≤ fewN nm pn k (i + d) + pn (i + d) + (nm (i + d)).size
    omega
theorem fewN_le (nm : Nat → ByteArray) (pn : Nat → Nat) (k i j : Nat) (h : i ≤ j) : fewN nm pn k i ≤ fewN nm pn k j := by
  have := fewN_mono nm pn k i (j - i)
  rw [show i + (j - i) = j by omega] at this
  exact this
theorem fewN_each (nm : Nat → ByteArray) (pn : Nat → Nat) (k j : Nat) (h : j < k) : pn j + (nm j).size + 10 * k ≤ fewN nm pn k k := by
  have h1 := fewN_le nm pn k (j + 1) k h
  have h2 := fewN_le nm pn k 0 j (by omega)
  have h3 : fewN nm pn k 0 = 10 * k := rfl
  have h4 : fewN nm pn k (j + 1) = fewN nm pn k j + pn j + (nm j).size := rfl
  omega
/-- The parts' sizes, as the reach tells them. -/
structure Reach (nm : Nat → ByteArray) (pn : Nat → Nat) (k : Nat) : Prop where
  kb : k ≤ 140737488355328
  pb : ∀ j, j < k → pn j ≤ 140737488355328
  nb : ∀ j, j < k → (nm j).size ≤ 140737488355328
set_option maxHeartbeats 4000000 in
theorem few_any (w : World) (A : Option Addr) (k c : Nat) (nm : Nat → ByteArray) (pa : Nat → Option Addr) (pn pc : Nat → Nat) (pf : Nat → Nat → Pt) (h : PartsAt w A k nm pa pn pc pf) (hr : Reach nm pn k) :
    Calls Tryz.prog 7 #[.slice A k c] w fun e w' => e = .returned (.bool (decide (fewN nm pn k k < 2500))) ∧ Below w.heap.size w w' := by
  have hk := hr.kb
  have H0 := Lib.hid (And.intro h hr)
  clear h hr
  have km : IntKind.i64.wrap (10 * (k : Int)) = 10 * (k : Int) := IntWalk.i64_in _ (by omega)
  go_enter Tryz.func7, Tryz.ntmps7
  go_wp2_with fail
  clear km
  go_loopw [3, 4] (fun m i wr => ∃ (j : Nat), j ≤ k ∧ i = .int .i64 (j : Nat) ∧ m = .int .i64 ((fewN nm pn k j : Nat) : Int) ∧ Below w.heap.size w wr) (fun _ i _ => k - (intOf i).toNat)
  case atStart => exact ⟨0, by omega, rfl, by show _ = Value.int .i64 ((10 * k : Nat) : Int); congr 1 <;> simp, Below.refl _ _⟩
  case round =>
    obtain ⟨j, hj, rfl, rfl, hT⟩ := hrel
    obtain ⟨m, hm⟩ : ∃ m, m = fewN nm pn k j := ⟨_, rfl⟩
    rw [← hm]
    by_cases hlt : j < k
    · have hjk : decide ((j : Int) < (k : Int)) = true := by simp; omega
      by_cases hsm : m < 2500
      · have d1 : decide ((m : Int) < 2500) = true := by simp; omega
        obtain ⟨b, off, hA, hbl, hcell⟩ := H0.out.1.row (by omega)
        subst hA
        have hpj := H0.out.2.pb j hlt
        have hnj := H0.out.2.nb j hlt
        obtain ⟨s, hs⟩ : ∃ s, s = nm j := ⟨_, rfl⟩
        obtain ⟨n, hn⟩ : ∃ n, n = pn j := ⟨_, rfl⟩
        rw [← hs] at hnj
        rw [← hn] at hpj
        have hce : ∀ wx, Below w.heap.size w wx → wx.cell? ⟨b, off + j * 2, none⟩ = some (.string s) ∧ wx.cell? ⟨b, off + j * 2 + 1, none⟩ = some (.slice (pa j) n (pc j)) := fun wx hx => by
          rw [hs, hn]
          exact ⟨(hx.cell (by exact hbl)).trans (hcell j hlt).1, (hx.cell (by exact hbl)).trans (hcell j hlt).2⟩
        have HT := Lib.hid (And.intro hT (And.intro hm (And.intro hs (And.intro hn hce))))
        have hjk' : (j : Int) < (k : Int) := by omega
        have k1 : IntKind.i64.wrap ((m : Int) + (n : Int)) = (m : Int) + (n : Int) := IntWalk.i64_in _ (by omega)
        have k2 : IntKind.i64.wrap ((m : Int) + (n : Int) + (s.size : Int)) = (m : Int) + (n : Int) + (s.size : Int) := IntWalk.i64_in _ (by omega)
        clear hT hm hs hn hce hcell hsm
        go_upto_region 5 with (fail)
        have hS0 := HT.out.1.drew
        have hS : (Below w.heap.size w) (wr.drew) := hS0
        refine reg_start (Below w.heap.size w) (by kernel_rfl) hS ?_
        clear hS0
        refine reg_take (i := 0) (v := ?_) rfl (by kernel_rfl) (by kernel_rfl) (by kernel_rfl) (fun _ _ _ h => h) (Or.inl ⟨by kernel_rfl, ?_⟩) hS ?_
        rotate_left
        · (intro w' hSw; go_simp <;> with_reducible rfl)
        try simp only [List.getElem_toArray, List.getElem_cons_succ, List.getElem_cons_zero, Act.put, List.setIfInBounds_toArray, List.set_cons_zero, List.set_cons_succ]
        refine reg_take (i := 1) (v := ?_) rfl (by kernel_rfl) (by kernel_rfl) (by kernel_rfl) (fun _ _ _ h => h) (Or.inl ⟨by kernel_rfl, ?_⟩) hS ?_
        rotate_left
        · (intro w' hSw; go_simp <;> with_reducible rfl)
        try simp only [List.getElem_toArray, List.getElem_cons_succ, List.getElem_cons_zero, Act.put, List.setIfInBounds_toArray, List.set_cons_zero, List.set_cons_succ]
        refine reg_take (i := 2) (v := ?_) rfl (by kernel_rfl) (by kernel_rfl) (by kernel_rfl) (fun _ _ _ h => h) (Or.inl ⟨by kernel_rfl, ?_⟩) hS ?_
        rotate_left
        · (intro w' hSw; go_simp <;> with_reducible rfl)
        try simp only [List.getElem_toArray, List.getElem_cons_succ, List.getElem_cons_zero, Act.put, List.setIfInBounds_toArray, List.set_cons_zero, List.set_cons_succ]
        refine reg_take (i := 3) (v := ?_) rfl (by kernel_rfl) (by kernel_rfl) (by kernel_rfl) (fun _ _ _ h => h) (Or.inl ⟨by kernel_rfl, ?_⟩) hS ?_
        rotate_left
        · (intro w' hSw; go_simp <;> with_reducible rfl)
        try simp only [List.getElem_toArray, List.getElem_cons_succ, List.getElem_cons_zero, Act.put, List.setIfInBounds_toArray, List.set_cons_zero, List.set_cons_succ]
        refine reg_take (i := 4) (v := ?_) rfl (by kernel_rfl) (by kernel_rfl) (by kernel_rfl) (fun _ _ _ h => h) (Or.inl ⟨by kernel_rfl, ?_⟩) hS ?_
        rotate_left
        · (intro w' hSw; go_simp <;> with_reducible rfl)
        try simp only [List.getElem_toArray, List.getElem_cons_succ, List.getElem_cons_zero, Act.put, List.setIfInBounds_toArray, List.set_cons_zero, List.set_cons_succ]
        refine reg_take (i := 5) (v := ?_) rfl (by kernel_rfl) (by kernel_rfl) (by kernel_rfl) (fun _ _ _ h => h) (Or.inl ⟨by kernel_rfl, ?_⟩) hS ?_
        rotate_left
        · (intro w' hSw; have u0 := (HT.out.2.2.2.2 w' hSw).2; go_simp <;> with_reducible rfl)
        try simp only [List.getElem_toArray, List.getElem_cons_succ, List.getElem_cons_zero, Act.put, List.setIfInBounds_toArray, List.set_cons_zero, List.set_cons_succ]
        refine reg_take (i := 6) (v := ?_) rfl (by kernel_rfl) (by kernel_rfl) (by kernel_rfl) (fun _ _ _ h => h) (Or.inl ⟨by kernel_rfl, ?_⟩) hS ?_
        rotate_left
        · (intro w' hSw; go_simp <;> with_reducible rfl)
        try simp only [List.getElem_toArray, List.getElem_cons_succ, List.getElem_cons_zero, Act.put, List.setIfInBounds_toArray, List.set_cons_zero, List.set_cons_succ]
        refine reg_take (i := 7) (v := ?_) rfl (by kernel_rfl) (by kernel_rfl) (by kernel_rfl) (fun _ _ _ h => h) (Or.inl ⟨by kernel_rfl, ?_⟩) hS ?_
        rotate_left
        · (intro w' hSw; go_simp <;> with_reducible rfl)
        try simp only [List.getElem_toArray, List.getElem_cons_succ, List.getElem_cons_zero, Act.put, List.setIfInBounds_toArray, List.set_cons_zero, List.set_cons_succ]
        refine reg_take (i := 8) (v := ?_) rfl (by kernel_rfl) (by kernel_rfl) (by kernel_rfl) (fun _ _ _ h => h) (Or.inl ⟨by kernel_rfl, ?_⟩) hS ?_
        rotate_left
        · (intro w' hSw; go_simp <;> with_reducible rfl)
        try simp only [List.getElem_toArray, List.getElem_cons_succ, List.getElem_cons_zero, Act.put, List.setIfInBounds_toArray, List.set_cons_zero, List.set_cons_succ]
        refine reg_take (i := 9) (v := ?_) rfl (by kernel_rfl) (by kernel_rfl) (by kernel_rfl) (fun _ _ _ h => h) (Or.inl ⟨by kernel_rfl, ?_⟩) hS ?_
        rotate_left
        · (intro w' hSw; go_simp <;> with_reducible rfl)
        try simp only [List.getElem_toArray, List.getElem_cons_succ, List.getElem_cons_zero, Act.put, List.setIfInBounds_toArray, List.set_cons_zero, List.set_cons_succ]
        refine reg_take (i := 10) (v := ?_) rfl (by kernel_rfl) (by kernel_rfl) (by kernel_rfl) (fun _ _ _ h => h) (Or.inl ⟨by kernel_rfl, ?_⟩) hS ?_
        rotate_left
        · (intro w' hSw; go_simp <;> with_reducible rfl)
        try simp only [List.getElem_toArray, List.getElem_cons_succ, List.getElem_cons_zero, Act.put, List.setIfInBounds_toArray, List.set_cons_zero, List.set_cons_succ]
        refine reg_take (i := 11) (v := ?_) rfl (by kernel_rfl) (by kernel_rfl) (by kernel_rfl) (fun _ _ _ h => h) (Or.inl ⟨by kernel_rfl, ?_⟩) hS ?_
        rotate_left
        · (intro w' hSw; go_simp <;> with_reducible rfl)
        try simp only [List.getElem_toArray, List.getElem_cons_succ, List.getElem_cons_zero, Act.put, List.setIfInBounds_toArray, List.set_cons_zero, List.set_cons_succ]
        refine reg_take (i := 12) (v := ?_) rfl (by kernel_rfl) (by kernel_rfl) (by kernel_rfl) (fun _ _ _ h => h) (Or.inl ⟨by kernel_rfl, ?_⟩) hS ?_
        rotate_left
        · (intro w' hSw; have u0 := (HT.out.2.2.2.2 w' hSw).1; go_simp <;> with_reducible rfl)
        try simp only [List.getElem_toArray, List.getElem_cons_succ, List.getElem_cons_zero, Act.put, List.setIfInBounds_toArray, List.set_cons_zero, List.set_cons_succ]
        refine reg_take (i := 13) (v := ?_) rfl (by kernel_rfl) (by kernel_rfl) (by kernel_rfl) (fun _ _ _ h => h) (Or.inl ⟨by kernel_rfl, ?_⟩) hS ?_
        rotate_left
        · (intro w' hSw; go_simp <;> with_reducible rfl)
        try simp only [List.getElem_toArray, List.getElem_cons_succ, List.getElem_cons_zero, Act.put, List.setIfInBounds_toArray, List.set_cons_zero, List.set_cons_succ]
        refine reg_take (i := 14) (v := ?_) rfl (by kernel_rfl) (by kernel_rfl) (by kernel_rfl) (fun _ _ _ h => h) (Or.inl ⟨by kernel_rfl, ?_⟩) hS ?_
        rotate_left
        · (intro w' hSw; go_simp <;> with_reducible rfl)
        try simp only [List.getElem_toArray, List.getElem_cons_succ, List.getElem_cons_zero, Act.put, List.setIfInBounds_toArray, List.set_cons_zero, List.set_cons_succ]
        refine reg_take (i := 15) (v := ?_) rfl (by kernel_rfl) (by kernel_rfl) (by kernel_rfl) (fun _ _ _ h => h) (Or.inl ⟨by kernel_rfl, ?_⟩) hS ?_
        rotate_left
        · (intro w' hSw; go_simp <;> with_reducible rfl)
        try simp only [List.getElem_toArray, List.getElem_cons_succ, List.getElem_cons_zero, Act.put, List.setIfInBounds_toArray, List.set_cons_zero, List.set_cons_succ]
        refine wpAnyH_done (by kernel_rfl) ?_ _
        try simp only [List.getElem_toArray, List.getElem_cons_succ, List.getElem_cons_zero]
        try simp only [List.getElem_toArray, List.getElem_cons_succ, List.getElem_cons_zero, Act.put, List.setIfInBounds_toArray, List.set_cons_zero, List.set_cons_succ]
        have HG := Lib.hid hS
        clear hS k1 k2
        go_wp2_with fail
        go_roundw
        case rel =>
          refine ⟨j + 1, by omega, by go_num, ?_, HG.out⟩
          have e : fewN nm pn k (j + 1) = m + n + s.size := by rw [HT.out.2.1, HT.out.2.2.1, HT.out.2.2.2.1]; rfl
          rw [e]
          congr 1 <;> omega
        case measure => simp [intOf] <;> omega
      · have d1 : decide ((m : Int) < 2500) = false := by simp; omega
        have hf : fewN nm pn k j ≤ fewN nm pn k k := fewN_le _ _ _ _ _ hj
        have HE := Lib.hid (And.intro hT (show decide (fewN nm pn k k < 2500) = false by rw [decide_eq_false_iff_not]; omega))
        clear hT hm hf hsm
        go_wp2_with fail
        go_ret
        exact ⟨by rw [HE.out.2]; rfl, HE.out.1⟩
    · obtain rfl : j = k := by omega
      have d0 : decide ((j : Int) < (j : Int)) = false := by simp
      have HE := Lib.hid (And.intro hT hm)
      clear hT hm
      by_cases hsm : m < 2500
      · have d1 : decide ((m : Int) < 2500) = true := by simp; omega
        have HD := Lib.hid (decide_eq_true hsm)
        clear hsm
        go_wp2_with fail
        go_ret
        exact ⟨by rw [← HE.out.2, HD.out]; rfl, HE.out.1⟩
      · have d1 : decide ((m : Int) < 2500) = false := by simp; omega
        have HD := Lib.hid (decide_eq_false hsm)
        clear hsm
        go_wp2_with fail
        go_ret
        exact ⟨by rw [← HE.out.2, HD.out]; rfl, HE.out.1⟩
theorem namesB_small (nm : Nat → ByteArray) (n : Nat) (hn : n ≤ 1024) : ∀ k, (∀ j, j < k → (nm j).size ≤ 2500) → (namesB nm n k).length ≤ 10 + k * 2510
  | 0, _ => by show (V.vput n).length ≤ _; have := V.vput_len10 (u := n) (by omega); omega
  | k + 1, h => by
    have ih := namesB_small nm n hn k (fun j hj => h j (by omega))
    have h1 := h k (by omega)
    have h2 := V.vput_len10 (u := (nm k).size) (by omega)
    show (namesB nm n k ++ V.vput (nm k).size ++ V.txt (nm k)).length ≤ _
    rw [List.length_append, List.length_append, V.txt_length]
    omega
theorem few_small {nm : Nat → ByteArray} {pn : Nat → Nat} {pf : Nat → Nat → Pt} {k : Nat} (hok : ∀ j i, PtOk (pf j i)) (h : fewN nm pn k k < 2500) : Small nm pf pn k := by
  have hk : k < 250 := by
    have := fewN_le nm pn k 0 k (by omega)
    have h3 : fewN nm pn k 0 = 10 * k := rfl
    omega
  have hp : ∀ j, j < k → pn j ≤ 2500 := fun j hj => by have := fewN_each nm pn k j hj; omega
  have hn : ∀ j, j < k → (nm j).size ≤ 2500 := fun j hj => by have := fewN_each nm pn k j hj; omega
  have ho : ∀ i, i ≤ k → (sO pf pn i).length ≤ i * 390147 := by
    intro i
    induction i with
    | zero => intro _; simp [sO]
    | succ i ih =>
      intro hi
      have h1 := ih (by omega)
      have h2 := bO_len (pf i) (pn i) (by have := hp i (by omega); omega) (nbl (pn i))
      have h3 : nbl (pn i) ≤ 3 := by have := hp i (by omega); unfold nbl; omega
      have h4 : nbl (pn i) * 130049 ≤ 3 * 130049 := Nat.mul_le_mul_right _ h3
      show (sO pf pn i ++ bO (pf i) (pn i) (nbl (pn i))).length ≤ _
      rw [List.length_append]
      omega
  have hf : ∀ i, i ≤ k → (sF nm pf pn k i).length ≤ 10 + k * 2510 + i * 130 := by
    intro i
    induction i with
    | zero =>
      intro _
      have := namesB_small nm k (by omega) k hn
      show (namesB nm k k).length ≤ _
      omega
    | succ i ih =>
      intro hi
      have h1 := ih (by omega)
      have h2 := bF_len (pf i) (hok i) (pn i) (by have := hp i (by omega); omega) (nbl (pn i))
      have h3 : nbl (pn i) ≤ 3 := by have := hp i (by omega); unfold nbl; omega
      have h5 := V.vput_len10 (u := nbl (pn i)) (by omega)
      show (sF nm pf pn k i ++ V.vput (nbl (pn i)) ++ bF (pf i) (pn i) (nbl (pn i))).length ≤ _
      rw [List.length_append, List.length_append]
      omega
  exact ⟨by omega, fun j hj => by have := hn j hj; omega, fun j hj => by have := hp j hj; omega, fun i hi => by have := ho i hi; omega, fun i hi => by have := hf i hi; omega⟩
end Go.Proofs.YtopbbicjbjmdnaaGreatDoor
namespace Go.Proofs.YtopbbicjbjmdnaaGreatDoor
open Go.RowKit Go.Maps
set_option maxRecDepth 100000
set_option linter.unusedVariables false
set_option linter.unusedSimpArgs false
def SPtsPost (w : World) (l : List Pt) (Bad : Prop) (e : Ending) (w' : World) : Prop :=
  Below w.heap.size w w' ∧ ((∃ v, e = .returned (.tuple #[v, .int .i64 0]) ∧ PtRow w' w.heap.size v l) ∨ (Bad ∧ e = .returned (.tuple #[.slice none 0 0, .int .i64 24])))
/-- What holds in a round over a block's points. -/
structure PtS (w0 w1 w2 : World) (A : Option Addr) (n : Nat) (f : Nat → Pt) (v : Value) (l : List Pt) (w : World) : Prop where
  row : PtRow w w0.heap.size v l
  bel : Below w0.heap.size w0 w
  sl : SlP w (fun q => w1.heap.size ≤ q ∧ q < w2.heap.size) A n f
  far : ∀ g, v.ownBlock = some g → g < w1.heap.size ∨ w2.heap.size ≤ g
  sz : w2.heap.size ≤ w.heap.size
theorem PtS.call {w0 w1 w2 w w' : World} {A : Option Addr} {n : Nat} {f : Nat → Pt} {v : Value} {l : List Pt} (h : PtS w0 w1 w2 A n f v l w) (hb : Below w.heap.size w w') : PtS w0 w1 w2 A n f v l w' :=
  ⟨h.row.below hb, h.bel.trans (hb.mono h.bel.size), h.sl.below hb, h.far, Nat.le_trans h.sz hb.size⟩
theorem PtS.app {w0 w1 w2 w w' : World} {A : Option Addr} {n : Nat} {f : Nat → Pt} {v v' : Value} {l l' : List Pt} (h : PtS w0 w1 w2 A n f v l w) (hr : PtRow w' w0.heap.size v' l') (hg : w.grownBy w' v.ownBlock) (hx : v'.ownBlock = v.ownBlock ∨ v'.ownBlock = some w.heap.size) : PtS w0 w1 w2 A n f v' l' w' := by
  refine ⟨hr, grown_bel h.bel h.row hg, h.sl.keep (fun q hq hlt => hg.block q hlt (fun e => ?_)), fun g hgq => ?_, Nat.le_trans h.sz hg.size⟩
  · rcases h.far q e.symm with h1 | h1
    · have := hq.1; omega
    · have := hq.2; omega
  · rcases hx with hx | hx
    · exact h.far g (by rw [← hx]; exact hgq)
    · rw [hx] at hgq
      injection hgq with hgq
      right
      have := h.sz
      omega
theorem bk_min {f : Nat → Pt} {n m : Nat} (hm : m < nbl n) : min (1024 * m) n = 1024 * m := by unfold nbl at hm; omega
theorem nbl_min (n : Nat) : min (1024 * nbl n) n = n := by unfold nbl; omega
set_option maxHeartbeats 1000000 in
theorem spoints_any (w : World) (p : Nat) (O : List Nat) (nm : Nat → ByteArray) (pf : Nat → Nat → Pt) (pn : Nat → Nat) (k M o : Nat) (Ab : Option Addr) (cb cn : Nat) (VS : Nat → Value) (h : SegIs w p O nm pf pn k M o Ab cb cn VS) (hB : Built nm pf pn k)
    (hO : ∀ z ∈ O, z < 256) (hO20 : O.length ≤ 1048576) (hOl : O.length = (sO pf pn k).length) (hok : ∀ j i, PtOk (pf j i)) (i : Nat) (hi : i < k)
    (hG : ∀ m, m < nbl (pn i) → IsEnc (blkB O (bkOf pf pn i m)) (shiftP (pf i) (1024 * m)) (blkN (pn i) (1024 * m)) ∨ NotEnc (blkB O (bkOf pf pn i m))) (a b : Int) (hv : V.HErr w) :
    Calls Tryz.prog 10 #[.pointer (some ⟨p, 0, none⟩), .string (nm i), .int .i64 a, .int .i64 b] w (SPtsPost w (selL (pf i) a b (pn i)) (∃ m, m < nbl (pn i) ∧ NotEnc (blkB O (bkOf pf pn i m)))) := by
  have hap := hB.apart
  have hns : (nm i).size ≤ maxLen := by have := (nameOk_size (hB.name hi)).2; unfold maxLen; omega
  have hbv := hB.bv hi
  have hnb := hB.nb hi
  have hpb := hB.pb i hi
  obtain ⟨s, hs⟩ : ∃ s, s = nm i := ⟨_, rfl⟩
  obtain ⟨f, hf⟩ : ∃ f, f = pf i := ⟨_, rfl⟩
  obtain ⟨n, hn⟩ : ∃ n, n = pn i := ⟨_, rfl⟩
  obtain ⟨nb, hnbe⟩ : ∃ nb, nb = nbl n := ⟨_, rfl⟩
  obtain ⟨g, c, hvs, hgl, hnc, hcell⟩ := h.bks i hi
  rw [← hn, ← hnbe] at hvs hnc hcell hnb
  rw [← hf, ← hn] at hbv
  rw [← hn] at hpb
  have hseg := h.seg
  have HS := Lib.hid (And.intro h (And.intro hB (And.intro hO (And.intro hok (And.intro hG (And.intro hv (And.intro hcell (And.intro hgl (And.intro hbv (And.intro hs (And.intro hf (And.intro hn (And.intro hnbe (And.intro hap hns))))))))))))))
  have HO := Lib.hid (And.intro hOl hO20)
  have HVS := Lib.hid hvs
  have hPost : SPtsPost w (selL (pf i) a b (pn i)) (∃ m, m < nbl (pn i) ∧ NotEnc (blkB O (bkOf pf pn i m))) = SPtsPost w (selL f a b n) (∃ m, m < nb ∧ NotEnc (blkB O (bkOf pf pn i m))) := by rw [hnbe, hn, hf]
  rw [hPost, ← hs]
  clear h hB hO hok hG hv hcell hgl hbv hap hns hPost hvs hs hf hn hnbe hOl hO20
  go_enter Tryz.func10, Tryz.ntmps10
  go_wp2_with fail
  refine (snone_any w p M (hseg.cell 2)).mono ?_
  rintro e w1 ⟨rfl, hb1⟩
  have h1 := HS.out.1.below hb1
  have hown := h1.map
  have zs2 := h1.seg.cell 2
  have HB1 := Lib.hid hb1
  clear hb1 h1 hseg
  go_wp2_with (at_lookup; refine wpList_lookup_bk _ rfl _ _ rfl M k k i nm VS rfl hown HS.out.2.2.2.2.2.2.2.2.2.2.2.2.2.1 hi HS.out.2.2.2.2.2.2.2.2.2.2.2.2.2.2 (by show Value.string s = _; rw [HS.out.2.2.2.2.2.2.2.2.2.1]) ?_; rw [HVS.out])
  clear hown zs2
  go_loopw [10, 26] (fun out ii wr => ∃ m, m ≤ nb ∧ ii = .int .i64 (m : Nat) ∧ PtRow wr w.heap.size out (selL f a b (min (1024 * m) n)) ∧ Below w.heap.size w wr) (fun _ ii _ => nb - (intOf ii).toNat)
  case atStart => exact ⟨0, by omega, rfl, by rw [show min (1024 * 0) n = 0 by omega]; exact PtRow.nil _ _, HB1.out⟩
  case round =>
    obtain ⟨m, hm, rfl, hrow, hbel⟩ := hrel
    obtain ⟨Ao, co, hvo, hco⟩ := hrow.form
    subst hvo
    obtain ⟨l, hl⟩ : ∃ l, l = selL f a b (min (1024 * m) n) := ⟨_, rfl⟩
    rw [← hl] at hrow hco ⊢
    by_cases hlt : m < nb
    · have hmk : (m : Int) < (nb : Int) := by omega
      obtain ⟨x, hx⟩ : ∃ x, x = bkOf pf pn i m := ⟨_, rfl⟩
      have hce : ∀ j, j < 5 → wr.cell? ⟨g, m * 5 + j, none⟩ = (bkC x)[j]? := fun j hj => by
        rw [hx]; exact (hbel.cell (by exact HS.out.2.2.2.2.2.2.2.1)).trans (HS.out.2.2.2.2.2.2.1 m hlt j hj)
      obtain ⟨xa, xb, xf, xt, xn⟩ := x
      have c0 : wr.cell? ⟨g, m * 5, none⟩ = some (.int .i64 (xa : Nat)) := hce 0 (by omega)
      have c1 : wr.cell? ⟨g, m * 5 + 1, none⟩ = some (.int .i64 (xb : Nat)) := hce 1 (by omega)
      have c2 : wr.cell? ⟨g, m * 5 + 2, none⟩ = some (.int .i64 xf) := hce 2 (by omega)
      have c3 : wr.cell? ⟨g, m * 5 + 3, none⟩ = some (.int .i64 xt) := hce 3 (by omega)
      have c4 : wr.cell? ⟨g, m * 5 + 4, none⟩ = some (.int .i64 (xn : Nat)) := hce 4 (by omega)
      have hbo : BkOk f n m := bk_ok HS.out.2.2.2.2.2.2.2.2.1 (by rw [← HS.out.2.2.2.2.2.2.2.2.2.2.2.2.1]; exact hlt)
      have e2 : xf = (f (1024 * m)).t := by rw [HS.out.2.2.2.2.2.2.2.2.2.2.1]; exact congrArg Bk.f hx
      have e3 : xt = (f (1024 * m + (blkN n (1024 * m) - 1))).t := by rw [HS.out.2.2.2.2.2.2.2.2.2.2.1, HS.out.2.2.2.2.2.2.2.2.2.2.2.1]; exact congrArg Bk.t hx
      have e4 : xn = blkN n (1024 * m) := by rw [HS.out.2.2.2.2.2.2.2.2.2.2.2.1]; exact congrArg Bk.n hx
      have hmin : min (1024 * m) n = 1024 * m := bk_min (f := f) (by rw [← HS.out.2.2.2.2.2.2.2.2.2.2.2.2.1]; exact hlt)
      have hend : min (1024 * (m + 1)) n = 1024 * m + xn := by rw [e4]; exact (bk_end hbo (by rw [← HS.out.2.2.2.2.2.2.2.2.2.2.2.2.1]; omega)).symm
      have hskip : b ≤ a ∨ xt < a ∨ b ≤ xf → selL f a b (min (1024 * (m + 1)) n) = l := fun h => by
        rw [hl, hmin, hend, e4]
        refine bk_skip HS.out.2.2.2.2.2.2.2.2.1 (by rw [← HS.out.2.2.2.2.2.2.2.2.2.2.2.2.1]; exact hlt) ?_
        rw [← e2, ← e3]; exact h
      have hn1 : xn ≤ 1024 := by rw [e4]; exact hbo.n1
      have hn0 : 0 < xn := by rw [e4]; exact hbo.n0
      rw [hmin] at hl
      have HX := Lib.hid (And.intro hx (And.intro hskip (And.intro hl (And.intro hend (And.intro e2 (And.intro e3 e4))))))
      have HR := Lib.hid (And.intro hrow (And.intro hbel hbo))
      clear hx hskip hl hend e2 e3 e4 hrow hbel hbo hmin hce
      go_upto_region 7 with (fail)
      obtain ⟨gx, hgx⟩ : ∃ gx, gx = wr.heap.size := ⟨_, rfl⟩
      rw [← hgx]
      have hal : Below wr.heap.size wr (wr.alloc (.cells #[.int .i64 (xa : Nat), .int .i64 (xb : Nat), .int .i64 xf, .int .i64 xt, .int .i64 (xn : Nat)] 76)) := (Below.refl _ _).alloc (Nat.le_refl _) _
      refine wp_gen (fun wx => PtRow wx w.heap.size (.slice Ao l.length co) l ∧ Below w.heap.size w wx ∧ Blk wx gx 76 #[.int .i64 (xa : Nat), .int .i64 (xb : Nat), .int .i64 xf, .int .i64 xt, .int .i64 (xn : Nat)]) ⟨HR.out.1.below hal, HR.out.2.1.trans (hal.mono HR.out.2.1.size), by rw [hgx]; exact Blk.fresh _ _ _⟩ ?_
      rintro w7 ⟨h7, b7, g7⟩
      have u0 := g7.cell 0
      have u1 := g7.cell 1
      have u2 := g7.cell 2
      have u3 := g7.cell 3
      have u4 := g7.cell 4
      have H7 := Lib.hid (And.intro h7 (And.intro b7 g7))
      clear h7 b7 g7 hal hgx c0 c1 c2 c3 c4
      by_cases k1 : b ≤ a
      · have d1 : decide (b ≤ a) = true := by simp; omega
        go_wp2_with fail
        go_roundw
        case rel => exact ⟨m + 1, by omega, by go_num, by rw [HX.out.2.1 (.inl k1)]; exact H7.out.1, H7.out.2.1⟩
        case measure => simp [intOf] <;> omega
      · have d1 : decide (b ≤ a) = false := by simp; omega
        by_cases k2 : xt < a
        · have d2 : decide (xt < a) = true := by simp; omega
          go_wp2_with fail
          go_roundw
          case rel => exact ⟨m + 1, by omega, by go_num, by rw [HX.out.2.1 (.inr (.inl k2))]; exact H7.out.1, H7.out.2.1⟩
          case measure => simp [intOf] <;> omega
        · have d2 : decide (xt < a) = false := by simp; omega
          by_cases k3 : b ≤ xf
          · have d3 : decide (b ≤ xf) = true := by simp; omega
            go_wp2_with fail
            go_roundw
            case rel => exact ⟨m + 1, by omega, by go_num, by rw [HX.out.2.1 (.inr (.inr k3))]; exact H7.out.1, H7.out.2.1⟩
            case measure => simp [intOf] <;> omega
          · have d3 : decide (b ≤ xf) = false := by simp; omega
            clear k1 k2 k3
            obtain ⟨fs, hfs⟩ : ∃ fs, fs = shiftP f (1024 * m) := ⟨_, rfl⟩
            obtain ⟨B, hBe⟩ : ∃ B, B = blkB O (bkOf pf pn i m) := ⟨_, rfl⟩
            have hdec : Calls Tryz.prog 31 #[.pointer (some ⟨p, 0, none⟩), .agg #[.int .i64 (xa : Nat), .int .i64 (xb : Nat), .int .i64 xf, .int .i64 xt, .int .i64 (xn : Nat)]] w7 (SDecPost w7 B fs xn) := by
              have h1 := bk_le pf pn (k := k) hi (m := m) (by rw [← HS.out.2.2.2.2.2.2.2.2.2.2.2.1, ← HS.out.2.2.2.2.2.2.2.2.2.2.2.2.1]; exact hlt)
              rw [← HX.out.1, ← HO.out.1] at h1
              have h2 := HS.out.2.2.2.2.1 m (by rw [← HS.out.2.2.2.2.2.2.2.2.2.2.2.1, ← HS.out.2.2.2.2.2.2.2.2.2.2.2.2.1]; exact hlt)
              rw [← HS.out.2.2.2.2.2.2.2.2.2.2.2.1, ← HS.out.2.2.2.2.2.2.2.2.2.2.1, ← hfs, ← HX.out.2.2.2.2.2.2, ← HX.out.1] at h2
              rw [hBe, ← HX.out.1]
              refine sdecode_any w7 p O nm pf pn k M o Ab cb cn VS (HS.out.1.below H7.out.2.1) fs ⟨xa, xb, xf, xt, xn⟩ HS.out.2.2.1 HO.out.2 h1 hn0 (by show xn ≤ 4096; omega) ?_ ?_ (fun j => ?_) h2 (HS.out.2.2.2.2.2.1.below H7.out.2.1)
              · show xf = (fs 0).t
                rw [HX.out.2.2.2.2.1, hfs]; rfl
              · show xt = (fs (xn - 1)).t
                rw [HX.out.2.2.2.2.2.1, ← HX.out.2.2.2.2.2.2, hfs]; rfl
              · rw [hfs, HS.out.2.2.2.2.2.2.2.2.2.2.1]; exact HS.out.2.2.2.1 i _
            have HD := Lib.hid (And.intro hdec (And.intro hBe hfs))
            clear hdec hBe hfs
            go_wp2_with fail
            refine HD.out.1.mono ?_
            rintro e w8 ⟨hb8, (⟨A8, c8, rfl, hnc8, hsl8⟩ | ⟨hN, rfl⟩)⟩
            · obtain ⟨bb, off, hA8, -, -⟩ := id (hsl8 hn0)
              subst hA8
              have h8 : PtS w w7 w8 (some ⟨bb, off, none⟩) xn fs (.slice Ao l.length co) l w8 :=
                ⟨H7.out.1.below hb8, H7.out.2.1.trans (hb8.mono H7.out.2.1.size), hsl8, fun g hg => .inl (H7.out.1.ownBlock_lt g hg).2, Nat.le_refl _⟩
              have H8 := Lib.hid (And.intro h8 hnc8)
              clear h8 hsl8 hb8 hnc8 u0 u1 u2 u3 u4
              go_wp2_with fail
              go_loopw [10, 56] (fun out jj wq => ∃ j, j ≤ xn ∧ jj = .int .i64 (j : Nat) ∧ PtS w w7 w8 (some ⟨bb, off, none⟩) xn fs out (selL f a b (1024 * m + j)) wq) (fun _ jj _ => xn - (intOf jj).toNat)
              case atStart => exact ⟨0, by omega, rfl, by rw [Nat.add_zero, ← HX.out.2.2.1]; exact H8.out.1⟩
              case round =>
                obtain ⟨j, hj, rfl, hq⟩ := hrel
                obtain ⟨Aq, cq, hvq, hcq⟩ := hq.row.form
                subst hvq
                obtain ⟨lj, hlj⟩ : ∃ lj, lj = selL f a b (1024 * m + j) := ⟨_, rfl⟩
                rw [← hlj] at hq hcq ⊢
                by_cases hjx : j < xn
                · have hjk : (j : Int) < (xn : Int) := by omega
                  obtain ⟨b', o', e, -, hc⟩ := id (hq.sl hn0)
                  simp only [Option.some.injEq, Addr.mk.injEq] at e
                  obtain ⟨rfl, rfl, -⟩ := e
                  obtain ⟨P0, hP0⟩ : ∃ P0, P0 = fs j := ⟨_, rfl⟩
                  obtain ⟨tt, vv, ss⟩ := P0
                  have hcj := hc j hjx
                  rw [← hP0] at hcj
                  have c0 : wr.cell? ⟨bb, off + j * 3, none⟩ = some (.int .i64 tt) := hcj.1
                  have c1 : wr.cell? ⟨bb, off + j * 3 + 1, none⟩ = some (.int .i64 vv) := hcj.2.1
                  have c2 : wr.cell? ⟨bb, off + j * 3 + 2, none⟩ = some (.int .i64 ss) := hcj.2.2
                  have hfj : f (1024 * m + j) = ⟨tt, vv, ss⟩ := by rw [hP0, HD.out.2.2]; rfl
                  have hs1 : inS a b ⟨tt, vv, ss⟩ = true → selL f a b (1024 * m + (j + 1)) = lj ++ [⟨tt, vv, ss⟩] := fun h => by
                    show (if inS a b (f (1024 * m + j)) = true then selL f a b (1024 * m + j) ++ [f (1024 * m + j)] else _) = _
                    rw [hfj, if_pos h, hlj]
                  have hs2 : inS a b ⟨tt, vv, ss⟩ = false → selL f a b (1024 * m + (j + 1)) = lj := fun h => by
                    show (if inS a b (f (1024 * m + j)) = true then _ else selL f a b (1024 * m + j)) = _
                    rw [hfj, if_neg (by rw [h]; simp), hlj]
                  have hll : lj.length ≤ 1024 * m + j := by rw [hlj]; exact selL_len _ _ _ _
                  have HQ := Lib.hid (And.intro hq (And.intro hs1 hs2))
                  clear hq hs1 hs2 hc hcj hP0 hfj hlj
                  go_upto_region 14 with (fail)
                  obtain ⟨gp, hgp⟩ : ∃ gp, gp = wr.heap.size := ⟨_, rfl⟩
                  rw [← hgp]
                  have hal : Below wr.heap.size wr (wr.alloc (.cells #[.int .i64 tt, .int .i64 vv, .int .i64 ss] 30)) := (Below.refl _ _).alloc (Nat.le_refl _) _
                  refine wp_gen (fun wx => PtS w w7 w8 (some ⟨bb, off, none⟩) xn fs (.slice Aq lj.length cq) lj wx ∧ Blk wx gp 30 #[.int .i64 tt, .int .i64 vv, .int .i64 ss]) ⟨HQ.out.1.call hal, by rw [hgp]; exact Blk.fresh _ _ _⟩ ?_
                  rintro w9 ⟨h9, g9⟩
                  have v0 := g9.cell 0
                  have v1 := g9.cell 1
                  have v2 := g9.cell 2
                  have H9 := Lib.hid h9
                  clear h9 g9 hal hgp c0 c1 c2
                  by_cases k1 : a ≤ tt
                  · have d4 : decide (a ≤ tt) = true := by simp; omega
                    by_cases k2 : tt < b
                    · have d5 : decide (tt < b) = true := by simp; omega
                      have HI := Lib.hid (show inS a b ⟨tt, vv, ss⟩ = true by unfold inS; rw [d4, d5]; rfl)
                      clear k1 k2
                      go_wp2_with (at_builtin; refine wpList_append_pt (base := w.heap.size) (p := ⟨tt, vv, ss⟩) (l := lj) rfl (.tmp 70) (.tmp 72) rfl rfl rfl ?hown ?hg ?h63 ?hbase ?_)
                      case hown => exact H9.out.row.below ((Below.refl _ _).alloc (Nat.le_refl _) _)
                      case hg => exact Blk.fresh _ _ _
                      case h63 => omega
                      case hbase => have := H9.out.bel.size; simp; omega
                      intro v10 w10 hr10 hg10 hx10
                      have h10 := (H9.out.call ((Below.refl w9.heap.size w9).alloc (Nat.le_refl _) (.cells #[.int .i64 tt, .int .i64 vv, .int .i64 ss] 30))).app hr10 hg10 (by simpa using hx10)
                      have H10 := Lib.hid h10
                      clear h10 hr10 hg10 hx10 v0 v1 v2
                      go_wp2_with fail
                      go_roundw
                      case rel => exact ⟨j + 1, by omega, by go_num, by rw [HQ.out.2.1 HI.out]; exact H10.out⟩
                      case measure => simp [intOf] <;> omega
                    · have d5 : decide (tt < b) = false := by simp; omega
                      have HI := Lib.hid (show inS a b ⟨tt, vv, ss⟩ = false by unfold inS; rw [d4, d5]; rfl)
                      clear k1 k2
                      go_wp2_with fail
                      go_roundw
                      case rel => exact ⟨j + 1, by omega, by go_num, by rw [HQ.out.2.2 HI.out]; exact H9.out⟩
                      case measure => simp [intOf] <;> omega
                  · have d4 : decide (a ≤ tt) = false := by simp; omega
                    have HI := Lib.hid (show inS a b ⟨tt, vv, ss⟩ = false by unfold inS; rw [d4]; rfl)
                    clear k1
                    go_wp2_with fail
                    go_roundw
                    case rel => exact ⟨j + 1, by omega, by go_num, by rw [HQ.out.2.2 HI.out]; exact H9.out⟩
                    case measure => simp [intOf] <;> omega
                · obtain rfl : j = xn := by omega
                  have HQ := Lib.hid (And.intro hq hlj)
                  clear hq hlj
                  go_wp2_with fail
                  go_roundw
                  case rel => exact ⟨m + 1, by omega, by go_num, by rw [HX.out.2.2.2.1, ← HQ.out.2]; exact HQ.out.1.row, HQ.out.1.bel⟩
                  case measure => simp [intOf] <;> omega
            · have HN := Lib.hid (And.intro hN hb8)
              clear hN hb8 u0 u1 u2 u3 u4
              go_wp2_with fail
              go_ret2
              exact ⟨H7.out.2.1.trans (HN.out.2.mono H7.out.2.1.size), .inr ⟨⟨m, hlt, by rw [← HD.out.2.1]; exact HN.out.1⟩, rfl⟩⟩
    · obtain rfl : m = nb := by omega
      have hln : l = selL f a b n := by rw [hl, HS.out.2.2.2.2.2.2.2.2.2.2.2.2.1, nbl_min]
      have HR := Lib.hid (And.intro hrow (And.intro hbel hln))
      clear hrow hbel hl hln
      go_wp2_with fail
      go_ret2
      exact ⟨HR.out.2.1, .inl ⟨_, rfl, by rw [← HR.out.2.2]; exact HR.out.1⟩⟩
end Go.Proofs.YtopbbicjbjmdnaaGreatDoor
namespace Go.Proofs.YtopbbicjbjmdnaaGreatDoor
open Go.RowKit Go.Maps
set_option maxRecDepth 100000
set_option linter.unusedVariables false
set_option linter.unusedSimpArgs false
theorem partA_len2 (f : Nat → Pt) (n j : Nat) : (partA f n j).length ≤ 9 + 10 * n := by
  match j with
  | 0 => show (pack _).length ≤ _; rw [pack_length]; have := D.encTo_len (tOf f n) n; omega
  | 1 => show (pack _).length ≤ _; rw [pack_length]; have := X.xencTo_len (vOf f n) n; omega
  | j + 2 => show (pack _).length ≤ _; rw [pack_length]; have := D.encTo_len (sOf f n) n; omega
theorem colUp_len2 (f : Nat → Pt) (n : Nat) (hn : n ≤ 4096) : ∀ j, (colUp f n j).length ≤ 10 + j * (19 + 10 * n)
  | 0 => by have := V.vput_len10 (u := n) (by omega); show (V.vput n).length ≤ _; omega
  | j + 1 => by
    have h1 := colUp_len2 f n hn j
    have h2 := partA_len2 f n j
    have h4 := partA_len f n j hn
    have h3 := V.vput_len10 (u := (partA f n j).length) (by omega)
    show (colUp f n j ++ V.vput (partA f n j).length ++ partA f n j).length ≤ _
    rw [List.length_append, List.length_append]
    have : (j + 1) * (19 + 10 * n) = j * (19 + 10 * n) + (19 + 10 * n) := by rw [Nat.succ_mul]
    omega
theorem colL_len2 (f : Nat → Pt) (n : Nat) (hn : n ≤ 4096) : (colL f n).1.length ≤ 80 + 30 * n := by
  unfold colL
  have := colUp_len2 f n hn 3
  split
  · show (F.sealL 3 _).length ≤ _
    rw [F.sealL_length]; omega
  · show ([] : List Nat).length ≤ _; simp
theorem bO_len2 (f : Nat → Pt) (n : Nat) (hn : n ≤ 4096) : ∀ m, (bO f n m).length ≤ 80 * m + 30 * min (1024 * m) n
  | 0 => by simp [bO]
  | m + 1 => by
    have ih := bO_len2 f n hn m
    have h := colL_len2 (shiftP f (1024 * m)) (blkN n (1024 * m)) (by unfold blkN; omega)
    have e : min (1024 * m) n + blkN n (1024 * m) = min (1024 * (m + 1)) n ∨ blkN n (1024 * m) = 0 := by unfold blkN; omega
    have e2 : min (1024 * m) n ≤ min (1024 * (m + 1)) n := by omega
    rw [bO_succ, List.length_append]
    omega
theorem sO_len2 (nm : Nat → ByteArray) (pf : Nat → Nat → Pt) (pn : Nat → Nat) (k : Nat) (hp : ∀ j, j < k → pn j ≤ 4096) : ∀ i, i ≤ k → (sO pf pn i).length ≤ 320 * i + 30 * fewN nm pn k i
  | 0, _ => by simp [sO]
  | i + 1, hi => by
    have ih := sO_len2 nm pf pn k hp i (by omega)
    have h1 := hp i (by omega)
    have h2 := bO_len2 (pf i) (pn i) h1 (nbl (pn i))
    have h3 : nbl (pn i) ≤ 4 := by unfold nbl; omega
    have h4 := nbl_min (pn i)
    have h5 : fewN nm pn k (i + 1) = fewN nm pn k i + pn i + (nm i).size := rfl
    rw [sO_succ, List.length_append, h5]
    rw [h4] at h2
    omega
theorem sF_len2 (nm : Nat → ByteArray) (pf : Nat → Nat → Pt) (pn : Nat → Nat) (k : Nat) (hk : k ≤ 250) (hok : ∀ j i, PtOk (pf j i)) (hp : ∀ j, j < k → pn j ≤ 4096) (hn : ∀ j, j < k → (nm j).size ≤ 2500) : ∀ i, i ≤ k → (sF nm pf pn k i).length ≤ 10 + k * 2510 + i * 170
  | 0, _ => by
    have := namesB_small nm k (by omega) k hn
    show (namesB nm k k).length ≤ _
    omega
  | i + 1, hi => by
    have ih := sF_len2 nm pf pn k hk hok hp hn i (by omega)
    have h1 := hp i (by omega)
    have h2 := bF_len (pf i) (hok i) (pn i) h1 (nbl (pn i))
    have h3 : nbl (pn i) ≤ 4 := by unfold nbl; omega
    have h5 := V.vput_len10 (u := nbl (pn i)) (by omega)
    rw [sF_succ, List.length_append, List.length_append]
    omega
theorem few_fits {nm : Nat → ByteArray} {pn : Nat → Nat} {pf : Nat → Nat → Pt} {k : Nat} (hok : ∀ j i, PtOk (pf j i)) (h : fewN nm pn k k < 2500) : (F.sealL 5 (sF nm pf pn k k)).length + (sO pf pn k).length ≤ 1048563 := by
  have hk : k < 250 := by
    have := fewN_le nm pn k 0 k (by omega)
    have h3 : fewN nm pn k 0 = 10 * k := rfl
    omega
  have hp : ∀ j, j < k → pn j ≤ 4096 := fun j hj => by have := fewN_each nm pn k j hj; omega
  have hn : ∀ j, j < k → (nm j).size ≤ 2500 := fun j hj => by have := fewN_each nm pn k j hj; omega
  have h1 := sO_len2 nm pf pn k hp k (Nat.le_refl _)
  have h2 := sF_len2 nm pf pn k (by omega) hok hp hn k (Nat.le_refl _)
  rw [F.sealL_length]
  omega
theorem colL_byte (f : Nat → Pt) (n : Nat) : ∀ x ∈ (colL f n).1, x < 256 := by
  unfold colL
  split
  · exact F.sealL_byte (by omega) (colUp_byte f n 3)
  · intro x hx; exact absurd hx List.not_mem_nil
theorem bO_byte (f : Nat → Pt) (n : Nat) : ∀ m, ∀ x ∈ bO f n m, x < 256
  | 0 => fun x hx => by simp [bO] at hx
  | m + 1 => mem_app (bO_byte f n m) (colL_byte _ _)
theorem sO_byte (pf : Nat → Nat → Pt) (pn : Nat → Nat) : ∀ i, ∀ x ∈ sO pf pn i, x < 256
  | 0 => fun x hx => by simp [sO] at hx
  | i + 1 => mem_app (sO_byte pf pn i) (bO_byte _ _ _)
/-- What is built is a file, or nothing. -/
theorem sB_cases {nm : Nat → ByteArray} {pf : Nat → Nat → Pt} {pn : Nat → Nat} {k : Nat} (hs : Small nm pf pn k) (hf : (F.sealL 5 (sF nm pf pn k k)).length + (sO pf pn k).length ≤ 1048563) :
    (sB nm pf pn k = ([], 2)) ∨ ((sB nm pf pn k).2 = 0 ∧ Built nm pf pn k ∧ FileIs (sB nm pf pn k).1 (sO pf pn k) nm pf pn k) := by
  unfold sB
  by_cases h : (namesOk nm k && (decide (0 < k) && sV pf pn k)) = true
  · rw [if_pos h, if_neg (by omega)]
    simp only [Bool.and_eq_true, decide_eq_true_eq] at h
    refine .inr ⟨rfl, ⟨h.2.1, hs.kb, h.1, h.2.2, hs.pb⟩, ⟨rfl, rfl, sO_byte pf pn k, ?_⟩⟩
    show (sO pf pn k ++ F.sealL 5 (sF nm pf pn k k) ++ F.sealL 6 (four (F.sealL 5 (sF nm pf pn k k)).length)).length ≤ _
    rw [List.length_append, List.length_append, F.sealL_length 6]
    show _ + (4 + 9) ≤ _
    omega
  · rw [if_neg h]
    exact .inl rfl
theorem sB_good {nm : Nat → ByteArray} {pf : Nat → Nat → Pt} {pn : Nat → Nat} {k : Nat} (hs : Small nm pf pn k) (hf : (F.sealL 5 (sF nm pf pn k k)).length + (sO pf pn k).length ≤ 1048563) (hV : (namesOk nm k && (decide (0 < k) && sV pf pn k)) = true) :
    (sB nm pf pn k).2 = 0 ∧ Built nm pf pn k ∧ FileIs (sB nm pf pn k).1 (sO pf pn k) nm pf pn k := by
  rcases sB_cases hs hf with h | h
  · unfold sB at h
    rw [if_pos hV, if_neg (by omega)] at h
    simp at h
  · exact h
/-- One part in a new block. -/
theorem part_one {w : World} {A : Option Addr} {n c : Nat} {f : Nat → Pt} {s : ByteArray} (hsl : SlP w (fun q => q < w.heap.size) A n f) (hc : n ≤ c) (hcm : c ≤ 9223372036854775807) (hok : ∀ i, PtOk (f i)) (hs : s.size ≤ 9223372036854775807) :
    PartsAt (w.alloc (.cells #[.string s, .slice A n c] 33)) (some ⟨w.heap.size, 0, none⟩) 1 (fun _ => s) (fun _ => A) (fun _ => n) (fun _ => c) (fun _ => f) := by
  have hb := Blk.fresh w 33 #[.string s, .slice A n c]
  have hal : Below w.heap.size w (w.alloc (.cells #[.string s, .slice A n c] 33)) := (Below.refl _ _).alloc (Nat.le_refl _) _
  refine ⟨fun _ => ⟨w.heap.size, 0, rfl, hb.lt, fun j hj => ?_⟩, fun j hj => (hsl.below hal).mono (fun q hq => Nat.lt_of_lt_of_le hq hal.size), fun j hj => ⟨hc, hcm⟩, fun j i => hok i, fun j hj => hs⟩
  obtain rfl : j = 0 := by omega
  exact ⟨hb.cell 0, hb.cell 1⟩
/-- The blocks of what was built are what their points are encoded as. -/
theorem good_enc {nm : Nat → ByteArray} {pf : Nat → Nat → Pt} {pn : Nat → Nat} {k i m : Nat} (hB : Built nm pf pn k) (hi : i < k) (hm : m < nbl (pn i)) : IsEnc (blkB (sO pf pn k) (bkOf pf pn i m)) (shiftP (pf i) (1024 * m)) (blkN (pn i) (1024 * m)) := by
  have h1 := bk_slice pf pn hi hm
  have h2 := bk_enc (bk_ok (hB.bv hi) hm)
  unfold blkB
  rw [h1]
  exact h2
/-- What Points tells of a segment as it was built. -/
def GoodPts (w : World) (l : List Pt) (e : Ending) (w' : World) : Prop := Below w.heap.size w w' ∧ ∃ v, e = .returned (.tuple #[v, .int .i64 0]) ∧ PtRow w' w.heap.size v l
theorem gpoints_any (w : World) (p : Nat) (nm : Nat → ByteArray) (pf : Nat → Nat → Pt) (pn : Nat → Nat) (k M o : Nat) (Ab : Option Addr) (cb cn : Nat) (VS : Nat → Value) (h : SegIs w p (sO pf pn k) nm pf pn k M o Ab cb cn VS) (hB : Built nm pf pn k)
    (hO20 : (sO pf pn k).length ≤ 1048576) (hok : ∀ j i, PtOk (pf j i)) (i : Nat) (hi : i < k) (a b : Int) (hv : V.HErr w) :
    Calls Tryz.prog 10 #[.pointer (some ⟨p, 0, none⟩), .string (nm i), .int .i64 a, .int .i64 b] w (GoodPts w (selL (pf i) a b (pn i))) := by
  refine (spoints_any w p _ nm pf pn k M o Ab cb cn VS h hB (sO_byte pf pn k) hO20 rfl hok i hi (fun m hm => .inl (good_enc hB hi hm)) a b hv).mono ?_
  rintro e w' ⟨hb, hc | ⟨⟨m, hm, hN⟩, -⟩⟩
  · exact ⟨hb, hc⟩
  · exact absurd (good_enc hB hi hm) (hN _ _)
end Go.Proofs.YtopbbicjbjmdnaaGreatDoor
namespace Go.Proofs.YtopbbicjbjmdnaaGreatDoor
open Go.RowKit Go.Maps
set_option maxRecDepth 100000
set_option linter.unusedVariables false
set_option linter.unusedSimpArgs false
theorem strElem : Elem1 Tryz.prog 43 9 (.string ByteArray.empty) 16 := Elem1.mk' Tryz.underlying43 rfl strInfo
def SNamesPost (w : World) (k : Nat) (nm : Nat → ByteArray) (e : Ending) (w' : World) : Prop :=
  ∃ A c, e = .returned (.slice A k c) ∧ k ≤ c ∧ Below w.heap.size w w' ∧ Sl w' (fun q => q < w'.heap.size) A k (fun j => .string (nm j))
theorem not_false_s (w : World) : (Op.unary .not (.bool false)).run Tryz.prog w = .ok (.bool true) w := by kernel_rfl
set_option maxHeartbeats 1000000 in
theorem snames_any (w : World) (p : Nat) (O : List Nat) (nm : Nat → ByteArray) (pf : Nat → Nat → Pt) (pn : Nat → Nat) (k M o : Nat) (Ab : Option Addr) (cb cn : Nat) (VS : Nat → Value) (h : SegIs w p O nm pf pn k M o Ab cb cn VS) (hk : k ≤ 1024) :
    Calls Tryz.prog 12 #[.pointer (some ⟨p, 0, none⟩)] w (SNamesPost w k nm) := by
  have hseg := h.seg
  have HS := Lib.hid h
  clear h
  go_enter Tryz.func12, Tryz.ntmps12
  go_wp2_with fail
  refine (snone_any w p M (hseg.cell 2)).mono ?_
  rintro e w1 ⟨rfl, hb1⟩
  have h1 := HS.out.below hb1
  obtain ⟨cs, n1, n2, n3⟩ := h1.nms
  have hsl : Sl w1 (fun q => q < w1.heap.size) (some ⟨o, 0, none⟩) k (fun j => .string (nm j)) := fun hn => ⟨o, 0, rfl, n1.lt, fun j hj => by rw [n1.cell (0 + j), Nat.zero_add]; exact n3 j hj⟩
  have zp1 := (h1.seg.alloc (.cells #[] 9)).cell 1
  have H1 := Lib.hid (And.intro hb1 hsl)
  clear hb1 hsl h1 n1 n2 n3 hseg
  go_wp2_with (at_builtin; refine wpList_append_sl (f := fun j => .string (nm j)) (D := fun q => q < w1.heap.size) (base := w.heap.size) (n := 0) (xs := []) strElem rfl (.tmp 5) (.tmp 9) rfl rfl rfl ?hown ?hsl ?h1 ?h63 ?hby ?hbase ?_)
  case hown => exact V.lat_lit0 w1 _ _ H1.out.1.size
  case hsl => exact H1.out.2.below ((Below.refl w1.heap.size w1).alloc (Nat.le_refl _) _) (fun q _ h => h)
  case h1 => intro j _; rfl
  case h63 => unfold maxLen; omega
  case hby => omega
  case hbase => have := H1.out.1.size; simp; omega
  intro v5 w5 ho5 hg5 hx5
  have hb5 : Below w.heap.size w w5 := by
    have h35 : Below w1.heap.size w1 w5 := gb_below2 ((Below.refl _ _).alloc (Nat.le_refl _) _) hg5 (Nat.le_refl _)
    exact H1.out.1.trans (h35.mono H1.out.1.size)
  obtain ⟨A5, c5, hv5, hc5, -⟩ := own_form ho5
  subst hv5
  have hs5 : Sl w5 (fun q => q < w5.heap.size) A5 k (fun j => .string (nm j)) := by
    refine (Sl.of_own ho5 fun j u hu => ?_).mono (fun q hq => (ho5.lt q hq).2)
    rw [List.getElem?_map] at hu
    rcases Nat.lt_or_ge j k with hj | hj
    · rw [List.getElem?_range hj] at hu
      injection hu with hu
      exact hu.symm
    · rw [List.getElem?_eq_none (by simpa using hj)] at hu
      cases hu
  have H5 := Lib.hid (And.intro hb5 hs5)
  clear ho5 hg5 hx5 hb5 hs5 zp1
  go_wp2_with fail
  go_ret
  exact ⟨A5, c5, rfl, hc5, H5.out.1, H5.out.2⟩
/-- How many points the parts have, whose names are still to come. -/
def lsum (left : Lit → Bool) (nm : Nat → ByteArray) (pn : Nat → Nat) : Nat → Nat
  | 0 => 0
  | j + 1 => lsum left nm pn j + if left (klS (nm j)) = true then pn j else 0
def psum (pn : Nat → Nat) : Nat → Nat
  | 0 => 0
  | j + 1 => psum pn j + pn j
theorem lsum_all {left : Lit → Bool} {nm : Nat → ByteArray} {pn : Nat → Nat} : ∀ k, (∀ j, j < k → left (klS (nm j)) = true) → lsum left nm pn k = psum pn k
  | 0, _ => rfl
  | k + 1, h => by
    show lsum left nm pn k + _ = psum pn k + pn k
    rw [lsum_all k (fun j hj => h j (by omega)), if_pos (h k (by omega))]
theorem lsum_none {left : Lit → Bool} {nm : Nat → ByteArray} {pn : Nat → Nat} (h : ∀ kl, left kl = false) : ∀ k, lsum left nm pn k = 0
  | 0 => rfl
  | k + 1 => by
    show lsum left nm pn k + _ = 0
    rw [lsum_none h k, if_neg (by rw [h]; simp)]
theorem lsum_same {left : Lit → Bool} {nm : Nat → ByteArray} {pn : Nat → Nat} {j : Nat} : ∀ k, (∀ i, i < k → nm i ≠ nm j) → lsum (fun z => left z && !z.sameKey (klS (nm j))) nm pn k = lsum left nm pn k
  | 0, _ => rfl
  | k + 1, h => by
    show lsum _ nm pn k + (if (left (klS (nm k)) && !(klS (nm k)).sameKey (klS (nm j))) = true then pn k else 0) = lsum left nm pn k + _
    rw [lsum_same k (fun i hi => h i (by omega))]
    have hne : klS (nm k) ≠ klS (nm j) := fun e => h k (by omega) (klS_inj e)
    rw [sameKey_ne hne]
    simp
theorem lsum_one {left : Lit → Bool} {nm : Nat → ByteArray} {pn : Nat → Nat} {j : Nat} : ∀ k, Apart nm k → j < k → left (klS (nm j)) = true → lsum left nm pn k = lsum (fun z => left z && !z.sameKey (klS (nm j))) nm pn k + pn j
  | 0, _, hj, _ => by omega
  | k + 1, ha, hj, hl => by
    show lsum left nm pn k + (if left (klS (nm k)) = true then pn k else 0) = lsum _ nm pn k + (if (left (klS (nm k)) && !(klS (nm k)).sameKey (klS (nm j))) = true then pn k else 0) + pn j
    by_cases e : j = k
    · subst e
      rw [lsum_same j (fun i hi => ha i j hi (by omega)), if_pos hl, if_neg (by simp [WideAt.sameKey_self (klS_key (nm j))])]
      omega
    · have hne : klS (nm k) ≠ klS (nm j) := fun h => ha j k (by omega) (by omega) (klS_inj h).symm
      rw [lsum_one k (fun a b h1 h2 => ha a b h1 (by omega)) (by omega) hl, sameKey_ne hne]
      simp
      omega
theorem psum_le {pn : Nat → Nat} {c : Nat} : ∀ k, (∀ j, j < k → pn j ≤ c) → psum pn k ≤ k * c
  | 0, _ => Nat.zero_le _
  | k + 1, h => by
    have := psum_le k (fun j hj => h j (by omega))
    have := h k (by omega)
    show psum pn k + pn k ≤ _
    rw [Nat.succ_mul]; omega
theorem lsum_le (left : Lit → Bool) (nm : Nat → ByteArray) (pn : Nat → Nat) : ∀ k, lsum left nm pn k ≤ psum pn k
  | 0 => Nat.le_refl _
  | k + 1 => by
    have := lsum_le left nm pn k
    show lsum left nm pn k + _ ≤ psum pn k + pn k
    split <;> omega
theorem elV_inv {v : Value} {z : DataW Value × List MemPlace} (h : elV v = some z) : z = (.held v, []) := by unfold elV at h; injection h with h; exact h.symm
set_option maxHeartbeats 1000000 in
theorem scount_any (w : World) (p : Nat) (O : List Nat) (nm : Nat → ByteArray) (pf : Nat → Nat → Pt) (pn : Nat → Nat) (k M o : Nat) (Ab : Option Addr) (cb cn : Nat) (VS : Nat → Value) (h : SegIs w p O nm pf pn k M o Ab cb cn VS) (hB : Built nm pf pn k) :
    Calls Tryz.prog 13 #[.pointer (some ⟨p, 0, none⟩)] w fun e w' => e = .returned (.int .i64 (psum pn k : Nat)) ∧ Below w.heap.size w w' := by
  have hseg := h.seg
  have hps : psum pn k ≤ 4194304 := by
    have h1 := psum_le (pn := pn) (c := 4096) k hB.pb
    have h2 : k * 4096 ≤ 1024 * 4096 := Nat.mul_le_mul_right _ hB.k1
    omega
  have HS := Lib.hid (And.intro h hB)
  clear h hB
  go_enter Tryz.func13, Tryz.ntmps13
  go_wp2_with fail
  refine (snone_any w p M (hseg.cell 2)).mono ?_
  rintro e w1 ⟨rfl, hb1⟩
  have h1 := HS.out.1.below hb1
  have zp2 := h1.seg.cell 2
  have hown : World.ownsMap w1 Tryz.prog 9 elV M k (DB nm VS k) := h1.map
  have nf := not_false_s
  have H1 := Lib.hid (And.intro h1 hb1)
  clear h1 hb1 hseg
  go_wp2_with (at_range; refine wpList_range_own _ rfl _ 64 rfl 9 73 law Tryz.underlying64 _ M k _ rfl hown ?_; intro w3 hrg0 hg0 hs0)
  try go_frame
  obtain ⟨r, hr⟩ : ∃ r, r = w1.heap.size := ⟨_, rfl⟩
  rw [← hr] at hrg0 ⊢
  have hl3 : Below w1.heap.size w1 w3 := ⟨hg0.os, hg0.tape, hg0.output, hg0.size, fun q hq => hg0.block q hq (fun e => by cases e)⟩
  have HR := Lib.hid (And.intro hrg0 (And.intro hl3 hr))
  clear hrg0 hl3 hr hg0 hs0 hown zp2 nf
  go_loopw [3] (fun nv wr => ∃ (left : Lit → Bool) (cnt c : Nat), wr.ranges Tryz.prog 9 elV M r k (DB nm VS k) left cnt ∧ nv = .int .i64 (c : Nat) ∧ c + lsum left nm pn k = psum pn k ∧ Below w1.heap.size w1 wr)
    (fun _ wr => wr.rangeLeft M r)
  case atStart =>
    refine ⟨_, _, 0, HR.out.1, rfl, ?_, HR.out.2.1⟩
    rw [Nat.zero_add]
    exact lsum_all k fun j hj => (DB_has nm VS (nm j) k).2 ⟨j, hj, rfl⟩
  case round =>
    obtain ⟨left, cnt, c, hrg, rfl, hsum, hbel⟩ := hrel
    go_wp2_with (at_next; refine wpList_next_ranges _ rfl _ rfl 9 law elV Value.string (fun v => v) (fun key kl h => (key_inv h).imp fun _ h => h.1) (fun v y h => ⟨v, rfl⟩) M r k _ _ _ rfl hrg ?_ ?_)
    · intro hc0 hl0
      have hcp : c = psum pn k := by rw [← hsum, lsum_none hl0]; rfl
      have HF := Lib.hid (And.intro hbel hcp)
      clear hl0 hbel hrg hc0 hsum hcp
      go_wp2_with fail
      go_ret
      exact ⟨by rw [← HF.out.2]; rfl, H1.out.2.trans (HF.out.1.mono H1.out.2.size)⟩
    · intro x v kl y1 y2 w4 cnt1 hkx hlx hvy hat hrg1 hlt hg1 hs1 hen
      obtain ⟨s', e1, rfl⟩ := key_inv hkx
      injection e1 with e1
      subst e1
      obtain ⟨j, hjk, rfl⟩ := (DB_has nm VS x k).1 (has_true_of_atKey hat)
      have hvj : v = VS j := by
        have h1 := hat .nil
        have h2 := elV_inv hvy
        injection h2 with h2 _
        rw [DB_at nm VS .nil k HS.out.2.apart j hjk, h2] at h1
        injection h1 with h1
        exact h1.symm
      have hl4 : Below w1.heap.size w1 w4 := gb_below2 hbel hg1 (by rw [HR.out.2.2]; exact Nat.le_refl _)
      obtain ⟨g, cc, hvs, hgl, hnc, hcell⟩ := H1.out.1.bks j hjk
      have hsum1 := lsum_one (nm := nm) (pn := pn) k HS.out.2.apart hjk hlx
      obtain ⟨n, hn⟩ : ∃ n, n = pn j := ⟨_, rfl⟩
      obtain ⟨nb, hnb⟩ : ∃ nb, nb = nbl n := ⟨_, rfl⟩
      rw [← hn, ← hnb] at hvs hnc hcell
      rw [← hn] at hsum1
      have hnle : n ≤ 4096 := by rw [hn]; exact HS.out.2.pb j hjk
      have hnb4 : nb ≤ 4 := by rw [hnb]; unfold nbl; omega
      rw [hvs] at hvj
      subst hvj
      obtain ⟨ls, hls⟩ : ∃ ls, ls = lsum (fun z => left z && !z.sameKey (klS (nm j))) nm pn k := ⟨_, rfl⟩
      rw [← hls] at hsum1
      have hc1 : c + n + ls = psum pn k := by omega
      have hbv := HS.out.2.bv hjk
      rw [← hn] at hbv
      have HV := Lib.hid (And.intro hrg1 (And.intro hl4 (And.intro hcell (And.intro hgl (And.intro hls (And.intro hc1 (And.intro hlt (And.intro hrg.left_eq (And.intro hn (And.intro hnb hbv))))))))))
      have hcps : c + n ≤ 4194304 := by omega
      clear hrg1 hl4 hcell hgl hls hc1 hlt hrg hn hnb hbv hsum hsum1 hbel hat hvy hkx hlx hg1 hs1 hvs
      go_wp2_with fail
      clear hen
      go_loopw [3, 22] (fun nv ii wq => ∃ m, m ≤ nb ∧ ii = .int .i64 (m : Nat) ∧ nv = .int .i64 ((c + min (1024 * m) n : Nat)) ∧ Below w4.heap.size w4 wq) (fun _ ii _ => nb - (intOf ii).toNat)
      case atStart => exact ⟨0, by omega, rfl, by rw [show min (1024 * 0) n = 0 by omega]; rfl, Below.refl _ _⟩
      case round =>
        obtain ⟨m, hm, rfl, rfl, hq⟩ := hrel
        obtain ⟨c2, hc2⟩ : ∃ c2, c2 = c + min (1024 * m) n := ⟨_, rfl⟩
        rw [← hc2]
        by_cases hmn : m < nb
        · have hmk : (m : Int) < (nb : Int) := by omega
          obtain ⟨x, hx⟩ : ∃ x, x = bkOf pf pn j m := ⟨_, rfl⟩
          have hce : ∀ i, i < 5 → wr.cell? ⟨g, m * 5 + i, none⟩ = (bkC x)[i]? := fun i hi => by
            rw [hx]
            exact ((HV.out.2.1.trans (hq.mono HV.out.2.1.size)).cell (by exact HV.out.2.2.2.1)).trans (HV.out.2.2.1 m hmn i hi)
          have hbo : BkOk (pf j) n m := bk_ok HV.out.2.2.2.2.2.2.2.2.2.2 (by rw [← HV.out.2.2.2.2.2.2.2.2.2.1]; exact hmn)
          obtain ⟨xa, xb, xf, xt, xn⟩ := x
          have e4 : xn = blkN n (1024 * m) := by rw [HV.out.2.2.2.2.2.2.2.2.1]; exact congrArg Bk.n hx
          have c0 : wr.cell? ⟨g, m * 5, none⟩ = some (.int .i64 (xa : Nat)) := hce 0 (by omega)
          have c1 : wr.cell? ⟨g, m * 5 + 1, none⟩ = some (.int .i64 (xb : Nat)) := hce 1 (by omega)
          have c2' : wr.cell? ⟨g, m * 5 + 2, none⟩ = some (.int .i64 xf) := hce 2 (by omega)
          have c3 : wr.cell? ⟨g, m * 5 + 3, none⟩ = some (.int .i64 xt) := hce 3 (by omega)
          have c4 : wr.cell? ⟨g, m * 5 + 4, none⟩ = some (.int .i64 (xn : Nat)) := hce 4 (by omega)
          have hmin : min (1024 * m) n = 1024 * m := bk_min (f := pf j) (by rw [← HV.out.2.2.2.2.2.2.2.2.2.1]; exact hmn)
          have hend : min (1024 * (m + 1)) n = 1024 * m + xn := by rw [e4]; exact (bk_end hbo (by rw [← HV.out.2.2.2.2.2.2.2.2.2.1]; omega)).symm
          have hxn : 1024 * m + xn ≤ n := by rw [← hend]; omega
          have ka : IntKind.i64.wrap ((c2 : Int) + (xn : Int)) = ((c2 + xn : Nat) : Int) := by rw [IntWalk.i64_in _ (by omega)]; omega
          have HX := Lib.hid (And.intro hx (And.intro hc2 (And.intro hend (And.intro hmin hq))))
          clear hx hc2 hend hmin hq hce hbo e4 hxn
          go_upto_region 9 with (fail)
          obtain ⟨gx, hgx⟩ : ∃ gx, gx = wr.heap.size := ⟨_, rfl⟩
          rw [← hgx]
          have hal : Below wr.heap.size wr (wr.alloc (.cells #[.int .i64 (xa : Nat), .int .i64 (xb : Nat), .int .i64 xf, .int .i64 xt, .int .i64 (xn : Nat)] 76)) := (Below.refl _ _).alloc (Nat.le_refl _) _
          refine wp_gen (fun wx => Below w4.heap.size w4 wx ∧ Blk wx gx 76 #[.int .i64 (xa : Nat), .int .i64 (xb : Nat), .int .i64 xf, .int .i64 xt, .int .i64 (xn : Nat)]) ⟨HX.out.2.2.2.2.trans (hal.mono HX.out.2.2.2.2.size), by rw [hgx]; exact Blk.fresh _ _ _⟩ ?_
          rintro w7 ⟨b7, g7⟩
          have u4 := g7.cell 4
          have H7 := Lib.hid b7
          clear b7 g7 hal hgx c0 c1 c2' c3 c4
          go_wp2_with fail
          go_roundw
          case rel => exact ⟨m + 1, by omega, by go_num, by rw [HX.out.2.2.1, HX.out.2.1, HX.out.2.2.2.1, ← Int.natCast_add, Nat.add_assoc], H7.out⟩
          case measure => simp [intOf] <;> omega
        · obtain rfl : m = nb := by omega
          have hc3 : c2 = c + n := by rw [hc2, HV.out.2.2.2.2.2.2.2.2.2.1, nbl_min]
          subst hc3
          have HQ := Lib.hid hq
          clear hq hc2
          have hrg5 := HV.out.1.kept (gb_below HQ.out none) (fun e => by cases e) (fun e => by cases e)
          have H5 := Lib.hid (And.intro hrg5 (HV.out.2.1.trans (HQ.out.mono HV.out.2.1.size)))
          clear hrg5
          go_wp2_with fail
          go_roundw
          case rel => exact ⟨_, cnt1, c + n, H5.out.1, rfl, by rw [← HV.out.2.2.2.2.1]; exact HV.out.2.2.2.2.2.1, H5.out.2⟩
          case measure => rw [H5.out.1.left_eq, HV.out.2.2.2.2.2.2.2.1]; exact HV.out.2.2.2.2.2.2.1
end Go.Proofs.YtopbbicjbjmdnaaGreatDoor
