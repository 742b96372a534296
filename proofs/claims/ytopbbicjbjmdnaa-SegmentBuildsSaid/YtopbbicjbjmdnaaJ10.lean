/-
  Texts of this proof, joined: SgK, SgH, SgR.
-/
import Derived.Test.YtopbbicjbjmdnaaJ07
import Derived.Test.YtopbbicjbjmdnaaJ09
import Derived.Deep.Slices
import Derived.Deep.Fields
import Derived.ChangeSame
import Derived.SizedLaws
namespace Go.Proofs.Ytopbbicjbjmdnaa
open Go.RowKit Go.Maps
set_option maxRecDepth 100000
set_option linter.unusedVariables false
set_option linter.unusedSimpArgs false
theorem grown_bel {w0 w w' : World} {e : TypeId} {n size : Nat} {v : Value} {xs : List Value} (hb : Below w0.heap.size w0 w) (ho : w.ownsRow w0.heap.size e size v n xs) (hg : w.grownBy w' v.ownBlock) : Below w0.heap.size w0 w' := by
  have hk : Keeps (fun k => v.ownBlock = some k) w w' := (Keeps.refl _ w).grown hg (fun k e _ => e)
  exact hb.trans (hk.below hb.size (fun k hlt e => by have := (ho.lt k e).1; omega))
/-- What few counts. -/
def fewN (nm : Nat → ByteArray) (pn : Nat → Nat) (k : Nat) : Nat → Nat
  | 0 => 10 * k
  | i + 1 => fewN nm pn k i + pn i + (nm i).size
theorem fewN_mono (nm : Nat → ByteArray) (pn : Nat → Nat) (k i : Nat) : ∀ d, fewN nm pn k i ≤ fewN nm pn k (i + d)
  | 0 => Nat.le_refl _
  | d + 1 => by
    have := fewN_mono nm pn k i d
    show _ ≤ fewN nm pn k (i + d) + pn (i + d) + (nm (i + d)).size
    omega
theorem fewN_le (nm : Nat → ByteArray) (pn : Nat → Nat) (k i j : Nat) (h : i ≤ j) : fewN nm pn k i ≤ fewN nm pn k j := by
  have := fewN_mono nm pn k i (j - i)
  rw [show i + (j - i) = j by omega] at this
  exact this
theorem fewN_each (nm : Nat → ByteArray) (pn : Nat → Nat) (k j : Nat) (h : j < k) : pn j + (nm j).size + 10 * k ≤ fewN nm pn k k := by
  have h1 := fewN_le nm pn k (j + 1) k h
  have h2 := fewN_le nm pn k 0 j (by omega)
  have h3 : fewN nm pn k 0 = 10 * k := rfl
  have h4 : fewN nm pn k (j + 1) = fewN nm pn k j + pn j + (nm j).size := rfl
  omega
/-- The parts' sizes, as the reach tells them. -/
structure Reach (nm : Nat → ByteArray) (pn : Nat → Nat) (k : Nat) : Prop where
  kb : k ≤ 140737488355328
  pb : ∀ j, j < k → pn j ≤ 140737488355328
  nb : ∀ j, j < k → (nm j).size ≤ 140737488355328
set_option maxHeartbeats 4000000 in
theorem few_any (w : World) (A : Option Addr) (k c : Nat) (nm : Nat → ByteArray) (pa : Nat → Option Addr) (pn pc : Nat → Nat) (pf : Nat → Nat → Pt) (h : PartsAt w A k nm pa pn pc pf) (hr : Reach nm pn k) :
    Calls Try.prog 4 #[.slice A k c] w fun e w' => e = .returned (.bool (decide (fewN nm pn k k < 2500))) ∧ Below w.heap.size w w' := by
  have hk := hr.kb
  have H0 := Lib.hid (And.intro h hr)
  clear h hr
  have km : IntKind.i64.wrap (10 * (k : Int)) = 10 * (k : Int) := IntWalk.i64_in _ (by omega)
  go_enter Try.func4, Try.ntmps4
  go_wp2_with fail
  clear km
  go_loopw [3, 4] (fun m i wr => ∃ (j : Nat), j ≤ k ∧ i = .int .i64 (j : Nat) ∧ m = .int .i64 ((fewN nm pn k j : Nat) : Int) ∧ Below w.heap.size w wr) (fun _ i _ => k - (intOf i).toNat)
  case atStart => exact ⟨0, by omega, rfl, by show _ = Value.int .i64 ((10 * k : Nat) : Int); congr 1 <;> simp, Below.refl _ _⟩
  case round =>
    obtain ⟨j, hj, rfl, rfl, hT⟩ := hrel
    obtain ⟨m, hm⟩ : ∃ m, m = fewN nm pn k j := ⟨_, rfl⟩
    rw [← hm]
    by_cases hlt : j < k
    · have hjk : decide ((j : Int) < (k : Int)) = true := by simp; omega
      by_cases hsm : m < 2500
      · have d1 : decide ((m : Int) < 2500) = true := by simp; omega
        obtain ⟨b, off, hA, hbl, hcell⟩ := H0.out.1.row (by omega)
        subst hA
        have hpj := H0.out.2.pb j hlt
        have hnj := H0.out.2.nb j hlt
        obtain ⟨s, hs⟩ : ∃ s, s = nm j := ⟨_, rfl⟩
        obtain ⟨n, hn⟩ : ∃ n, n = pn j := ⟨_, rfl⟩
        rw [← hs] at hnj
        rw [← hn] at hpj
        have hce : ∀ wx, Below w.heap.size w wx → wx.cell? ⟨b, off + j * 2, none⟩ = some (.string s) ∧ wx.cell? ⟨b, off + j * 2 + 1, none⟩ = some (.slice (pa j) n (pc j)) := fun wx hx => by
          rw [hs, hn]
          exact ⟨(hx.cell (by exact hbl)).trans (hcell j hlt).1, (hx.cell (by exact hbl)).trans (hcell j hlt).2⟩
        have HT := Lib.hid (And.intro hT (And.intro hm (And.intro hs (And.intro hn hce))))
        have hjk' : (j : Int) < (k : Int) := by omega
        have k1 : IntKind.i64.wrap ((m : Int) + (n : Int)) = (m : Int) + (n : Int) := IntWalk.i64_in _ (by omega)
        have k2 : IntKind.i64.wrap ((m : Int) + (n : Int) + (s.size : Int)) = (m : Int) + (n : Int) + (s.size : Int) := IntWalk.i64_in _ (by omega)
        clear hT hm hs hn hce hcell hsm
        go_upto_region 5 with (fail)
        have hS0 := HT.out.1.drew
        have hS : (Below w.heap.size w) (wr.drew) := hS0
        refine reg_start (Below w.heap.size w) (by kernel_rfl) hS ?_
        clear hS0
        refine reg_take (i := 0) (v := ?_) rfl (by kernel_rfl) (by kernel_rfl) (by kernel_rfl) (fun _ _ _ h => h) (Or.inl ⟨by kernel_rfl, ?_⟩) hS ?_
        rotate_left
        · (intro w' hSw; go_simp <;> with_reducible rfl)
        try simp only [List.getElem_toArray, List.getElem_cons_succ, List.getElem_cons_zero, Act.put, List.setIfInBounds_toArray, List.set_cons_zero, List.set_cons_succ]
        refine reg_take (i := 1) (v := ?_) rfl (by kernel_rfl) (by kernel_rfl) (by kernel_rfl) (fun _ _ _ h => h) (Or.inl ⟨by kernel_rfl, ?_⟩) hS ?_
        rotate_left
        · (intro w' hSw; go_simp <;> with_reducible rfl)
        try simp only [List.getElem_toArray, List.getElem_cons_succ, List.getElem_cons_zero, Act.put, List.setIfInBounds_toArray, List.set_cons_zero, List.set_cons_succ]
        refine reg_take (i := 2) (v := ?_) rfl (by kernel_rfl) (by kernel_rfl) (by kernel_rfl) (fun _ _ _ h => h) (Or.inl ⟨by kernel_rfl, ?_⟩) hS ?_
        rotate_left
        · (intro w' hSw; go_simp <;> with_reducible rfl)
        try simp only [List.getElem_toArray, List.getElem_cons_succ, List.getElem_cons_zero, Act.put, List.setIfInBounds_toArray, List.set_cons_zero, List.set_cons_succ]
        refine reg_take (i := 3) (v := ?_) rfl (by kernel_rfl) (by kernel_rfl) (by kernel_rfl) (fun _ _ _ h => h) (Or.inl ⟨by kernel_rfl, ?_⟩) hS ?_
        rotate_left
        · (intro w' hSw; go_simp <;> with_reducible rfl)
        try simp only [List.getElem_toArray, List.getElem_cons_succ, List.getElem_cons_zero, Act.put, List.setIfInBounds_toArray, List.set_cons_zero, List.set_cons_succ]
        refine reg_take (i := 4) (v := ?_) rfl (by kernel_rfl) (by kernel_rfl) (by kernel_rfl) (fun _ _ _ h => h) (Or.inl ⟨by kernel_rfl, ?_⟩) hS ?_
        rotate_left
        · (intro w' hSw; go_simp <;> with_reducible rfl)
        try simp only [List.getElem_toArray, List.getElem_cons_succ, List.getElem_cons_zero, Act.put, List.setIfInBounds_toArray, List.set_cons_zero, List.set_cons_succ]
        refine reg_take (i := 5) (v := ?_) rfl (by kernel_rfl) (by kernel_rfl) (by kernel_rfl) (fun _ _ _ h => h) (Or.inl ⟨by kernel_rfl, ?_⟩) hS ?_
        rotate_left
        · (intro w' hSw; have u0 := (HT.out.2.2.2.2 w' hSw).2; go_simp <;> with_reducible rfl)
        try simp only [List.getElem_toArray, List.getElem_cons_succ, List.getElem_cons_zero, Act.put, List.setIfInBounds_toArray, List.set_cons_zero, List.set_cons_succ]
        refine reg_take (i := 6) (v := ?_) rfl (by kernel_rfl) (by kernel_rfl) (by kernel_rfl) (fun _ _ _ h => h) (Or.inl ⟨by kernel_rfl, ?_⟩) hS ?_
        rotate_left
        · (intro w' hSw; go_simp <;> with_reducible rfl)
        try simp only [List.getElem_toArray, List.getElem_cons_succ, List.getElem_cons_zero, Act.put, List.setIfInBounds_toArray, List.set_cons_zero, List.set_cons_succ]
        refine reg_take (i := 7) (v := ?_) rfl (by kernel_rfl) (by kernel_rfl) (by kernel_rfl) (fun _ _ _ h => h) (Or.inl ⟨by kernel_rfl, ?_⟩) hS ?_
        rotate_left
        · (intro w' hSw; go_simp <;> with_reducible rfl)
        try simp only [List.getElem_toArray, List.getElem_cons_succ, List.getElem_cons_zero, Act.put, List.setIfInBounds_toArray, List.set_cons_zero, List.set_cons_succ]
        refine reg_take (i := 8) (v := ?_) rfl (by kernel_rfl) (by kernel_rfl) (by kernel_rfl) (fun _ _ _ h => h) (Or.inl ⟨by kernel_rfl, ?_⟩) hS ?_
        rotate_left
        · (intro w' hSw; go_simp <;> with_reducible rfl)
        try simp only [List.getElem_toArray, List.getElem_cons_succ, List.getElem_cons_zero, Act.put, List.setIfInBounds_toArray, List.set_cons_zero, List.set_cons_succ]
        refine reg_take (i := 9) (v := ?_) rfl (by kernel_rfl) (by kernel_rfl) (by kernel_rfl) (fun _ _ _ h => h) (Or.inl ⟨by kernel_rfl, ?_⟩) hS ?_
        rotate_left
        · (intro w' hSw; go_simp <;> with_reducible rfl)
        try simp only [List.getElem_toArray, List.getElem_cons_succ, List.getElem_cons_zero, Act.put, List.setIfInBounds_toArray, List.set_cons_zero, List.set_cons_succ]
        refine reg_take (i := 10) (v := ?_) rfl (by kernel_rfl) (by kernel_rfl) (by kernel_rfl) (fun _ _ _ h => h) (Or.inl ⟨by kernel_rfl, ?_⟩) hS ?_
        rotate_left
        · (intro w' hSw; go_simp <;> with_reducible rfl)
        try simp only [List.getElem_toArray, List.getElem_cons_succ, List.getElem_cons_zero, Act.put, List.setIfInBounds_toArray, List.set_cons_zero, List.set_cons_succ]
        refine reg_take (i := 11) (v := ?_) rfl (by kernel_rfl) (by kernel_rfl) (by kernel_rfl) (fun _ _ _ h => h) (Or.inl ⟨by kernel_rfl, ?_⟩) hS ?_
        rotate_left
        · (intro w' hSw; go_simp <;> with_reducible rfl)
        try simp only [List.getElem_toArray, List.getElem_cons_succ, List.getElem_cons_zero, Act.put, List.setIfInBounds_toArray, List.set_cons_zero, List.set_cons_succ]
        refine reg_take (i := 12) (v := ?_) rfl (by kernel_rfl) (by kernel_rfl) (by kernel_rfl) (fun _ _ _ h => h) (Or.inl ⟨by kernel_rfl, ?_⟩) hS ?_
        rotate_left
        · (intro w' hSw; have u0 := (HT.out.2.2.2.2 w' hSw).1; go_simp <;> with_reducible rfl)
        try simp only [List.getElem_toArray, List.getElem_cons_succ, List.getElem_cons_zero, Act.put, List.setIfInBounds_toArray, List.set_cons_zero, List.set_cons_succ]
        refine reg_take (i := 13) (v := ?_) rfl (by kernel_rfl) (by kernel_rfl) (by kernel_rfl) (fun _ _ _ h => h) (Or.inl ⟨by kernel_rfl, ?_⟩) hS ?_
        rotate_left
        · (intro w' hSw; go_simp <;> with_reducible rfl)
        try simp only [List.getElem_toArray, List.getElem_cons_succ, List.getElem_cons_zero, Act.put, List.setIfInBounds_toArray, List.set_cons_zero, List.set_cons_succ]
        refine reg_take (i := 14) (v := ?_) rfl (by kernel_rfl) (by kernel_rfl) (by kernel_rfl) (fun _ _ _ h => h) (Or.inl ⟨by kernel_rfl, ?_⟩) hS ?_
        rotate_left
        · (intro w' hSw; go_simp <;> with_reducible rfl)
        try simp only [List.getElem_toArray, List.getElem_cons_succ, List.getElem_cons_zero, Act.put, List.setIfInBounds_toArray, List.set_cons_zero, List.set_cons_succ]
        refine reg_take (i := 15) (v := ?_) rfl (by kernel_rfl) (by kernel_rfl) (by kernel_rfl) (fun _ _ _ h => h) (Or.inl ⟨by kernel_rfl, ?_⟩) hS ?_
        rotate_left
        · (intro w' hSw; go_simp <;> with_reducible rfl)
        try simp only [List.getElem_toArray, List.getElem_cons_succ, List.getElem_cons_zero, Act.put, List.setIfInBounds_toArray, List.set_cons_zero, List.set_cons_succ]
        refine wpAnyH_done (by kernel_rfl) ?_ _
        try simp only [List.getElem_toArray, List.getElem_cons_succ, List.getElem_cons_zero]
        try simp only [List.getElem_toArray, List.getElem_cons_succ, List.getElem_cons_zero, Act.put, List.setIfInBounds_toArray, List.set_cons_zero, List.set_cons_succ]
        have HG := Lib.hid hS
        clear hS k1 k2
        go_wp2_with fail
        go_roundw
        case rel =>
          refine ⟨j + 1, by omega, by go_num, ?_, HG.out⟩
          have e : fewN nm pn k (j + 1) = m + n + s.size := by rw [HT.out.2.1, HT.out.2.2.1, HT.out.2.2.2.1]; rfl
          rw [e]
          congr 1 <;> omega
        case measure => simp [intOf] <;> omega
      · have d1 : decide ((m : Int) < 2500) = false := by simp; omega
        have hf : fewN nm pn k j ≤ fewN nm pn k k := fewN_le _ _ _ _ _ hj
        have HE := Lib.hid (And.intro hT (show decide (fewN nm pn k k < 2500) = false by rw [decide_eq_false_iff_not]; omega))
        clear hT hm hf hsm
        go_wp2_with fail
        go_ret
        exact ⟨by rw [HE.out.2]; rfl, HE.out.1⟩
    · obtain rfl : j = k := by omega
      have d0 : decide ((j : Int) < (j : Int)) = false := by simp
      have HE := Lib.hid (And.intro hT hm)
      clear hT hm
      by_cases hsm : m < 2500
      · have d1 : decide ((m : Int) < 2500) = true := by simp; omega
        have HD := Lib.hid (decide_eq_true hsm)
        clear hsm
        go_wp2_with fail
        go_ret
        exact ⟨by rw [← HE.out.2, HD.out]; rfl, HE.out.1⟩
      · have d1 : decide ((m : Int) < 2500) = false := by simp; omega
        have HD := Lib.hid (decide_eq_false hsm)
        clear hsm
        go_wp2_with fail
        go_ret
        exact ⟨by rw [← HE.out.2, HD.out]; rfl, HE.out.1⟩
theorem namesB_small (nm : Nat → ByteArray) (n : Nat) (hn : n ≤ 1024) : ∀ k, (∀ j, j < k → (nm j).size ≤ 2500) → (namesB nm n k).length ≤ 10 + k * 2510
  | 0, _ => by show (V.vput n).length ≤ _; have := V.vput_len10 (u := n) (by omega); omega
  | k + 1, h => by
    have ih := namesB_small nm n hn k (fun j hj => h j (by omega))
    have h1 := h k (by omega)
    have h2 := V.vput_len10 (u := (nm k).size) (by omega)
    show (namesB nm n k ++ V.vput (nm k).size ++ V.txt (nm k)).length ≤ _
    rw [List.length_append, List.length_append, V.txt_length]
    omega
theorem few_small {nm : Nat → ByteArray} {pn : Nat → Nat} {pf : Nat → Nat → Pt} {k : Nat} (hok : ∀ j i, PtOk (pf j i)) (h : fewN nm pn k k < 2500) : Small nm pf pn k := by
  have hk : k < 250 := by
    have := fewN_le nm pn k 0 k (by omega)
    have h3 : fewN nm pn k 0 = 10 * k := rfl
    omega
  have hp : ∀ j, j < k → pn j ≤ 2500 := fun j hj => by have := fewN_each nm pn k j hj; omega
  have hn : ∀ j, j < k → (nm j).size ≤ 2500 := fun j hj => by have := fewN_each nm pn k j hj; omega
  have ho : ∀ i, i ≤ k → (sO pf pn i).length ≤ i * 390147 := by
    intro i
    induction i with
    | zero => intro _; simp [sO]
    | succ i ih =>
      intro hi
      have h1 := ih (by omega)
      have h2 := bO_len (pf i) (pn i) (by have := hp i (by omega); omega) (nbl (pn i))
      have h3 : nbl (pn i) ≤ 3 := by have := hp i (by omega); unfold nbl; omega
      have h4 : nbl (pn i) * 130049 ≤ 3 * 130049 := Nat.mul_le_mul_right _ h3
      show (sO pf pn i ++ bO (pf i) (pn i) (nbl (pn i))).length ≤ _
      rw [List.length_append]
      omega
  have hf : ∀ i, i ≤ k → (sF nm pf pn k i).length ≤ 10 + k * 2510 + i * 130 := by
    intro i
    induction i with
    | zero =>
      intro _
      have := namesB_small nm k (by omega) k hn
      show (namesB nm k k).length ≤ _
      omega
    | succ i ih =>
      intro hi
      have h1 := ih (by omega)
      have h2 := bF_len (pf i) (hok i) (pn i) (by have := hp i (by omega); omega) (nbl (pn i))
      have h3 : nbl (pn i) ≤ 3 := by have := hp i (by omega); unfold nbl; omega
      have h5 := V.vput_len10 (u := nbl (pn i)) (by omega)
      show (sF nm pf pn k i ++ V.vput (nbl (pn i)) ++ bF (pf i) (pn i) (nbl (pn i))).length ≤ _
      rw [List.length_append, List.length_append]
      omega
  exact ⟨by omega, fun j hj => by have := hn j hj; omega, fun j hj => by have := hp j hj; omega, fun i hi => by have := ho i hi; omega, fun i hi => by have := hf i hi; omega⟩
end Go.Proofs.Ytopbbicjbjmdnaa
namespace Go.Proofs.Ytopbbicjbjmdnaa
open Go.RowKit Go.Maps
set_option maxRecDepth 100000
set_option linter.unusedVariables false
set_option linter.unusedSimpArgs false
/-- The cells of k parts. -/
def prtL (nm : Nat → ByteArray) (pa : Nat → Option Addr) (pn pc : Nat → Nat) : Nat → List Value
  | 0 => []
  | j + 1 => prtL nm pa pn pc j ++ [.string (nm j), .slice (pa j) (pn j) (pc j)]
theorem prtL_len (nm : Nat → ByteArray) (pa : Nat → Option Addr) (pn pc : Nat → Nat) : ∀ k, (prtL nm pa pn pc k).length = k * 2
  | 0 => rfl
  | k + 1 => by
    show (prtL nm pa pn pc k ++ _).length = _
    rw [List.length_append, prtL_len nm pa pn pc k]
    simp; omega
theorem prtL_at (nm : Nat → ByteArray) (pa : Nat → Option Addr) (pn pc : Nat → Nat) (j : Nat) : ∀ k, j < k → (prtL nm pa pn pc k)[j * 2]? = some (.string (nm j)) ∧ (prtL nm pa pn pc k)[j * 2 + 1]? = some (.slice (pa j) (pn j) (pc j))
  | 0, h => absurd h (by omega)
  | k + 1, h => by
    have hl := prtL_len nm pa pn pc k
    show (prtL nm pa pn pc k ++ _)[j * 2]? = _ ∧ (prtL nm pa pn pc k ++ _)[j * 2 + 1]? = _
    rcases Nat.lt_or_ge j k with h1 | h1
    · have := prtL_at nm pa pn pc j k h1
      rw [List.getElem?_append_left (by omega), List.getElem?_append_left (by omega)]
      exact this
    · obtain rfl : j = k := by omega
      rw [List.getElem?_append_right (by omega), List.getElem?_append_right (by omega), hl, Nat.sub_self, show j * 2 + 1 - j * 2 = 1 by omega]
      exact ⟨rfl, rfl⟩
theorem part_info : (Try.prog.info? 51).map (fun i => (i.zero, i.size, i.bytes)) = some (some (.agg #[.string ByteArray.empty, .slice none 0 0]), 2, 40) := by kernel_rfl
theorem wpList_append_part {w : World} {base g j : Nat} {v : Value} {nm : Nat → ByteArray} {pa : Nat → Option Addr} {pn pc : Nat → Nat} {c : Nat} {ops : Array Oper} {rest : List Oper} {o : Oper} {a : Act} {Q : Exit → Act → World → Prop} (hgd : o.guard = none) (s x : Operand)
    (ho : o.op = .call { callee := .builtin .append, args := #[s, x], argTypes := #[30, 30] }) (hs : a.eval s = v) (hx : a.eval x = .slice (some ⟨g, 0, none⟩) 1 c)
    (hown : w.ownsRow base 51 2 v j (prtL nm pa pn pc j)) (hg : Blk w g 51 #[.string (nm j), .slice (pa j) (pn j) (pc j)]) (h63 : j < 4294967296) (hbase : base ≤ w.heap.size)
    (h : ∀ v' w', w'.ownsRow base 51 2 v' (j + 1) (prtL nm pa pn pc (j + 1)) → w.grownBy w' v.ownBlock → wpList Try.prog ops Q rest (a.put o.dst v') w') : wpList Try.prog ops Q (o :: rest) a w := by
  refine wpList_plain hgd fun K hK => ?_
  obtain ⟨i, hi, hz, hss, hb⟩ := info_parts part_info
  have hadd : ∀ i, (⟨g, 0, none⟩ : Addr).add i = ⟨g, 0 + i, none⟩ := fun i => by unfold Addr.add; split <;> simp_all
  obtain ⟨v', w', hrun, h2, h3, _, h4⟩ := run_append_own_at (P := Try.prog) w base 30 o.type 51 i _ 2 40 Try.underlying30 hi hz hss hb rfl (by decide) v j (prtL nm pa pn pc j) hown ⟨g, 0, none⟩ 1 c [.string (nm j), .slice (pa j) (pn j) (pc j)] rfl
    (fun j u hu => by
      rw [hadd, Nat.zero_add, hg.cell j]
      simpa using hu)
    (by intro u hu; simp at hu; rcases hu with rfl | rfl <;> rfl) (by unfold maxLen; omega) (by omega) hbase
  unfold Oper.wp execOp
  simp only [ho, resolve, invoke, builtin, Sem.run_bind, Sem.run_pure, Result.andThen_ok, List.map_toArray, List.map_cons, List.map_nil, hs, hx, hrun]
  exact hK _ _ (h v' w' h2 h3)
def PartsPost (w : World) (k : Nat) (nm : Nat → ByteArray) (pa : Nat → Option Addr) (pn pc : Nat → Nat) (pf : Nat → Nat → Pt) (e : Ending) (w' : World) : Prop :=
  ∃ A c, e = .returned (.slice A k c) ∧ PartsAt w' A k nm pa pn pc pf ∧ Below w.heap.size w w'
theorem parts_at {w w' : World} {A A' : Option Addr} {k c : Nat} {nm : Nat → ByteArray} {pa : Nat → Option Addr} {pn pc : Nat → Nat} {pf : Nat → Nat → Pt} (h : PartsAt w A k nm pa pn pc pf) (ho : w'.ownsRow w.heap.size 51 2 (.slice A' k c) k (prtL nm pa pn pc k)) (hb : Below w.heap.size w w') : PartsAt w' A' k nm pa pn pc pf := by
  have h' := h.below hb
  refine ⟨fun hk => ?_, h'.pts, h.le, h.ok, h.nsz⟩
  obtain ⟨g, hA, hg⟩ : ∃ g, A' = some ⟨g, 0, none⟩ ∧ g < w'.heap.size := by
    obtain ⟨A2, c2, e, _, hp⟩ := own_form ho
    obtain ⟨g, e2, _, hl⟩ := hp hk
    injection e with e3
    exact ⟨g, e3.trans e2, hl⟩
  subst hA
  have hadd : ∀ i, (⟨g, 0, none⟩ : Addr).add i = ⟨g, 0 + i, none⟩ := fun i => by unfold Addr.add; split <;> simp_all
  refine ⟨g, 0, rfl, hg, fun j hj => ?_⟩
  obtain ⟨h1, h2⟩ := prtL_at nm pa pn pc j k hj
  have c1 := World.ownsRow.cells ho (g := g) rfl _ _ h1
  have c2 := World.ownsRow.cells ho (g := g) rfl _ _ h2
  rw [hadd] at c1 c2
  exact ⟨c1, c2⟩
set_option maxHeartbeats 4000000 in
theorem parts_any (w : World) (A : Option Addr) (k c : Nat) (nm : Nat → ByteArray) (pa : Nat → Option Addr) (pn pc : Nat → Nat) (pf : Nat → Nat → Pt) (h : PartsAt w A k nm pa pn pc pf) (hk : k ≤ 1024) :
    Calls Try.prog 7 #[.slice A k c] w (PartsPost w k nm pa pn pc pf) := by
  have H0 := Lib.hid h
  clear h
  go_enter Try.func7, Try.ntmps7
  go_wp2_with fail
  go_loopw [3, 4] (fun o i wr => ∃ (j : Nat), j ≤ k ∧ i = .int .i64 (j : Nat) ∧ wr.ownsRow w.heap.size 51 2 o j (prtL nm pa pn pc j) ∧ Below w.heap.size w wr) (fun _ i _ => k - (intOf i).toNat)
  case atStart => exact ⟨0, by omega, rfl, ⟨rfl, .inl ⟨rfl, rfl⟩⟩, Below.refl _ _⟩
  case round =>
    obtain ⟨j, hj, rfl, ho, hT⟩ := hrel
    obtain ⟨Ao, co, hvo, hco, -⟩ := own_form ho
    subst hvo
    by_cases hlt : j < k
    · obtain ⟨b, off, hA, hbl, hcell⟩ := H0.out.row (by omega)
      subst hA
      have zc0 : wr.cell? ⟨b, off + j * 2, none⟩ = some (.string (nm j)) := (hT.cell (by exact hbl)).trans (hcell j hlt).1
      have zc1 : wr.cell? ⟨b, off + j * 2 + 1, none⟩ = some (.slice (pa j) (pn j) (pc j)) := (hT.cell (by exact hbl)).trans (hcell j hlt).2
      have hjk : (j : Int) < (k : Int) := by omega
      have HT := Lib.hid (And.intro ho hT)
      clear ho hT hcell
      go_wp2_with (at_builtin; refine wpList_append_part (base := w.heap.size) (j := j) (nm := nm) (pa := pa) (pn := pn) (pc := pc) rfl (.tmp 11) (.tmp 16) rfl rfl rfl ?hown ?hg ?h63 ?hbase ?_)
      case hown => exact HT.out.1.alloc _
      case hg => exact Blk.fresh _ _ _
      case h63 => omega
      case hbase => have := HT.out.2.size; simp; omega
      intro v8 w8 ho8 hg8
      have hb8 : Below w.heap.size w w8 := grown_bel (HT.out.2.alloc HT.out.2.size _) (HT.out.1.alloc _) hg8
      have H8 := Lib.hid (And.intro ho8 hb8)
      clear ho8 hg8 hb8 zc0 zc1
      go_wp2_with fail
      go_roundw
      case rel => exact ⟨j + 1, by omega, by go_num, H8.out.1, H8.out.2⟩
      case measure => simp [intOf] <;> omega
    · obtain rfl : j = k := by omega
      have HE := Lib.hid (parts_at H0.out ho hT)
      have HB := Lib.hid hT
      clear hT ho
      go_wp2_with fail
      go_ret
      exact ⟨Ao, co, rfl, HE.out, HB.out⟩
end Go.Proofs.Ytopbbicjbjmdnaa
namespace Go.Proofs.Ytopbbicjbjmdnaa
open Go.RowKit Go.ChangeShapes Go.WideShapes Go.Deep
set_option maxRecDepth 100000
set_option linter.unusedVariables false
set_option linter.unusedSimpArgs false
theorem part_cells : Try.prog.cellsOf 36 = 2 := by kernel_rfl
theorem weights_all {H : Type} {P : Program} {e : TypeId} {d : DataW H} : ∀ {l : List (DataW H)}, d ∈ l → ∀ n ∈ d.weights P e, n ∈ DataW.weightsAll P e l
  | d' :: r, hd, n, hn => by
    simp only [DataW.weightsAll, List.mem_append]
    rcases List.mem_cons.1 hd with rfl | h
    · exact .inl hn
    · exact .inr (weights_all h n hn)
/-- What is told of one part. -/
structure OnePart {H : Type} (w : World) (D : DataW H) (c0 c1 : Value) (t : ByteArray × Option Addr × Nat × Nat × (Nat → Pt)) : Prop where
  s : c0 = .string t.1
  p : c1 = .slice t.2.1 t.2.2.1 t.2.2.2.1
  le : t.2.2.1 ≤ t.2.2.2.1 ∧ t.2.2.2.1 ≤ maxLen
  sl : SlP w (fun q => q < w.heap.size) t.2.1 t.2.2.1 t.2.2.2.2
  sz : t.1.size ≤ maxLen
  wt : ∀ R, (∀ n ∈ D.weights Try.prog 36, n ≤ R) → t.1.size ≤ R ∧ t.2.2.1 * 24 ≤ R
theorem open_part {H : Type} {enc : TypeId × Value → H} {w : World} {fuel : Nat} {c0 c1 : Value} {x : DataW H × List MemPlace}
    (h : DataW.trod enc Try.prog w 0 (fun _ => true) true fuel 36 [c0, c1] = some x) : ∃ t, (∀ j, PtOk (t.2.2.2.2 j)) ∧ OnePart w x.1 c0 c1 t := by
  obtain ⟨y0, y1, n, hx, hl, g0, g1⟩ := trod_struct2 Try.underlying36 h
  subst hx
  have hC : Try.prog.cellsOf 9 = 1 := by kernel_rfl
  have hC1 : Try.prog.cellsOf 34 = 1 := by kernel_rfl
  simp [hC] at g0
  simp [hC1] at g1
  obtain ⟨s, e0, hy0, hs⟩ := DataW.trod_string Try.underlying9 g0
  simp at e0
  subst e0 hy0
  have hb : Try.prog.bytesOf 33 = 24 := by kernel_rfl
  have hfs : ∀ l l' : List (DataW H), ∀ R, (∀ n ∈ (DataW.agg [.lit (.string s.data.toList), .slice l l']).weights Try.prog 36, n ≤ R) → s.size ≤ R ∧ (l.length + l'.length) * 24 ≤ R := by
    intro l l' R hR
    simp only [DataW.weights, DataW.weightsEach, Try.underlying36, Try.underlying34, List.map_cons, List.map_nil, hb] at hR
    refine ⟨?_, ?_⟩
    · have := hR s.data.toList.length (by simp)
      simpa using this
    · exact hR _ (by simp)
  have hfn : ∀ R, (∀ n ∈ (DataW.agg [.lit (.string s.data.toList), (DataW.nil : DataW H)]).weights Try.prog 36, n ≤ R) → s.size ≤ R := by
    intro R hR
    simp only [DataW.weights, DataW.weightsEach, Try.underlying36, List.map_cons, List.map_nil] at hR
    have := hR s.data.toList.length (by simp)
    simpa using this
  rcases open_slice Try.underlying34 g1 with ⟨hcs, hx⟩ | ⟨ad, l, c, m, n', D, Pl, hcs, -, hlc, hm, hmm, hx, hi⟩
  · simp at hcs
    subst hcs hx
    exact ⟨(s, none, 0, 0, fun _ => ⟨0, 0, 0⟩), fun j => ⟨by unfold I64; simp, by unfold I64; simp, by unfold I64; simp⟩, rfl, rfl, ⟨Nat.le_refl _, Nat.zero_le _⟩, fun h0 => absurd h0 (by simp), hs, fun R hR => ⟨hfn R hR, by simp⟩⟩
  · simp at hcs
    subst hcs
    obtain ⟨f, hf⟩ := open_points (a := some ad) (len := l) (cap := c) g1
    obtain ⟨g, hg, hsl⟩ := hf.cut l (Nat.le_refl _)
    subst hx
    refine ⟨(s, some ad, l, c, g), hg, rfl, rfl, ⟨hlc, hm⟩, hsl, hs, fun R hR => ?_⟩
    obtain ⟨h1, h2⟩ := hfs _ _ R hR
    refine ⟨h1, ?_⟩
    simp only [List.length_map, List.length_range] at h2
    show l * 24 ≤ R
    omega
theorem open_parts {H : Type} {enc : TypeId × Value → H} {w : World} {fuel : Nat} {a : Option Addr} {len cap : Nat} {x : DataW H × List MemPlace}
    (h : DataW.trod enc Try.prog w 0 (fun _ => true) true fuel 22 (Value.cells (.slice a len cap)).toList = some x) (hsz : ∀ n ∈ x.1.weights Try.prog 22, n ≤ reachBytes) :
    ∃ nm pa pn pc pf, PartsAt w a len nm pa pn pc pf ∧ Reach nm pn len := by
  have hz : ∀ j : Nat, PtOk ((fun _ => ⟨0, 0, 0⟩ : Nat → Pt) j) := fun j => ⟨by unfold I64; simp, by unfold I64; simp, by unfold I64; simp⟩
  rcases open_slice Try.underlying22 h with ⟨hcs, _⟩ | ⟨ad, l, c, m, n, D, Pl, hcs, -, hl, hm, hmm, hx, hi⟩
  · simp [Value.cells] at hcs
    obtain ⟨rfl, rfl, rfl⟩ := hcs
    exact ⟨fun _ => ByteArray.empty, fun _ => none, fun _ => 0, fun _ => 0, fun _ _ => ⟨0, 0, 0⟩, ⟨fun h0 => absurd h0 (by omega), fun j hj => absurd hj (by omega), fun j hj => absurd hj (by omega), fun j i => hz i, fun j hj => absurd hj (by omega)⟩,
      ⟨by omega, fun j hj => absurd hj (by omega), fun j hj => absurd hj (by omega)⟩⟩
  · simp [Value.cells] at hcs
    obtain ⟨rfl, rfl, rfl⟩ := hcs
    have hmc : m = cap := by simpa using hmm
    subst hx
    have hb : Try.prog.bytesOf 36 = 40 := by kernel_rfl
    have hlen : len * 40 ≤ reachBytes := by
      have := hsz ((((List.range len).map D).length + ((List.range (m - len)).map fun j => D (len + j)).length) * 40) (by simp [DataW.weights, Try.underlying22, hb])
      simp only [List.length_map, List.length_range] at this
      omega
    have hwt : ∀ i, i < len → ∀ n ∈ (D i).weights Try.prog 36, n ≤ reachBytes := fun i hi n hn => hsz n (by
      simp only [DataW.weights, Try.underlying22, List.mem_cons, List.mem_append]
      exact .inr (.inl (weights_all (List.mem_map.2 ⟨i, List.mem_range.2 hi, rfl⟩) n hn)))
    have hone : ∀ i, i < cap → ∃ t c0 c1, w.cell? ((ad.add (i * 2)).add 0) = some c0 ∧ w.cell? ((ad.add (i * 2)).add 1) = some c1 ∧ (∀ j, PtOk (t.2.2.2.2 j)) ∧ OnePart w (D i) c0 c1 t := by
      intro i hic
      obtain ⟨cs', hc, ht'⟩ := hi i (by omega)
      rw [part_cells] at hc
      obtain ⟨_, hcl, hat⟩ := World.cells?_some hc
      match cs', hcl with
      | [c0, c1], _ =>
        obtain ⟨t, h1, h2⟩ := open_part ht'
        exact ⟨t, c0, c1, by simpa using hat 0 (by omega), by simpa using hat 1 (by omega), h1, h2⟩
    rcases Nat.eq_zero_or_pos len with h0 | h0
    · subst h0
      exact ⟨fun _ => ByteArray.empty, fun _ => none, fun _ => 0, fun _ => 0, fun _ _ => ⟨0, 0, 0⟩, ⟨fun h0 => absurd h0 (by omega), fun j hj => absurd hj (by omega), fun j hj => absurd hj (by omega), fun j i => hz i, fun j hj => absurd hj (by omega)⟩,
        ⟨by omega, fun j hj => absurd hj (by omega), fun j hj => absurd hj (by omega)⟩⟩
    · obtain ⟨b, off, spot⟩ := ad
      have hspot : spot = none := by
        obtain ⟨t, c0, c1, hv, -⟩ := hone 0 (by omega)
        simpa [Addr.add] using World.cell?_spot hv
      subst hspot
      have hadd : ∀ i j, ((⟨b, off, none⟩ : Addr).add i).add j = ⟨b, off + i + j, none⟩ := fun i j => by
        have h1 : (⟨b, off, none⟩ : Addr).add i = ⟨b, off + i, none⟩ := by unfold Addr.add; split <;> simp_all
        rw [h1]
        unfold Addr.add; split <;> simp_all
      have hone' : ∀ i, ∃ t : ByteArray × Option Addr × Nat × Nat × (Nat → Pt), (∀ j, PtOk (t.2.2.2.2 j)) ∧ (i < cap → ∃ c0 c1, w.cell? ⟨b, off + i * 2, none⟩ = some c0 ∧ w.cell? ⟨b, off + i * 2 + 1, none⟩ = some c1 ∧ OnePart w (D i) c0 c1 t) := by
        intro i
        by_cases hic : i < cap
        · obtain ⟨t, c0, c1, h1, h2, h3, h4⟩ := hone i hic
          rw [hadd] at h1 h2
          exact ⟨t, h3, fun _ => ⟨c0, c1, h1, h2, h4⟩⟩
        · exact ⟨(ByteArray.empty, none, 0, 0, fun _ => ⟨0, 0, 0⟩), hz, fun h => absurd h hic⟩
      have hT : ∃ T : Nat → ByteArray × Option Addr × Nat × Nat × (Nat → Pt), ∀ i, (∀ j, PtOk ((T i).2.2.2.2 j)) ∧ (i < cap → ∃ c0 c1, w.cell? ⟨b, off + i * 2, none⟩ = some c0 ∧ w.cell? ⟨b, off + i * 2 + 1, none⟩ = some c1 ∧ OnePart w (D i) c0 c1 (T i)) := ⟨fun i => Classical.choose (hone' i), fun i => Classical.choose_spec (hone' i)⟩
      obtain ⟨T, hT⟩ := hT
      refine ⟨fun i => (T i).1, fun i => (T i).2.1, fun i => (T i).2.2.1, fun i => (T i).2.2.2.1, fun i => (T i).2.2.2.2, ⟨fun _ => ⟨b, off, rfl, ?_, fun j hj => ?_⟩, fun j hj => ?_, fun j hj => ?_, fun j => (hT j).1, fun j hj => ?_⟩, ⟨?_, fun j hj => ?_, fun j hj => ?_⟩⟩
      · obtain ⟨c0, c1, h1, -⟩ := (hT 0).2 (by omega)
        exact World.block_lt_of_cell? w _ h1
      · obtain ⟨c0, c1, h1, h2, h3⟩ := (hT j).2 (by omega)
        exact ⟨by rw [h1, h3.s], by rw [h2, h3.p]⟩
      · obtain ⟨c0, c1, h1, h2, h3⟩ := (hT j).2 (by omega)
        exact h3.sl
      · obtain ⟨c0, c1, h1, h2, h3⟩ := (hT j).2 (by omega)
        exact h3.le
      · obtain ⟨c0, c1, h1, h2, h3⟩ := (hT j).2 (by omega)
        exact h3.sz
      · unfold reachBytes at hlen; omega
      · obtain ⟨c0, c1, h1, h2, h3⟩ := (hT j).2 (by omega)
        have := (h3.wt _ (hwt j hj)).2
        unfold reachBytes at this
        show (T j).2.2.1 ≤ _
        omega
      · obtain ⟨c0, c1, h1, h2, h3⟩ := (hT j).2 (by omega)
        have := (h3.wt _ (hwt j hj)).1
        unfold reachBytes at this
        show (T j).1.size ≤ _
        omega
end Go.Proofs.Ytopbbicjbjmdnaa
