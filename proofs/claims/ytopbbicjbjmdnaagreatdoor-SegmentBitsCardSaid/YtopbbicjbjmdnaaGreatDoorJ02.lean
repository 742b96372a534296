/-
  Texts of this proof, joined: VrPl, ErC, ErD, Zig, Zag, Tl, Var, VarB, Conv, Lat, ErE, SgS, SgO, Pt, ColA.
-/
import Derived.Test.YtopbbicjbjmdnaaGreatDoorJ01
import Derived.Deep.DeepCutAuto
import Derived.Laws.BitsAllLaws
import Derived.Test.YtopbbicjbjmdnaaGreatDoorRows
import Derived.WalkKit
import Derived.WalkSpells
import Derived.WalkLawsBesides
import Derived.Outline
import Derived.Lib.Hide
import Derived.Lib.Zigzag
import Derived.ArgAppend
import Derived.Lib.AppendStr
import Derived.Laws.BytesArg
import Derived.Deep.Cut
import Derived.Deep.QuietTactic
import Derived.BigQuiet
namespace Go.Proofs.YtopbbicjbjmdnaaGreatDoor.V
/-- The number of bytes that carry on, ten at most. -/
def leadN : Nat → List Nat → Nat
  | 0, _ => 0
  | _ + 1, [] => 0
  | f + 1, b :: l => if 128 ≤ b then leadN f l + 1 else 0
def lead (l : List Nat) : Nat := leadN 10 l
theorem leadN_eq : ∀ (f k : Nat) (l : List Nat), k ≤ f → k ≤ l.length → (∀ j, j < k → 128 ≤ l.getD j 0) → (k < f → k < l.length → l.getD k 0 < 128) → leadN f l = k
  | 0, k, _, h1, _, _, _ => by unfold leadN; omega
  | f + 1, k, [], _, h2, _, _ => by simp at h2; unfold leadN; omega
  | f + 1, 0, b :: l, _, _, _, h4 => by
    have := h4 (by omega) (by simp)
    simp at this
    unfold leadN
    rw [if_neg (by omega)]
  | f + 1, k + 1, b :: l, h1, h2, h3, h4 => by
    have hb := h3 0 (by omega)
    simp at hb h2
    unfold leadN
    rw [if_pos hb, leadN_eq f k l (by omega) h2 (fun j hj => by have := h3 (j + 1) (by omega); simpa using this) (fun a b => by have := h4 (by omega) (by simpa using b); simpa using this)]
theorem lead_eq {l : List Nat} {k : Nat} (h1 : k ≤ 10) (h2 : k ≤ l.length) (h3 : ∀ j, j < k → 128 ≤ l.getD j 0) (h4 : k < 10 → k < l.length → l.getD k 0 < 128) : lead l = k :=
  leadN_eq 10 k l h1 h2 h3 h4
theorem leadN_spec : ∀ (f : Nat) (l : List Nat), leadN f l ≤ f ∧ leadN f l ≤ l.length ∧ (∀ j, j < leadN f l → 128 ≤ l.getD j 0) ∧ (leadN f l < f → leadN f l < l.length → l.getD (leadN f l) 0 < 128)
  | 0, l => by unfold leadN; simp
  | f + 1, [] => by unfold leadN; simp
  | f + 1, b :: l => by
    obtain ⟨h1, h2, h3, h4⟩ := leadN_spec f l
    unfold leadN
    by_cases hb : 128 ≤ b
    · rw [if_pos hb]
      refine ⟨by omega, by simpa using h2, ?_, ?_⟩
      · intro j hj
        cases j with
        | zero => simpa using hb
        | succ j => have := h3 j (by omega); simpa using this
      · intro a c
        have := h4 (by omega) (by simpa using c)
        simpa using this
    · rw [if_neg hb]
      refine ⟨by omega, by omega, fun j hj => by omega, fun _ _ => by simp; omega⟩
theorem lead_spec (l : List Nat) : lead l ≤ 10 ∧ lead l ≤ l.length ∧ (∀ j, j < lead l → 128 ≤ l.getD j 0) ∧ (lead l < 10 → lead l < l.length → l.getD (lead l) 0 < 128) := leadN_spec 10 l
/-- The number of bytes, the lowest first. -/
def vval : List Nat → Nat
  | [] => 0
  | b :: l => b % 128 + 128 * vval l
theorem vval_append : ∀ (l m : List Nat), vval (l ++ m) = vval l + 128 ^ l.length * vval m
  | [], m => by simp [vval]
  | b :: l, m => by
    rw [List.cons_append, vval, vval, vval_append l m, List.length_cons, Nat.pow_succ, Nat.mul_add, ← Nat.mul_assoc, Nat.mul_comm 128 (128 ^ l.length)]
    omega
theorem vval_lt : ∀ (l : List Nat), vval l < 128 ^ l.length
  | [] => by simp [vval]
  | b :: l => by
    have := vval_lt l
    rw [vval, List.length_cons, Nat.pow_succ]
    omega
theorem take_get {l : List Nat} {k : Nat} (h : k < l.length) : l.take (k + 1) = l.take k ++ [l.getD k 0] := by
  rw [List.take_succ_eq_append_getElem h, List.getD_eq_getElem?_getD, List.getElem?_eq_getElem h]
  rfl
theorem vval_step {l : List Nat} {k : Nat} (h : k < l.length) : vval (l.take (k + 1)) = vval (l.take k) + 128 ^ k * (l.getD k 0 % 128) := by
  rw [take_get h, vval_append, List.length_take, Nat.min_eq_left (by omega)]
  simp [vval]
theorem vval_take_lt (l : List Nat) (k : Nat) : vval (l.take k) < 128 ^ k := by
  have h := vval_lt (l.take k)
  have : (l.take k).length ≤ k := by rw [List.length_take]; omega
  exact Nat.lt_of_lt_of_le h (Nat.pow_le_pow_right (by omega) this)
/-- What bytes tell: the number, how many bytes it has, what is wrong. -/
def vget (l : List Nat) : Nat × Nat × Nat :=
  if lead l = 10 then (0, 0, 11)
  else if lead l = l.length then (0, 0, 10)
  else if (lead l = 9 ∧ 1 < l.getD 9 0) ∨ (0 < lead l ∧ l.getD (lead l) 0 = 0) then (0, 0, 11)
  else (vval (l.take (lead l + 1)), lead l + 1, 0)
theorem vget_long {l : List Nat} (h : lead l = 10) : vget l = (0, 0, 11) := by unfold vget; rw [if_pos h]
theorem vget_end {l : List Nat} (h : lead l = l.length) (h' : l.length < 10) : vget l = (0, 0, 10) := by unfold vget; rw [if_neg (by omega), if_pos h]
theorem vget_form {l : List Nat} (h : lead l < 10) (h' : lead l < l.length) (hb : (lead l = 9 ∧ 1 < l.getD 9 0) ∨ (0 < lead l ∧ l.getD (lead l) 0 = 0)) : vget l = (0, 0, 11) := by
  unfold vget; rw [if_neg (by omega), if_neg (by omega), if_pos hb]
theorem vget_ok {l : List Nat} (h : lead l < 10) (h' : lead l < l.length) (hb : ¬ ((lead l = 9 ∧ 1 < l.getD 9 0) ∨ (0 < lead l ∧ l.getD (lead l) 0 = 0))) : vget l = (vval (l.take (lead l + 1)), lead l + 1, 0) := by
  unfold vget; rw [if_neg (by omega), if_neg (by omega), if_neg hb]
theorem vval_lt64 {l : List Nat} {k : Nat} (h : k < 10) (hl : k < l.length) (h9 : k = 9 → l.getD 9 0 ≤ 1) : vval (l.take (k + 1)) < 18446744073709551616 := by
  by_cases hk : k = 9
  · subst hk
    have h1 := vval_step hl
    have h2 := vval_take_lt l 9
    have h3 := h9 rfl
    have h4 : 128 ^ 9 * (l.getD 9 0 % 128) ≤ 128 ^ 9 * 1 := Nat.mul_le_mul_left _ (by omega)
    omega
  · have h2 := vval_take_lt l (k + 1)
    have h3 : (128 : Nat) ^ (k + 1) ≤ 128 ^ 9 := Nat.pow_le_pow_right (by omega) (by omega)
    omega
theorem vget_cases (l : List Nat) :
    (vget l = (0, 0, 11) ∨ vget l = (0, 0, 10)) ∨
    (lead l < 10 ∧ lead l < l.length ∧ l.getD (lead l) 0 < 128 ∧ (∀ j, j < lead l → 128 ≤ l.getD j 0) ∧ (lead l = 9 → l.getD 9 0 ≤ 1) ∧ (0 < lead l → l.getD (lead l) 0 ≠ 0) ∧ vget l = (vval (l.take (lead l + 1)), lead l + 1, 0)) := by
  obtain ⟨h1, h2, h3, h4⟩ := lead_spec l
  unfold vget
  by_cases c1 : lead l = 10
  · rw [if_pos c1]; exact .inl (.inl rfl)
  rw [if_neg c1]
  by_cases c2 : lead l = l.length
  · rw [if_pos c2]; exact .inl (.inr rfl)
  rw [if_neg c2]
  by_cases c3 : (lead l = 9 ∧ 1 < l.getD 9 0) ∨ (0 < lead l ∧ l.getD (lead l) 0 = 0)
  · rw [if_pos c3]; exact .inl (.inl rfl)
  rw [if_neg c3]
  refine .inr ⟨by omega, by omega, h4 (by omega) (by omega), h3, fun h => ?_, fun h h0 => ?_, rfl⟩
  · exact Nat.le_of_not_lt fun hc => c3 (.inl ⟨h, hc⟩)
  · exact c3 (.inr ⟨h, h0⟩)
theorem vget_lt (l : List Nat) : (vget l).1 < 18446744073709551616 ∧ (vget l).2.1 ≤ 10 ∧ (vget l).2.1 ≤ l.length := by
  rcases vget_cases l with (h | h) | ⟨h1, h2, _, _, h5, _, h⟩
  · rw [h]; simp
  · rw [h]; simp
  · rw [h]; exact ⟨vval_lt64 h1 h2 h5, by show lead l + 1 ≤ 10; omega, by show lead l + 1 ≤ _; omega⟩
theorem vget_e (l : List Nat) : (vget l).2.2 = 0 ∨ ((vget l).2.2 = 10 ∨ (vget l).2.2 = 11) ∧ (vget l).1 = 0 ∧ (vget l).2.1 = 0 := by
  rcases vget_cases l with (h | h) | ⟨_, _, _, _, _, _, h⟩ <;> rw [h] <;> simp
/-- A number has one text alone. -/
theorem vput_vval : ∀ (k : Nat) (l : List Nat), k < l.length → (∀ j, j < k → 128 ≤ l.getD j 0) → l.getD k 0 < 128 → (0 < k → l.getD k 0 ≠ 0) → (∀ j, l.getD j 0 < 256) → vput (vval (l.take (k + 1))) = l.take (k + 1) ∧ (0 < k → 0 < vval (l.take (k + 1))) ∧ (l.getD k 0 ≠ 0 → 0 < vval (l.take (k + 1)))
  | 0, b :: l, _, _, h3, _, _ => by
    have hb : b < 128 := by simpa using h3
    have e : vval ((b :: l).take (0 + 1)) = b := by
      rw [show (b :: l).take (0 + 1) = [b] by rfl]
      unfold vval
      simp [vval]; omega
    rw [e, vput_small hb]
    refine ⟨rfl, by omega, fun h => by simp at h; omega⟩
  | k + 1, b :: l, h1, h2, h3, h4, h5 => by
    have hb : 128 ≤ b := by have := h2 0 (by omega); simpa using this
    have hb2 : b < 256 := by have := h5 0; simpa using this
    have hk : l.getD k 0 ≠ 0 := by have := h4 (by omega); simpa using this
    obtain ⟨i1, _, i3⟩ := vput_vval k l (by simpa using h1) (fun j hj => by have := h2 (j + 1) (by omega); simpa using this) (by simpa using h3) (fun _ => hk) (fun j => by have := h5 (j + 1); simpa using this)
    have hp := i3 hk
    have e : (b :: l).take (k + 1 + 1) = b :: l.take (k + 1) := rfl
    rw [e]
    unfold vval
    generalize vval (l.take (k + 1)) = x at *
    have e2 : ¬ b % 128 + 128 * x < 128 := by omega
    rw [vput_big e2, show (b % 128 + 128 * x) / 128 = x by omega, i1, show (b % 128 + 128 * x) % 128 + 128 = b by omega]
    exact ⟨rfl, by omega, by omega⟩
  | _, [], h, _, _, _, _ => by simp at h
theorem vget_put {l : List Nat} (hb : ∀ j, l.getD j 0 < 256) (h : (vget l).2.2 = 0) : 1 ≤ (vget l).2.1 ∧ (vget l).2.1 ≤ l.length ∧ vput (vget l).1 = l.take (vget l).2.1 := by
  rcases vget_cases l with (h' | h') | ⟨h1, h2, h3, h4, h5, h6, h'⟩
  · rw [h'] at h; simp at h
  · rw [h'] at h; simp at h
  · rw [h']
    exact ⟨by show 1 ≤ lead l + 1; omega, by show lead l + 1 ≤ _; omega, (vput_vval _ _ h2 h4 h3 h6 hb).1⟩
theorem vput_parts (u : Nat) : ∃ k, (vput u).length = k + 1 ∧ (∀ j, j < k → 128 ≤ (vput u).getD j 0) ∧ (vput u).getD k 0 < 128 ∧ (0 < k → (vput u).getD k 0 ≠ 0) ∧ vval (vput u) = u ∧ (u ≠ 0 → (vput u).getD k 0 ≠ 0) := by
  induction u using vput.induct with
  | case1 u h =>
    rw [vput_small h]
    exact ⟨0, rfl, fun j hj => by omega, by simpa using h, by omega, by simp [vval]; omega, by simp⟩
  | case2 u h ih =>
    obtain ⟨k, i1, i2, i3, i4, i5, i6⟩ := ih
    rw [vput_big h]
    refine ⟨k + 1, by simp [i1], ?_, by simpa using i3, fun _ => ?_, ?_, fun _ => ?_⟩
    · intro j hj
      cases j with
      | zero => simp
      | succ j => have := i2 j (by omega); simpa using this
    · have := i6 (by omega)
      simpa using this
    · unfold vval; rw [i5]; omega
    · have := i6 (by omega)
      simpa using this
theorem getD_app {l m : List Nat} {j : Nat} (h : j < l.length) : (l ++ m).getD j 0 = l.getD j 0 := by
  rw [List.getD_eq_getElem?_getD, List.getD_eq_getElem?_getD, List.getElem?_append_left h]
/-- What is put is read as it was. -/
theorem vget_vput (u : Nat) (more : List Nat) (hu : u < 18446744073709551616) : vget (vput u ++ more) = (u, (vput u).length, 0) := by
  obtain ⟨k, i1, i2, i3, i4, i5, _⟩ := vput_parts u
  have hl := vput_len10 hu
  have e : lead (vput u ++ more) = k := lead_eq (by omega) (by simp; omega) (fun j hj => by rw [getD_app (by omega)]; exact i2 j hj) (fun _ _ => by rw [getD_app (by omega)]; exact i3)
  have et : (vput u ++ more).take (k + 1) = vput u := by rw [← i1, List.take_left]
  rw [vget_ok (by omega) (by rw [e]; simp; omega), e, et, i5, i1]
  rw [e]
  rintro (⟨h9, hb⟩ | ⟨hk, hb⟩)
  · rw [getD_app (by omega)] at hb
    have h1 := vval_step (l := vput u) (k := 9) (by omega)
    have h2 : (vput u).take (9 + 1) = vput u := List.take_of_length_le (by omega)
    rw [h2, i5] at h1
    have h4 : (vput u).getD 9 0 < 128 := by rw [← h9]; exact i3
    have h3 : 128 ^ 9 * 2 ≤ 128 ^ 9 * ((vput u).getD 9 0 % 128) := Nat.mul_le_mul_left _ (by omega)
    omega
  · rw [getD_app (by omega)] at hb
    exact i4 hk hb
/-- Fewer bytes than were put are not whole. -/
theorem vget_cut (u m : Nat) (hm : m < (vput u).length) (hu : u < 18446744073709551616) : vget ((vput u).take m) = (0, 0, 10) := by
  obtain ⟨k, i1, i2, _⟩ := vput_parts u
  have hl := vput_len10 hu
  have e : ((vput u).take m).length = m := by rw [List.length_take]; omega
  refine vget_end (lead_eq (by omega) (Nat.le_refl _) (fun j hj => ?_) (fun _ h => by omega)) (by omega)
  rw [List.getD_eq_getElem?_getD, List.getElem?_take_of_lt (by omega), ← List.getD_eq_getElem?_getD]
  exact i2 j (by omega)
end Go.Proofs.YtopbbicjbjmdnaaGreatDoor.V
namespace Go.Proofs.YtopbbicjbjmdnaaGreatDoor.V
open Go.RowKit
set_option linter.unusedVariables false
set_option linter.unusedSimpArgs false
/-- The variable of package errors, as its text lays it. -/
def HErr (w : World) : Prop := w.cell? ⟨0, 0, none⟩ = some (.iface 131 (.agg #[.pointer (some ⟨2, 69, none⟩)]))
theorem HErr.keeps {S : Nat → Prop} {w w' : World} (h : HErr w) (hk : Keeps S w w') (hS : ¬ S 0) : HErr w' := by
  unfold HErr at h ⊢
  rw [← h]
  exact World.cell?_of_block (w := w) (a := ⟨0, 0, none⟩) (hk.block _ (World.block_lt_of_cell? w _ h) hS)
theorem HErr.below {w w' : World} (h : HErr w) (hb : Below w.heap.size w w') : HErr w' := h.keeps (S := fun _ => False) (Keeps.of_below hb) (fun h => h)
theorem HErr.lt {w : World} (h : HErr w) : 0 < w.heap.size := World.block_lt_of_cell? w _ h
set_option maxHeartbeats 1000000 in
theorem number_nil (w : World) : Calls Tryz.prog 65 #[.nilIface] w fun e w' => e = .returned (.int .i64 0) ∧ Below w.heap.size w w' := by
  have o := (Own.own1 w rfl 160 #[.int .i64 0, .int .i64 0]).bel
  have HO := Lib.hid o
  clear o
  go_enter Tryz.func65, Tryz.ntmps65
  go_wp2_with fail
  refine (er_nil _ _).mono ?_
  rintro e w' ⟨rfl, rfl⟩
  go_wp2_with fail
  refine (as_nil _ _).mono ?_
  rintro e w' ⟨rfl, rfl⟩
  go_wp2_with fail
  go_ret
  exact ⟨rfl, HO.out⟩
set_option maxHeartbeats 1000000 in
theorem number_fault (i k : Int) (w : World) (hv : HErr w) : Calls Tryz.prog 65 #[.iface 160 (.agg #[.int .i64 i, .int .i64 k])] w fun e w' => e = .returned (.int .i64 k) ∧ Below w.heap.size w w' := by
  obtain ⟨x, hx⟩ : ∃ x, x = w.heap.size := ⟨_, rfl⟩
  have o := Own.own1 w hx 160 #[.int .i64 0, .int .i64 0]
  have hv2 := hv.below o.bel
  have hlt := hv.lt
  have HO := Lib.hid (And.intro hx (And.intro o (And.intro hv2 hlt)))
  clear hx o hv hv2 hlt
  go_enter Tryz.func65, Tryz.ntmps65
  go_wp2_with fail
  rw [← HO.out.1]
  refine (er_fault i k _).mono ?_
  rintro e w1 ⟨rfl, hb⟩
  have o := HO.out.2.1.call hb
  by_cases hk : k = 10
  · subst hk
    have HP := Lib.hid o
    clear o hb
    go_wp2_with fail
    go_ret
    exact ⟨rfl, HP.out.bel⟩
  · have d0 : (k == 10) = false := by simp [hk]
    rw [d0]
    have hv3 := HO.out.2.2.1.below hb
    have HP := Lib.hid (And.intro o hv3)
    clear d0 hk hv3 o hb
    go_wp2_with fail
    refine (as_fault x i k (.int .i64 0) (.int .i64 0) _ HP.out.2 (HP.out.1.get 0 rfl)).mono ?_
    rintro e w2 ⟨rfl, hk2, hblk⟩
    have c1 := hblk.cell 1
    have HQ := Lib.hid hk2
    clear hk2 hblk
    go_wp2_with fail
    go_ret
    refine ⟨rfl, ?_⟩
    have h1 : Keeps (fun q => q = x) w w2 := (HP.out.1.keeps.mono (fun _ _ h => h.elim)).trans' HQ.out
    exact h1.below (Nat.le_refl _) (fun q hq e => by have := HO.out.1; omega)
end Go.Proofs.YtopbbicjbjmdnaaGreatDoor.V
namespace Go.Proofs.YtopbbicjbjmdnaaGreatDoor.V
open Go.RowKit
set_option linter.unusedVariables false
set_option linter.unusedSimpArgs false
def ScanPost (l : List Nat) (w : World) (e : Ending) (w' : World) : Prop :=
  ∃ er : Value, e = .returned (.tuple #[.int .u64 ((vget l).1 : Nat), .int .i64 ((vget l).2.1 : Nat), er]) ∧ (((vget l).2.2 = 0 ∧ er = .nilIface) ∨ ∃ i : Int, er = .iface 160 (.agg #[.int .i64 i, .int .i64 ((vget l).2.2 : Nat)])) ∧ w = w'
theorem acc_eq (x v k : Nat) (hx : x < 128 ^ k) (hk : k ≤ 9) (hv : v < 256) :
    ∃ y : Nat, bits .or .u64 (x : Int) (IntKind.u64.wrap (IntKind.u64.wrap (bits .and .u8 (v : Int) 127) * 2 ^ (7 * k))) = (y : Int) ∧ y < 18446744073709551616 ∧ (k ≤ 8 ∨ v ≤ 1 → y = x + 128 ^ k * (v % 128)) := by
  have e1 : bits .and .u8 (v : Int) 127 = ((v % 128 : Nat) : Int) := by
    rw [show (127 : Int) = ((127 : Nat) : Int) from rfl, u8_and_nat _ _ hv (by omega), show v &&& 127 = v % 128 from Nat.and_two_pow_sub_one_eq_mod v 7]
  have p9 : (128 : Nat) ^ k ≤ 128 ^ 9 := Nat.pow_le_pow_right (by omega) hk
  have ep : (2 : Nat) ^ (7 * k) = 128 ^ k := by rw [Nat.pow_mul]
  have e2 : (IntKind.u64.wrap ((v % 128 : Nat) : Int)) * 2 ^ (7 * k) = ((128 ^ k * (v % 128) : Nat) : Int) := by
    rw [show IntKind.u64.wrap ((v % 128 : Nat) : Int) = ((v % 128 : Nat) : Int) by rw [IntKind.wrap_u64]; omega, ← ep, Nat.mul_comm (2 ^ (7 * k))]
    simp
  have e3 : IntKind.u64.wrap (((128 ^ k * (v % 128) : Nat) : Int)) = ((128 ^ k * (v % 128) % 18446744073709551616 : Nat) : Int) := by
    rw [IntKind.wrap_u64]; rfl
  rw [e1, e2, e3, u64_or_nat _ _ (by omega) (Nat.mod_lt _ (by omega))]
  refine ⟨_, rfl, ?_, ?_⟩
  · exact Nat.or_lt_two_pow (n := 64) (by omega) (Nat.mod_lt _ (by omega))
  · intro h
    have hlt : 128 ^ k * (v % 128) < 18446744073709551616 := by
      rcases h with h | h
      · have p8 : (128 : Nat) ^ k ≤ 128 ^ 8 := Nat.pow_le_pow_right (by omega) h
        have : 128 ^ k * (v % 128) ≤ 128 ^ 8 * 127 := Nat.mul_le_mul p8 (by omega)
        omega
      · have : 128 ^ k * (v % 128) ≤ 128 ^ 9 * 1 := Nat.mul_le_mul p9 (by omega)
        omega
    rw [Nat.mod_eq_of_lt hlt, Nat.or_comm, Nat.mul_comm, ← ep, ← Nat.shiftLeft_eq, ← Nat.shiftLeft_add_eq_or_of_lt (by rw [ep]; exact hx)]
    omega
set_option maxRecDepth 100000 in
set_option maxHeartbeats 4000000 in
theorem scan_any (w : World) (D : Nat → Prop) (A : Option Addr) (len c : Nat) (l : List Nat) (hl : l.length = len) (hb : ∀ j, l.getD j 0 < 256) (hsl : Sl w D A len (byteC l)) (hm : len ≤ 9223372036854775807) :
    Calls Tryz.prog 64 #[.slice A len c] w (ScanPost l w) := by
  have HS := Lib.hid (And.intro hl (And.intro hb hsl))
  clear hl hb hsl
  go_enter Tryz.func64, Tryz.ntmps64
  go_wp2_with fail
  go_loop [2, 9] (fun s2 s9 => ∃ k x : Nat, k ≤ len ∧ k ≤ 10 ∧ s9 = .int .i64 (k : Nat) ∧ s2 = .int .u64 (x : Nat) ∧ (k ≤ 9 → x = vval (l.take k)) ∧ ∀ j, j < k → 128 ≤ l.getD j 0) (fun _ s9 => len - (intOf s9).toNat)
  case atStart => exact ⟨0, 0, by omega, by omega, rfl, rfl, fun _ => by simp [vval], fun j hj => by omega⟩
  case round =>
    obtain ⟨k, x, hk, hk10, rfl, rfl, hx, hj⟩ := hrel
    have HJ := Lib.hid hj
    have HX := Lib.hid hx
    clear hj hx
    by_cases hlt : k < len
    · obtain ⟨b, off, rfl, -, hc⟩ := HS.out.2.2 (by omega)
      have ck := hc k hlt
      unfold byteC at ck
      have hc256 := HS.out.2.1 k
      obtain ⟨v, hv⟩ : ∃ v, v = l.getD k 0 := ⟨_, rfl⟩
      rw [← hv] at ck hc256
      have HV := Lib.hid hv
      clear hv hc
      by_cases h10 : k = 10
      · subst h10
        have HG := Lib.hid (vget_long (lead_eq (l := l) (k := 10) (by omega) (by have := HS.out.1; omega) HJ.out (fun h => by omega)))
        go_wp2_with fail
        go_ret3
        exact ⟨_, by rw [HG.out]; rfl, .inr ⟨10, by rw [HG.out]; rfl⟩, rfl⟩
      · have hk9 : k ≤ 9 := by omega
        have hxl : x < 128 ^ k := by rw [HX.out hk9]; exact vval_take_lt l k
        obtain ⟨y, ey, hy, hy2⟩ := acc_eq x v k hxl hk9 hc256
        have hy3 : k ≤ 8 ∨ v ≤ 1 → y = vval (l.take (k + 1)) := fun h => by
          rw [hy2 h, vval_step (by have := HS.out.1; omega), HX.out hk9, HV.out]
        have HY := Lib.hid hy3
        have d10 : ((k : Int) == 10) = false := by simp; omega
        clear hxl hy2 hy3 h10
        by_cases hbig : 128 ≤ v
        · go_wp2_with fail
          go_round
          case rel => exact ⟨k + 1, y, by omega, by omega, by go_num, rfl, fun h => HY.out (.inl (by omega)), fun j hj => by
            rcases Nat.lt_or_ge j k with h | h
            · exact HJ.out j h
            · rw [show j = k by omega, ← HV.out]; exact hbig⟩
          case measure => simp [intOf]; omega
        · have hlead : lead l = k := lead_eq (by omega) (by have := HS.out.1; omega) HJ.out (fun _ _ => by rw [← HV.out]; omega)
          have hkl : k < l.length := by have := HS.out.1; omega
          have dbig : decide ((128 : Int) ≤ (v : Int)) = false := by simp; omega
          by_cases hform : (k = 9 ∧ 1 < v) ∨ (0 < k ∧ v = 0)
          · have HG := Lib.hid (vget_form (l := l) (by omega) (by omega) (by
              rw [hlead, ← HV.out]
              rcases hform with ⟨h1, h2⟩ | h
              · refine .inl ⟨h1, ?_⟩
                rw [← h1, ← HV.out]; exact h2
              · exact .inr h))
            clear hlead hkl
            rcases hform with ⟨rfl, h2⟩ | ⟨h1, rfl⟩
            · have d1 : decide ((1 : Int) < (v : Int)) = true := by simp; omega
              go_wp2_with fail
              go_ret3
              exact ⟨_, by rw [HG.out]; rfl, .inr ⟨_, by rw [HG.out]; rfl⟩, rfl⟩
            · have d1 : decide ((0 : Int) < (k : Int)) = true := by simp; omega
              by_cases hk9 : k = 9
              · subst hk9
                go_wp2_with fail
                go_ret3
                exact ⟨_, by rw [HG.out]; rfl, .inr ⟨_, by rw [HG.out]; rfl⟩, rfl⟩
              · have d9 : ((k : Int) == 9) = false := by simp; omega
                go_wp2_with fail
                go_ret3
                exact ⟨_, by rw [HG.out]; rfl, .inr ⟨_, by rw [HG.out]; rfl⟩, rfl⟩
          · have hG := vget_ok (l := l) (by omega) (by omega) (by
              rw [hlead, ← HV.out]
              rintro (⟨h1, h2⟩ | h)
              · exact hform (.inl ⟨h1, by rw [← h1, ← HV.out] at h2; exact h2⟩)
              · exact hform (.inr h))
            rw [hlead, ← HY.out (by omega)] at hG
            have HG := Lib.hid hG
            clear hlead hkl hG
            have hfin : ScanPost l w (.returned (.tuple #[.int .u64 (y : Nat), .int .i64 ((k : Int) + 1), .nilIface])) w := ⟨_, by rw [HG.out]; rfl, .inl ⟨by rw [HG.out], rfl⟩, rfl⟩
            have HFN := Lib.hid hfin
            clear hfin
            have hcase : (k = 9 ∧ ¬ 1 < v ∧ ¬ v = 0) ∨ (¬ k = 9 ∧ k = 0 ∧ v = 0) ∨ (¬ k = 9 ∧ ¬ v = 0) := by omega
            rcases hcase with ⟨h1, h2, h3⟩ | ⟨h1, h2, h3⟩ | ⟨h1, h3⟩
            · have d1 : decide ((1 : Int) < (v : Int)) = false := by simp; omega
              have d9 : ((k : Int) == 9) = true := by simp; omega
              have hv0 : ((v : Int) == 0) = false := by simp; omega
              clear h1 h2 h3 hform
              go_wp2_with fail
              go_ret3
              exact HFN.out
            · have d9 : ((k : Int) == 9) = false := by simp; omega
              have d0 : ((v : Int) == 0) = true := by simp; omega
              have dk : ¬ 0 < k := by omega
              have dk2 : decide (0 < k) = false := by simp; omega
              clear h1 h2 h3 hform
              go_wp2_with fail
              go_ret3
              exact HFN.out
            · have d9 : ((k : Int) == 9) = false := by simp; omega
              have d0 : ((v : Int) == 0) = false := by simp; omega
              clear h1 h3 hform
              go_wp2_with fail
              go_ret3
              exact HFN.out
    · obtain rfl : k = len := by omega
      have hlead : lead l = k := lead_eq (by omega) (by have := HS.out.1; omega) HJ.out (fun _ h => by have := HS.out.1; omega)
      by_cases h10 : k = 10
      · subst h10
        have HG := Lib.hid (vget_long hlead)
        clear hlead
        go_wp2_with fail
        go_ret3
        exact ⟨_, by rw [HG.out]; rfl, .inr ⟨10, by rw [HG.out]; rfl⟩, rfl⟩
      · have HG := Lib.hid (vget_end (l := l) (by rw [hlead, HS.out.1]) (by have := HS.out.1; omega))
        have d10 : decide ((10 : Int) ≤ (k : Int)) = false := by simp; omega
        clear hlead h10
        go_wp2_with fail
        go_ret3
        exact ⟨_, by rw [HG.out]; rfl, .inr ⟨_, by rw [HG.out]; rfl⟩, rfl⟩
def VReadPost (l : List Nat) (w : World) (e : Ending) (w' : World) : Prop :=
  e = .returned (.tuple #[.int .u64 ((vget l).1 : Nat), .int .i64 ((vget l).2.1 : Nat), .int .i64 ((vget l).2.2 : Nat)]) ∧ Below w.heap.size w w'
set_option maxRecDepth 100000 in
set_option maxHeartbeats 1000000 in
theorem vread_any (w : World) (D : Nat → Prop) (A : Option Addr) (len c : Nat) (l : List Nat) (hl : l.length = len) (hb : ∀ j, l.getD j 0 < 256) (hsl : Sl w D A len (byteC l)) (hm : len ≤ 9223372036854775807) (hv : HErr w) :
    Calls Tryz.prog 44 #[.slice A len c] w (VReadPost l w) := by
  have HS := Lib.hid (And.intro hl (And.intro hb (And.intro hsl (And.intro hm hv))))
  clear hl hb hsl hm hv
  go_enter Tryz.func44, Tryz.ntmps44
  go_wp2_with fail
  refine (scan_any w D A len c l HS.out.1 HS.out.2.1 HS.out.2.2.1 HS.out.2.2.2.1).mono ?_
  rintro e w1 ⟨er, rfl, her, rfl⟩
  obtain ⟨u, hu⟩ : ∃ u, u = (vget l).1 := ⟨_, rfl⟩
  obtain ⟨n, hn⟩ : ∃ n, n = (vget l).2.1 := ⟨_, rfl⟩
  obtain ⟨k, hk⟩ : ∃ k, k = (vget l).2.2 := ⟨_, rfl⟩
  rw [← hk] at her
  rw [← hu, ← hn]
  have HU := Lib.hid (And.intro hu (And.intro hn hk))
  clear hu hn hk
  rcases her with ⟨h0, rfl⟩ | ⟨i, rfl⟩
  · have H0 := Lib.hid h0
    clear h0
    go_wp2_with fail
    refine (number_nil _).mono ?_
    rintro e w2 ⟨rfl, hb⟩
    have HB := Lib.hid hb
    clear hb
    go_wp2_with fail
    go_ret3
    exact ⟨by rw [← HU.out.1, ← HU.out.2.1, ← HU.out.2.2, H0.out]; rfl, HB.out⟩
  · go_wp2_with fail
    refine (number_fault i k _ HS.out.2.2.2.2).mono ?_
    rintro e w2 ⟨rfl, hb⟩
    have HB := Lib.hid hb
    clear hb
    go_wp2_with fail
    go_ret3
    exact ⟨by rw [← HU.out.1, ← HU.out.2.1, ← HU.out.2.2]; rfl, HB.out⟩
end Go.Proofs.YtopbbicjbjmdnaaGreatDoor.V
namespace Go.Proofs.YtopbbicjbjmdnaaGreatDoor
open Go.RowKit
/-- 0, -1, 1, -2, .. as 0, 1, 2, 3, .. -/
def zig (n : Int) : Nat := if 0 ≤ n then (2 * n).toNat else (-2 * n - 1).toNat
theorem zig_lt {n : Int} (h0 : -9223372036854775808 ≤ n) (h1 : n ≤ 9223372036854775807) : zig n < 18446744073709551616 := by unfold zig; split <;> omega
theorem ret_u64 {a b : Int} (h : a = b) : Ending.returned (.int .u64 a) = .returned (.int .u64 b) := by rw [h]
theorem zig_pos (n : Int) (h0 : 0 ≤ n) (h1 : n ≤ 9223372036854775807) : bits .xor .u64 (IntKind.u64.wrap (IntKind.u64.wrap n * 2)) (IntKind.u64.wrap 0) = (zig n : Int) := by
  rw [IntKind.wrap_u64, IntKind.wrap_u64, IntKind.wrap_u64, show n % 18446744073709551616 * 2 % 18446744073709551616 = (((2 * n).toNat : Nat) : Int) from by omega, show (0 : Int) % 18446744073709551616 = ((0 : Nat) : Int) from by omega, u64_xor_nat _ _ (by omega) (by omega), Nat.xor_zero]
  unfold zig; rw [if_pos h0]
theorem zig_neg (n : Int) (h0 : n < 0) (h1 : -9223372036854775808 ≤ n) : bits .xor .u64 (IntKind.u64.wrap (IntKind.u64.wrap n * 2)) (IntKind.u64.wrap (-1)) = (zig n : Int) := by
  rw [IntKind.wrap_u64, IntKind.wrap_u64, IntKind.wrap_u64, show n % 18446744073709551616 * 2 % 18446744073709551616 = (((18446744073709551616 + 2 * n).toNat : Nat) : Int) from by omega, show (-1 : Int) % 18446744073709551616 = ((18446744073709551615 : Nat) : Int) from by omega, u64_xor_nat _ _ (by omega) (by omega), Nat.xor_comm]
  have := Lib.xor_ones64 (18446744073709551616 + 2 * n).toNat (by omega)
  rw [show (18446744073709551615 : Nat) = 2 ^ 64 - 1 from rfl, this]
  unfold zig; rw [if_neg (by omega)]
  omega
theorem zig_xor {n X Y : Int} (h0 : -9223372036854775808 ≤ n) (h1 : n ≤ 9223372036854775807) (hX : X = (n * 2) % 18446744073709551616) (hY : Y = if 0 ≤ n then 0 else 18446744073709551615) : bits .xor .u64 X Y = (zig n : Int) := by
  by_cases hn : 0 ≤ n
  · rw [if_pos hn] at hY
    rw [← zig_pos n hn h1, IntKind.wrap_u64, IntKind.wrap_u64, IntKind.wrap_u64, hX, hY]
    congr 1
    omega
  · rw [if_neg hn] at hY
    rw [← zig_neg n (by omega) h0, IntKind.wrap_u64, IntKind.wrap_u64, IntKind.wrap_u64, hX, hY]
    congr 1
    omega
set_option maxRecDepth 100000 in
set_option maxHeartbeats 400000 in
theorem zig_any (n : Int) (w : World) (h0 : -9223372036854775808 ≤ n) (h1 : n ≤ 9223372036854775807) :
    Calls Tryz.prog 39 #[.int .i64 n] w fun e w' => e = .returned (.int .u64 (zig n : Nat)) ∧ w = w' := by
  by_cases hn : 0 ≤ n
  · have e2 : n / 9223372036854775808 = 0 := by omega
    go_enter Tryz.func39, Tryz.ntmps39
    go_wp2
    go_ret
    refine ⟨ret_u64 (zig_xor h0 h1 ?_ ?_), rfl⟩
    · try simp only [IntKind.wrap_u64]
      omega
    · rw [if_pos hn]; try simp only [IntKind.wrap_u64]
      try omega
  · have e2 : n / 9223372036854775808 = -1 := by omega
    go_enter Tryz.func39, Tryz.ntmps39
    go_wp2
    go_ret
    refine ⟨ret_u64 (zig_xor h0 h1 ?_ ?_), rfl⟩
    · try simp only [IntKind.wrap_u64]
      omega
    · rw [if_neg (by omega)]; try simp only [IntKind.wrap_u64]
      try omega
end Go.Proofs.YtopbbicjbjmdnaaGreatDoor
namespace Go.Proofs.YtopbbicjbjmdnaaGreatDoor
open Go.RowKit
set_option linter.unusedVariables false
set_option linter.unusedSimpArgs false
/-- 0, 1, 2, 3, .. as 0, -1, 1, -2, .. -/
def zag (z : Nat) : Int := if z % 2 = 0 then (z / 2 : Nat) else -((z / 2 : Nat) : Int) - 1
theorem zag_range {z : Nat} (h : z < 18446744073709551616) : -9223372036854775808 ≤ zag z ∧ zag z ≤ 9223372036854775807 := by unfold zag; split <;> omega
theorem zag_zig (n : Int) : zag (zig n) = n := by unfold zag zig; split <;> split <;> omega
theorem zig_zag (z : Nat) : zig (zag z) = z := by unfold zag zig; split <;> split <;> omega
theorem ret_intz {k : IntKind} {a b : Int} (h : a = b) : Ending.returned (.int k a) = .returned (.int k b) := by rw [h]
theorem xor_i64_zero (x : Nat) (hx : x < 9223372036854775808) : bits .xor .i64 (x : Int) 0 = (x : Int) := by
  show IntKind.i64.wrap ((BitVec.ofInt 64 (x : Int) ^^^ BitVec.ofInt 64 0).toNat : Int) = _
  have h2 : (BitVec.ofInt 64 (x : Int)).toNat = x := by
    rw [BitVec.ofInt_natCast, BitVec.toNat_ofNat]; exact Nat.mod_eq_of_lt (by omega)
  have h1 : (BitVec.ofInt 64 0).toNat = 0 := by decide
  rw [BitVec.toNat_xor, h1, h2, Nat.xor_zero, IntKind.wrap_i64]
  omega
theorem xor_i64_ones (x : Nat) (hx : x < 9223372036854775808) : bits .xor .i64 (x : Int) (-1) = -(x : Int) - 1 := by
  rw [← Lib.i64_not x hx]
  show IntKind.i64.wrap ((BitVec.ofInt 64 (x : Int) ^^^ BitVec.ofInt 64 (-1)).toNat : Int) = IntKind.i64.wrap ((BitVec.ofInt 64 (-1) ^^^ BitVec.ofInt 64 (x : Int)).toNat : Int)
  rw [BitVec.xor_comm]
set_option maxRecDepth 100000 in
set_option maxHeartbeats 400000 in
theorem zag_any (z : Nat) (w : World) (hz : z < 18446744073709551616) :
    Calls Tryz.prog 82 #[.int .u64 (z : Nat)] w fun e w' => e = .returned (.int .i64 (zag z)) ∧ w = w' := by
  have e1 : bits .and .u64 (z : Int) 1 = ((z % 2 : Nat) : Int) := by rw [Lib.u64_and1 _ (by omega) (by omega)]; omega
  have e2 : wrap64 ((z : Int) / 2) = ((z / 2 : Nat) : Int) := by rw [show (z : Int) / 2 = ((z / 2 : Nat) : Int) by omega]; exact IntWalk.wrap64_in _ (by omega)
  have e2' : IntKind.i64.wrap ((z : Int) / 2) = ((z / 2 : Nat) : Int) := by rw [show (z : Int) / 2 = ((z / 2 : Nat) : Int) by omega]; exact IntWalk.i64_in _ (by omega)
  have HZ := Lib.hid hz
  clear hz
  rcases (show z % 2 = 0 ∨ z % 2 = 1 by omega) with h | h
  · have e3 : ((z % 2 : Nat) : Int) = 0 := by omega
    have e4 := xor_i64_zero (z / 2) (by have := HZ.out; omega)
    have HH := Lib.hid h
    rw [e3] at e1
    clear h e3
    go_enter Tryz.func82, Tryz.ntmps82
    go_wp2_with fail
    go_ret
    refine ⟨ret_intz ?_, rfl⟩
    unfold zag
    rw [if_pos HH.out]
    first
    | exact e4
    | (rw [e2]; exact e4)
    | (rw [e2']; exact e4)
    | skip
  · have e3 : ((z % 2 : Nat) : Int) = 1 := by omega
    have e4 := xor_i64_ones (z / 2) (by have := HZ.out; omega)
    have HH := Lib.hid h
    rw [e3] at e1
    clear h e3
    go_enter Tryz.func82, Tryz.ntmps82
    go_wp2_with fail
    go_ret
    refine ⟨ret_intz ?_, rfl⟩
    unfold zag
    rw [if_neg (by have := HH.out; omega)]
    first
    | exact e4
    | (rw [e2]; exact e4)
    | (rw [e2']; exact e4)
    | skip
end Go.Proofs.YtopbbicjbjmdnaaGreatDoor
namespace Go.Proofs.YtopbbicjbjmdnaaGreatDoor
open Go.RowKit
/-- A slice of n elements xs that may be appended to: a row of the call's own, or one without spare room. -/
def Tl (w : World) (e : TypeId) (base : Nat) (v : Value) (n : Nat) (xs : List Value) : Prop :=
  w.ownsRow base e 1 v n xs ∨ ∃ A, v = .slice A n n ∧ xs.length = n ∧ (0 < n → ∃ b off, A = some ⟨b, off, none⟩ ∧ b < base ∧ ∀ j u, xs[j]? = some u → w.cell? ⟨b, off + j, none⟩ = some u)
theorem Tl.alloc {w : World} {e : TypeId} {base n : Nat} {v : Value} {xs : List Value} (h : Tl w e base v n xs) (hb : base ≤ w.heap.size) (o : Obj) : Tl (w.alloc o) e base v n xs := by
  rcases h with h | ⟨A, rfl, hl, hA⟩
  · exact .inl (h.alloc o)
  · refine .inr ⟨A, rfl, hl, fun hn => ?_⟩
    obtain ⟨b, off, rfl, hlt, hc⟩ := hA hn
    exact ⟨b, off, rfl, hlt, fun j u hu => (World.cell?_alloc_lt w o _ (by show b < _; omega)).trans (hc j u hu)⟩
section
variable {P : Program} {w : World} {t e : TypeId} {z : Value} {bytes base n m c : Nat} {v : Value} {xs : List Value} {f : Nat → Value} {b off : Nat}
theorem wpList_append_tl {ops : Array Oper} {rest : List Oper} {o : Oper} {a : Act} {Q : Exit → Act → World → Prop} (he : Elem1 P t e z bytes) (hgd : o.guard = none) (s x : Operand)
    (ho : o.op = .call { callee := .builtin .append, args := #[s, x], argTypes := #[t, t] }) (hs : a.eval s = v) (hx : a.eval x = .slice (some ⟨b, off, none⟩) m c)
    (h : Tl w e base v n xs) (hm : 0 < m) (hc : ∀ j, j < m → w.cell? ⟨b, off + j, none⟩ = some (f j)) (h1 : ∀ j, j < m → (f j).oneCell' = true)
    (h63 : n + m ≤ maxLen) (hbytes : (n + m) * bytes ≤ 140737488355328) (hbase : base ≤ w.heap.size)
    (k : ∀ v' w', w'.ownsRow base e 1 v' (n + m) (xs ++ (List.range m).map f) → Below base w w' → wpList P ops Q rest (a.put o.dst v') w') : wpList P ops Q (o :: rest) a w := by
  rcases h with h | ⟨A, rfl, hl, hA⟩
  · refine wpList_append_sl (D := fun _ => True) (A := some ⟨b, off, none⟩) (f := f) he hgd s x ho hs hx h (fun _ => ⟨b, off, rfl, trivial, hc⟩) h1 h63 hbytes hbase ?_
    intro v' w' hown hg _
    exact k v' w' hown ((Below.refl base w).grown hg hbase (fun q hq => (h.lt q hq).1))
  · obtain ⟨ht, hz1, i, hi, hz, hs1, hb1⟩ := he
    refine wpList_append_grows w hgd s x t ho e i z 1 bytes ht hi hz hs1 hb1 hz1 (by omega) A n n xs hs ?_ (by omega) ?_ ⟨b, off, none⟩ m c ((List.range m).map f) hx (by simp) ?_ ?_ (by omega) h63 hbytes ?_
    · intro hA0
      rcases Nat.eq_zero_or_pos n with h0 | h0
      · exact ⟨h0, h0⟩
      · obtain ⟨b', off', e', _⟩ := hA h0
        rw [hA0] at e'; cases e'
    · intro b' e' j u hu
      have hj : j < xs.length := (List.getElem?_eq_some_iff.1 hu).1
      obtain ⟨b2, off2, e2, _, hc2⟩ := hA (by omega)
      rw [e'] at e2
      injection e2 with e2
      subst e2
      have hadd : (⟨b2, off2, none⟩ : Addr).add j = ⟨b2, off2 + j, none⟩ := by unfold Addr.add; split <;> simp_all
      rw [hadd]
      exact hc2 j u hu
    · intro j u hu
      rw [List.getElem?_map] at hu
      rcases Nat.lt_or_ge j m with hj | hj
      · rw [List.getElem?_range hj] at hu
        simp at hu
        subst hu
        have hadd : (⟨b, off, none⟩ : Addr).add j = ⟨b, off + j, none⟩ := by unfold Addr.add; split <;> simp_all
        rw [hadd]
        exact hc j hj
      · rw [List.getElem?_eq_none (by simpa using hj)] at hu
        cases hu
    · intro u hu
      rw [List.mem_map] at hu
      obtain ⟨j, hj, rfl⟩ := hu
      exact h1 j (by simpa using hj)
    · intro v' w' hown hg
      exact k v' w' (own_base hown hbase) ((Below.refl base w).grown hg hbase (fun q hq => by cases hq))
end
theorem cell_one (w : World) (t : TypeId) (u : Value) : ∀ j, j < 1 → (w.alloc (.cells #[u] t)).cell? ⟨w.heap.size, 0 + j, none⟩ = some u := by
  intro j hj
  obtain rfl : j = 0 := by omega
  rw [(Blk.fresh w t #[u]).cell (0 + 0)]
  rfl
end Go.Proofs.YtopbbicjbjmdnaaGreatDoor
namespace Go.Proofs.YtopbbicjbjmdnaaGreatDoor.V
open Go.RowKit
def byteV (b : Nat) : Value := .int .u8 (b : Int)
theorem byteElem : Elem1 Tryz.prog 25 5 (.int .u8 0) 1 := Elem1.mk' Tryz.underlying25 rfl (by kernel_rfl)
def VPutPost (w : World) (bs : List Nat) (e : Ending) (w' : World) : Prop :=
  ∃ v, e = .returned v ∧ w'.ownsRow w.heap.size 5 1 v bs.length (bs.map byteV) ∧ Below w.heap.size w w'
theorem tl_of_sl {w : World} {A : Option Addr} {bs : List Nat} {len : Nat} (hl : bs.length = len) (h : Sl w (fun k => k < w.heap.size) A len (byteC bs)) : Tl w 5 w.heap.size (.slice A len len) len (bs.map byteV) := by
  refine .inr ⟨A, rfl, by simpa using hl, fun hn => ?_⟩
  obtain ⟨b, off, rfl, hb, hc⟩ := h hn
  refine ⟨b, off, rfl, hb, fun j u hu => ?_⟩
  rw [List.getElem?_map] at hu
  cases hj : bs[j]? with
  | none => rw [hj] at hu; cases hu
  | some x =>
    rw [hj] at hu
    simp at hu
    have hjl : j < bs.length := (List.getElem?_eq_some_iff.1 hj).1
    rw [hc j (by omega), ← hu]
    unfold byteC byteV
    rw [List.getD_eq_getElem?_getD, hj]
    rfl
set_option maxRecDepth 100000 in
set_option maxHeartbeats 800000 in
theorem vput_any (w : World) (A : Option Addr) (len c : Nat) (bs : List Nat) (u : Int) (hl : bs.length = len) (hsl : Sl w (fun k => k < w.heap.size) A len (byteC bs)) (hlc : len ≤ c) (hsm : len ≤ 1099511627776) (h0 : 0 ≤ u) (hu : u < 18446744073709551616) :
    Calls Tryz.prog 16 #[.slice A len c, .int .u64 u] w (VPutPost w (bs ++ vput u.toNat)) := by
  obtain ⟨u, rfl⟩ := Int.eq_ofNat_of_zero_le h0
  have HT := Lib.hid (tl_of_sl hl hsl)
  have HL := Lib.hid hl
  have HU := Lib.hid (show u < 18446744073709551616 by omega)
  clear hsl hl hu h0
  go_enter Tryz.func16, Tryz.ntmps16
  go_wp2_with fail
  go_loopw [1, 5] (fun s1 s5 wr => ∃ (x : Nat) (p : List Nat), s1 = .int .u64 x ∧ x ≤ u ∧ p ++ vput x = bs ++ vput u ∧ Tl wr 5 w.heap.size s5 p.length (p.map byteV) ∧ Below w.heap.size w wr)
    (fun s1 _ _ => (intOf s1).toNat)
  case atStart => exact ⟨u, bs, rfl, Nat.le_refl _, rfl, by rw [HL.out]; exact HT.out, Below.refl _ _⟩
  case round =>
    obtain ⟨x, p, rfl, hxu, hp, htl, hbel⟩ := hrel
    have hplen : p.length ≤ len + 10 := by
      have h1 := congrArg List.length hp
      rw [List.length_append, List.length_append] at h1
      have h2 := vput_len10 HU.out
      have h3 := HL.out
      omega
    have HP := Lib.hid hp
    clear hp
    by_cases hx : x < 128
    · go_wp2_with (at_builtin; refine wpList_append_tl (f := fun _ => byteV x) (base := w.heap.size) (n := p.length) (xs := p.map byteV) byteElem rfl (.tmp 22) (.tmp 25) rfl rfl rfl ?h ?hm ?hc ?h1 ?h63 ?hby ?hbase ?_)
      case h => exact htl.alloc hbel.size _
      case hm => omega
      case hc => exact cell_one _ _ _
      case h1 => intro j _; rfl
      case h63 => unfold maxLen; omega
      case hby => omega
      case hbase => have := hbel.size; simp; omega
      intro v1 w1 hown1 hb1
      have HO := Lib.hid hown1
      have HB := Lib.hid hb1
      clear hown1 hb1
      go_wp2_with fail
      go_ret
      refine ⟨v1, rfl, ?_, (hbel.alloc hbel.size _).trans HB.out⟩
      have e : bs ++ vput u = p ++ [x] := by rw [← HP.out, vput_small hx]
      show w1.ownsRow _ _ _ _ (bs ++ vput u).length ((bs ++ vput u).map byteV)
      rw [e, List.length_append, List.map_append]
      exact HO.out
    · have e1 := vor_step x
      have e2 := vor_step2 x
      have hx0 : 128 ≤ x := by omega
      go_wp2_with (at_builtin; refine wpList_append_tl (f := fun _ => byteV (x % 128 + 128)) (base := w.heap.size) (n := p.length) (xs := p.map byteV) byteElem rfl (.tmp 16) (.tmp 20) rfl rfl rfl ?g ?gm ?gc ?g1 ?g63 ?gby ?gbase ?_)
      case g => exact htl.alloc hbel.size _
      case gm => omega
      case gc => exact cell_one _ _ _
      case g1 => intro j _; rfl
      case g63 => unfold maxLen; omega
      case gby => omega
      case gbase => have := hbel.size; simp; omega
      intro v1 w1 hown1 hb1
      have HO := Lib.hid hown1
      have HB := Lib.hid hb1
      clear hown1 hb1 e1 e2
      go_wp2_with fail
      go_roundw
      case rel =>
        refine ⟨x / 128, p ++ [x % 128 + 128], rfl, by omega, ?_, ?_, (hbel.alloc hbel.size _).trans HB.out⟩
        · rw [← HP.out, vput_big hx, List.append_assoc]; rfl
        · rw [List.length_append, List.map_append]
          exact .inl HO.out
      case measure => simp [intOf]; omega
end Go.Proofs.YtopbbicjbjmdnaaGreatDoor.V
namespace Go.Proofs.YtopbbicjbjmdnaaGreatDoor.V
open Go.RowKit
theorem range_bytes {bs : List Nat} {len : Nat} (hl : bs.length = len) : bs.map byteV = (List.range len).map (byteC bs) := by
  apply List.ext_getElem?
  intro j
  rw [List.getElem?_map, List.getElem?_map]
  rcases Nat.lt_or_ge j len with hj | hj
  · rw [List.getElem?_range hj, List.getElem?_eq_getElem (by omega)]
    unfold byteC byteV
    simp only [Option.map_some]
    rw [List.getD_eq_getElem?_getD, List.getElem?_eq_getElem (by omega)]
    rfl
  · rw [List.getElem?_eq_none (by omega), List.getElem?_eq_none (by simpa using hj)]; rfl
set_option maxRecDepth 100000 in
set_option maxHeartbeats 400000 in
theorem putInt_any (w : World) (A : Option Addr) (len c : Nat) (bs : List Nat) (n : Int) (hl : bs.length = len) (hsl : Sl w (fun k => k < w.heap.size) A len (byteC bs)) (hlc : len ≤ c) (hsm : len ≤ 1099511627776) (h0 : -9223372036854775808 ≤ n) (h1 : n ≤ 9223372036854775807) :
    Calls Tryz.prog 20 #[.slice A len c, .int .i64 n] w (VPutPost w (bs ++ vput (zig n))) := by
  have HZ := Lib.hid (And.intro h0 h1)
  have HS := Lib.hid (And.intro hl hsl)
  clear h0 h1 hl hsl
  go_enter Tryz.func20, Tryz.ntmps20
  go_wp2_with fail
  refine (zig_any _ _ HZ.out.1 HZ.out.2).mono ?_
  rintro e w' ⟨rfl, rfl⟩
  go_wp2_with fail
  refine (vput_any _ _ _ _ bs _ HS.out.1 HS.out.2 hlc hsm (by omega) (by have := zig_lt HZ.out.1 HZ.out.2; omega)).mono ?_
  rintro e w1 ⟨v1, rfl, hown1, hb1⟩
  go_wp2_with fail
  go_ret
  exact ⟨v1, rfl, hown1, hb1⟩
/-- A text's bytes. -/
def txt (s : ByteArray) : List Nat := s.data.toList.map UInt8.toNat
theorem txt_cells (s : ByteArray) : (txt s).map byteV = Lib.strCells s := by
  unfold txt Lib.strCells
  rw [List.map_map]; rfl
theorem txt_length (s : ByteArray) : (txt s).length = s.size := by unfold txt; simp
theorem txt_byte (s : ByteArray) : ∀ b ∈ txt s, b < 256 := by
  unfold txt
  intro b hb
  rw [List.mem_map] at hb
  obtain ⟨x, _, rfl⟩ := hb
  exact x.toNat_lt
set_option maxRecDepth 100000 in
set_option maxHeartbeats 400000 in
theorem putText_any (w : World) (A : Option Addr) (len c : Nat) (bs : List Nat) (s : ByteArray) (hl : bs.length = len) (hsl : Sl w (fun k => k < w.heap.size) A len (byteC bs)) (hlc : len ≤ c) (hsm : len ≤ 1099511627776) (hs : s.size ≤ 1099511627776) :
    Calls Tryz.prog 35 #[.slice A len c, .string s] w (VPutPost w (bs ++ vput s.size ++ txt s)) := by
  obtain ⟨ht, -, i, hi, hz, hs1, hby⟩ := byteElem
  have HI := Lib.hid (And.intro hs1 hby)
  have HS := Lib.hid (And.intro hl hsl)
  clear hl hsl hs1 hby
  go_enter Tryz.func35, Tryz.ntmps35
  go_wp2_with fail
  refine (vput_any _ _ _ _ bs _ HS.out.1 HS.out.2 hlc hsm (by omega) (by omega)).mono ?_
  rintro e w1 ⟨v1, rfl, hown1, hb1⟩
  have hn1 : (bs ++ vput s.size).length ≤ len + 10 := by
    rw [List.length_append]
    have := vput_len10 (u := s.size) (by omega)
    have := HS.out.1
    omega
  have HO := Lib.hid (And.intro hown1 hb1)
  clear hown1 hb1
  go_wp2_with (refine Lib.wpList_append_own_string w1 rfl (.tmp 9) (.tmp 10) 25 9 rfl w.heap.size 5 i ht Tryz.underlying9 hi hz HI.out.1 HI.out.2 v1 (bs ++ vput s.size).length ((bs ++ vput s.size).map byteV) rfl HO.out.1 s rfl ?h63 ?hby2 ?hbase ?_)
  case h63 => unfold maxLen; omega
  case hby2 => omega
  case hbase => exact HO.out.2.size
  intro v2 w2 hown2 hg2 _
  have HO2 := Lib.hid (And.intro hown2 (HO.out.2.grown hg2 HO.out.2.size (fun k hk => (HO.out.1.lt k hk).1)))
  clear hown2 hg2
  go_wp2_with fail
  go_ret
  refine ⟨v2, rfl, ?_, HO2.out.2⟩
  have e5 : (bs ++ vput s.size ++ txt s).length = (bs ++ vput s.size).length + s.size := by rw [List.length_append, txt_length]
  have e6 : (bs ++ vput s.size ++ txt s).map byteV = (bs ++ vput s.size).map byteV ++ Lib.strCells s := by rw [List.map_append, txt_cells]
  rw [e5, e6, List.length_append, List.map_append, List.append_assoc]
  exact HO2.out.1
end Go.Proofs.YtopbbicjbjmdnaaGreatDoor.V
namespace Go.Proofs.YtopbbicjbjmdnaaGreatDoor
open Go.RowKit
/-- The string of bytes. -/
def strB (bs : List Nat) : ByteArray := ⟨(bs.map fun b => UInt8.ofNat b).toArray⟩
theorem conv_sl {P : Program} {w : World} {D : Nat → Prop} {A : Option Addr} {len c : Nat} {bs : List Nat} (src e dst : TypeId) (hs : P.underlying src = some (.slice e)) (he : P.underlying e = some (.int .u8)) (hd : P.underlying dst = some .string)
    (hl : bs.length = len) (h : Sl w D A len (byteC bs)) : (convert src dst (.slice A len c)).run P w = .ok (.string (strB bs)) w := by
  rcases Nat.eq_zero_or_pos len with h0 | h0
  · subst h0
    obtain rfl : bs = [] := List.eq_nil_of_length_eq_zero hl
    rw [run_convert_bytes_string w src dst e _ 0 c hs he hd]
    cases A with
    | none => simp [Conv.bytesToString]; rfl
    | some a =>
      have := run_bytesToString (P := P) w a 0 c [] (run_loadCells_list (P := P) w a [] (fun j v hj => by simp at hj))
      exact this
  · obtain ⟨b, off, rfl, -, hc⟩ := h h0
    have := run_convert_bytes_arg (P := P) w src e hs he b off len c (bs.map fun b : Nat => (b : Int)) (by simpa using hl) (fun i hi => by
      rw [hc i hi]
      unfold byteC
      rw [List.getD_eq_getElem?_getD, List.getD_eq_getElem?_getD, List.getElem?_map, List.getElem?_eq_getElem (by omega)]
      rfl) dst hd
    rw [this]
    unfold strB strOfNums
    simp
theorem strB_inj {a b : List Nat} (ha : ∀ j, a.getD j 0 < 256) (hb : ∀ j, b.getD j 0 < 256) (h : strB a = strB b) : a = b := by
  unfold strB at h
  injection h with h
  have h2 : a.map (fun b => UInt8.ofNat b) = b.map (fun b => UInt8.ofNat b) := by simpa using h
  have hl : a.length = b.length := by simpa using congrArg List.length h2
  apply List.ext_getElem hl
  intro i h1 h3
  have h4 : (a.map (fun b => UInt8.ofNat b))[i]? = (b.map (fun b => UInt8.ofNat b))[i]? := by rw [h2]
  rw [List.getElem?_map, List.getElem?_map, List.getElem?_eq_getElem h1, List.getElem?_eq_getElem h3] at h4
  simp at h4
  have a1 := ha i
  have b1 := hb i
  rw [List.getD_eq_getElem?_getD, List.getElem?_eq_getElem h1] at a1
  rw [List.getD_eq_getElem?_getD, List.getElem?_eq_getElem h3] at b1
  have := congrArg UInt8.toNat h4
  simp at this a1 b1
  omega
theorem conv_own {P : Program} {w : World} {base : Nat} {A : Option Addr} {len c : Nat} {bs : List Nat} (src e dst : TypeId) (hs : P.underlying src = some (.slice e)) (he : P.underlying e = some (.int .u8)) (hd : P.underlying dst = some .string)
    (hl : bs.length = len) (h : w.ownsRow base e 1 (.slice A len c) len (bs.map fun b : Nat => Value.int .u8 (b : Int))) : (convert src dst (.slice A len c)).run P w = .ok (.string (strB bs)) w := by
  refine conv_sl src e dst hs he hd hl (Sl.of_own h ?_)
  intro j u hu
  rw [List.getElem?_map] at hu
  cases hb : bs[j]? with
  | none => rw [hb] at hu; cases hu
  | some b =>
    rw [hb] at hu
    simp at hu
    unfold byteC
    rw [List.getD_eq_getElem?_getD, hb, ← hu]
    rfl
end Go.Proofs.YtopbbicjbjmdnaaGreatDoor
namespace Go.Proofs.YtopbbicjbjmdnaaGreatDoor.V
open Go.RowKit
theorem sl_later {w w' : World} {A : Option Addr} {n : Nat} {f : Nat → Value} (h : Sl w (fun k => k < w.heap.size) A n f) (hb : Below w.heap.size w w') : Sl w' (fun k => k < w'.heap.size) A n f :=
  (h.below hb (fun _ hk _ => hk)).mono (fun _ hk => Nat.lt_of_lt_of_le hk hb.size)
theorem own_later {w w' : World} {base : Nat} {e : TypeId} {v : Value} {n : Nat} {xs : List Value} (h : w.ownsRow base e 1 v n xs) (hb : Below w.heap.size w w') : w'.ownsRow base e 1 v n xs :=
  own_keeps (S := fun _ => False) h (Keeps.of_below hb) (fun _ _ h => h)
theorem below_join {w w1 w2 : World} (h : Below w.heap.size w w1) (k : Below w1.heap.size w1 w2) : Below w.heap.size w w2 := h.trans (k.mono h.size)
theorem wrap_u64_range (n : Int) : 0 ≤ IntKind.u64.wrap n ∧ IntKind.u64.wrap n < 18446744073709551616 := by rw [IntKind.wrap_u64]; omega
/-- A row of the call's own as a slice. -/
theorem ow_sl {w : World} {base : Nat} {A : Option Addr} {n c : Nat} {bs : List Nat} (h : w.ownsRow base 5 1 (.slice A n c) n (bs.map byteV)) : Sl w (fun k => k < w.heap.size) A n (byteC bs) := by
  have h1 : Sl w (fun k => (Value.slice A n c).ownBlock = some k) A n (byteC bs) := by
    refine Sl.of_own h ?_
    intro j u hu
    rw [List.getElem?_map] at hu
    cases hb : bs[j]? with
    | none => rw [hb] at hu; cases hu
    | some b =>
      rw [hb] at hu
      simp at hu
      unfold byteC
      rw [List.getD_eq_getElem?_getD, hb, ← hu]
      rfl
  refine h1.mono fun k hk => ?_
  exact (h.lt k hk).2
theorem own_cap {w : World} {base : Nat} {e : TypeId} {size n m c : Nat} {A : Option Addr} {xs : List Value} (h : w.ownsRow base e size (.slice A n c) m xs) : n ≤ c ∧ c ≤ 9223372036854775807 := by
  rcases h.2 with ⟨h1, _⟩ | ⟨g, cap, cur, h1, _, _, h2, h3, _⟩
  · injection h1 with _ h1 h2; omega
  · injection h1 with _ h4 h5; subst h4 h5; unfold maxLen at h3; omega
theorem own_len {w : World} {base : Nat} {e : TypeId} {v : Value} {n : Nat} {xs : List Value} {A : Option Addr} {m c : Nat} (h : w.ownsRow base e 1 v n xs) (hv : v = .slice A m c) : m = n := by
  obtain ⟨A', c', e', _⟩ := own_form h
  rw [hv] at e'
  injection e'
theorem lat_lit0 (w : World) (base : Nat) (e : TypeId) (hb : base ≤ w.heap.size) : (w.alloc (.cells #[] e)).ownsRow base e 1 (.slice (some ⟨w.heap.size, 0, none⟩) 0 0) 0 [] :=
  World.ownsRow_made w #[] 0 hb (by unfold maxLen; omega) rfl
theorem lat_grown {w0 w w' : World} {e : TypeId} {n : Nat} {v : Value} {xs : List Value} (hk : Below w0.heap.size w0 w) (ho : w.ownsRow w0.heap.size e 1 v n xs) (hg : w.grownBy w' v.ownBlock) : Below w0.heap.size w0 w' :=
  hk.grown hg hk.size (fun k hk' => (ho.lt k hk').1)
theorem lat_text (s : ByteArray) : strB (txt s) = s := by
  unfold strB txt
  rw [List.map_map]
  have : (s.data.toList.map ((fun b => UInt8.ofNat b) ∘ UInt8.toNat)) = s.data.toList := by
    conv => rhs; rw [← List.map_id s.data.toList]
    apply List.map_congr_left
    intro x _
    simp
  rw [this]
/-- A block of bytes as a slice. -/
theorem blk_sl {w : World} {g : Nat} {t : TypeId} {bs : List Nat} (h : Blk w g t (bs.map byteV).toArray) : Sl w (fun k => k < w.heap.size) (some ⟨g, 0, none⟩) bs.length (byteC bs) := fun _ => by
  refine ⟨g, 0, rfl, h.lt, fun j hj => ?_⟩
  rw [h.cell (0 + j), Nat.zero_add]
  simp only [List.getElem?_toArray, List.getElem?_map, List.getElem?_eq_getElem hj]
  unfold byteC byteV
  rw [List.getD_eq_getElem?_getD, List.getElem?_eq_getElem hj]
  rfl
theorem getD_take_lt {l : List Nat} (h : ∀ j, l.getD j 0 < 256) (m : Nat) : ∀ j, (l.take m).getD j 0 < 256 := fun j => by
  rw [List.getD_eq_getElem?_getD, List.getElem?_take]
  have := h j
  rw [List.getD_eq_getElem?_getD] at this
  split
  · exact this
  · simp
theorem getD_drop_lt {l : List Nat} (h : ∀ j, l.getD j 0 < 256) (m : Nat) : ∀ j, (l.drop m).getD j 0 < 256 := fun j => by
  rw [List.getD_eq_getElem?_getD, List.getElem?_drop]
  have := h (m + j)
  rw [List.getD_eq_getElem?_getD] at this
  exact this
theorem getD_app_lt {l m : List Nat} (h : ∀ j, l.getD j 0 < 256) (h' : ∀ j, m.getD j 0 < 256) : ∀ j, (l ++ m).getD j 0 < 256 := fun j => by
  rw [List.getD_eq_getElem?_getD, List.getElem?_append]
  have h1 := h j
  have h2 := h' (j - l.length)
  rw [List.getD_eq_getElem?_getD] at h1 h2
  split
  · exact h1
  · exact h2
theorem getD_all_lt {l : List Nat} (h : ∀ b ∈ l, b < 256) : ∀ j, l.getD j 0 < 256 := fun j => by
  rw [List.getD_eq_getElem?_getD]
  cases hj : l[j]? with
  | none => simp
  | some b => simpa using h b (List.mem_of_getElem? hj)
theorem sl_take_list {w : World} {D : Nat → Prop} {A : Option Addr} {n m : Nat} {bs : List Nat} (h : Sl w D A n (byteC bs)) (hm : m ≤ n) : Sl w D A m (byteC (bs.take m)) := by
  refine (h.take hm).congr fun j hj => ?_
  unfold byteC
  rw [List.getD_eq_getElem?_getD, List.getD_eq_getElem?_getD, List.getElem?_take_of_lt hj]
theorem sl_drop_list {w : World} {D : Nat → Prop} {b off n m : Nat} {bs : List Nat} (h : Sl w D (some ⟨b, off, none⟩) n (byteC bs)) (hm : m ≤ n) : Sl w D (some ⟨b, off + m, none⟩) (n - m) (byteC (bs.drop m)) := fun hn => by
  obtain ⟨b', off', e, hD, hc⟩ := h (by omega)
  simp only [Option.some.injEq, Addr.mk.injEq] at e
  obtain ⟨rfl, rfl, -⟩ := e
  refine ⟨b, _, rfl, hD, fun j hj => ?_⟩
  have := hc (m + j) (by omega)
  rw [show off + (m + j) = off + m + j by omega] at this
  rw [this]
  unfold byteC
  rw [List.getD_eq_getElem?_getD, List.getD_eq_getElem?_getD, List.getElem?_drop]
/-- 'b[n:]' of bytes, whatever room is behind. -/
theorem slice_from {P : Program} (t e : TypeId) (ht : P.underlying t = some (.slice e)) (hs : ∀ w : World, (sizeOf e).run P w = .ok 1 w) (A : Option Addr) (len c n : Nat) (hn : n ≤ len) (hlc : len ≤ c) :
    ∃ A', (∀ w : World, (Instr.slice t (.slice A len c) (some (.int .i64 (n : Nat))) none none).run P w = .ok (.slice A' (len - n) (c - n)) w) ∧
      (∀ (w : World) (D : Nat → Prop) (l : List Nat), Sl w D A len (byteC l) → Sl w D A' (len - n) (byteC (l.drop n))) := by
  have he : P.elem t = e := by simp [Program.elem, ht]
  have ht' : P.underlying t = some (.slice (P.elem t)) := by rw [he]; exact ht
  refine ⟨if c = n then A else A.map (·.add (n * 1)), fun w => ?_, fun w D l h => ?_⟩
  · rw [run_slice_l w t A len c ht' .i64 (n : Nat) (by omega) (by omega), he, hs]
    simp [Result.andThen, sliced]
  · intro hlt
    rw [if_neg (by omega)]
    obtain ⟨b, off, rfl, -, -⟩ := h (by omega)
    have := sl_drop_list h hn hlt
    rw [show (some (⟨b, off, none⟩ : Addr)).map (·.add (n * 1)) = some ⟨b, off + n, none⟩ by simp [Addr.add]]
    exact this
end Go.Proofs.YtopbbicjbjmdnaaGreatDoor.V
namespace Go.Proofs.YtopbbicjbjmdnaaGreatDoor.V
open Go.RowKit
set_option linter.unusedVariables false
set_option linter.unusedSimpArgs false
def VIntPost (l : List Nat) (w : World) (e : Ending) (w' : World) : Prop :=
  e = .returned (.tuple #[.int .i64 (zag (vget l).1), .int .i64 ((vget l).2.1 : Nat), .int .i64 ((vget l).2.2 : Nat)]) ∧ Below w.heap.size w w'
set_option maxRecDepth 100000 in
set_option maxHeartbeats 1000000 in
theorem vreadInt_any (w : World) (D : Nat → Prop) (A : Option Addr) (len c : Nat) (l : List Nat) (hl : l.length = len) (hb : ∀ j, l.getD j 0 < 256) (hsl : Sl w D A len (byteC l)) (hm : len ≤ 9223372036854775807) (hv : HErr w) :
    Calls Tryz.prog 66 #[.slice A len c] w (VIntPost l w) := by
  have HS := Lib.hid (And.intro hl (And.intro hb (And.intro hsl (And.intro hm hv))))
  clear hl hb hsl hm hv
  go_enter Tryz.func66, Tryz.ntmps66
  go_wp2_with fail
  refine (vread_any w D A len c l HS.out.1 HS.out.2.1 HS.out.2.2.1 HS.out.2.2.2.1 HS.out.2.2.2.2).mono ?_
  rintro e w1 ⟨rfl, hb⟩
  obtain ⟨u, hu⟩ : ∃ u, u = (vget l).1 := ⟨_, rfl⟩
  obtain ⟨n, hn⟩ : ∃ n, n = (vget l).2.1 := ⟨_, rfl⟩
  obtain ⟨k, hk⟩ : ∃ k, k = (vget l).2.2 := ⟨_, rfl⟩
  have hu2 := (vget_lt l).1
  rw [← hu] at hu2
  rw [← hu, ← hn, ← hk]
  have HU := Lib.hid (And.intro hu (And.intro hn (And.intro hk hb)))
  clear hu hn hk hb
  go_wp2_with fail
  refine (zag_any u _ hu2).mono ?_
  rintro e w2 ⟨rfl, rfl⟩
  obtain ⟨z, hz⟩ : ∃ z, z = zag u := ⟨_, rfl⟩
  rw [← hz]
  have HZ := Lib.hid hz
  clear hz
  go_wp2_with fail
  go_ret3
  exact ⟨by rw [← HU.out.1, ← HU.out.2.1, ← HU.out.2.2.1, ← HZ.out]; rfl, HU.out.2.2.2⟩
/-- A text of bytes: it, how many bytes it has with its number, what is wrong. -/
def vtext (l : List Nat) (most : Int) : List Nat × Nat × Nat :=
  if (vget l).2.2 ≠ 0 then ([], 0, (vget l).2.2)
  else if most < 0 ∨ most < (vget l).1 then ([], 0, 3)
  else if l.length - (vget l).2.1 < (vget l).1 then ([], 0, 10)
  else ((l.drop (vget l).2.1).take (vget l).1, (vget l).2.1 + (vget l).1, 0)
theorem vtext_eq (l : List Nat) (most : Int) : vtext l most = (if (vget l).2.2 ≠ 0 then ([], 0, (vget l).2.2)
  else if most < 0 ∨ most < (vget l).1 then ([], 0, 3)
  else if l.length - (vget l).2.1 < (vget l).1 then ([], 0, 10)
  else ((l.drop (vget l).2.1).take (vget l).1, (vget l).2.1 + (vget l).1, 0)) := rfl
def VTextPost (l : List Nat) (most : Int) (w : World) (e : Ending) (w' : World) : Prop :=
  e = .returned (.tuple #[.string (strB (vtext l most).1), .int .i64 ((vtext l most).2.1 : Nat), .int .i64 ((vtext l most).2.2 : Nat)]) ∧ Below w.heap.size w w'
set_option maxRecDepth 100000 in
set_option maxHeartbeats 4000000 in
theorem vreadText_any (w : World) (A : Option Addr) (len c : Nat) (l : List Nat) (most : Int) (hl : l.length = len) (hb : ∀ j, l.getD j 0 < 256) (hsl : Sl w (fun q => q < w.heap.size) A len (byteC l)) (hlc : len ≤ c) (hcm : c ≤ 9223372036854775807) (hv : HErr w)
    (hm0 : -9223372036854775808 ≤ most) (hm1 : most ≤ 9223372036854775807) :
    Calls Tryz.prog 45 #[.slice A len c, .int .i64 most] w (VTextPost l most w) := by
  have HS := Lib.hid (And.intro hl (And.intro hb (And.intro hsl hv)))
  clear hl hb hsl hv
  go_enter Tryz.func45, Tryz.ntmps45
  go_wp2_with fail
  refine (vread_any w _ A len c l HS.out.1 HS.out.2.1 HS.out.2.2.1 (by omega) HS.out.2.2.2).mono ?_
  rintro e w1 ⟨rfl, hb⟩
  have hvl := vget_lt l
  have hve := vget_e l
  have hvt := vtext_eq l most
  have hlen := HS.out.1
  have hvo : (vget l).2.2 = 0 → 1 ≤ (vget l).2.1 := fun h => (vget_put HS.out.2.1 h).1
  obtain ⟨u, hu⟩ : ∃ u, u = (vget l).1 := ⟨_, rfl⟩
  obtain ⟨n, hn⟩ : ∃ n, n = (vget l).2.1 := ⟨_, rfl⟩
  obtain ⟨k, hk⟩ : ∃ k, k = (vget l).2.2 := ⟨_, rfl⟩
  rw [← hu, ← hn, ← hk] at hve hvt
  rw [← hu, ← hn] at hvl
  rw [← hk, ← hn] at hvo
  rw [← hu, ← hn, ← hk]
  rw [hlen] at hvl hvt
  have HB := Lib.hid hb
  clear hb hu hn hk hlen
  by_cases h0 : k = 0
  · have h1 := hvo h0
    subst h0
    rw [if_neg (by omega)] at hvt
    obtain ⟨hu64, hn10, hnl⟩ := hvl
    clear hve hvo
    by_cases c2 : most < 0
    · rw [if_pos (.inl c2)] at hvt
      have HT := Lib.hid hvt
      clear hvt
      go_wp2_with fail
      go_ret3
      exact ⟨by rw [HT.out]; rfl, HB.out⟩
    · have d2 : decide (most < 0) = false := by simp; omega
      have k2 : IntKind.u64.wrap most = most := by rw [IntKind.wrap_u64]; omega
      by_cases c3 : most < u
      · rw [if_pos (.inr c3)] at hvt
        have HT := Lib.hid hvt
        clear hvt
        go_wp2_with fail
        go_ret3
        exact ⟨by rw [HT.out]; rfl, HB.out⟩
      · rw [if_neg (by omega)] at hvt
        have d3 : decide (most < (u : Int)) = false := by simp; omega
        have k3 : IntKind.u64.wrap ((len : Int) - (n : Int)) = (len : Int) - (n : Int) := by rw [IntKind.wrap_u64]; omega
        have k4 : IntKind.i64.wrap (u : Int) = (u : Int) := by rw [IntKind.wrap_i64]; omega
        by_cases c4 : len - n < u
        · rw [if_pos c4] at hvt
          have HT := Lib.hid hvt
          have d4 : decide ((len : Int) - (n : Int) < (u : Int)) = true := by simp; omega
          clear hvt
          go_wp2_with fail
          go_ret3
          exact ⟨by rw [HT.out]; rfl, HB.out⟩
        · rw [if_neg c4] at hvt
          have HT := Lib.hid hvt
          have d4 : decide ((len : Int) - (n : Int) < (u : Int)) = false := by simp; omega
          obtain ⟨b, off, rfl, -, -⟩ := HS.out.2.2.1 (by omega)
          clear hvt
          have hun : u ≤ len - n := by omega
          clear c4
          by_cases hnc : n = c
          · have hu0 : u = 0 := by omega
            have hnl2 : len = n := by omega
            subst hu0 hnl2 hnc
            have hc := fun (A : Option Addr) (q : Nat) => conv_sl (P := Tryz.prog) (w := w1) (D := fun _ => True) (A := A) (len := 0) (c := q) (bs := []) 25 5 9 Tryz.underlying25 Tryz.underlying5 Tryz.underlying9 rfl (Sl.nil _ _ _ _)
            have HT2 := Lib.hid (show vtext l most = ([], len, 0) by rw [HT.out]; simp)
            clear HT
            go_wp2_with fail
            go_ret3
            exact ⟨by rw [HT2.out]; rfl, HB.out⟩
          · have hs := sl_take_list (sl_drop_list (sl_later HS.out.2.2.1 HB.out) hnl) hun
            have hc := conv_sl (P := Tryz.prog) (c := c - n) 25 5 9 Tryz.underlying25 Tryz.underlying5 Tryz.underlying9 (by rw [List.length_take, List.length_drop]; have := HS.out.1; omega) hs
            obtain ⟨P, hP⟩ : ∃ P, P = (l.drop n).take u := ⟨_, rfl⟩
            rw [← hP] at hc HT
            clear hs hP
            go_wp2_with fail
            go_ret3
            exact ⟨by rw [HT.out]; rfl, HB.out⟩
  · rw [if_pos h0] at hvt
    have d0 : ((k : Int) != 0) = true := by simp; omega
    have HT := Lib.hid hvt
    clear hvt hvo hve h0
    go_wp2_with fail
    go_ret3
    exact ⟨by rw [HT.out]; rfl, HB.out⟩
end Go.Proofs.YtopbbicjbjmdnaaGreatDoor.V
namespace Go.Proofs.YtopbbicjbjmdnaaGreatDoor
open Go.RowKit Go.Maps
set_option maxRecDepth 100000
set_option linter.unusedVariables false
set_option linter.unusedSimpArgs false
theorem gb_below {w w' : World} (h : Below w.heap.size w w') (row : Option Nat) : w.grownBy w' row := ⟨h.os, h.tape, h.output, h.size, fun q hq _ => h.block q hq⟩
theorem gb_trans {w w1 w2 : World} {row : Option Nat} (h : w.grownBy w1 row) (k : w1.grownBy w2 row) : w.grownBy w2 row :=
  ⟨k.os.trans h.os, k.tape.trans h.tape, k.output.trans h.output, Nat.le_trans h.size k.size, fun q hq hn => (k.block q (Nat.lt_of_lt_of_le hq h.size) hn).trans (h.block q hq hn)⟩
theorem gb_blk {w w' : World} {row : Option Nat} {g : Nat} {t : TypeId} {cs : Array Value} (h : w.grownBy w' row) (hb : Blk w g t cs) (hn : some g ≠ row) : Blk w' g t cs := (h.block g hb.lt hn).trans hb
theorem gb_cell {w w' : World} {row : Option Nat} {a : Addr} {v : Value} (h : w.grownBy w' row) (hc : w.cell? a = some v) (hn : some a.block ≠ row) : w'.cell? a = some v :=
  (World.cell?_of_block (w := w) (a := a) (h.block a.block (World.block_lt_of_cell? w _ hc) hn)).trans hc
theorem gb_below2 {w0 w w' : World} {y : Nat} (h : Below w0.heap.size w0 w) (hg : w.grownBy w' (some y)) (hy : w0.heap.size ≤ y) : Below w0.heap.size w0 w' :=
  ⟨hg.os.trans h.os, hg.tape.trans h.tape, hg.output.trans h.output, Nat.le_trans h.size hg.size, fun q hq => (hg.block q (Nat.lt_of_lt_of_le hq h.size) (fun e => by injection e with e; omega)).trans (h.block q hq)⟩
/-- How a slice reads as a map's element: as itself. -/
def elV (v : Value) : Option (DataW Value × List MemPlace) := some (.held v, [])
/-- What the map of slices reads as behind k names. -/
def DB (nm : Nat → ByteArray) (VS : Nat → Value) : Nat → DataW Value
  | 0 => .map []
  | k + 1 => (DB nm VS k).put (klS (nm k)) (.held (VS k))
theorem DB_isMap (nm : Nat → ByteArray) (VS : Nat → Value) : ∀ k, IsMap (DB nm VS k)
  | 0 => isMap_empty
  | k + 1 => (DB_isMap nm VS k).put _ _
theorem DB_tidy (nm : Nat → ByteArray) (VS : Nat → Value) : ∀ k, Tidy (DB nm VS k)
  | 0 => tidy_empty
  | k + 1 => (DB_tidy nm VS k).put (klS_key _) _
theorem DB_has (nm : Nat → ByteArray) (VS : Nat → Value) (s : ByteArray) : ∀ k, Maps.has (DB nm VS k) (klS s) = true ↔ ∃ j, j < k ∧ nm j = s
  | 0 => by
    constructor
    · intro h; cases h
    · rintro ⟨j, hj, _⟩; omega
  | k + 1 => by
    by_cases e : nm k = s
    · subst e
      constructor
      · intro _; exact ⟨k, by omega, rfl⟩
      · intro _; exact has_put_same (DB_isMap nm VS k) (klS_key _) _
    · have hne : klS s ≠ klS (nm k) := fun h => e (klS_inj h).symm
      show Maps.has ((DB nm VS k).put (klS (nm k)) _) (klS s) = true ↔ _
      rw [has_put_other hne, DB_has nm VS s k]
      constructor
      · rintro ⟨j, hj, h⟩; exact ⟨j, by omega, h⟩
      · rintro ⟨j, hj, h⟩
        have : j ≠ k := fun h' => e (by rw [← h', h])
        exact ⟨j, by omega, h⟩
theorem DB_size (nm : Nat → ByteArray) (VS : Nat → Value) : ∀ k, Apart nm k → Maps.size (DB nm VS k) = k
  | 0, _ => rfl
  | k + 1, h => by
    show Maps.size ((DB nm VS k).put (klS (nm k)) _) = k + 1
    have hh : ¬ Maps.has (DB nm VS k) (klS (nm k)) = true := by
      rw [DB_has]
      rintro ⟨j, hj, e⟩
      exact h j k hj (by omega) e
    rw [size_put (DB_tidy nm VS k), if_neg hh, DB_size nm VS k (fun i j h1 h2 => h i j h1 (by omega))]
theorem DB_at (nm : Nat → ByteArray) (VS : Nat → Value) (z : DataW Value) : ∀ k, Apart nm k → ∀ j, j < k → (DB nm VS k).atKey (klS (nm j)) z = .held (VS j)
  | 0, _, j, hj => by omega
  | k + 1, h, j, hj => by
    show ((DB nm VS k).put (klS (nm k)) _).atKey (klS (nm j)) z = _
    by_cases e : j = k
    · subst e
      rw [atKey_put_same (DB_isMap nm VS j) (klS_key _)]
    · rw [atKey_put_other (fun h' => h j k (by omega) (by omega) (klS_inj h')), DB_at nm VS z k (fun i j h1 h2 => h i j h1 (by omega)) j (by omega)]
theorem DB_congr (nm : Nat → ByteArray) {VS WS : Nat → Value} : ∀ k, (∀ j, j < k → VS j = WS j) → DB nm VS k = DB nm WS k
  | 0, _ => rfl
  | k + 1, h => by
    show (DB nm VS k).put _ (.held (VS k)) = (DB nm WS k).put _ (.held (WS k))
    rw [DB_congr nm k (fun j hj => h j (by omega)), h k (by omega)]
def MapB (w : World) (M n k : Nat) (nm : Nat → ByteArray) (VS : Nat → Value) : Prop := w.ownsMap Tryz.prog 9 elV M n (DB nm VS k)
theorem MapB.gb {w w' : World} {M n k : Nat} {nm : Nat → ByteArray} {VS : Nat → Value} {row : Option Nat} (h : MapB w M n k nm VS) (hg : w.grownBy w' row) (hne : some M ≠ row) : MapB w' M n k nm VS := World.ownsMap.kept h hg hne
theorem MapB.call {w w' : World} {M n k : Nat} {nm : Nat → ByteArray} {VS : Nat → Value} (h : MapB w M n k nm VS) (hb : Below w.heap.size w w') : MapB w' M n k nm VS := h.gb (gb_below hb none) (by simp)
theorem zeroBks (w : World) : (zeroValue 73).run Tryz.prog w = .ok (.slice none 0 0) w := by kernel_rfl
theorem wpList_lookup_bk (w : World) {ops : Array Oper} {rest : List Oper} {o : Oper} {a : Act} {Q : Exit → Act → World → Prop} (hg : o.guard = none) (m x : Operand) (hop : o.op = Op.lookup 64 m x false)
    (M n k j : Nat) (nm : Nat → ByteArray) (VS : Nat → Value) (hm : a.eval m = .map (some M)) (hown : MapB w M n k nm VS) (hap : Apart nm k) (hj : j < k) (hs : (nm j).size ≤ maxLen) (hx : a.eval x = .string (nm j))
    (hK : wpList Tryz.prog ops Q rest (a.put o.dst (VS j)) w) : wpList Tryz.prog ops Q (o :: rest) a w := by
  refine wpList_plain hg fun K' hK' => ?_
  obtain ⟨v, ps, hrun, hv⟩ := World.ownsMap.lookup hown law Tryz.underlying64 (zeroBks w) (zd := .held (.slice none 0 0)) (zp := []) rfl (klS_of hs)
  rw [DB_at nm VS _ k hap j hj] at hv
  unfold elV at hv
  simp only [Option.some.injEq, Prod.mk.injEq, DataW.held.injEq] at hv
  rw [hv.1] at hrun
  unfold Oper.wp
  simp [execOp, hop, hm, hx, hrun, Result.andThen]
  exact hK' _ _ hK
/-- A block, as the foot tells it. -/
structure Bk where
  a : Nat
  b : Nat
  f : Int
  t : Int
  n : Nat
def bkC (x : Bk) : List Value := [.int .i64 (x.a : Nat), .int .i64 (x.b : Nat), .int .i64 x.f, .int .i64 x.t, .int .i64 (x.n : Nat)]
def bkL (B : Nat → Bk) : Nat → List Value
  | 0 => []
  | j + 1 => bkL B j ++ bkC (B j)
theorem bkL_len (B : Nat → Bk) : ∀ k, (bkL B k).length = k * 5
  | 0 => rfl
  | k + 1 => by
    show (bkL B k ++ bkC (B k)).length = _
    rw [List.length_append, bkL_len B k]
    unfold bkC
    simp; omega
theorem bkL_at (B : Nat → Bk) (j i : Nat) (hi : i < 5) : ∀ k, j < k → (bkL B k)[j * 5 + i]? = (bkC (B j))[i]?
  | 0, h => absurd h (by omega)
  | k + 1, h => by
    have hl := bkL_len B k
    show (bkL B k ++ bkC (B k))[j * 5 + i]? = _
    rcases Nat.lt_or_ge j k with h1 | h1
    · rw [List.getElem?_append_left (by omega)]
      exact bkL_at B j i hi k h1
    · obtain rfl : j = k := by omega
      rw [List.getElem?_append_right (by omega), hl, show j * 5 + i - j * 5 = i by omega]
theorem bk_info : (Tryz.prog.info? 76).map (fun i => (i.zero, i.size, i.bytes)) = some (some (.agg #[.int .i64 0, .int .i64 0, .int .i64 0, .int .i64 0, .int .i64 0]), 5, 40) := by kernel_rfl
theorem wpList_append_bk {w : World} {base g j : Nat} {v : Value} {B : Nat → Bk} {c : Nat} {ops : Array Oper} {rest : List Oper} {o : Oper} {a : Act} {Q : Exit → Act → World → Prop} (hgd : o.guard = none) (s x : Operand)
    (ho : o.op = .call { callee := .builtin .append, args := #[s, x], argTypes := #[73, 73] }) (hs : a.eval s = v) (hx : a.eval x = .slice (some ⟨g, 0, none⟩) 1 c)
    (hown : w.ownsRow base 76 5 v j (bkL B j)) (hg : Blk w g 76 (bkC (B j)).toArray) (h63 : j < 4294967296) (hbase : base ≤ w.heap.size)
    (h : ∀ v' w', w'.ownsRow base 76 5 v' (j + 1) (bkL B (j + 1)) → w.grownBy w' v.ownBlock → (v'.ownBlock = v.ownBlock ∨ v'.ownBlock = some w.heap.size) → wpList Tryz.prog ops Q rest (a.put o.dst v') w') : wpList Tryz.prog ops Q (o :: rest) a w := by
  refine wpList_plain hgd fun K hK => ?_
  obtain ⟨i, hi, hz, hss, hb⟩ := info_parts bk_info
  have hadd : ∀ i, (⟨g, 0, none⟩ : Addr).add i = ⟨g, 0 + i, none⟩ := fun i => by unfold Addr.add; split <;> simp_all
  obtain ⟨v', w', hrun, h2, h3, _, h4⟩ := run_append_own_at (P := Tryz.prog) w base 73 o.type 76 i _ 5 40 Tryz.underlying73 hi hz hss hb rfl (by decide) v j (bkL B j) hown ⟨g, 0, none⟩ 1 c (bkC (B j)) rfl
    (fun j u hu => by
      rw [hadd, Nat.zero_add, hg.cell j]
      simpa using hu)
    (by intro u hu; unfold bkC at hu; simp at hu; rcases hu with rfl | rfl | rfl | rfl | rfl <;> rfl) (by unfold maxLen; omega) (by omega) hbase
  unfold Oper.wp execOp
  simp only [ho, resolve, invoke, builtin, Sem.run_bind, Sem.run_pure, Result.andThen_ok, List.map_toArray, List.map_cons, List.map_nil, hs, hx, hrun]
  exact hK _ _ (h v' w' h2 h3 h4)
/-- The foot's reader in block y: what is still to be read is l, and nothing was wrong. -/
def RdAt (w : World) (y : Nat) (l : List Nat) : Prop :=
  ∃ A c, Blk w y 71 #[.slice A l.length c, .nilIface] ∧ Sl w (fun q => q < y) A l.length (byteC l) ∧ l.length ≤ c ∧ c ≤ 9223372036854775807 ∧ ∀ j, l.getD j 0 < 256
theorem rd_ne {w : World} {y : Nat} {l : List Nat} (h : RdAt w y l) (hv : V.HErr w) : some 0 ≠ some y := fun e => by
  injection e with e
  obtain ⟨A, c, hb, -⟩ := h
  have h1 := hb.cell 0
  rw [← e] at h1
  have h2 : w.cell? ⟨0, 0, none⟩ = _ := hv
  rw [h2] at h1
  simp at h1
theorem herr_gb {w w' : World} {y : Nat} (hv : V.HErr w) (hg : w.grownBy w' (some y)) (hne : some 0 ≠ some y) : V.HErr w' := gb_cell hg hv hne
theorem RdAt.call {w w' : World} {y : Nat} {l : List Nat} (h : RdAt w y l) (hb : Below w.heap.size w w') : RdAt w' y l := by
  obtain ⟨A, c, h1, h2, h3⟩ := h
  exact ⟨A, c, h1.below hb h1.lt, h2.below hb (fun _ _ hk => hk), h3⟩
/-- The reader goes on. -/
theorem RdAt.next {w : World} {y n : Nat} {l : List Nat} {A' : Option Addr} {c' : Nat} (h : RdAt w y l) (hs : Sl w (fun q => q < y) A' (l.length - n) (byteC (l.drop n))) (hc : l.length - n ≤ c') (hm : c' ≤ 9223372036854775807) (hn : n ≤ l.length) :
    RdAt (w.setCell ⟨y, 0, none⟩ (.slice A' (l.length - n) c')) y (l.drop n) := by
  obtain ⟨A0, c0, h1, h2, h3, h4, h5⟩ := h
  have e : (l.drop n).length = l.length - n := by simp
  have hset := h1.set 0 (.slice A' (l.length - n) c')
  refine ⟨A', c', by rw [e]; exact hset, ?_, by rw [e]; exact hc, hm, V.getD_drop_lt h5 n⟩
  rw [e]
  exact hs.keep (fun k hk _ => Below.heap_setCell _ _ _ _ (show k ≠ y by have : k < y := hk; omega))
end Go.Proofs.YtopbbicjbjmdnaaGreatDoor
namespace Go.Proofs.YtopbbicjbjmdnaaGreatDoor
open Go.RowKit Go.Maps
set_option maxRecDepth 100000
set_option linter.unusedVariables false
set_option linter.unusedSimpArgs false
/-- k names as bytes. -/
def namesB (nm : Nat → ByteArray) (n : Nat) : Nat → List Nat
  | 0 => V.vput n
  | k + 1 => namesB nm n k ++ V.vput (nm k).size ++ V.txt (nm k)
theorem namesB_len (nm : Nat → ByteArray) (n : Nat) (hn : n < 18446744073709551616) : ∀ k, (∀ j, j < k → (nm j).size ≤ 1048576) → (namesB nm n k).length ≤ 10 + k * 1048586
  | 0, _ => by show (V.vput n).length ≤ _; have := V.vput_len10 hn; omega
  | k + 1, h => by
    have ih := namesB_len nm n hn k (fun j hj => h j (by omega))
    have h1 := h k (by omega)
    have h2 := V.vput_len10 (u := (nm k).size) (by omega)
    show (namesB nm n k ++ V.vput (nm k).size ++ V.txt (nm k)).length ≤ _
    rw [List.length_append, List.length_append, V.txt_length]
    omega
set_option maxHeartbeats 4000000 in
theorem dBytes_any (w0 w : World) (L : List (Nat × TypeId × Array Value)) (d m k : Nat) (nm : Nat → ByteArray) (h : DictS w0 L d m k nm w) (hk : k ≤ 1024) (hap : Apart nm k) (hn : ∀ j, j < k → (nm j).size ≤ 1048576) :
    Calls Tryz.prog 15 #[.pointer (some ⟨d, 0, none⟩)] w (V.VPutPost w (namesB nm k k)) := by
  have hz := Dn_size nm k hap
  have H0 := Lib.hid (And.intro h hap)
  have HN := Lib.hid hn
  clear h hap hn
  go_enter Tryz.func15, Tryz.ntmps15
  go_wp2_with fail
  refine (dnone_any _ d m (H0.out.1.own.cell 0 0 rfl rfl)).mono ?_
  rintro e w1 ⟨rfl, hb⟩
  have H1 := Lib.hid (And.intro (H0.out.1.call hb) hb)
  clear hb
  have hc := H1.out.1.own.cell 0 0 rfl rfl
  have hown : World.ownsMap w1 Tryz.prog 9 (plainElem (H := Unit) Tryz.prog 3) m k (Dn nm k) := H1.out.1.map
  have ku : IntKind.u64.wrap (k : Int) = (k : Int) := by rw [IntKind.wrap_u64]; omega
  go_wp2_with (at_len; refine wpList_len_own _ rfl _ 84 rfl 9 3 Tryz.underlying84 _ m k _ rfl hown ?_; rw [hz])
  refine (V.vput_any _ none 0 0 [] (k : Int) rfl (Sl.nil _ _ _ _) (by omega) (by omega) (by omega) (by omega)).mono ?_
  rintro e w2 ⟨v, rfl, ho, hb⟩
  rw [Int.toNat_natCast, List.nil_append] at ho
  have H2 := Lib.hid (And.intro (H1.out.1.call hb) (And.intro (own_base ho H1.out.2.size) (H1.out.2.trans (hb.mono H1.out.2.size))))
  clear ho hb hc hown ku
  go_wp2_with fail
  refine (dNames_any w0 _ L d m k nm H2.out.1 hk H0.out.2).mono ?_
  rintro e w3 ⟨o, cs, rfl, hwo, hblk, hsz, hcs, hb⟩
  have HP := Lib.hid (And.intro (V.own_later H2.out.2.1 hb) (H2.out.2.2.trans (hb.mono H2.out.2.2.size)))
  have HC := Lib.hid (And.intro hblk hcs)
  clear hb hblk hcs
  go_wp2_with fail
  go_loopw [3, 18] (fun s3 i wr => ∃ (j : Nat) (p : List Nat), j ≤ k ∧ i = .int .i64 (j : Nat) ∧ p = namesB nm k j ∧ wr.ownsRow w.heap.size 5 1 s3 p.length (p.map V.byteV) ∧ Below w3.heap.size w3 wr ∧ Below w.heap.size w wr) (fun _ i _ => k - (intOf i).toNat)
  case atStart => exact ⟨0, namesB nm k 0, by omega, rfl, rfl, HP.out.1, (Below.refl _ _), HP.out.2⟩
  case round =>
    obtain ⟨j, p, hj, rfl, hp, ho, hb, hbel⟩ := hrel
    by_cases hlt : j < k
    · have hlen := namesB_len nm k (by omega) j (fun i hi => HN.out i (by omega))
      rw [← hp] at hlen
      have hkk : j * 1048586 ≤ 1024 * 1048586 := Nat.mul_le_mul_right _ (by omega)
      obtain ⟨n4, hn4⟩ : ∃ n, n = p.length := ⟨_, rfl⟩
      rw [← hn4] at ho hlen
      obtain ⟨A4, c4, hv4, hc4, -⟩ := own_form ho
      subst hv4
      skip
      obtain ⟨s, hs⟩ : ∃ s, s = nm j := ⟨_, rfl⟩
      have zc : wr.cell? ⟨o, j, none⟩ = some (.string s) := by rw [hs]; exact ((HC.out.1.below hb HC.out.1.lt).cell j).trans (HC.out.2 j hlt)
      have hss : s.size ≤ 1048576 := by rw [hs]; exact HN.out j hlt
      have hjk : (j : Int) < (k : Int) := by omega
      have hn4b : n4 ≤ 1099511627776 := by omega
      have HX := Lib.hid (And.intro hp (And.intro hn4.symm (And.intro (V.ow_sl ho) (And.intro hb (And.intro hbel (And.intro hs ho))))))
      clear hp hn4 hb hbel hs ho hlen hkk
      go_wp2_with fail
      refine (V.putText_any _ A4 n4 c4 p s HX.out.2.1 HX.out.2.2.1 hc4 (by omega) (by omega)).mono ?_
      rintro e w5 ⟨v, rfl, ho, hb⟩
      have e4 : p ++ V.vput s.size ++ V.txt s = namesB nm k (j + 1) := by rw [HX.out.1, HX.out.2.2.2.2.2.1]; rfl
      have H5 := Lib.hid (And.intro (own_base ho HX.out.2.2.2.2.1.size) (And.intro (HX.out.2.2.2.1.trans (hb.mono HX.out.2.2.2.1.size)) (And.intro (HX.out.2.2.2.2.1.trans (hb.mono HX.out.2.2.2.2.1.size)) e4)))
      clear ho hb e4 zc hss hjk
      go_wp2_with fail
      go_roundw
      case rel => exact ⟨j + 1, _, by omega, by go_num, H5.out.2.2.2, H5.out.1, H5.out.2.1, H5.out.2.2.1⟩
      case measure => simp [intOf] <;> omega
    · obtain rfl : j = k := by omega
      have HF := Lib.hid (And.intro hp (And.intro ho hbel))
      clear hp ho hbel hb
      go_wp2_with fail
      go_ret
      refine ⟨_, rfl, ?_, HF.out.2.2⟩
      rw [← HF.out.1]
      exact HF.out.2.1
/-- k names stand in a row. -/
def StrAt (w : World) (A : Option Addr) (k : Nat) (nm : Nat → ByteArray) : Prop := 0 < k → ∃ b off, A = some ⟨b, off, none⟩ ∧ b < w.heap.size ∧ ∀ j, j < k → w.cell? ⟨b, off + j, none⟩ = some (.string (nm j))
theorem StrAt.below {w w' : World} {A : Option Addr} {k : Nat} {nm : Nat → ByteArray} (h : StrAt w A k nm) (hb : Below w.heap.size w w') : StrAt w' A k nm := fun hk => by
  obtain ⟨b, off, e, hlt, hc⟩ := h hk
  exact ⟨b, off, e, Nat.lt_of_lt_of_le hlt hb.size, fun j hj => (hb.cell (by exact hlt)).trans (hc j hj)⟩
end Go.Proofs.YtopbbicjbjmdnaaGreatDoor
namespace Go.Proofs.YtopbbicjbjmdnaaGreatDoor
open Go.RowKit
/-- A point. -/
structure Pt where
  t : Int
  v : Int
  s : Int
deriving DecidableEq
def I64 (x : Int) : Prop := -9223372036854775808 ≤ x ∧ x ≤ 9223372036854775807
structure PtOk (p : Pt) : Prop where
  t : I64 p.t
  v : I64 p.v
  s : I64 p.s
/-- A slice of n points that lie in a block of D: point j is f j. -/
def SlP (w : World) (D : Nat → Prop) (A : Option Addr) (n : Nat) (f : Nat → Pt) : Prop :=
  0 < n → ∃ b off, A = some ⟨b, off, none⟩ ∧ D b ∧ ∀ j, j < n → w.cell? ⟨b, off + j * 3, none⟩ = some (.int .i64 (f j).t) ∧ w.cell? ⟨b, off + j * 3 + 1, none⟩ = some (.int .i64 (f j).v) ∧ w.cell? ⟨b, off + j * 3 + 2, none⟩ = some (.int .i64 (f j).s)
namespace SlP
variable {w w' : World} {D E : Nat → Prop} {A : Option Addr} {n m : Nat} {f g : Nat → Pt}
theorem nil (w : World) (D : Nat → Prop) (A : Option Addr) (f : Nat → Pt) : SlP w D A 0 f := fun h => absurd h (by omega)
theorem keep (h : SlP w D A n f) (hk : ∀ k, D k → k < w.heap.size → w'.heap[k]? = w.heap[k]?) : SlP w' D A n f := fun hn => by
  obtain ⟨b, off, e, hd, hc⟩ := h hn
  have hlt : b < w.heap.size := World.block_lt_of_cell? w _ (hc 0 hn).1
  refine ⟨b, off, e, hd, fun j hj => ?_⟩
  obtain ⟨h1, h2, h3⟩ := hc j hj
  exact ⟨(World.cell?_of_block (w := w) (a := ⟨b, _, none⟩) (hk b hd hlt)).trans h1, (World.cell?_of_block (w := w) (a := ⟨b, _, none⟩) (hk b hd hlt)).trans h2, (World.cell?_of_block (w := w) (a := ⟨b, _, none⟩) (hk b hd hlt)).trans h3⟩
theorem below (h : SlP w D A n f) (hk : Below w.heap.size w w') : SlP w' D A n f := h.keep fun k _ hlt => hk.block k hlt
theorem keeps (h : SlP w D A n f) (hk : Keeps (fun _ => False) w w') : SlP w' D A n f := h.keep fun k _ hlt => hk.block k hlt (fun h => h)
theorem mono (h : SlP w D A n f) (hd : ∀ k, D k → E k) : SlP w E A n f := fun hn => by
  obtain ⟨b, off, e, hD, hc⟩ := h hn
  exact ⟨b, off, e, hd b hD, hc⟩
theorem take (h : SlP w D A n f) (hm : m ≤ n) : SlP w D A m f := fun hn => by
  obtain ⟨b, off, e, hD, hc⟩ := h (by omega)
  exact ⟨b, off, e, hD, fun j hj => hc j (by omega)⟩
theorem congr (h : SlP w D A n f) (hf : ∀ j, j < n → f j = g j) : SlP w D A n g := fun hn => by
  obtain ⟨b, off, e, hD, hc⟩ := h hn
  exact ⟨b, off, e, hD, fun j hj => by rw [← hf j hj]; exact hc j hj⟩
theorem drop {b off : Nat} (h : SlP w D (some ⟨b, off, none⟩) (m + n) f) : SlP w D (some ⟨b, off + m * 3, none⟩) n (fun j => f (m + j)) := fun hn => by
  obtain ⟨b', off', e, hD, hc⟩ := h (by omega)
  simp only [Option.some.injEq, Addr.mk.injEq] at e
  obtain ⟨rfl, rfl, -⟩ := e
  refine ⟨b, _, rfl, hD, fun j hj => ?_⟩
  have := hc (m + j) (by omega)
  rw [show off + (m + j) * 3 = off + m * 3 + j * 3 by omega] at this
  exact this
end SlP
end Go.Proofs.YtopbbicjbjmdnaaGreatDoor
namespace Go.Proofs.YtopbbicjbjmdnaaGreatDoor
open Go.RowKit
set_option linter.unusedVariables false
set_option linter.unusedSimpArgs false
/-- The last time ahead of point k. -/
def colT (f : Nat → Pt) : Nat → Int
  | 0 => -1152921504606846977
  | k + 1 => (f k).t
def colOk (f : Nat → Pt) (k : Nat) : Bool := decide (colT f k < (f k).t) && (decide ((f k).t ≤ 1152921504606846976) && (decide (0 ≤ (f k).s) && decide ((f k).s ≤ 1152921504606846976)))
def colAll (f : Nat → Pt) : Nat → Bool
  | 0 => true
  | k + 1 => colAll f k && colOk f k
def colV (f : Nat → Pt) (n : Nat) : Bool := colAll f n && (decide (0 < n) && decide (n ≤ 4096))
theorem colOk_iff (f : Nat → Pt) (k : Nat) : colOk f k = true ↔ colT f k < (f k).t ∧ (f k).t ≤ 1152921504606846976 ∧ 0 ≤ (f k).s ∧ (f k).s ≤ 1152921504606846976 := by
  unfold colOk; simp only [Bool.and_eq_true, decide_eq_true_eq]
theorem colAll_not {f : Nat → Pt} {k : Nat} (h : colOk f k = false) : ∀ n, k < n → colAll f n = false
  | 0, hk => by omega
  | n + 1, hk => by
    show (colAll f n && colOk f n) = false
    rcases Nat.lt_or_ge k n with h1 | h1
    · rw [colAll_not h n h1]; rfl
    · rw [show n = k by omega, h]; simp
theorem colAll_at {f : Nat → Pt} : ∀ n, colAll f n = true → ∀ k, k < n → colOk f k = true
  | 0, _, k, hk => by omega
  | n + 1, h, k, hk => by
    have h' : (colAll f n && colOk f n) = true := h
    rw [Bool.and_eq_true] at h'
    rcases Nat.lt_or_ge k n with h1 | h1
    · exact colAll_at n h'.1 k h1
    · rw [show k = n by omega]; exact h'.2
theorem colAll_congr {f g : Nat → Pt} : ∀ n, (∀ j, j < n → f j = g j) → colAll f n = colAll g n
  | 0, _ => rfl
  | n + 1, h => by
    show (colAll f n && colOk f n) = (colAll g n && colOk g n)
    rw [colAll_congr n (fun j hj => h j (by omega))]
    have e : colOk f n = colOk g n := by
      have e1 : colT f n = colT g n := by
        cases n with
        | zero => rfl
        | succ n => show (f n).t = (g n).t; rw [h n (by omega)]
      unfold colOk; rw [e1, h n (by omega)]
    rw [e]
theorem colV_congr {f g : Nat → Pt} (n : Nat) (h : ∀ j, j < n → f j = g j) : colV f n = colV g n := by unfold colV; rw [colAll_congr n h]
theorem colV_spec {f : Nat → Pt} {n : Nat} (h : colV f n = true) : colAll f n = true ∧ 0 < n ∧ n ≤ 4096 := by
  unfold colV at h
  simp only [Bool.and_eq_true, decide_eq_true_eq] at h
  exact ⟨h.1, h.2.1, h.2.2⟩
def BoolPost (b : Bool) (w : World) (e : Ending) (w' : World) : Prop := e = .returned (.bool b) ∧ Below w.heap.size w w'
set_option maxRecDepth 100000 in
set_option maxHeartbeats 4000000 in
theorem cvalid_any (A : Option Addr) (n c : Nat) (f : Nat → Pt) (D : Nat → Prop) (w : World) (hsl : SlP w D A n f) (hn : n ≤ 9223372036854775807) :
    Calls Tryz.prog 36 #[.slice A n c] w (BoolPost (colV f n) w) := by
  have HO := Lib.hid hsl
  clear hsl
  go_enter Tryz.func36, Tryz.ntmps36
  go_wp2_with fail
  go_loopw [3, 8] (fun s3 i wr => ∃ k : Nat, k ≤ n ∧ i = .int .i64 k ∧ s3 = .int .i64 (colT f k) ∧ colAll f k = true ∧ Own w [] wr) (fun _ i _ => n - (intOf i).toNat)
  case atStart => exact ⟨0, Nat.zero_le _, rfl, rfl, rfl, Own.start w⟩
  case round =>
    obtain ⟨k, hk, rfl, rfl, hall, hS⟩ := hrel
    have HA := Lib.hid hall
    clear hall
    by_cases hlt : k < n
    · obtain ⟨b, off, rfl, -, hc⟩ := (HO.out.below hS.bel) (by omega)
      obtain ⟨k0, k1, k2⟩ := hc k hlt
      clear hc
      have HK := Lib.hid (colOk_iff f k)
      have HN := Lib.hid (fun h => colAll_not (f := f) (k := k) h n hlt)
      have HC : Hid (colT f (k + 1) = (f k).t) := Lib.hid rfl
      have HQ : Hid (colAll f (k + 1) = (colAll f k && colOk f k)) := Lib.hid rfl
      generalize hp : f k = p at k0 k1 k2 HK HC
      generalize hl : colT f k = last at HK ⊢
      have HP := Lib.hid (And.intro hp hl)
      clear hp hl
      obtain ⟨y, hy⟩ : ∃ y, y = wr.heap.size := ⟨_, rfl⟩
      have HY := Lib.hid (And.intro hy (hS.alloc hy 30 #[.int .i64 p.t, .int .i64 p.v, .int .i64 p.s]))
      clear hy hS
      go_upto_region 5 with (fail)
      rw [← HY.out.1]
      have hS := HY.out.2
      clear k0 k1 k2 HY
      refine wp_gen (Own w [(y, 30, #[.int .i64 p.t, .int .i64 p.v, .int .i64 p.s])]) hS ?_
      clear hS
      intro w1 hS
      have z0_0 := hS.cell 0 0 rfl rfl; have z0_1 := hS.cell 0 1 rfl rfl; have z0_2 := hS.cell 0 2 rfl rfl
      have HS := Lib.hid hS
      clear hS
      by_cases h1 : last < p.t
      · have d1 : decide (p.t ≤ last) = false := by simp; omega
        by_cases h2 : p.t ≤ 1152921504606846976
        · have d2 : decide (1152921504606846976 < p.t) = false := by simp; omega
          by_cases h3 : 0 ≤ p.s
          · have d3 : decide (p.s < 0) = false := by simp; omega
            by_cases h4 : p.s ≤ 1152921504606846976
            · have d4 : decide (1152921504606846976 < p.s) = false := by simp; omega
              have HT := Lib.hid (show colAll f (k + 1) = true by rw [HQ.out, HA.out, HK.out.2 ⟨h1, h2, h3, h4⟩]; rfl)
              clear h1 h2 h3 h4
              go_wp2_with fail
              go_roundw
              case rel => exact ⟨k + 1, by omega, by go_num, by rw [HC.out], HT.out, HS.out.take 0⟩
              case measure => simp [intOf]; omega
            · have d4 : decide (1152921504606846976 < p.s) = true := by simp; omega
              have HF := Lib.hid (show colV f n = false by
                unfold colV
                rw [HN.out (by
                  cases h : colOk f k with
                  | false => rfl
                  | true => have := HK.out.1 h; omega)]
                rfl)
              go_wp2_with fail
              go_ret
              exact ⟨by rw [HF.out]; rfl, HS.out.bel⟩
          · have d3 : decide (p.s < 0) = true := by simp; omega
            have HF := Lib.hid (show colV f n = false by
              unfold colV
              rw [HN.out (by
                cases h : colOk f k with
                | false => rfl
                | true => have := HK.out.1 h; omega)]
              rfl)
            go_wp2_with fail
            go_ret
            exact ⟨by rw [HF.out]; rfl, HS.out.bel⟩
        · have d2 : decide (1152921504606846976 < p.t) = true := by simp; omega
          have HF := Lib.hid (show colV f n = false by
            unfold colV
            rw [HN.out (by
              cases h : colOk f k with
              | false => rfl
              | true => have := HK.out.1 h; omega)]
            rfl)
          go_wp2_with fail
          go_ret
          exact ⟨by rw [HF.out]; rfl, HS.out.bel⟩
      · have d1 : decide (p.t ≤ last) = true := by simp; omega
        have HF := Lib.hid (show colV f n = false by
          unfold colV
          rw [HN.out (by
            cases h : colOk f k with
            | false => rfl
            | true => have := HK.out.1 h; omega)]
          rfl)
        go_wp2_with fail
        go_ret
        exact ⟨by rw [HF.out]; rfl, HS.out.bel⟩
    · obtain rfl : k = n := by omega
      have HF := Lib.hid (show colV f k = (decide (0 < k) && decide (k ≤ 4096)) by unfold colV; rw [HA.out]; rfl)
      have HB := Lib.hid hS.bel
      clear hS
      by_cases h0 : 0 < k
      · by_cases h1 : k ≤ 4096
        · have HR := Lib.hid (show colV f k = true by rw [HF.out]; simp [h0, h1])
          have d : decide ((k : Int) ≤ 4096) = true := by simp; omega
          go_wp2_with fail
          go_ret
          exact ⟨by rw [HR.out]; first | rfl | (simp only [Array.getD_eq_getD_getElem?]; simp; omega), HB.out⟩
        · have HR := Lib.hid (show colV f k = false by rw [HF.out]; simp [h1])
          have d : decide ((k : Int) ≤ 4096) = false := by simp; omega
          go_wp2_with fail
          go_ret
          exact ⟨by rw [HR.out]; first | rfl | (simp only [Array.getD_eq_getD_getElem?]; simp; omega), HB.out⟩
      · obtain rfl : k = 0 := by omega
        go_wp2_with fail
        go_ret
        exact ⟨rfl, HB.out⟩
end Go.Proofs.YtopbbicjbjmdnaaGreatDoor
