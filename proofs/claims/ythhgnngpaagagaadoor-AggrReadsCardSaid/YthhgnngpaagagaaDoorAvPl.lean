/-
  Aggregates as bytes and back, plainly: no program.
-/
import Derived.Test.YthhgnngpaagagaaDoorVrPl
import Derived.Test.YthhgnngpaagagaaDoorZag
import Derived.Test.YthhgnngpaagagaaDoorAgM
namespace Go.Proofs.YthhgnngpaagagaaDoor
open Go.RowKit
set_option linter.unusedVariables false
set_option linter.unusedSimpArgs false
/-- Where a reader stands behind k numbers, and what was wrong first. -/
def rdAt (l : List Nat) : Nat → Nat × Nat
  | 0 => (0, 0)
  | k + 1 => ((rdAt l k).1 + (vget (l.drop (rdAt l k).1)).2.1, if (rdAt l k).2 = 0 then (vget (l.drop (rdAt l k).1)).2.2 else (rdAt l k).2)
theorem rdAt_succ (l : List Nat) (k : Nat) : rdAt l (k + 1) = ((rdAt l k).1 + (vget (l.drop (rdAt l k).1)).2.1, if (rdAt l k).2 = 0 then (vget (l.drop (rdAt l k).1)).2.2 else (rdAt l k).2) := rfl
/-- The number that is read behind k numbers. -/
def rdVal (l : List Nat) (k : Nat) : Nat := (vget (l.drop (rdAt l k).1)).1
theorem rdVal_lt (l : List Nat) (k : Nat) : rdVal l k < 18446744073709551616 := (vget_lt _).1
theorem rdAt_le (l : List Nat) : ∀ k, (rdAt l k).1 ≤ l.length
  | 0 => Nat.zero_le _
  | k + 1 => by
    have h1 := rdAt_le l k
    have h2 := (vget_lt (l.drop (rdAt l k).1)).2.2
    rw [List.length_drop] at h2
    rw [rdAt_succ]
    show (rdAt l k).1 + _ ≤ _
    omega
theorem rdAt_e (l : List Nat) : ∀ k, (rdAt l k).2 ≤ 11
  | 0 => Nat.zero_le _
  | k + 1 => by
    have h1 := rdAt_e l k
    have h2 := vget_e (l.drop (rdAt l k).1)
    rw [rdAt_succ]
    show (if _ then _ else _) ≤ 11
    split
    · rcases h2 with h | ⟨h | h, -⟩ <;> omega
    · exact h1
theorem rdAt_keep (l : List Nat) (k : Nat) (h : (rdAt l k).2 ≠ 0) : ∀ j, (rdAt l (k + j)).2 = (rdAt l k).2
  | 0 => rfl
  | j + 1 => by
    have ih := rdAt_keep l k h j
    rw [← Nat.add_assoc, rdAt_succ]
    show (if _ then _ else _) = _
    rw [if_neg (by rw [ih]; exact h), ih]
/-- The numbers' texts, one behind the other. -/
def cat (us : List Nat) : List Nat := us.flatMap vput
theorem cat_append (us vs : List Nat) : cat (us ++ vs) = cat us ++ cat vs := by unfold cat; rw [List.flatMap_append]
theorem rd_back (us more : List Nat) (hu : ∀ u ∈ us, u < 18446744073709551616) : ∀ k, k ≤ us.length → rdAt (cat us ++ more) k = ((cat (us.take k)).length, 0) ∧ ∀ u, us[k]? = some u → rdVal (cat us ++ more) k = u
  | k, hk => by
    have val : rdAt (cat us ++ more) k = ((cat (us.take k)).length, 0) → ∀ u, us[k]? = some u → vget ((cat us ++ more).drop (rdAt (cat us ++ more) k).1) = (u, (vput u).length, 0) := by
      intro h u hku
      have hlt : k < us.length := (List.getElem?_eq_some_iff.1 hku).1
      have e : us = us.take k ++ (u :: us.drop (k + 1)) := by
        conv => lhs; rw [← List.take_append_drop k us]
        rw [List.drop_eq_getElem_cons hlt]
        have := (List.getElem?_eq_some_iff.1 hku).2
        rw [this]
      rw [h]
      show vget ((cat us ++ more).drop (cat (us.take k)).length) = _
      conv => lhs; rw [e]
      rw [cat_append, List.append_assoc, List.take_append_of_le_length (by rw [List.length_take]; omega), List.take_take, Nat.min_self, List.drop_left]
      have e2 : cat (u :: us.drop (k + 1)) = vput u ++ cat (us.drop (k + 1)) := rfl
      rw [e2, List.append_assoc, vget_vput u _ (hu u (List.mem_of_getElem? hku))]
    have main : rdAt (cat us ++ more) k = ((cat (us.take k)).length, 0) := by
      match k, hk with
      | 0, _ => rfl
      | k + 1, hk =>
        obtain ⟨h1, h2⟩ := rd_back us more hu k (by omega)
        have hlt : k < us.length := by omega
        have hget : us[k]? = some us[k] := List.getElem?_eq_getElem hlt
        have hv : vget ((cat us ++ more).drop (rdAt (cat us ++ more) k).1) = (us[k], (vput us[k]).length, 0) := by
          have e : us = us.take k ++ (us[k] :: us.drop (k + 1)) := by
            conv => lhs; rw [← List.take_append_drop k us]
            rw [List.drop_eq_getElem_cons hlt]
          rw [h1]
          show vget ((cat us ++ more).drop (cat (us.take k)).length) = _
          have e3 : cat us ++ more = cat (us.take k) ++ (vput us[k] ++ (cat (us.drop (k + 1)) ++ more)) := by
            conv => lhs; rw [e]
            rw [cat_append, List.append_assoc]
            show _ ++ ((vput us[k] ++ cat (us.drop (k + 1))) ++ more) = _
            rw [List.append_assoc]
          rw [e3, List.drop_left, vget_vput _ _ (hu _ (List.getElem_mem hlt))]
        rw [rdAt_succ, hv, h1]
        show ((cat (us.take k)).length + (vput us[k]).length, 0) = _
        rw [List.take_succ_eq_append_getElem hlt, cat_append, List.length_append]
        show _ = (_ + (vput us[k] ++ []).length, 0)
        rw [List.append_nil]
    refine ⟨main, fun u hku => ?_⟩
    unfold rdVal
    rw [val main u hku]
theorem rd_cut (us : List Nat) (u : Nat) (hu : ∀ v ∈ us, v < 18446744073709551616) (h : u < 18446744073709551616) (m : Nat) (hm : m < (vput u).length) : (rdAt (cat us ++ (vput u).take m) (us.length + 1)).2 = 10 ∧ ∀ k v, us[k]? = some v → rdVal (cat us ++ (vput u).take m) k = v := by
  obtain ⟨h1, -⟩ := rd_back us ((vput u).take m) hu us.length (Nat.le_refl _)
  refine ⟨?_, fun k v hk => (rd_back us ((vput u).take m) hu k (Nat.le_of_lt (List.getElem?_eq_some_iff.1 hk).1)).2 v hk⟩
  rw [rdAt_succ, h1]
  simp only [if_true]
  show (vget ((cat us ++ (vput u).take m).drop (cat (us.take us.length)).length)).2.2 = 10
  rw [List.take_length, List.drop_left, vget_cut u m hm h]
/-- An aggregate's numbers. -/
def aggNums (a : Ag) : List Nat := [zig a.lo, zig a.hi, zig a.f.t, zig a.f.v, zig a.f.s, zig a.l.t, zig a.l.v, zig a.l.s]
def aggUs (a : Ag) : List Nat := (a.n % 18446744073709551616).toNat :: if a.n = 0 then [] else zig (hiOf a.s) :: (loOf a.s).toNat :: aggNums a
def aput (a : Ag) : List Nat := cat (aggUs a)
/-- What is read of bytes. -/
def aggRd (l : List Nat) : Ag := ⟨IntKind.i64.wrap (rdVal l 0), zag (rdVal l 1) * 18446744073709551616 + (rdVal l 2 : Nat), zag (rdVal l 3), zag (rdVal l 4), ⟨zag (rdVal l 5), zag (rdVal l 6), zag (rdVal l 7)⟩, ⟨zag (rdVal l 8), zag (rdVal l 9), zag (rdVal l 10)⟩⟩
def aget (l : List Nat) : Ag × Nat × Nat :=
  if IntKind.i64.wrap (rdVal l 0) = 0 then (if (rdAt l 1).2 ≠ 0 then (zeroA, 0, (rdAt l 1).2) else (zeroA, (rdAt l 1).1, 0))
  else if (rdAt l 11).2 ≠ 0 then (zeroA, 0, (rdAt l 11).2) else if validA (aggRd l) = true then (aggRd l, (rdAt l 11).1, 0) else (zeroA, 0, 11)
theorem aget_zero {l : List Nat} (h : IntKind.i64.wrap (rdVal l 0) = 0) : aget l = if (rdAt l 1).2 ≠ 0 then (zeroA, 0, (rdAt l 1).2) else (zeroA, (rdAt l 1).1, 0) := by unfold aget; rw [if_pos h]
theorem aget_some {l : List Nat} (h : IntKind.i64.wrap (rdVal l 0) ≠ 0) : aget l = if (rdAt l 11).2 ≠ 0 then (zeroA, 0, (rdAt l 11).2) else if validA (aggRd l) = true then (aggRd l, (rdAt l 11).1, 0) else (zeroA, 0, 11) := by unfold aget; rw [if_neg h]
theorem u64_back {n : Int} (h : I64 n) : (n % 18446744073709551616).toNat < 18446744073709551616 ∧ IntKind.i64.wrap (((n % 18446744073709551616).toNat : Nat) : Int) = n := by
  unfold I64 at h
  refine ⟨by omega, ?_⟩
  rw [IntKind.wrap_i64]; omega
structure AgFull (a : Ag) : Prop where
  ok : AgOk a
  f : PtOk a.f
  l : PtOk a.l
theorem aggUs_lt {a : Ag} (h : AgFull a) : ∀ u ∈ aggUs a, u < 18446744073709551616 := by
  obtain ⟨⟨h1, h2, h3, h4⟩, ⟨h5, h6, h7⟩, ⟨h8, h9, h10⟩⟩ := h
  have hh := h2.hi
  have l0 := loOf_nonneg a.s
  have l1 := loOf_lt a.s
  unfold I64 at *
  intro u hu
  unfold aggUs aggNums at hu
  by_cases h0 : a.n = 0
  · rw [if_pos h0] at hu
    simp at hu
    omega
  · rw [if_neg h0] at hu
    simp only [List.mem_cons, List.not_mem_nil, or_false] at hu
    rcases hu with rfl | rfl | rfl | rfl | rfl | rfl | rfl | rfl | rfl | rfl | rfl
    · omega
    · exact zig_lt hh.1 hh.2
    · omega
    · exact zig_lt h3.1 h3.2
    · exact zig_lt h4.1 h4.2
    · exact zig_lt h5.1 h5.2
    · exact zig_lt h6.1 h6.2
    · exact zig_lt h7.1 h7.2
    · exact zig_lt h8.1 h8.2
    · exact zig_lt h9.1 h9.2
    · exact zig_lt h10.1 h10.2
theorem aggUs_some {a : Ag} (h : a.n ≠ 0) : aggUs a = [(a.n % 18446744073709551616).toNat, zig (hiOf a.s), (loOf a.s).toNat, zig a.lo, zig a.hi, zig a.f.t, zig a.f.v, zig a.f.s, zig a.l.t, zig a.l.v, zig a.l.s] := by
  unfold aggUs aggNums
  rw [if_neg h]
theorem aput_zero {a : Ag} (h : a.n = 0) : aput a = vput 0 := by
  unfold aput aggUs
  rw [if_pos h, h]
  show vput _ ++ [] = _
  rw [List.append_nil]
  rfl
theorem aget_full {a : Ag} (h : AgFull a) (hv : validA a = true) (h0 : a.n ≠ 0) (L : List Nat) (q : Nat) (v0 : rdVal L 0 = (a.n % 18446744073709551616).toNat) (v1 : rdVal L 1 = zig (hiOf a.s)) (v2 : rdVal L 2 = (loOf a.s).toNat)
    (v3 : rdVal L 3 = zig a.lo) (v4 : rdVal L 4 = zig a.hi) (v5 : rdVal L 5 = zig a.f.t) (v6 : rdVal L 6 = zig a.f.v) (v7 : rdVal L 7 = zig a.f.s) (v8 : rdVal L 8 = zig a.l.t) (v9 : rdVal L 9 = zig a.l.v) (v10 : rdVal L 10 = zig a.l.s)
    (r11 : rdAt L 11 = (q, 0)) : aget L = (a, q, 0) := by
  obtain ⟨b1, b2⟩ := u64_back h.ok.1
  have hl := hilo a.s
  have l0 := loOf_nonneg a.s
  have ha : aggRd L = a := by
    unfold aggRd
    rw [v0, v1, v2, v3, v4, v5, v6, v7, v8, v9, v10, b2]
    simp only [zag_zig]
    rw [show hiOf a.s * 18446744073709551616 + (((loOf a.s).toNat : Nat) : Int) = a.s by omega]
  rw [aget_some (by rw [v0, b2]; exact h0), r11, if_neg (by simp), ha, if_pos hv]
theorem aget_aput {a : Ag} (h : AgFull a) (hv : validA a = true) (hz : a.n = 0 → a = zeroA) (more : List Nat) : aget (aput a ++ more) = (a, (aput a).length, 0) := by
  have hu := aggUs_lt h
  by_cases h0 : a.n = 0
  · have ha := hz h0
    have e : aput a = cat [0] := by rw [aput_zero h0]; show _ = vput 0 ++ []; rw [List.append_nil]
    obtain ⟨-, v0⟩ := rd_back [0] more (by simp) 0 (by simp)
    obtain ⟨r1, -⟩ := rd_back [0] more (by simp) 1 (by simp)
    rw [e]
    have v0 := v0 0 rfl
    rw [aget_zero (by rw [v0]; rfl), r1]
    rw [if_neg (by simp), ha]
    rfl
  · have e := aggUs_some h0
    have rd := fun k hk => rd_back (aggUs a) more hu k hk
    have hlen : (aggUs a).length = 11 := by rw [e]; rfl
    obtain ⟨-, v0⟩ := rd 0 (by omega)
    obtain ⟨-, v1⟩ := rd 1 (by omega)
    obtain ⟨-, v2⟩ := rd 2 (by omega)
    obtain ⟨-, v3⟩ := rd 3 (by omega)
    obtain ⟨-, v4⟩ := rd 4 (by omega)
    obtain ⟨-, v5⟩ := rd 5 (by omega)
    obtain ⟨-, v6⟩ := rd 6 (by omega)
    obtain ⟨-, v7⟩ := rd 7 (by omega)
    obtain ⟨-, v8⟩ := rd 8 (by omega)
    obtain ⟨-, v9⟩ := rd 9 (by omega)
    obtain ⟨-, v10⟩ := rd 10 (by omega)
    obtain ⟨r11, -⟩ := rd 11 (by omega)
    have v0 := v0 _ (by rw [e]; rfl)
    have v1 := v1 _ (by rw [e]; rfl)
    have v2 := v2 _ (by rw [e]; rfl)
    have v3 := v3 _ (by rw [e]; rfl)
    have v4 := v4 _ (by rw [e]; rfl)
    have v5 := v5 _ (by rw [e]; rfl)
    have v6 := v6 _ (by rw [e]; rfl)
    have v7 := v7 _ (by rw [e]; rfl)
    have v8 := v8 _ (by rw [e]; rfl)
    have v9 := v9 _ (by rw [e]; rfl)
    have v10 := v10 _ (by rw [e]; rfl)
    have hfin := aget_full h hv h0 (cat (aggUs a) ++ more) _ v0 v1 v2 v3 v4 v5 v6 v7 v8 v9 v10 r11
    unfold aput
    rw [hfin, List.take_of_length_le (by omega)]
theorem aput_len {a : Ag} (h : AgFull a) : 1 ≤ (aput a).length ∧ (aput a).length ≤ 110 := by
  have hu := aggUs_lt h
  have hc : ∀ us : List Nat, (∀ u ∈ us, u < 18446744073709551616) → (cat us).length ≤ 10 * us.length := by
    intro us
    induction us with
    | nil => intro _; simp [cat]
    | cons u us ih =>
      intro h
      have h1 := ih (fun v hv => h v (List.mem_cons_of_mem _ hv))
      have h2 := vput_len10 (h u (by simp))
      show (vput u ++ cat us).length ≤ _
      rw [List.length_append, List.length_cons]
      omega
  have h1 := hc _ hu
  have h2 : (aggUs a).length ≤ 11 := by unfold aggUs aggNums; split <;> simp
  have h3 : 1 ≤ (aput a).length := by
    have := vput_pos (a.n % 18446744073709551616).toNat
    show 1 ≤ (vput _ ++ cat _).length
    rw [List.length_append]
    omega
  unfold aput at *
  omega
theorem aput_byte (a : Ag) : ∀ b ∈ aput a, b < 256 := by
  intro b hb
  unfold aput cat at hb
  obtain ⟨u, -, hu⟩ := List.mem_flatMap.1 hb
  exact vput_byte u b hu
theorem cut_last (us : List Nat) (u : Nat) : ∃ m, m < (vput u).length ∧ (cat (us ++ [u])).take ((cat (us ++ [u])).length - 1) = cat us ++ (vput u).take m := by
  have hp := vput_pos u
  have e : cat (us ++ [u]) = cat us ++ vput u := by rw [cat_append]; show _ ++ (vput u ++ []) = _; rw [List.append_nil]
  refine ⟨(vput u).length - 1, by omega, ?_⟩
  rw [e, List.length_append, List.take_append, List.take_of_length_le (by omega), show (cat us).length + (vput u).length - 1 - (cat us).length = (vput u).length - 1 by omega]
theorem aget_cut {a : Ag} (h : AgFull a) : aget ((aput a).take ((aput a).length - 1)) = (zeroA, 0, 10) := by
  have hu := aggUs_lt h
  by_cases h0 : a.n = 0
  · obtain ⟨m, hm, e⟩ := cut_last [] 0
    have e1 : aput a = cat ([] ++ [0]) := by rw [aput_zero h0]; show _ = vput 0 ++ []; rw [List.append_nil]
    rw [e1, e]
    obtain ⟨r1, -⟩ := rd_cut [] 0 (by simp) (by omega) m hm
    have r1 : (rdAt (cat [] ++ (vput 0).take m) 1).2 = 10 := r1
    have v0 : rdVal (cat [] ++ (vput 0).take m) 0 = 0 := by
      show (vget ((vput 0).take m)).1 = 0
      rw [vget_cut 0 m hm (by omega)]
    rw [aget_zero (by rw [v0]; rfl), r1, if_pos (by simp)]
  · have e0 := aggUs_some h0
    obtain ⟨us, u, hus, hlen⟩ : ∃ us u, aggUs a = us ++ [u] ∧ us.length = 10 := ⟨[_, _, _, _, _, _, _, _, _, _], _, e0, rfl⟩
    obtain ⟨m, hm, e⟩ := cut_last us u
    unfold aput
    rw [hus, e]
    obtain ⟨r1, v⟩ := rd_cut us u (fun v hv => hu v (by rw [hus]; simp [hv])) (hu u (by rw [hus]; simp)) m hm
    rw [hlen] at r1
    have v0 := v 0 (a.n % 18446744073709551616).toNat (by
      have : (aggUs a)[0]? = some (a.n % 18446744073709551616).toNat := by rw [e0]; rfl
      rw [hus, List.getElem?_append_left (by omega)] at this
      exact this)
    have b2 := (u64_back h.ok.1).2
    rw [aget_some (by rw [v0, b2]; exact h0), r1, if_pos (by simp)]
end Go.Proofs.YthhgnngpaagagaaDoor
