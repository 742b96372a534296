/-
  The walk of the law BitsPieces. (Printed by genBitsPieces.py.)
-/
import Derived.Test.YtgphdigcilbnlaaBitsBy
import Derived.Test.YtgphdigcilbnlaaBitsRr
import Derived.Test.YtgphdigcilbnlaaPackB
import Derived.Test.YtgphdigcilbnlaaReg
import Derived.Test.YtgphdigcilbnlaaConv
namespace Go.Proofs.Ytgphdigcilbnlaa
open Go.RowKit
set_option linter.unusedSimpArgs false
set_option linter.unusedVariables false
theorem put_fit (w : World) (a : Nat) (g : Option Nat) (L : List Nat) (v n : Int) (h : Wr w a g L) (h0 : 0 ≤ v) (hv : v < 18446744073709551616) (n0 : 0 ≤ n) (n64 : n ≤ 64) (hl : (L.length : Int) + 64 ≤ 8388608) :
    Calls Try.prog 21 #[.pointer (some ⟨a, 0, none⟩), .int .u64 v, .int .i64 n] w (PutPost w a g (L ++ bitsTo v.toNat n.toNat n.toNat) 0) := by
  obtain ⟨v, rfl⟩ := Int.eq_ofNat_of_zero_le h0
  obtain ⟨n, rfl⟩ := Int.eq_ofNat_of_zero_le n0
  exact put_ok w a g L v n h (by omega) (by omega) (by omega)
theorem and_mask_walk (x a : Nat) (hx : x < 18446744073709551616) (ha : a < 64) : bits .and .u64 (x : Int) (IntKind.u64.wrap (IntKind.u64.wrap ((2 : Int) ^ a) - 1)) = (x : Int) % 2 ^ a := by
  have hp : 2 ^ a ≤ 2 ^ 63 := Nat.pow_le_pow_right (by omega) (by omega)
  have h0 : 0 < 2 ^ a := Nat.pow_pos (by omega)
  have e : IntKind.u64.wrap (IntKind.u64.wrap ((2 : Int) ^ a) - 1) = ((2 ^ a - 1 : Nat) : Int) := by
    rw [pow_cast, IntKind.wrap_u64, IntKind.wrap_u64]
    omega
  rw [e, and_mask_u64 x a hx ha, pow_cast]
  rfl
theorem wr_wr {w w' : World} {x y : Nat} {g g' : Option Nat} {L M : List Nat} (hx : Wr w x g L) (hy : Wr w y g' M) (hxy : x ≠ y) (hg : ∀ k, g = some k → g' ≠ some k) (hk : Keeps (fun k => k = y ∨ some k = g') w w') : Wr w' x g L := by
  obtain ⟨h1, h2, v, hv, hb, ho⟩ := hx
  obtain ⟨_, _, v', hv', hb', ho'⟩ := hy
  refine Wr.keeps ⟨h1, h2, v, hv, hb, ho⟩ hk ?_ ?_
  · rintro (e | e)
    · exact hxy e
    · exact own_ne ho' hb (by decide) (hv'.trans e.symm)
  · rintro k hk' (e | e)
    · exact own_ne ho hb' (by decide) (by rw [hv, hk', e])
    · exact hg k hk' e.symm
theorem keeps_new {w0 w w' : World} {x : Nat} {g : Option Nat} (h : Keeps (fun _ => False) w0 w) (hk : Keeps (fun k => k = x ∨ some k = g) w w') (hx : w0.heap.size ≤ x) (hg : ∀ q, g = some q → w0.heap.size ≤ q) : Keeps (fun _ => False) w0 w' :=
  h.trans hk (fun k hk' e => by
    rcases e with e | e
    · omega
    · have := hg k e.symm; omega)
theorem moved_new {w0 w : World} {g g' : Option Nat} (hm : Moved w g g') (hs : w0.heap.size ≤ w.heap.size) (hg : ∀ q, g = some q → w0.heap.size ≤ q) : ∀ q, g' = some q → w0.heap.size ≤ q := by
  intro q hq
  rcases hm with h | ⟨k, h, hk⟩
  · exact hg q (h ▸ hq)
  · rw [hq] at h; injection h with h; omega
theorem moved_ne {w : World} {x : Nat} {g g1 g2 : Option Nat} {L : List Nat} (hx : Wr w x g L) (hm : Moved w g1 g2) (hg : ∀ k, g = some k → g1 ≠ some k) : ∀ k, g = some k → g2 ≠ some k := by
  intro k hk e
  rcases hm with h | ⟨q, h, hq⟩
  · exact hg k hk (h ▸ e)
  · rw [e] at h; injection h with h
    subst hk
    have := hx.glt
    omega
theorem sl_of_bytes {w : World} {base c n : Nat} {A : Option Addr} {bs : List Nat} (ho : w.ownsRow base 5 1 (.slice A n c) n (bs.map byteV)) : Sl w (fun k => base ≤ k ∧ k < w.heap.size) A n (byteC bs) := by
  refine (Sl.of_own (f := byteC bs) ho ?_).mono (fun k hk => ho.lt k hk)
  intro j u hu
  rw [List.getElem?_map] at hu
  cases hb : bs[j]? with
  | none => rw [hb] at hu; cases hu
  | some b =>
    rw [hb] at hu
    simp at hu
    unfold byteC
    rw [List.getD_eq_getElem?_getD, hb, ← hu]
    rfl

set_option maxRecDepth 100000 in
set_option maxHeartbeats 4000000 in
theorem bitsPieces_walk (a0 a1 a2 : Int) (w : World) (w0 : (Lit.int .u64 a0).wf = true) (w1 : (Lit.int .i64 a1).wf = true) (w2 : (Lit.int .i64 a2).wf = true) :
    Calls Try.prog 6 #[.int .u64 a0, .int .i64 a1, .int .i64 a2] w fun e w' => e = .returned (.bool true) ∧ Below w.heap.size w w' := by
  obtain ⟨hv0, hv1⟩ := bounds_u64 w0
  clear w0 w1 w2
  obtain ⟨v, rfl⟩ := Int.eq_ofNat_of_zero_le hv0
  have hvn : v < 18446744073709551616 := by omega
  obtain ⟨a, ha⟩ : ∃ a : Nat, a = (a1 % 32).toNat := ⟨_, rfl⟩
  obtain ⟨b, hb⟩ : ∃ b : Nat, b = (a2 % 32).toNat := ⟨_, rfl⟩
  have ha31 : a ≤ 31 := by omega
  have hb31 : b ≤ 31 := by omega
  have e1 : bits .and .i64 a1 31 = (a : Int) := by rw [and_31, ha]
  have e2 : bits .and .i64 a2 31 = (b : Int) := by rw [and_31, hb]
  have e3 : IntKind.i64.wrap ((a : Int) + b) = (a : Int) + b := IntWalk.i64_in _ (by omega)
  have e5 : IntKind.u64.wrap (b : Int) = (b : Int) := by rw [IntKind.wrap_u64]; omega
  have e6 : min b 64 = b := by omega
  clear ha hb
  have hdv : v / 2 ^ b < 18446744073709551616 := Nat.lt_of_le_of_lt (Nat.div_le_self _ _) hvn
  obtain ⟨d, hd⟩ : ∃ d, d = v / 2 ^ b := ⟨_, rfl⟩
  have e4 : (v : Int) / 2 ^ b = (d : Int) := by rw [hd]; exact div_cast v b
  rw [← hd] at hdv
  obtain ⟨M, hM⟩ : ∃ M, M = bitsTo v (a + b) (a + b) := ⟨_, rfl⟩
  have hML : M.length = a + b := by rw [hM, bitsTo_length]
  have hMi : ((M.length : Nat) : Int) = (a : Int) + b := by rw [hML]; simp
  have hMM : bitsTo d a a ++ bitsTo v b b = M := by rw [hM, hd, bitsTo_split]
  have hbit : ∀ j, M.getD j 0 < 2 := by rw [hM]; exact bitsTo_bit _ _ _
  have HM := Lib.hid (And.intro hM (And.intro hd (And.intro hML (And.intro hMM hbit))))
  clear hM hd hML hMM hbit
  go_enter Try.func6, Try.ntmps6
  go_wp2_with fail
  refine (newWriter_any _).mono ?_
  rintro e w1 ⟨rfl, hx1, hk1⟩
  go_wp2_with fail
  refine (newWriter_any _).mono ?_
  rintro e w2 ⟨rfl, hy2, hk2⟩
  have hx2 := hx1.keeps hk2 (fun h => h) (fun _ _ h => h)
  have hlt : w.heap.size < w1.heap.size := hx1.lt
  obtain ⟨x, hx⟩ : ∃ x, x = w.heap.size := ⟨_, rfl⟩
  obtain ⟨y, hy⟩ : ∃ y, y = w1.heap.size := ⟨_, rfl⟩
  rw [← hx] at hx2
  rw [← hy] at hy2
  rw [← hx, ← hy]
  have H2 := Lib.hid (And.intro hx2 (And.intro hy2 (And.intro (hk1.trans' hk2) (show x ≠ y ∧ w.heap.size ≤ x ∧ w.heap.size ≤ y by omega))))
  clear hx1 hk1 hy2 hk2 hx2 hlt hx hy
  go_wp2_with fail
  have hS : (fun _ : World => True) (w2.drew) := trivial
  refine reg_start (fun _ : World => True) (by kernel_rfl) hS ?_
  refine reg_take (i := 0) (v := ?_) rfl (by kernel_rfl) (by kernel_rfl) (by kernel_rfl) (fun _ _ _ h => h) (Or.inl ⟨by kernel_rfl, ?_⟩) hS ?_
  rotate_left
  · (intro w' hSw; go_simp <;> with_reducible rfl)
  try simp only [Act.put, List.setIfInBounds_toArray, List.set_cons_zero, List.set_cons_succ]
  refine reg_take (i := 1) (v := ?_) rfl (by kernel_rfl) (by kernel_rfl) (by kernel_rfl) (fun _ _ _ h => h) (Or.inl ⟨by kernel_rfl, ?_⟩) hS ?_
  rotate_left
  · (intro w' hSw; go_simp <;> with_reducible rfl)
  try simp only [Act.put, List.setIfInBounds_toArray, List.set_cons_zero, List.set_cons_succ]
  refine reg_take (i := 2) (v := ?_) rfl (by kernel_rfl) (by kernel_rfl) (by kernel_rfl) (fun _ _ _ h => h) (Or.inl ⟨by kernel_rfl, ?_⟩) hS ?_
  rotate_left
  · (intro w' hSw; go_simp <;> with_reducible rfl)
  try simp only [Act.put, List.setIfInBounds_toArray, List.set_cons_zero, List.set_cons_succ]
  refine reg_take (i := 3) (v := ?_) rfl (by kernel_rfl) (by kernel_rfl) (by kernel_rfl) (fun _ _ _ h => h) (Or.inl ⟨by kernel_rfl, ?_⟩) hS ?_
  rotate_left
  · (intro w' hSw; go_simp <;> with_reducible rfl)
  try simp only [Act.put, List.setIfInBounds_toArray, List.set_cons_zero, List.set_cons_succ]
  refine reg_take (i := 4) (v := ?_) rfl (by kernel_rfl) (by kernel_rfl) (by kernel_rfl) (fun _ _ _ h => h) (Or.inl ⟨by kernel_rfl, ?_⟩) hS ?_
  rotate_left
  · (intro w' hSw; go_simp <;> with_reducible rfl)
  try simp only [Act.put, List.setIfInBounds_toArray, List.set_cons_zero, List.set_cons_succ]
  refine reg_call (i := 5) rfl (by kernel_rfl) (fun K hK => ?_)
  have HK := Lib.hid hK
  clear hK
  go_simp
  refine (put_fit _ _ _ _ _ _ (H2.out.1.drewN 1) (by omega) (by omega) (by omega) (by omega) (by simp)).mono ?_
  rintro e w3 ⟨rfl, g3, hx3, hk3, hm3⟩
  obtain ⟨hx2, hy2, hkk, hne, hxB, hyB⟩ := H2.out
  rw [List.nil_append, show ((v : Int)).toNat = v from rfl, show ((a : Int) + b).toNat = a + b from by omega, ← HM.out.1] at hx3
  have hkd := Keeps.trans' ((Keeps.refl _ w2).drew) hk3
  have hy3 := wr_wr hy2 hx2 (fun e => hne e.symm) (fun _ h => by cases h) hkd
  have hK3 := keeps_new hkk hkd hxB (fun _ h => by cases h)
  have H3 := Lib.hid (And.intro hx3 (And.intro hy3 hK3))
  clear hx2 hy2 hkk hne hxB hyB hx3 hk3 hm3 hkd hy3 hK3
  go_wp2_with fail
  refine HK.out.to (fun _ : World => True) (fun _ _ => trivial) (trivial) ?_
  clear HK hS
  have hS : (fun _ : World => True) (w3) := trivial
  try simp only [Act.put, List.setIfInBounds_toArray, List.set_cons_zero, List.set_cons_succ]
  refine reg_take (i := 6) (v := ?_) rfl (by kernel_rfl) (by kernel_rfl) (by kernel_rfl) (fun _ _ _ h => h) (Or.inl ⟨by kernel_rfl, ?_⟩) hS ?_
  rotate_left
  · (intro w' hSw; go_simp <;> with_reducible rfl)
  try simp only [Act.put, List.setIfInBounds_toArray, List.set_cons_zero, List.set_cons_succ]
  refine reg_take (i := 7) (v := ?_) rfl (by kernel_rfl) (by kernel_rfl) (by kernel_rfl) (fun _ _ _ h => h) (Or.inl ⟨by kernel_rfl, ?_⟩) hS ?_
  rotate_left
  · (intro w' hSw; go_simp <;> with_reducible rfl)
  try simp only [Act.put, List.setIfInBounds_toArray, List.set_cons_zero, List.set_cons_succ]
  refine reg_take (i := 8) (v := ?_) rfl (by kernel_rfl) (by kernel_rfl) (by kernel_rfl) (fun _ _ _ h => h) (Or.inl ⟨by kernel_rfl, ?_⟩) hS ?_
  rotate_left
  · (intro w' hSw; go_simp <;> with_reducible rfl)
  try simp only [Act.put, List.setIfInBounds_toArray, List.set_cons_zero, List.set_cons_succ]
  refine reg_take (i := 9) (v := ?_) rfl (by kernel_rfl) (by kernel_rfl) (by kernel_rfl) (fun _ _ _ h => h) (Or.inl ⟨by kernel_rfl, ?_⟩) hS ?_
  rotate_left
  · (intro w' hSw; go_simp <;> with_reducible rfl)
  try simp only [Act.put, List.setIfInBounds_toArray, List.set_cons_zero, List.set_cons_succ]
  refine reg_take (i := 10) (v := ?_) rfl (by kernel_rfl) (by kernel_rfl) (by kernel_rfl) (fun _ _ _ h => h) (Or.inl ⟨by kernel_rfl, ?_⟩) hS ?_
  rotate_left
  · (intro w' hSw; go_simp <;> with_reducible rfl)
  try simp only [Act.put, List.setIfInBounds_toArray, List.set_cons_zero, List.set_cons_succ]
  refine reg_take (i := 11) (v := ?_) rfl (by kernel_rfl) (by kernel_rfl) (by kernel_rfl) (fun _ _ _ h => h) (Or.inl ⟨by kernel_rfl, ?_⟩) hS ?_
  rotate_left
  · (intro w' hSw; go_simp <;> with_reducible rfl)
  try simp only [Act.put, List.setIfInBounds_toArray, List.set_cons_zero, List.set_cons_succ]
  refine reg_take (i := 12) (v := ?_) rfl (by kernel_rfl) (by kernel_rfl) (by kernel_rfl) (fun _ _ _ h => h) (Or.inl ⟨by kernel_rfl, ?_⟩) hS ?_
  rotate_left
  · (intro w' hSw; go_simp <;> with_reducible rfl)
  try simp only [Act.put, List.setIfInBounds_toArray, List.set_cons_zero, List.set_cons_succ]
  refine reg_take (i := 13) (v := ?_) rfl (by kernel_rfl) (by kernel_rfl) (by kernel_rfl) (fun _ _ _ h => h) (Or.inl ⟨by kernel_rfl, ?_⟩) hS ?_
  rotate_left
  · (intro w' hSw; go_simp <;> with_reducible rfl)
  try simp only [Act.put, List.setIfInBounds_toArray, List.set_cons_zero, List.set_cons_succ]
  refine reg_call (i := 14) rfl (by kernel_rfl) (fun K hK => ?_)
  have HK := Lib.hid hK
  clear hK
  go_simp
  refine (put_fit _ _ _ _ _ _ H3.out.2.1 (by omega) (by omega) (by omega) (by omega) (by simp)).mono ?_
  rintro e w4 ⟨rfl, g4, hy4, hk4, hm4⟩
  obtain ⟨hx3, hy3, hK3⟩ := H3.out
  obtain ⟨-, -, -, hne, hxB, hyB⟩ := H2.out
  rw [List.nil_append, show ((d : Int)).toNat = d from rfl, show ((a : Int)).toNat = a from rfl] at hy4
  have hx4 := wr_wr hx3 hy3 hne (fun _ _ h => by cases h) hk4
  have hK4 := keeps_new hK3 hk4 hyB (fun _ h => by cases h)
  have hg4 := moved_new (w0 := w) hm4 hK3.size (fun _ h => by cases h)
  have hng := moved_ne hx3 hm4 (fun _ _ h => by cases h)
  have H4 := Lib.hid (And.intro hx4 (And.intro hy4 (And.intro hK4 (And.intro hg4 hng))))
  clear hx3 hy3 hK3 hne hxB hyB hy4 hk4 hm4 hx4 hK4 hg4 hng H3
  go_wp2_with fail
  refine HK.out.to (fun _ : World => True) (fun _ _ => trivial) (trivial) ?_
  clear HK hS
  have hS : (fun _ : World => True) (w4) := trivial
  try simp only [Act.put, List.setIfInBounds_toArray, List.set_cons_zero, List.set_cons_succ]
  refine reg_take (i := 15) (v := ?_) rfl (by kernel_rfl) (by kernel_rfl) (by kernel_rfl) (fun _ _ _ h => h) (Or.inl ⟨by kernel_rfl, ?_⟩) hS ?_
  rotate_left
  · (intro w' hSw; go_simp <;> with_reducible rfl)
  try simp only [Act.put, List.setIfInBounds_toArray, List.set_cons_zero, List.set_cons_succ]
  refine reg_take (i := 16) (v := ?_) rfl (by kernel_rfl) (by kernel_rfl) (by kernel_rfl) (fun _ _ _ h => h) (Or.inl ⟨by kernel_rfl, ?_⟩) hS ?_
  rotate_left
  · (intro w' hSw; go_simp <;> with_reducible rfl)
  try simp only [Act.put, List.setIfInBounds_toArray, List.set_cons_zero, List.set_cons_succ]
  refine reg_take (i := 17) (v := ?_) rfl (by kernel_rfl) (by kernel_rfl) (by kernel_rfl) (fun _ _ _ h => h) (Or.inl ⟨by kernel_rfl, ?_⟩) hS ?_
  rotate_left
  · (intro w' hSw; go_simp <;> with_reducible rfl)
  try simp only [Act.put, List.setIfInBounds_toArray, List.set_cons_zero, List.set_cons_succ]
  refine reg_take (i := 18) (v := ?_) rfl (by kernel_rfl) (by kernel_rfl) (by kernel_rfl) (fun _ _ _ h => h) (Or.inl ⟨by kernel_rfl, ?_⟩) hS ?_
  rotate_left
  · (intro w' hSw; go_simp <;> with_reducible rfl)
  try simp only [Act.put, List.setIfInBounds_toArray, List.set_cons_zero, List.set_cons_succ]
  refine reg_take (i := 19) (v := ?_) rfl (by kernel_rfl) (by kernel_rfl) (by kernel_rfl) (fun _ _ _ h => h) (Or.inl ⟨by kernel_rfl, ?_⟩) hS ?_
  rotate_left
  · (intro w' hSw; go_simp <;> with_reducible rfl)
  try simp only [Act.put, List.setIfInBounds_toArray, List.set_cons_zero, List.set_cons_succ]
  refine reg_take (i := 20) (v := ?_) rfl (by kernel_rfl) (by kernel_rfl) (by kernel_rfl) (fun _ _ _ h => h) (Or.inl ⟨by kernel_rfl, ?_⟩) hS ?_
  rotate_left
  · (intro w' hSw; go_simp <;> with_reducible rfl)
  try simp only [Act.put, List.setIfInBounds_toArray, List.set_cons_zero, List.set_cons_succ]
  refine reg_call (i := 21) rfl (by kernel_rfl) (fun K hK => ?_)
  have HK := Lib.hid hK
  clear hK
  go_simp
  refine (put_fit _ _ _ _ _ _ H4.out.2.1 (by omega) (by omega) (by omega) (by omega) (by rw [bitsTo_length]; omega)).mono ?_
  rintro e w5 ⟨rfl, g5, hy5, hk5, hm5⟩
  obtain ⟨hx4, hy4, hK4, hg4, hng⟩ := H4.out
  obtain ⟨-, -, -, hne, hxB, hyB⟩ := H2.out
  rw [show ((v : Int)).toNat = v from rfl, show ((b : Int)).toNat = b from rfl, HM.out.2.2.2.1] at hy5
  have hx5 := wr_wr hx4 hy4 hne hng hk5
  have hK5 := keeps_new hK4 hk5 hyB hg4
  have H5 := Lib.hid (And.intro hx5 (And.intro hy5 hK5))
  clear hx4 hy4 hK4 hg4 hng hne hxB hyB hy5 hk5 hm5 hx5 hK5 H4
  go_wp2_with fail
  refine HK.out.to (fun _ : World => True) (fun _ _ => trivial) (trivial) ?_
  clear HK hS
  have hS : (fun _ : World => True) (w5) := trivial
  try simp only [Act.put, List.setIfInBounds_toArray, List.set_cons_zero, List.set_cons_succ]
  refine reg_take (i := 22) (v := ?_) rfl (by kernel_rfl) (by kernel_rfl) (by kernel_rfl) (fun _ _ _ h => h) (Or.inl ⟨by kernel_rfl, ?_⟩) hS ?_
  rotate_left
  · (intro w' hSw; go_simp <;> with_reducible rfl)
  try simp only [Act.put, List.setIfInBounds_toArray, List.set_cons_zero, List.set_cons_succ]
  refine reg_take (i := 23) (v := ?_) rfl (by kernel_rfl) (by kernel_rfl) (by kernel_rfl) (fun _ _ _ h => h) (Or.inl ⟨by kernel_rfl, ?_⟩) hS ?_
  rotate_left
  · (intro w' hSw; go_simp <;> with_reducible rfl)
  try simp only [Act.put, List.setIfInBounds_toArray, List.set_cons_zero, List.set_cons_succ]
  refine reg_take (i := 24) (v := ?_) rfl (by kernel_rfl) (by kernel_rfl) (by kernel_rfl) (fun _ _ _ h => h) (Or.inl ⟨by kernel_rfl, ?_⟩) hS ?_
  rotate_left
  · (intro w' hSw; go_simp <;> with_reducible rfl)
  try simp only [Act.put, List.setIfInBounds_toArray, List.set_cons_zero, List.set_cons_succ]
  refine reg_take (i := 25) (v := ?_) rfl (by kernel_rfl) (by kernel_rfl) (by kernel_rfl) (fun _ _ _ h => h) (Or.inl ⟨by kernel_rfl, ?_⟩) hS ?_
  rotate_left
  · (intro w' hSw; go_simp <;> with_reducible rfl)
  try simp only [Act.put, List.setIfInBounds_toArray, List.set_cons_zero, List.set_cons_succ]
  refine reg_take (i := 27) (v := ?_) rfl (by kernel_rfl) (by kernel_rfl) (by kernel_rfl) (fun _ _ _ h => h) (Or.inl ⟨by kernel_rfl, ?_⟩) hS ?_
  rotate_left
  · (intro w' hSw; go_simp <;> with_reducible rfl)
  try simp only [Act.put, List.setIfInBounds_toArray, List.set_cons_zero, List.set_cons_succ]
  refine reg_take (i := 28) (v := ?_) rfl (by kernel_rfl) (by kernel_rfl) (by kernel_rfl) (fun _ _ _ h => h) (Or.inl ⟨by kernel_rfl, ?_⟩) hS ?_
  rotate_left
  · (intro w' hSw; go_simp <;> with_reducible rfl)
  try simp only [Act.put, List.setIfInBounds_toArray, List.set_cons_zero, List.set_cons_succ]
  refine reg_take (i := 29) (v := ?_) rfl (by kernel_rfl) (by kernel_rfl) (by kernel_rfl) (fun _ _ _ h => h) (Or.inl ⟨by kernel_rfl, ?_⟩) hS ?_
  rotate_left
  · (intro w' hSw; go_simp <;> with_reducible rfl)
  try simp only [Act.put, List.setIfInBounds_toArray, List.set_cons_zero, List.set_cons_succ]
  refine reg_call (i := 26) rfl (by kernel_rfl) (fun K hK => ?_)
  have HK := Lib.hid hK
  clear hK
  go_simp
  refine (len_wr _ _ _ _ H5.out.1).mono ?_
  rintro e w6 ⟨rfl, rfl⟩
  rw [hMi]
  go_wp2_with fail
  refine HK.out.to (fun _ : World => True) (fun _ _ => trivial) (trivial) ?_
  clear HK hS
  have hS : (fun _ : World => True) (w5) := trivial
  try simp only [Act.put, List.setIfInBounds_toArray, List.set_cons_zero, List.set_cons_succ]
  refine reg_take (i := 30) (v := ?_) rfl (by kernel_rfl) (by kernel_rfl) (by kernel_rfl) (fun _ _ _ h => h) (Or.inl ⟨by kernel_rfl, ?_⟩) hS ?_
  rotate_left
  · (intro w' hSw; go_simp <;> with_reducible rfl)
  try simp only [Act.put, List.setIfInBounds_toArray, List.set_cons_zero, List.set_cons_succ]
  refine reg_take (i := 31) (v := ?_) rfl (by kernel_rfl) (by kernel_rfl) (by kernel_rfl) (fun _ _ _ h => h) (Or.inl ⟨by kernel_rfl, ?_⟩) hS ?_
  rotate_left
  · (intro w' hSw; go_simp <;> with_reducible rfl)
  try simp only [Act.put, List.setIfInBounds_toArray, List.set_cons_zero, List.set_cons_succ]
  refine reg_take (i := 32) (v := ?_) rfl (by kernel_rfl) (by kernel_rfl) (by kernel_rfl) (fun _ _ _ h => h) (Or.inl ⟨by kernel_rfl, ?_⟩) hS ?_
  rotate_left
  · (intro w' hSw; go_simp <;> with_reducible rfl)
  try simp only [Act.put, List.setIfInBounds_toArray, List.set_cons_zero, List.set_cons_succ]
  refine reg_take (i := 33) (v := ?_) rfl (by kernel_rfl) (by kernel_rfl) (by kernel_rfl) (fun _ _ _ h => h) (Or.inl ⟨by kernel_rfl, ?_⟩) hS ?_
  rotate_left
  · (intro w' hSw; go_simp <;> with_reducible rfl)
  try simp only [Act.put, List.setIfInBounds_toArray, List.set_cons_zero, List.set_cons_succ]
  refine reg_take (i := 36) (v := ?_) rfl (by kernel_rfl) (by kernel_rfl) (by kernel_rfl) (fun _ _ _ h => h) (Or.inl ⟨by kernel_rfl, ?_⟩) hS ?_
  rotate_left
  · (intro w' hSw; go_simp <;> with_reducible rfl)
  try simp only [Act.put, List.setIfInBounds_toArray, List.set_cons_zero, List.set_cons_succ]
  refine reg_call (i := 34) rfl (by kernel_rfl) (fun K hK => ?_)
  have HK := Lib.hid hK
  clear hK
  go_simp
  refine (bytes_wr _ _ _ _ H5.out.1).mono ?_
  rintro e w7 ⟨A1, c1, rfl, ho7, hk7⟩
  have H7 := Lib.hid (And.intro (own_base ho7 (Nat.zero_le _)) hk7)
  clear ho7 hk7
  go_wp2_with fail
  refine HK.out.to (fun w' : World => w'.ownsRow 0 5 1 (.slice A1 (pack M).length c1) (pack M).length ((pack M).map byteV)) (fun _ _ => trivial) (H7.out.1) ?_
  clear HK hS
  have hS : (fun w' : World => w'.ownsRow 0 5 1 (.slice A1 (pack M).length c1) (pack M).length ((pack M).map byteV)) (w7) := H7.out.1
  try simp only [Act.put, List.setIfInBounds_toArray, List.set_cons_zero, List.set_cons_succ]
  refine reg_take (i := 35) (v := ?_) rfl (by kernel_rfl) (by kernel_rfl) (by kernel_rfl) (fun _ _ _ h => h) (Or.inl ⟨by kernel_rfl, ?_⟩) hS ?_
  rotate_left
  · (intro w' hSw; have hc := conv_own (P := Try.prog) (c := c1) 22 5 9 Try.underlying22 Try.underlying5 Try.underlying9 rfl hSw; go_simp <;> with_reducible rfl)
  try simp only [Act.put, List.setIfInBounds_toArray, List.set_cons_zero, List.set_cons_succ]
  refine reg_call (i := 37) rfl (by kernel_rfl) (fun K hK => ?_)
  have HK := Lib.hid hK
  clear hK
  go_simp
  refine (bytes_wr _ _ _ _ (H5.out.2.1.keeps H7.out.2 (fun h => h) (fun _ _ h => h))).mono ?_
  rintro e w8 ⟨A2, c2, rfl, ho8, hk8⟩
  have H8 := Lib.hid (And.intro (own_base ho8 (Nat.zero_le _)) (And.intro (own_keeps H7.out.1 hk8 (fun _ _ h => h)) hk8))
  clear ho8 hk8
  go_wp2_with fail
  refine HK.out.to (fun w' : World => (fun w' : World => w'.ownsRow 0 5 1 (.slice A1 (pack M).length c1) (pack M).length ((pack M).map byteV)) w' ∧ w'.ownsRow 0 5 1 (.slice A2 (pack M).length c2) (pack M).length ((pack M).map byteV)) (fun _ h => h.1) (⟨H8.out.2.1, H8.out.1⟩) ?_
  clear HK hS
  have hS : (fun w' : World => (fun w' : World => w'.ownsRow 0 5 1 (.slice A1 (pack M).length c1) (pack M).length ((pack M).map byteV)) w' ∧ w'.ownsRow 0 5 1 (.slice A2 (pack M).length c2) (pack M).length ((pack M).map byteV)) (w8) := ⟨H8.out.2.1, H8.out.1⟩
  try simp only [Act.put, List.setIfInBounds_toArray, List.set_cons_zero, List.set_cons_succ]
  refine reg_take (i := 38) (v := ?_) rfl (by kernel_rfl) (by kernel_rfl) (by kernel_rfl) (fun _ _ _ h => h) (Or.inl ⟨by kernel_rfl, ?_⟩) hS ?_
  rotate_left
  · (intro w' hSw; have hc := conv_own (P := Try.prog) (c := c2) 22 5 9 Try.underlying22 Try.underlying5 Try.underlying9 rfl hSw.2; go_simp <;> with_reducible rfl)
  try simp only [Act.put, List.setIfInBounds_toArray, List.set_cons_zero, List.set_cons_succ]
  refine reg_take (i := 39) (v := ?_) rfl (by kernel_rfl) (by kernel_rfl) (by kernel_rfl) (fun _ _ _ h => h) (Or.inl ⟨by kernel_rfl, ?_⟩) hS ?_
  rotate_left
  · (intro w' hSw; go_simp <;> with_reducible rfl)
  try simp only [Act.put, List.setIfInBounds_toArray, List.set_cons_zero, List.set_cons_succ]
  refine reg_take (i := 40) (v := ?_) rfl (by kernel_rfl) (by kernel_rfl) (by kernel_rfl) (fun _ _ _ h => h) (Or.inl ⟨by kernel_rfl, ?_⟩) hS ?_
  rotate_left
  · (intro w' hSw; go_simp <;> with_reducible rfl)
  try simp only [Act.put, List.setIfInBounds_toArray, List.set_cons_zero, List.set_cons_succ]
  refine wpAnyH_done (by kernel_rfl) ?_ _
  clear hS
  have H9 := Lib.hid (And.intro (H5.out.1.keeps (H7.out.2.trans' H8.out.2.2) (fun h => h) (fun _ _ h => h)) ((H5.out.2.2.trans' H7.out.2).trans' H8.out.2.2))
  clear H5 H7 H8 H2
  go_wp2_with fail
  refine (bytes_wr _ _ _ _ H9.out.1).mono ?_
  rintro e w9 ⟨A9, c9, rfl, ho9, hk9⟩
  have hsl9 := sl_of_bytes ho9
  have hpk := pack_length M
  have hby : ∀ j, (pack M).getD j 0 < 256 := fun j => by rw [pack_getD]; exact byteAt_lt HM.out.2.2.2.2 j
  have hpl : (pack M).length ≤ 1099511627776 := by have := HM.out.2.2.1; omega
  have hpn : (a : Int) + b ≤ 8 * ((pack M).length : Int) := by have := HM.out.2.2.1; omega
  have H10 := Lib.hid (And.intro hsl9 (And.intro hby (And.intro hpl (And.intro hpn (H9.out.2.trans' hk9)))))
  clear ho9 hk9 hsl9 hpk hby hpl hpn
  go_wp2_with fail
  refine (newReader_fit _ _ _ _ _ (pack M) _ rfl H10.out.1 H10.out.2.1 H10.out.2.2.1 (by omega) H10.out.2.2.2.1).mono ?_
  rintro e w10 ⟨r, rfl, hr, hrd, hk10⟩
  rw [show ((a : Int) + b).toNat = a + b from by omega] at hrd
  have H11 := Lib.hid (And.intro hrd (And.intro (show w.heap.size ≤ r by have := H10.out.2.2.2.2.size; omega) (H10.out.2.2.2.2.trans' hk10)))
  clear hrd hr hk10 H10 H9
  go_wp2_with fail
  refine (get_any _ _ _ _ _ _ _ H11.out.1).mono ?_
  rintro e w11 ⟨rfl, hrd, hk11⟩
  have hg1 : getV (pack M) 0 (a + b) (a : Int) = d % 2 ^ a := by
    unfold getV
    rw [if_pos ⟨by omega, by omega, by omega⟩]
    have := gets_pack (L := []) (M := bitsTo v b b) (v := d) (n := a) (by simp) (bitsTo_bit _ _ _)
    rw [List.nil_append, HM.out.2.2.2.1] at this
    exact this
  have hg2 : getE 0 (a + b) (a : Int) = 0 := by unfold getE; rw [if_pos ⟨by omega, by omega⟩, if_pos (by omega)]
  have hg3 : 0 + getN 0 (a + b) (a : Int) = a := by unfold getN; rw [if_pos ⟨by omega, by omega, by omega⟩]; omega
  rw [hg3] at hrd
  rw [hg1, hg2]
  have H12 := Lib.hid (And.intro hrd (H11.out.2.2.trans hk11 (fun k hk e => by have := H11.out.2.1; omega)))
  clear hrd hk11 hg1 hg2 hg3
  go_wp2_with fail
  refine (get_any _ _ _ _ _ _ _ H12.out.1).mono ?_
  rintro e w12 ⟨rfl, hrd, hk12⟩
  have hg1 : getV (pack M) a (a + b) ((b : Int) + 1) = 0 := by unfold getV; rw [if_neg (by omega)]
  have hg2 : getE a (a + b) ((b : Int) + 1) = 10 := by unfold getE; rw [if_pos ⟨by omega, by omega⟩, if_neg (by omega)]
  have hg3 : a + getN a (a + b) ((b : Int) + 1) = a := by unfold getN; rw [if_neg (by omega)]; omega
  rw [hg3] at hrd
  rw [hg1, hg2]
  have H13 := Lib.hid (And.intro hrd (H12.out.2.trans hk12 (fun k hk e => by have := H11.out.2.1; omega)))
  clear hrd hk12 hg1 hg2 hg3
  go_wp2_with fail
  refine (get_any _ _ _ _ _ _ _ H13.out.1).mono ?_
  rintro e w13 ⟨rfl, hrd, hk13⟩
  have hg1 : getV (pack M) a (a + b) (b : Int) = v % 2 ^ b := by
    unfold getV
    rw [if_pos ⟨by omega, by omega, by omega⟩]
    have := gets_pack (L := bitsTo d a a) (M := []) (v := v) (n := b) (bitsTo_bit _ _ _) (by simp)
    rw [List.append_nil, HM.out.2.2.2.1, bitsTo_length] at this
    exact this
  have hg2 : getE a (a + b) (b : Int) = 0 := by unfold getE; rw [if_pos ⟨by omega, by omega⟩, if_pos (by omega)]
  rw [hg1, hg2]
  have hkk := H13.out.2.trans hk13 (fun k hk e => by have := H11.out.2.1; omega)
  clear hrd hk13 hg1 hg2
  have m1 := and_mask_walk d a hdv (by omega)
  have m2 := and_mask_walk v b hvn (by omega)
  have HK := Lib.hid hkk
  clear hkk
  go_wp2_with fail
  go_ret
  exact ⟨rfl, HK.out.to_below⟩
end Go.Proofs.Ytgphdigcilbnlaa
