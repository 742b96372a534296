/-
  Marks as bytes and back, plainly.
-/
import Derived.Test.YtgceeihdmhghiaaDoorWtC
namespace Go.Proofs.YtgceeihdmhghiaaDoor
theorem mput_t (l g : Int) : mput true l g = vput (g % 18446744073709551616).toNat ++ (vput 1 ++ vput (zig l)) := rfl
theorem mput_f (l g : Int) : mput false l g = vput (g % 18446744073709551616).toNat ++ vput 0 := rfl
theorem lag_back {g : Int} (h0 : 0 ≤ g) (h1 : g ≤ 1152921504606846976) : (g % 18446744073709551616).toNat < 18446744073709551616 ∧ IntKind.i64.wrap (((g % 18446744073709551616).toNat : Nat) : Int) = g := by
  refine ⟨by omega, ?_⟩
  rw [IntKind.wrap_i64]; omega
theorem mget_mput {s : Bool} {l g : Int} (ms : List Nat) (hr : rightB s l g = true) : mget (mput s l g ++ ms) = ⟨s, l, g, (mput s l g).length, 0⟩ := by
  obtain ⟨h1, h2, h3, h4, h5⟩ := rightB_spec hr
  obtain ⟨g1, g2⟩ := lag_back h1 h2
  have hz := zig_lt (n := l) (by omega) (by omega)
  cases s with
  | false =>
    have hl : l = 0 := by simpa using h5
    subst hl
    rw [mput_f, List.append_assoc, mget_def, vget_vput _ _ g1, if_neg (by simp), g2, List.drop_left, mget2_def, vget_vput 0 ms (by omega), if_neg (by simp), if_neg (by simp), if_neg (by simp), if_pos hr, List.length_append]
  | true =>
    rw [mput_t, List.append_assoc, mget_def, vget_vput _ _ g1, if_neg (by simp), g2, List.drop_left, List.append_assoc, mget2_def, vget_vput 1 _ (by omega), if_neg (by simp), if_neg (by simp), if_pos rfl, List.drop_left, mget3_def, vget_vput _ ms hz, if_neg (by simp)]
    simp only [zag_zig]
    rw [if_pos hr, List.length_append, List.length_append, ← Nat.add_assoc]
theorem take_last {A B : List Nat} (hB : 0 < B.length) : (A ++ B).take ((A ++ B).length - 1) = A ++ B.take (B.length - 1) := by
  rw [List.length_append, List.take_append]
  rw [List.take_of_length_le (by omega), show A.length + B.length - 1 - A.length = B.length - 1 by omega]
theorem mget_cut {s : Bool} {l g : Int} (hr : rightB s l g = true) : mget ((mput s l g).take ((mput s l g).length - 1)) = mbad 10 := by
  obtain ⟨h1, h2, h3, h4, h5⟩ := rightB_spec hr
  obtain ⟨g1, g2⟩ := lag_back h1 h2
  have hz := zig_lt (n := l) (by omega) (by omega)
  cases s with
  | false =>
    have h0 := vput_pos 0
    rw [mput_f, take_last h0, mget_def, vget_vput _ _ g1, if_neg (by simp), List.drop_left, mget2_def, vget_cut 0 _ (by omega) (by omega), if_pos (by simp)]
  | true =>
    have h0 := vput_pos 1
    have h6 := vput_pos (zig l)
    rw [mput_t, take_last (by rw [List.length_append]; omega), take_last h6, mget_def, vget_vput _ _ g1, if_neg (by simp), List.drop_left, mget2_def, vget_vput 1 _ (by omega), if_neg (by simp), if_neg (by simp), if_pos rfl, List.drop_left, mget3_def, vget_cut _ _ (by omega) hz, if_pos (by simp)]
theorem note_right (f : Nat → Int) (g : Int) (h0 : 0 ≤ g) (h1 : g ≤ 65535) : ∀ n, noteOk true f n = true → rightB (noteS false 0 f n).1 (noteS false 0 f n).2 g = true
  | 0, _ => rightB_mk h0 (by omega) (by show (-1152921504606846976 : Int) ≤ 0; omega) (by show (0 : Int) ≤ 1152921504606846976; omega) (.inr rfl)
  | n + 1, h => by
    have h' : (noteOk true f n && isTimeB (f n)) = true := h
    rw [Bool.and_eq_true] at h'
    have ih := note_right f g h0 h1 n h'.1
    have ht := h'.2
    unfold isTimeB at ht
    simp only [Bool.and_eq_true, decide_eq_true_eq] at ht
    show rightB (if (!(noteS false 0 f n).1 || decide ((noteS false 0 f n).2 < f n)) = true then (true, f n) else noteS false 0 f n).1 (if (!(noteS false 0 f n).1 || decide ((noteS false 0 f n).2 < f n)) = true then (true, f n) else noteS false 0 f n).2 g = true
    split
    · exact rightB_mk h0 (by omega) ht.1 ht.2 (.inl rfl)
    · exact ih
theorem mput_len (s : Bool) (l g : Int) (h0 : -9223372036854775808 ≤ l) (h1 : l ≤ 9223372036854775807) : 1 ≤ (mput s l g).length ∧ (mput s l g).length ≤ 30 := by
  have a := vput_len10 (u := (g % 18446744073709551616).toNat) (by omega)
  have b := vput_len10 (zig_lt h0 h1)
  have c := vput_len10 (u := 1) (by omega)
  have d := vput_len10 (u := 0) (by omega)
  have e := vput_pos (g % 18446744073709551616).toNat
  cases s with
  | false => rw [mput_f, List.length_append]; omega
  | true => rw [mput_t, List.length_append, List.length_append]; omega
theorem mput_byte (s : Bool) (l g : Int) : ∀ b ∈ mput s l g, b < 256 := by
  intro b hb
  cases s with
  | false =>
    rw [mput_f] at hb
    rcases List.mem_append.1 hb with h | h
    · exact vput_byte _ b h
    · exact vput_byte _ b h
  | true =>
    rw [mput_t] at hb
    rcases List.mem_append.1 hb with h | h
    · exact vput_byte _ b h
    · rcases List.mem_append.1 h with h | h
      · exact vput_byte _ b h
      · exact vput_byte _ b h
end Go.Proofs.YtgceeihdmhghiaaDoor
