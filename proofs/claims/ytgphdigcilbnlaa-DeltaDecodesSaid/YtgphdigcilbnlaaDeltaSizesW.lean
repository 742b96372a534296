/-
  The walk of the law DeltaSizes.
-/
import Derived.Test.YtgphdigcilbnlaaDeltaE
import Derived.Test.YtgphdigcilbnlaaBitsRw
namespace Go.Proofs.Ytgphdigcilbnlaa
open Go.RowKit
set_option linter.unusedVariables false
set_option linter.unusedSimpArgs false
/-- A sum modulo 2^64. -/
def add64 (a b : Int) : Int := (a + b + 9223372036854775808) % 18446744073709551616 - 9223372036854775808
theorem add64_range (a b : Int) : -9223372036854775808 ≤ add64 a b ∧ add64 a b ≤ 9223372036854775807 := by unfold add64; omega
theorem sub_add (a s : Int) (h0 : -9223372036854775808 ≤ s) (h1 : s ≤ 9223372036854775807) : sub64 (add64 a s) a = s := by unfold sub64 add64; omega
theorem sub_zero64 (s : Int) (h0 : -9223372036854775808 ≤ s) (h1 : s ≤ 9223372036854775807) : sub64 s 0 = s := by unfold sub64; omega
theorem sub_self64 (s : Int) : sub64 s s = 0 := by unfold sub64; omega
theorem add_walk (a s : Int) (a0 : -9223372036854775808 ≤ a) (a1 : a ≤ 9223372036854775807) (h0 : -9223372036854775808 ≤ s) (h1 : s ≤ 9223372036854775807) : wrap64 (IntKind.u64.wrap (IntKind.u64.wrap a + IntKind.u64.wrap s)) = add64 a s := by
  unfold add64 wrap64
  simp only [IntKind.wrap_u64]
  omega
/-- Times of one step each. -/
def tick (a s : Int) : Nat → Int
  | 0 => a
  | k + 1 => add64 (tick a s k) s
theorem tick_range (a s : Int) (a0 : -9223372036854775808 ≤ a) (a1 : a ≤ 9223372036854775807) (k : Nat) : -9223372036854775808 ≤ tick a s k ∧ tick a s k ≤ 9223372036854775807 := by
  cases k with
  | zero => exact ⟨a0, a1⟩
  | succ k => exact add64_range _ _
theorem tick_len (a s : Int) (h0 : -9223372036854775808 ≤ s) (h1 : s ≤ 9223372036854775807) (n : Nat) : (encTo (tick a s) (n + 2)).length = 64 + (ah (cls (zig s)) + wd (cls (zig s))) + n := by
  induction n with
  | zero =>
    unfold encTo
    rw [List.length_append, dbits_length]
    have e : sub64 (sub64 (tick a s 1) (tick a s 0)) (st (tick a s) 1) = s := by
      show sub64 (sub64 (add64 (tick a s 0) s) (tick a s 0)) 0 = s
      rw [sub_add _ _ h0 h1, sub_zero64 s h0 h1]
    rw [e]
    show (bitsTo (u64 (tick a s 0)) 64 64).length + _ = _
    rw [bitsTo_length]
    omega
  | succ n ih =>
    have e : sub64 (sub64 (tick a s (n + 2)) (tick a s (n + 1))) (st (tick a s) (n + 2)) = 0 := by
      show sub64 (sub64 (add64 (tick a s (n + 1)) s) (tick a s (n + 1))) (sub64 (add64 (tick a s n) s) (tick a s n)) = 0
      rw [sub_add _ _ h0 h1, sub_add _ _ h0 h1, sub_self64]
    show (encTo (tick a s) (n + 2) ++ dbits (zig (sub64 (sub64 (tick a s (n + 2)) (tick a s (n + 1))) (st (tick a s) (n + 2))))).length = _
    rw [List.length_append, ih, e, dbits_length]
    have : ah (cls (zig 0)) + wd (cls (zig 0)) = 1 := by decide
    omega
theorem sl_of_row {w : World} {base c n : Nat} {A : Option Addr} {f : Nat → Int} (ho : w.ownsRow base 3 1 (.slice A n c) n ((List.range n).map fun j => Value.int .i64 (f j))) : Sl w (fun k => (Value.slice A n c).ownBlock = some k) A n (fun j => .int .i64 (f j)) := by
  refine Sl.of_own ho ?_
  intro j u hu
  rw [List.getElem?_map] at hu
  rcases Nat.lt_or_ge j n with hj | hj
  · rw [List.getElem?_range hj] at hu
    simpa using hu.symm
  · rw [List.getElem?_eq_none (by simpa using hj)] at hu
    cases hu
set_option maxRecDepth 100000 in
set_option maxHeartbeats 1600000 in
theorem deltaSizes_walk (a0 a1 a2 : Int) (w : World) (w0 : (Lit.int .i64 a0).wf = true) (w1 : (Lit.int .i64 a1).wf = true) (w2 : (Lit.int .i64 a2).wf = true) :
    Calls Try.prog 11 #[.int .i64 a0, .int .i64 a1, .int .i64 a2] w fun e w' => e = .returned (.bool true) ∧ Below w.heap.size w w' := by
  have b0 := wf_i64 w0
  have b1 := wf_i64 w1
  have HR := Lib.hid (And.intro b0 b1)
  clear w0 w1 w2 b0 b1
  obtain ⟨m, hm⟩ : ∃ m : Nat, m = (a2 % 512).toNat := ⟨_, rfl⟩
  have e1 : bits .and .i64 a2 511 = (m : Int) := by rw [and_511, hm]
  have hm5 : m < 512 := by omega
  obtain ⟨n, hn⟩ : ∃ n, n = m + 2 := ⟨_, rfl⟩
  have e2 : 2 + (m : Int) = (n : Int) := by omega
  have hn5 : n < 514 := by omega
  have HN := Lib.hid hn
  clear hm hn hm5
  go_enter Try.func11, Try.ntmps11
  go_wp2_with fail
  clear e1 e2
  go_loopw [7, 8, 9] (fun v t i wr => ∃ k : Nat, k ≤ n ∧ i = .int .i64 k ∧ t = .int .i64 (tick a0 a1 k) ∧ wr.ownsRow w.heap.size 3 1 v k ((List.range k).map fun j => Value.int .i64 (tick a0 a1 j)) ∧ Below w.heap.size w wr)
    (fun _ _ i _ => n - (intOf i).toNat)
  case atStart => exact ⟨0, Nat.zero_le _, rfl, rfl, ⟨by simp, .inl ⟨rfl, rfl⟩⟩, Below.refl _ _⟩
  case round =>
    obtain ⟨k, hk, rfl, rfl, hor, hbr⟩ := hrel
    have HO := Lib.hid (And.intro hor hbr)
    clear hor hbr
    obtain ⟨r1, r2⟩ := tick_range a0 a1 HR.out.1.1 HR.out.1.2 k
    have e3 := add_walk (tick a0 a1 k) a1 r1 r2 HR.out.2.1 HR.out.2.2
    obtain ⟨t, ht⟩ : ∃ t, t = tick a0 a1 k := ⟨_, rfl⟩
    rw [← ht] at e3
    rw [← ht]
    have HT := Lib.hid ht
    clear ht r1 r2
    by_cases hlt : k < n
    · go_wp2_with (at_builtin; refine wpList_append_sl (f := fun _ => .int .i64 t) (D := fun k => k = wr.heap.size) (base := w.heap.size) (n := k) (xs := (List.range k).map fun j => Value.int .i64 (tick a0 a1 j)) intElem rfl (.tmp 22) (.tmp 24) rfl rfl rfl ?hown ?hsl ?h1 ?h63 ?hby ?hbase ?_)
      case hown => exact HO.out.1.alloc _
      case hsl => exact sl_one _ _ _
      case h1 => intro j _; rfl
      case h63 => unfold maxLen; omega
      case hby => omega
      case hbase => have := HO.out.2.size; simp; omega
      intro v1 w1 hown1 hg1 hat1
      have hb1 : Below w.heap.size w w1 := (HO.out.2.alloc HO.out.2.size _).grown hg1 (by have := HO.out.2.size; simp; omega) (fun q hq => (HO.out.1.lt q hq).1)
      have H1 := Lib.hid (And.intro hown1 hb1)
      clear hown1 hg1 hat1 hb1
      go_wp2_with fail
      go_roundw
      case rel =>
        refine ⟨k + 1, by omega, by go_num, ?_, ?_, H1.out.2⟩
        · rw [e3, HT.out]; rfl
        · rw [List.range_succ, List.map_append]
          have := H1.out.1
          rw [HT.out] at this
          exact this
      case measure => simp [intOf]; omega
    · obtain rfl : k = n := by omega
      clear e3
      obtain ⟨A1, c1, hv1, -, -⟩ := own_form HO.out.1
      rw [hv1]
      have ho1 := HO.out.1
      rw [hv1] at ho1
      have hsl1 := sl_of_row ho1
      have H2 := Lib.hid hsl1
      clear ho1 hsl1 hv1
      go_wp2_with fail
      refine (encode_any _ _ _ _ _ (tick a0 a1) H2.out (fun j => tick_range a0 a1 HR.out.1.1 HR.out.1.2 j) (by omega)).mono ?_
      rintro e w2 ⟨A2, c2, rfl, ho2, hk2⟩
      have hl := tick_len a0 a1 HR.out.2.1 HR.out.2.2 (k - 2)
      rw [show k - 2 + 2 = k from by have := HN.out; omega] at hl
      have hpk := pack_length (encTo (tick a0 a1) k)
      obtain ⟨z, hz⟩ : ∃ z, z = ah (cls (zig a1)) + wd (cls (zig a1)) := ⟨_, rfl⟩
      rw [← hz] at hl
      rw [hl] at hpk
      obtain ⟨pl, hpl⟩ : ∃ pl, pl = (pack (encTo (tick a0 a1) k)).length := ⟨_, rfl⟩
      rw [← hpl] at hpk
      rw [← hpl]
      have hz68 : z ≤ 68 := by rw [hz, ← dbits_length]; exact dbits_le _
      have hb2 : Below w.heap.size w w2 := HO.out.2.trans (hk2.to_below.mono HO.out.2.size)
      have H3 := Lib.hid (And.intro hb2 (And.intro hz hpk))
      have hk2' : 2 ≤ k := by have := HN.out; omega
      clear hl hpk hpl hz ho2 hk2 hb2
      go_wp2_with fail
      refine (size_any _ _ HR.out.2.1 HR.out.2.2).mono ?_
      rintro e w3 ⟨rfl, hb3⟩
      rw [← H3.out.2.1]
      have e5 : (64 + (z : Int) + k - 2 + 7) / 8 = (pl : Int) := by have := H3.out.2.2; omega
      have H4 := Lib.hid (H3.out.1.trans (hb3.mono H3.out.1.size))
      clear hb3
      go_wp2_with fail
      refine (size_any 0 _ (by omega) (by omega)).mono ?_
      rintro e w4 ⟨rfl, hb4⟩
      rw [show ((ah (cls (zig 0)) + wd (cls (zig 0)) : Nat) : Int) = 1 from by decide]
      have H5 := Lib.hid (H4.out.trans (hb4.mono H4.out.size))
      clear hb4
      go_wp2_with fail
      refine (size_any (-1) _ (by omega) (by omega)).mono ?_
      rintro e w5 ⟨rfl, hb5⟩
      rw [show ((ah (cls (zig (-1))) + wd (cls (zig (-1))) : Nat) : Int) = 9 from by decide]
      have H6 := Lib.hid (H5.out.trans (hb5.mono H5.out.size))
      clear hb5
      go_wp2_with fail
      refine (size_any 64 _ (by omega) (by omega)).mono ?_
      rintro e w6 ⟨rfl, hb6⟩
      rw [show ((ah (cls (zig 64)) + wd (cls (zig 64)) : Nat) : Int) = 15 from by decide]
      have H7 := Lib.hid (H6.out.trans (hb6.mono H6.out.size))
      clear hb6
      go_wp2_with fail
      go_ret
      exact ⟨rfl, H7.out⟩
end Go.Proofs.Ytgphdigcilbnlaa
