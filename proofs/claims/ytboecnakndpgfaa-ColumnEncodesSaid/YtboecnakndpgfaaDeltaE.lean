/-
  The contract of delta.Encode.
-/
import Derived.Test.YtboecnakndpgfaaDeltaB
namespace Go.Proofs.Ytboecnakndpgfaa.D
open Go.RowKit
set_option linter.unusedVariables false
set_option linter.unusedSimpArgs false
/-- The step behind k times; the bits of the first k. -/
def st (f : Nat → Int) : Nat → Int
  | 0 => 0
  | 1 => 0
  | k + 2 => sub64 (f (k + 1)) (f k)
def u64 (n : Int) : Nat := (n % 18446744073709551616).toNat
theorem u64_lt (n : Int) : u64 n < 18446744073709551616 := by unfold u64; omega
def encTo (f : Nat → Int) : Nat → List Nat
  | 0 => []
  | 1 => bitsTo (u64 (f 0)) 64 64
  | k + 2 => encTo f (k + 1) ++ dbits (zig (sub64 (sub64 (f (k + 1)) (f k)) (st f (k + 1))))
theorem st_range (f : Nat → Int) (k : Nat) : -9223372036854775808 ≤ st f k ∧ st f k ≤ 9223372036854775807 := by
  match k with
  | 0 => exact ⟨by show _ ≤ (0 : Int); omega, by show (0 : Int) ≤ _; omega⟩
  | 1 => exact ⟨by show _ ≤ (0 : Int); omega, by show (0 : Int) ≤ _; omega⟩
  | k + 2 => exact sub64_range _ _
theorem encTo_len (f : Nat → Int) (k : Nat) : (encTo f k).length ≤ 64 + 68 * k := by
  induction k with
  | zero => simp [encTo]
  | succ k ih =>
    match k with
    | 0 => unfold encTo; rw [bitsTo_length]; omega
    | k + 1 => unfold encTo; rw [List.length_append]; have := dbits_le (zig (sub64 (sub64 (f (k + 1)) (f k)) (st f (k + 1)))); omega
theorem dbits_bit (z : Nat) : ∀ j, (dbits z).getD j 0 < 2 := by unfold dbits; exact bits_append (bitsTo_bit _ _ _) (bitsTo_bit _ _ _)
theorem encTo_bit (f : Nat → Int) (k : Nat) : ∀ j, (encTo f k).getD j 0 < 2 := by
  induction k with
  | zero => intro j; simp [encTo]
  | succ k ih =>
    match k with
    | 0 => unfold encTo; exact bitsTo_bit _ _ _
    | k + 1 => unfold encTo; exact bits_append ih (dbits_bit _)
def EncPost (w : World) (bs : List Nat) (e : Ending) (w' : World) : Prop :=
  ∃ A c, e = .returned (.tuple #[.slice A bs.length c, .int .i64 0]) ∧ w'.ownsRow w.heap.size 5 1 (.slice A bs.length c) bs.length (bs.map byteV) ∧ Keeps (fun _ => False) w w'
set_option maxRecDepth 100000 in
set_option maxHeartbeats 1600000 in
theorem encode_any (w : World) (A : Option Addr) (len c : Nat) (D : Nat → Prop) (f : Nat → Int) (hsl : Sl w D A len (fun j => .int .i64 (f j))) (hf : ∀ j, -9223372036854775808 ≤ f j ∧ f j ≤ 9223372036854775807) (hlen : len ≤ 4096) :
    Calls Try.prog 8 #[.slice A len c] w (EncPost w (pack (encTo f len))) := by
  have HS := Lib.hid (And.intro hsl hf)
  clear hsl hf
  have d0 : decide ((4096 : Int) < len) = false := by simp; omega
  go_enter Try.func8, Try.ntmps8
  go_wp2_with fail
  refine (newWriter_any _).mono ?_
  rintro e w1 ⟨rfl, hx1, hk1⟩
  obtain ⟨x, hx⟩ : ∃ x, x = w.heap.size := ⟨_, rfl⟩
  rw [← hx] at hx1
  rw [← hx]
  have H1 := Lib.hid (And.intro hx1 (And.intro hk1 hx))
  have hxB : w.heap.size ≤ x := by omega
  clear hx1 hk1 hx d0
  go_wp2_with fail
  go_loopw [5, 15] (fun s i wr => ∃ (k : Nat) (g : Option Nat), k ≤ len ∧ i = .int .i64 k ∧ s = .int .i64 (st f k) ∧ Wr wr x g (encTo f k) ∧ Keeps (fun _ => False) w wr ∧ (∀ q, g = some q → w.heap.size ≤ q))
    (fun _ i _ => len - (intOf i).toNat)
  case atStart => exact ⟨0, none, Nat.zero_le _, rfl, rfl, H1.out.1, H1.out.2.1, fun _ h => by cases h⟩
  case round =>
    obtain ⟨k, g, hk, rfl, rfl, hxr, hkr, hgr⟩ := hrel
    by_cases hlt : k < len
    · obtain ⟨b, off, hA, hD, hcell⟩ := (HS.out.1.keep (w' := wr) (fun q _ hq => hkr.block q hq (fun h => h))) (by omega)
      have ck : wr.cell? ⟨b, off + k, none⟩ = some (.int .i64 (f k)) := hcell k hlt
      have hcp : 1 ≤ k → wr.cell? ⟨b, off + (k - 1), none⟩ = some (.int .i64 (f (k - 1))) := fun h => hcell (k - 1) (by omega)
      subst hA
      have HR := Lib.hid (And.intro hxr (And.intro hkr (And.intro hgr hcell)))
      clear hxr hkr hgr hcell
      have hlk := encTo_len f k
      rcases Nat.eq_zero_or_pos k with hk0 | hk0
      · subst hk0
        clear hcp
        have e1 : IntKind.u64.wrap (f 0) = (u64 (f 0) : Int) := by rw [IntKind.wrap_u64]; unfold u64; omega
        have hu := u64_lt (f 0)
        obtain ⟨u, hu'⟩ : ∃ u, u = u64 (f 0) := ⟨_, rfl⟩
        rw [← hu'] at e1 hu
        have HU := Lib.hid (And.intro hu hu')
        clear hu hu' hlk
        rw [show ((0 : Nat) : Int) = 0 from rfl]
        rw [Nat.add_zero] at ck
        go_wp2_with fail
        refine (put_fit _ _ _ _ _ _ HR.out.1 (by omega) (by have := HU.out.1; omega) (by omega) (by omega) (by simp [encTo])).mono ?_
        rintro e w2 ⟨rfl, g2, hx2, hk2, hm2⟩
        have H2 := Lib.hid (And.intro hx2 (And.intro (keeps_new HR.out.2.1 hk2 hxB HR.out.2.2.1) (moved_new (w0 := w) hm2 HR.out.2.1.size HR.out.2.2.1)))
        clear hx2 hk2 hm2 e1 ck
        go_wp2_with fail
        go_roundw
        case rel =>
          refine ⟨1, g2, by omega, rfl, rfl, ?_, H2.out.2.1, H2.out.2.2⟩
          have := H2.out.1
          rw [show ((u : Int)).toNat = u from rfl, show (64 : Int).toNat = 64 from rfl, HU.out.2] at this
          exact this
        case measure => simp [intOf]; omega
      · obtain ⟨j, rfl⟩ : ∃ j, k = j + 1 := ⟨k - 1, by omega⟩
        have cp := hcp (by omega)
        rw [show j + 1 - 1 = j by omega] at cp
        obtain ⟨r1, r2⟩ := HS.out.2 (j + 1)
        obtain ⟨r3, r4⟩ := HS.out.2 j
        obtain ⟨a, ha⟩ : ∃ a, a = f (j + 1) := ⟨_, rfl⟩
        obtain ⟨p, hp⟩ : ∃ p, p = f j := ⟨_, rfl⟩
        obtain ⟨s, hs⟩ : ∃ s, s = st f (j + 1) := ⟨_, rfl⟩
        rw [← ha] at ck r1 r2
        rw [← hp] at cp r3 r4
        rw [← hs]
        have hsr := st_range f (j + 1)
        rw [← hs] at hsr
        have HV := Lib.hid (And.intro ha (And.intro hp (And.intro hs (And.intro r1 (And.intro r2 (And.intro r3 (And.intro r4 hsr)))))))
        clear ha hp hs r1 r2 r3 r4 hsr hcp hk0
        go_wp2_with fail
        refine (sub_any _ _ _ HV.out.2.2.2.1 HV.out.2.2.2.2.1 HV.out.2.2.2.2.2.1 HV.out.2.2.2.2.2.2.1).mono ?_
        rintro e w2 ⟨rfl, rfl⟩
        obtain ⟨t, ht⟩ : ∃ t, t = sub64 a p := ⟨_, rfl⟩
        have htr := sub64_range a p
        rw [← ht] at htr
        rw [← ht]
        have HT := Lib.hid (And.intro ht htr)
        clear ht htr
        go_wp2_with fail
        refine (sub_any _ _ _ HT.out.2.1 HT.out.2.2 HV.out.2.2.2.2.2.2.2.1 HV.out.2.2.2.2.2.2.2.2).mono ?_
        rintro e w2 ⟨rfl, rfl⟩
        go_wp2_with fail
        refine (zig_any _ _ (sub64_range _ _).1 (sub64_range _ _).2).mono ?_
        rintro e w2 ⟨rfl, rfl⟩
        go_wp2_with fail
        refine (dput_any _ _ _ _ _ HR.out.1 (zig_lt (sub64_range _ _).1 (sub64_range _ _).2) (by omega)).mono ?_
        rintro e w2 ⟨rfl, g2, hx2, hk2, hm2⟩
        have H2 := Lib.hid (And.intro hx2 (And.intro (keeps_new HR.out.2.1 hk2 hxB HR.out.2.2.1) (moved_new (w0 := w) hm2 HR.out.2.1.size HR.out.2.2.1)))
        clear hx2 hk2 hm2 ck cp hlk
        go_wp2_with fail
        go_roundw
        case rel =>
          obtain ⟨ha, hp, hs, -⟩ := HV.out
          have ht := HT.out.1
          refine ⟨j + 2, g2, by omega, by go_num, ?_, ?_, H2.out.2.1, H2.out.2.2⟩
          · rw [ht, ha, hp]; rfl
          · have := H2.out.1
            rw [ht, ha, hp, hs] at this
            exact this
        case measure => simp [intOf]; omega
    · obtain rfl : k = len := by omega
      have HR := Lib.hid (And.intro hxr hkr)
      clear hxr hkr hgr
      go_wp2_with fail
      refine (bytes_wr _ _ _ _ HR.out.1).mono ?_
      rintro e w2 ⟨A2, c2, rfl, ho2, hk2⟩
      have H2 := Lib.hid (And.intro (own_base ho2 HR.out.2.size) (HR.out.2.trans' hk2))
      clear ho2 hk2
      go_wp2_with fail
      go_ret2
      exact ⟨A2, c2, rfl, H2.out.1, H2.out.2⟩
set_option maxHeartbeats 400000 in
theorem encode_big (w : World) (A : Option Addr) (len c : Nat) (hlen : 4096 < len) (hl : len ≤ 9223372036854775807) :
    Calls Try.prog 8 #[.slice A len c] w fun e w' => e = .returned (.tuple #[.slice none 0 0, .int .i64 3]) ∧ w = w' := by
  go_enter Try.func8, Try.ntmps8
  go_wp2
  go_ret2
  exact ⟨rfl, rfl⟩
end Go.Proofs.Ytboecnakndpgfaa.D
