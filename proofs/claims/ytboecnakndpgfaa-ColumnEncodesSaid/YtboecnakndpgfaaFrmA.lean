/-
  Contracts of frame.quarter, frame.Sum and frame.four.
-/
import Derived.Test.YtboecnakndpgfaaRows
import Derived.Test.YtboecnakndpgfaaArgs
import Derived.Test.YtboecnakndpgfaaCrcPl
import Derived.WalkKit
import Derived.WalkSpells
import Derived.WalkLawsBesides
import Derived.Deep.QuietTactic
import Derived.BigQuiet
import Derived.Outline
import Derived.Lib.Hide
namespace Go.Proofs.Ytboecnakndpgfaa.F
open Go.RowKit
set_option linter.unusedVariables false
set_option linter.unusedSimpArgs false
theorem ret_int {k : IntKind} {a b : Int} (h : a = b) : Ending.returned (.int k a) = .returned (.int k b) := by rw [h]
def qv (k : Nat) : Nat := quart.getD k 0
theorem qv_lt (k : Nat) : qv k < 4294967296 := by
  unfold qv
  rcases Nat.lt_or_ge k 16 with h | h
  · rw [← quart_eq k h]; exact gN_lt 4 (by omega)
  · rw [List.getD_eq_getElem?_getD, List.getElem?_eq_none (by simpa [quart] using h)]; decide
theorem four_step (y : Nat) (hy : y < 4294967296) : bits .xor .u32 ((y : Int) / 16) (qv (y % 16) : Nat) = ((gN 4 y : Nat) : Int) := by
  rw [show (y : Int) / 16 = ((y / 16 : Nat) : Int) by omega, u32_xor_nat _ _ (by omega) (qv_lt _)]
  unfold qv
  rw [gN_four]
theorem quart_at (k : Nat) (hk : k < 16) (w : World) : (Instr.index 80 (.agg #[.int .u32 0, .int .u32 498536548, .int .u32 997073096, .int .u32 651767980, .int .u32 1994146192, .int .u32 1802195444, .int .u32 1303535960, .int .u32 1342533948, .int .u32 3988292384, .int .u32 4027552580, .int .u32 3604390888, .int .u32 3412177804, .int .u32 2607071920, .int .u32 2262029012, .int .u32 2685067896, .int .u32 3183342108]) (.int .u32 (k : Nat))).run Try.prog w = .ok (.int .u32 (qv k : Nat)) w := by
  rcases (show k = 0 ∨ k = 1 ∨ k = 2 ∨ k = 3 ∨ k = 4 ∨ k = 5 ∨ k = 6 ∨ k = 7 ∨ k = 8 ∨ k = 9 ∨ k = 10 ∨ k = 11 ∨ k = 12 ∨ k = 13 ∨ k = 14 ∨ k = 15 by omega) with
    rfl | rfl | rfl | rfl | rfl | rfl | rfl | rfl | rfl | rfl | rfl | rfl | rfl | rfl | rfl | rfl <;> kernel_rfl
set_option maxRecDepth 100000 in
set_option maxHeartbeats 400000 in
theorem quarter_any (s : Nat) (w : World) (hs : s < 4294967296) : Calls Try.prog 47 #[.int .u32 (s : Nat)] w fun e w' => e = .returned (.int .u32 (qv (s % 16) : Nat)) ∧ w = w' := by
  have e1 : bits .and .u32 (s : Int) 15 = ((s % 16 : Nat) : Int) := by rw [show (15 : Int) = ((15 : Nat) : Int) from rfl, u32_and_nat _ _ hs (by omega), nat_mask4]
  obtain ⟨k, hk⟩ : ∃ k, k = s % 16 := ⟨_, rfl⟩
  have hk16 : k < 16 := by omega
  rw [← hk] at e1
  rw [← hk]
  clear hk hs
  have ix := quart_at k hk16
  go_enter Try.func47, Try.ntmps47
  go_wp2_with fail
  go_ret
  exact ⟨rfl, rfl⟩
theorem crc_take (bs : List Nat) (k : Nat) (h : k < bs.length) : crcL (bs.take (k + 1)) 4294967295 = gN 4 (gN 4 (crcL (bs.take k) 4294967295 ^^^ bs.getD k 0)) := by
  rw [List.take_succ_eq_append_getElem h, crcL_append, List.getD_eq_getElem?_getD, List.getElem?_eq_getElem h]
  show gN 8 (_ ^^^ bs[k]) = gN 4 (gN 4 (_ ^^^ bs[k]))
  rw [← gN_add]
theorem mem_take_byte {bs : List Nat} (hb : ∀ j, bs.getD j 0 < 256) (k : Nat) : ∀ b ∈ bs.take k, b < 256 := by
  intro b hm
  obtain ⟨i, hi, rfl⟩ := List.getElem_of_mem (List.mem_of_mem_take hm)
  have := hb i
  rw [List.getD_eq_getElem?_getD, List.getElem?_eq_getElem hi] at this
  exact this
theorem mem_byte {bs : List Nat} (hb : ∀ j, bs.getD j 0 < 256) : ∀ b ∈ bs, b < 256 := by
  have := mem_take_byte hb bs.length
  rwa [List.take_length] at this
set_option maxRecDepth 100000 in
set_option maxHeartbeats 800000 in
theorem sum_any (w : World) (A : Option Addr) (len c : Nat) (D : Nat → Prop) (bs : List Nat) (hl : bs.length = len) (hsl : Sl w D A len (byteC bs)) (hb : ∀ j, bs.getD j 0 < 256) (hlen : len ≤ 2097152) :
    Calls Try.prog 29 #[.slice A len c] w fun e w' => e = .returned (.int .u32 (crcS bs : Nat)) ∧ w = w' := by
  have HS := Lib.hid (And.intro hl (And.intro hsl hb))
  clear hl hsl hb
  go_enter Try.func29, Try.ntmps29
  go_wp2_with fail
  go_loopw [3, 8] (fun s i wr => ∃ k : Nat, k ≤ len ∧ i = .int .i64 k ∧ s = .int .u32 (crcL (bs.take k) 4294967295 : Nat) ∧ w = wr) (fun _ i _ => len - (intOf i).toNat)
  case atStart => exact ⟨0, Nat.zero_le _, rfl, rfl, rfl⟩
  case round =>
    obtain ⟨k, hk, rfl, rfl, rfl⟩ := hrel
    have hsl := crcL_lt (s := 4294967295) (mem_take_byte HS.out.2.2 k) (by omega)
    obtain ⟨s, hs⟩ : ∃ s, s = crcL (bs.take k) 4294967295 := ⟨_, rfl⟩
    rw [← hs] at hsl
    rw [← hs]
    by_cases hlt : k < len
    · obtain ⟨b, off, hA, -, hc⟩ := HS.out.2.1 (by omega)
      have ck : w.cell? ⟨b, off + k, none⟩ = some (.int .u8 (bs.getD k 0 : Nat)) := hc k hlt
      subst hA
      have hx := HS.out.2.2 k
      obtain ⟨x, hxx⟩ : ∃ x, x = bs.getD k 0 := ⟨_, rfl⟩
      rw [← hxx] at hx ck
      have e0 : bits .xor .u32 (s : Int) (x : Int) = ((s ^^^ x : Nat) : Int) := u32_xor_nat _ _ hsl (by omega)
      have hsx : s ^^^ x < 4294967296 := Nat.xor_lt_two_pow (n := 32) hsl (by omega)
      obtain ⟨y, hy⟩ : ∃ y, y = s ^^^ x := ⟨_, rfl⟩
      rw [← hy] at e0 hsx
      have HY := Lib.hid (And.intro hy (And.intro hs (And.intro hxx hsx)))
      clear hc hs hxx hy
      go_wp2_with fail
      refine (quarter_any y _ HY.out.2.2.2).mono ?_
      rintro e w2 ⟨rfl, rfl⟩
      have e1 := four_step y HY.out.2.2.2
      have hg1 := gN_lt 4 HY.out.2.2.2
      have e2 := four_step (gN 4 y) hg1
      obtain ⟨z, hz⟩ : ∃ z, z = gN 4 y := ⟨_, rfl⟩
      rw [← hz] at e1 e2 hg1
      have HZ := Lib.hid (And.intro hz (And.intro e2 hg1))
      clear hz e2 e0
      go_wp2_with fail
      refine (quarter_any z _ HZ.out.2.2).mono ?_
      rintro e w2 ⟨rfl, rfl⟩
      have e2 := HZ.out.2.1
      obtain ⟨u, hu⟩ : ∃ u, u = gN 4 z := ⟨_, rfl⟩
      rw [← hu] at e2
      have HU := Lib.hid hu
      clear hu e1
      go_wp2_with fail
      go_roundw
      case rel =>
        refine ⟨k + 1, by omega, by go_num, ?_, by trivial⟩
        obtain ⟨hl, -, -⟩ := HS.out
        rw [crc_take bs k (by omega), ← HY.out.2.1, ← HY.out.2.2.1, ← HY.out.1, ← HZ.out.1, ← HU.out]
      case measure => simp [intOf]; omega
    · have e0 : bits .xor .u32 (s : Int) 4294967295 = ((crcS bs : Nat) : Int) := by
        rw [show (4294967295 : Int) = ((4294967295 : Nat) : Int) from rfl, u32_xor_nat _ _ hsl (by omega), hs]
        obtain ⟨hl, -, -⟩ := HS.out
        rw [List.take_of_length_le (by omega)]
        rfl
      clear hs
      go_wp2_with fail
      go_ret
      exact ⟨rfl, rfl⟩
/-- The four bytes of a number, the lowest first. -/
def fourL (u : Nat) : List Nat := [u % 256, u / 256 % 256, u / 65536 % 256, u / 16777216 % 256]
def FourPost (w : World) (u : Nat) (e : Ending) (w' : World) : Prop :=
  e = .returned (.agg #[.int .u8 ((u : Int) % 256), .int .u8 ((u : Int) / 256 % 256), .int .u8 ((u : Int) / 65536 % 256), .int .u8 ((u : Int) / 16777216 % 256)]) ∧ Below w.heap.size w w'
set_option maxRecDepth 100000 in
set_option maxHeartbeats 800000 in
theorem four_any (u : Nat) (w : World) (hu : u < 4294967296) : Calls Try.prog 28 #[.int .u32 (u : Nat)] w (FourPost w u) := by
  go_enter Try.func28, Try.ntmps28
  go_wp2_with fail
  have hb := Blk.fresh w 58 #[.int .u8 ((u : Int) % 256), .int .u8 ((u : Int) / 256 % 256), .int .u8 ((u : Int) / 65536 % 256), .int .u8 ((u : Int) / 16777216)]
  have bel := (Below.refl w.heap.size w).alloc (Nat.le_refl _) (.cells #[.int .u8 ((u : Int) % 256), .int .u8 ((u : Int) / 256 % 256), .int .u8 ((u : Int) / 65536 % 256), .int .u8 ((u : Int) / 16777216)] 58)
  generalize w.alloc (.cells #[.int .u8 ((u : Int) % 256), .int .u8 ((u : Int) / 256 % 256), .int .u8 ((u : Int) / 65536 % 256), .int .u8 ((u : Int) / 16777216)] 58) = w2 at hb bel ⊢
  have r0 := hb.cell 0
  have r1 := hb.cell 1
  have r2 := hb.cell 2
  have r3 := hb.cell 3
  simp at r0 r1 r2 r3
  refine bodyPost_ret (v := .agg #[.int .u8 ((u : Int) % 256), .int .u8 ((u : Int) / 256 % 256), .int .u8 ((u : Int) / 65536 % 256), .int .u8 ((u : Int) / 16777216)]) (by simp [results, Try.results28, go_sem, r0, r1, r2, r3]) rfl ⟨?_, bel⟩
  rw [show (u : Int) / 16777216 % 256 = (u : Int) / 16777216 by omega]
theorem sl_four (w : World) (g u : Nat) (h : Blk w g 58 #[.int .u8 ((u : Int) % 256), .int .u8 ((u : Int) / 256 % 256), .int .u8 ((u : Int) / 65536 % 256), .int .u8 ((u : Int) / 16777216 % 256)]) : Sl w (fun k => k = g) (some ⟨g, 0, none⟩) 4 (byteC (fourL u)) := fun _ =>
  ⟨_, _, rfl, rfl, fun j hj => by
    rw [h.cell (0 + j)]
    rcases (show j = 0 ∨ j = 1 ∨ j = 2 ∨ j = 3 by omega) with rfl | rfl | rfl | rfl
    · show some (Value.int .u8 ((u : Int) % 256)) = some (.int .u8 ((u % 256 : Nat) : Int)); rw [show ((u % 256 : Nat) : Int) = (u : Int) % 256 by omega]
    · show some (Value.int .u8 ((u : Int) / 256 % 256)) = some (.int .u8 ((u / 256 % 256 : Nat) : Int)); rw [show ((u / 256 % 256 : Nat) : Int) = (u : Int) / 256 % 256 by omega]
    · show some (Value.int .u8 ((u : Int) / 65536 % 256)) = some (.int .u8 ((u / 65536 % 256 : Nat) : Int)); rw [show ((u / 65536 % 256 : Nat) : Int) = (u : Int) / 65536 % 256 by omega]
    · show some (Value.int .u8 ((u : Int) / 16777216 % 256)) = some (.int .u8 ((u / 16777216 % 256 : Nat) : Int)); rw [show ((u / 16777216 % 256 : Nat) : Int) = (u : Int) / 16777216 % 256 by omega]⟩
theorem fourL_byte (u : Nat) : ∀ b ∈ fourL u, b < 256 := by
  intro b hb
  simp only [fourL, List.mem_cons, List.not_mem_nil, or_false] at hb
  omega
theorem le_four (u : Nat) (hu : u < 4294967296) : le (fourL u) = u := by
  show u % 256 + 256 * (u / 256 % 256 + 256 * (u / 65536 % 256 + 256 * (u / 16777216 % 256 + 256 * 0))) = u
  omega
end Go.Proofs.Ytboecnakndpgfaa.F
