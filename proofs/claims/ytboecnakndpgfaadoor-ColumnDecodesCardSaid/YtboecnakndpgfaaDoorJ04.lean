/-
  Texts of this proof, joined: FrmR, Delta, DeltaB, DeltaE, DeltaSizesW, DeltaR, DeltaRE, XorPl, XorWord, XorRef, XorWin.
-/
import Derived.Test.YtboecnakndpgfaaDoorJ03
import Derived.Test.YtboecnakndpgfaaDoorJ02
import Derived.Test.YtboecnakndpgfaaDoorJ01
import Derived.Deep.LoopGhost
import Derived.Below
import Derived.Laws.BitsAllLaws
import Derived.Laws.BitsLemmas
import Derived.Test.YtboecnakndpgfaaDoorRows
import Derived.WalkKit
import Derived.WalkSpells
import Derived.WalkLawsBesides
import Derived.Outline
import Derived.Lib.Hide
namespace Go.Proofs.YtboecnakndpgfaaDoor.F
open Go.RowKit
set_option linter.unusedVariables false
set_option linter.unusedSimpArgs false
theorem gN_succ' (n s : Nat) : gN (n + 1) s = gbit (gN n s) := gN_add n 1 s
set_option maxRecDepth 100000 in
set_option maxHeartbeats 800000 in
theorem rsum_any (w : World) (A : Option Addr) (len c : Nat) (D : Nat → Prop) (bs : List Nat) (hl : bs.length = len) (hsl : Sl w D A len (byteC bs)) (hb : ∀ j, bs.getD j 0 < 256) (hlen : len ≤ 2097152) :
    Calls Tryd.prog 71 #[.slice A len c] w fun e w' => e = .returned (.int .u32 (crcS bs : Nat)) ∧ w = w' := by
  have HS := Lib.hid (And.intro hl (And.intro hsl hb))
  clear hl hsl hb
  go_enter Tryd.func71, Tryd.ntmps71
  go_wp2_with fail
  go_loopw [3, 4] (fun s i wr => ∃ k : Nat, k ≤ len ∧ i = .int .i64 k ∧ s = .int .u32 (crcL (bs.take k) 4294967295 : Nat) ∧ w = wr) (fun _ i _ => len - (intOf i).toNat)
  case atStart => exact ⟨0, Nat.zero_le _, rfl, rfl, rfl⟩
  case round =>
    obtain ⟨k, hk, rfl, rfl, rfl⟩ := hrel
    have hsl := crcL_lt (s := 4294967295) (mem_take_byte HS.out.2.2 k) (by omega)
    obtain ⟨s, hs⟩ : ∃ s, s = crcL (bs.take k) 4294967295 := ⟨_, rfl⟩
    rw [← hs] at hsl
    rw [← hs]
    by_cases hlt : k < len
    · obtain ⟨b, off, hA, -, hc⟩ := HS.out.2.1 (by omega)
      have ck : w.cell? ⟨b, off + k, none⟩ = some (.int .u8 (bs.getD k 0 : Nat)) := hc k hlt
      subst hA
      have hx := HS.out.2.2 k
      obtain ⟨x, hxx⟩ : ∃ x, x = bs.getD k 0 := ⟨_, rfl⟩
      rw [← hxx] at hx ck
      have e0 : bits .xor .u32 (s : Int) (x : Int) = ((s ^^^ x : Nat) : Int) := u32_xor_nat _ _ hsl (by omega)
      have hsx : s ^^^ x < 4294967296 := Nat.xor_lt_two_pow (n := 32) hsl (by omega)
      obtain ⟨y, hy⟩ : ∃ y, y = s ^^^ x := ⟨_, rfl⟩
      rw [← hy] at e0 hsx
      have HY := Lib.hid (And.intro hy (And.intro hs (And.intro hxx hsx)))
      clear hc hs hxx hy
      go_wp2_with fail
      clear e0
      go_loopw [3, 5] (fun s i wr => ∃ j : Nat, j ≤ 8 ∧ i = .int .i64 j ∧ s = .int .u32 (gN j y : Nat) ∧ w = wr) (fun _ i _ => 8 - (intOf i).toNat)
      case atStart => exact ⟨0, Nat.zero_le _, rfl, rfl, rfl⟩
      case round =>
        obtain ⟨j, hj, rfl, rfl, rfl⟩ := hrel
        have hz := gN_lt j HY.out.2.2.2
        have hn := gN_succ' j y
        obtain ⟨z, hzz⟩ : ∃ z, z = gN j y := ⟨_, rfl⟩
        rw [← hzz] at hz hn
        rw [← hzz]
        by_cases hj8 : j < 8
        · have HZ := Lib.hid (And.intro hn hzz)
          clear hn hzz
          rcases (show z % 2 = 1 ∨ z % 2 = 0 by omega) with hp | hp
          · have d : ((z : Int) % 2 == 1) = true := by simp; omega
            have d2 : (z : Int) % 2 = 1 := by omega
            have e1 : bits .xor .u32 ((z : Int) / 2) 3988292384 = ((z / 2 ^^^ 3988292384 : Nat) : Int) := by
              rw [show (z : Int) / 2 = ((z / 2 : Nat) : Int) by omega, show (3988292384 : Int) = ((3988292384 : Nat) : Int) from rfl, u32_xor_nat _ _ (by omega) (by omega)]
            have hg : gbit z = z / 2 ^^^ 3988292384 := by unfold gbit; rw [if_pos hp]
            have HG := Lib.hid (And.intro hg e1)
            clear hg hp d2
            go_wp2_with fail
            go_roundw
            case rel =>
              refine ⟨j + 1, by omega, by go_num, ?_, by trivial⟩
              first | (rw [HZ.out.1, HG.out.1]; done) | (rw [HZ.out.1, HG.out.1, HG.out.2]; done)
            case measure => simp [intOf]; omega
          · have d : ((z : Int) % 2 == 1) = false := by simp; omega
            have hg : gbit z = z / 2 := by unfold gbit; rw [if_neg (by omega)]
            have HG := Lib.hid hg
            clear hg hp
            go_wp2_with fail
            go_roundw
            case rel =>
              refine ⟨j + 1, by omega, by go_num, ?_, by trivial⟩
              rw [HZ.out.1, HG.out]
              first | rfl | (congr 1 <;> omega)
            case measure => simp [intOf]; omega
        · obtain rfl : j = 8 := by omega
          have HZ := Lib.hid (And.intro hn hzz)
          clear hn hzz
          go_wp2_with fail
          go_roundw
          case rel =>
            refine ⟨k + 1, by omega, by go_num, ?_, by trivial⟩
            obtain ⟨hl, -, -⟩ := HS.out
            rw [crc_take bs k (by omega), ← HY.out.2.1, ← HY.out.2.2.1, ← HY.out.1, ← gN_add, HZ.out.2]
          case measure => simp [intOf]; omega
    · have e0 : bits .xor .u32 (s : Int) 4294967295 = ((crcS bs : Nat) : Int) := by
        rw [show (4294967295 : Int) = ((4294967295 : Nat) : Int) from rfl, u32_xor_nat _ _ hsl (by omega), hs]
        obtain ⟨hl, -, -⟩ := HS.out
        rw [List.take_of_length_le (by omega)]
        rfl
      clear hs
      go_wp2_with fail
      go_ret
      exact ⟨rfl, rfl⟩
theorem le_drop (bs : List Nat) (m i : Nat) (hi : i < m) (hil : i < bs.length) : le ((bs.take m).drop i) = bs.getD i 0 + 256 * le ((bs.take m).drop (i + 1)) := by
  rw [List.drop_eq_getElem_cons (by simp; omega), List.getElem_take, List.getD_eq_getElem?_getD, List.getElem?_eq_getElem (by omega)]
  rfl
theorem le_drop_nil (bs : List Nat) (m i : Nat) (hil : bs.length ≤ i) : le ((bs.take m).drop i) = 0 := by
  rw [List.drop_eq_nil_of_le (by simp; omega)]
  rfl
theorem le_drop_lt (bs : List Nat) (i : Nat) (hi : i ≤ 8) (hb : ∀ j, bs.getD j 0 < 256) : le ((bs.take 8).drop i) < 2 ^ (8 * (8 - i)) := by
  have h1 := le_lt (l := (bs.take 8).drop i) (fun b hbm => mem_take_byte hb 8 b (List.mem_of_mem_drop hbm))
  have h2 : ((bs.take 8).drop i).length ≤ 8 - i := by simp; omega
  have h3 : (2 : Nat) ^ (8 * ((bs.take 8).drop i).length) ≤ 2 ^ (8 * (8 - i)) := Nat.pow_le_pow_right (by omega) (by omega)
  omega
set_option maxRecDepth 100000 in
set_option maxHeartbeats 800000 in
theorem rlittle_any (w : World) (A : Option Addr) (len c : Nat) (D : Nat → Prop) (bs : List Nat) (hl : bs.length = len) (hsl : Sl w D A len (byteC bs)) (hb : ∀ j, bs.getD j 0 < 256) (hlen : len ≤ 1099511627776) :
    Calls Tryd.prog 70 #[.slice A len c] w fun e w' => e = .returned (.int .u64 (le (bs.take 8) : Nat)) ∧ w = w' := by
  have HS := Lib.hid (And.intro hl (And.intro hsl hb))
  clear hl hsl hb
  go_enter Tryd.func70, Tryd.ntmps70
  go_wp2_with fail
  go_loopw [3, 4] (fun u i wr => ∃ k : Nat, k ≤ 8 ∧ i = .int .i64 ((k : Int) - 1) ∧ u = .int .u64 (le ((bs.take 8).drop k) : Nat) ∧ w = wr) (fun _ i _ => (intOf i + 1).toNat)
  case atStart => exact ⟨8, Nat.le_refl _, rfl, by rw [List.drop_eq_nil_of_le (by simp; omega)]; rfl, rfl⟩
  case round =>
    obtain ⟨k, hk, rfl, rfl, rfl⟩ := hrel
    rcases Nat.eq_zero_or_pos k with hk0 | hk0
    · subst hk0
      rw [show ((0 : Nat) : Int) - 1 = -1 from rfl]
      rw [List.drop_zero]
      go_wp2_with fail
      go_ret
      exact ⟨rfl, rfl⟩
    · obtain ⟨i, rfl⟩ : ∃ i, k = i + 1 := ⟨k - 1, by omega⟩
      rw [show ((i + 1 : Nat) : Int) - 1 = (i : Int) by omega]
      obtain ⟨hl, hsl, hb⟩ := HS.out
      by_cases hlt : i < len
      · obtain ⟨b, off, hA, -, hc⟩ := hsl (by omega)
        have ck : w.cell? ⟨b, off + i, none⟩ = some (.int .u8 (bs.getD i 0 : Nat)) := hc i hlt
        subst hA
        have hx := hb i
        have hd := le_drop bs 8 i (by omega) (by omega)
        have hu := le_drop_lt bs (i + 1) (by omega) hb
        have hu2 : (2 : Nat) ^ (8 * (8 - (i + 1))) ≤ 2 ^ 56 := Nat.pow_le_pow_right (by omega) (by omega)
        obtain ⟨x, hxx⟩ : ∃ x, x = bs.getD i 0 := ⟨_, rfl⟩
        rw [← hxx] at hx ck hd
        obtain ⟨u, huu⟩ : ∃ u, u = le ((bs.take 8).drop (i + 1)) := ⟨_, rfl⟩
        rw [← huu] at hd hu
        rw [← huu]
        have hu3 : u < 72057594037927936 := by omega
        have hw : IntKind.u64.wrap (IntKind.u64.wrap ((u : Int) * 256) + IntKind.u64.wrap (x : Int)) = ((le ((bs.take 8).drop i) : Nat) : Int) := by
          rw [hd]; simp only [IntKind.wrap_u64]; omega
        have hw2 : IntKind.u64.wrap (IntKind.u64.wrap ((u : Int) * 256) + (x : Int)) = ((le ((bs.take 8).drop i) : Nat) : Int) := by
          rw [hd]; simp only [IntKind.wrap_u64]; omega
        have hw3 : (u : Int) * 256 + (x : Int) = ((le ((bs.take 8).drop i) : Nat) : Int) := by rw [hd]; omega
        have HD := Lib.hid (And.intro hw (And.intro hw2 hw3))
        clear hd hu hu2 hc hsl hb hl huu hxx hw hw2 hw3
        go_wp2_with fail
        go_roundw
        case rel =>
          refine ⟨i, by omega, by first | rfl | (congr 1), ?_, by trivial⟩
          obtain ⟨h1, h2, h3⟩ := HD.out
          first | rw [h1] | rw [h2] | rw [h3]
        case measure => simp [intOf]
      · have hd : le ((bs.take 8).drop i) = 0 := le_drop_nil bs 8 i (by omega)
        have hd1 : le ((bs.take 8).drop (i + 1)) = 0 := le_drop_nil bs 8 (i + 1) (by omega)
        have HD := Lib.hid (And.intro hd hd1)
        rw [hd1]
        rw [show ((0 : Nat) : Int) = 0 from rfl]
        clear hd hd1 hl hsl hb
        go_wp2_with fail
        go_roundw
        case rel => exact ⟨i, by omega, by first | rfl | (congr 1), by rw [HD.out.1]; rfl, by trivial⟩
        case measure => simp [intOf]
def RFourPost (w : World) (u : Nat) (e : Ending) (w' : World) : Prop :=
  e = .returned (.slice (some ⟨w.heap.size, 0, none⟩) 4 4) ∧ Sl w' (fun k => k = w.heap.size) (some ⟨w.heap.size, 0, none⟩) 4 (byteC (fourL u)) ∧ Below w.heap.size w w'
theorem own_lit1 (w : World) (base : Nat) (e : TypeId) (u : Value) (hb : base ≤ w.heap.size) : (w.alloc (.cells #[u] e)).ownsRow base e 1 (.slice (some ⟨w.heap.size, 0, none⟩) 1 1) 1 [u] :=
  ⟨rfl, .inr ⟨w.heap.size, 1, #[u], rfl, hb, heap_alloc_new w _, Nat.le_refl _, by unfold maxLen; omega, rfl, rfl⟩⟩
end Go.Proofs.YtboecnakndpgfaaDoor.F
namespace Go.Proofs.YtboecnakndpgfaaDoor.D
set_option maxRecDepth 100000
open Go.RowKit
set_option linter.unusedVariables false
/-- The class of a step of a step. -/
def cls (z : Nat) : Nat := if z = 0 then 0 else if z < 128 then 1 else if z < 4096 then 2 else if z < 4294967296 then 3 else 4
def wd (k : Nat) : Nat := [0, 7, 12, 32, 64].getD k 0
def ah (k : Nat) : Nat := min (k + 1) 4
theorem cls_le (z : Nat) : cls z ≤ 4 := by unfold cls; split; omega; split; omega; split; omega; split <;> omega
def widthsV : Value := .agg #[.int .i64 0, .int .i64 7, .int .i64 12, .int .i64 32, .int .i64 64]
theorem widths_at (k : Nat) (hk : k < 5) (w : World) : (Instr.index 131 (.agg #[.int .i64 0, .int .i64 7, .int .i64 12, .int .i64 32, .int .i64 64]) (.int .i64 (k : Nat))).run Tryd.prog w = .ok (.int .i64 (wd k : Nat)) w := by
  rcases (show k = 0 ∨ k = 1 ∨ k = 2 ∨ k = 3 ∨ k = 4 by omega) with rfl | rfl | rfl | rfl | rfl <;> kernel_rfl
set_option maxHeartbeats 400000 in
theorem widths_any (w : World) : Calls Tryd.prog 67 #[] w fun e w' => e = .returned widthsV ∧ Below w.heap.size w w' := by
  go_enter Tryd.func67, Tryd.ntmps67
  go_wp2
  exact bodyPost_ret (v := widthsV) (by simp [results, Tryd.results67, go_sem, widthsV]) rfl ⟨rfl, (Below.refl _ _).alloc (Nat.le_refl _) _⟩
set_option maxHeartbeats 400000 in
theorem ahead_any (k : Nat) (hk : k ≤ 4) (w : World) : Calls Tryd.prog 75 #[.int .i64 (k : Nat)] w fun e w' => e = .returned (.int .i64 (ah k : Nat)) ∧ w = w' := by
  rcases (show k = 0 ∨ k = 1 ∨ k = 2 ∨ k = 3 ∨ k = 4 by omega) with rfl | rfl | rfl | rfl | rfl
  all_goals
    go_enter Tryd.func75, Tryd.ntmps75
    go_wp2
    go_ret
    exact ⟨rfl, rfl⟩
set_option maxRecDepth 100000 in
set_option maxHeartbeats 800000 in
theorem classOf_any (z : Nat) (hz : z < 18446744073709551616) (w : World) :
    Calls Tryd.prog 68 #[.int .u64 (z : Nat)] w fun e w' => e = .returned (.int .i64 (cls z : Nat)) ∧ Below w.heap.size w w' := by
  have HZ := Lib.hid hz
  clear hz
  go_enter Tryd.func68, Tryd.ntmps68
  go_wp2_with fail
  refine (widths_any _).mono ?_
  rintro e w1 ⟨rfl, hb1⟩
  have HB := Lib.hid hb1
  clear hb1
  unfold widthsV
  go_wp2_with fail
  go_loop [6] (fun i => ∃ k : Nat, k ≤ 4 ∧ i = .int .i64 k ∧ (1 ≤ k → 1 ≤ z) ∧ (2 ≤ k → 128 ≤ z) ∧ (3 ≤ k → 4096 ≤ z) ∧ (4 ≤ k → 4294967296 ≤ z)) (fun i => 5 - (intOf i).toNat)
  case atStart => exact ⟨0, by omega, rfl, by omega, by omega, by omega, by omega⟩
  case round =>
    obtain ⟨k, hk, rfl, h1, h2, h3, h4⟩ := hrel
    rcases (show k = 0 ∨ k = 1 ∨ k = 2 ∨ k = 3 ∨ k = 4 by omega) with rfl | rfl | rfl | rfl | rfl
    · have ix : ∀ w, (Instr.index 131 (.agg #[.int .i64 0, .int .i64 7, .int .i64 12, .int .i64 32, .int .i64 64]) (.int .i64 0)).run Tryd.prog w = .ok (.int .i64 0) w := fun _ => by kernel_rfl
      by_cases hb : z < 1
      · have d1 : ((z : Int) / 1 == 0) = true := by simp; omega
        have d2 : ((z : Int) == 0) = decide (z = 0) := by by_cases h : z = 0 <;> simp [h]
        have d3 : z = 0 := by omega
        have d4 : decide (z = 0) = true := by simp [d3]
        have HD := Lib.hid d3
        clear d3
        go_wp2_with fail
        go_ret
        refine ⟨ret_int ?_, HB.out⟩
        have : cls z = 0 := by unfold cls; have := HD.out; repeat (first | rw [if_pos (by omega)] | rw [if_neg (by omega)])
        rw [this]; rfl
      · have d1 : ((z : Int) / 1 == 0) = false := by simp; omega
        have d2 : ((z : Int) == 0) = false := by simp; omega
        go_wp2_with fail
        go_round
        case rel => exact ⟨1, by omega, rfl, by omega, by omega, by omega, by omega⟩
        case measure => simp [intOf]
    · have ix : ∀ w, (Instr.index 131 (.agg #[.int .i64 0, .int .i64 7, .int .i64 12, .int .i64 32, .int .i64 64]) (.int .i64 1)).run Tryd.prog w = .ok (.int .i64 7) w := fun _ => by kernel_rfl
      by_cases hb : z < 128
      · have d1 : ((z : Int) / 128 == 0) = true := by simp; omega
        have d2 : ((z : Int) == 0) = decide (z = 0) := by by_cases h : z = 0 <;> simp [h]
        clear d2
        go_wp2_with fail
        go_ret
        refine ⟨ret_int ?_, HB.out⟩
        have : cls z = 1 := by unfold cls; repeat (first | rw [if_pos (by omega)] | rw [if_neg (by omega)])
        rw [this]; rfl
      · have d1 : ((z : Int) / 128 == 0) = false := by simp; omega
        skip
        go_wp2_with fail
        go_round
        case rel => exact ⟨2, by omega, rfl, by omega, by omega, by omega, by omega⟩
        case measure => simp [intOf]
    · have ix : ∀ w, (Instr.index 131 (.agg #[.int .i64 0, .int .i64 7, .int .i64 12, .int .i64 32, .int .i64 64]) (.int .i64 2)).run Tryd.prog w = .ok (.int .i64 12) w := fun _ => by kernel_rfl
      by_cases hb : z < 4096
      · have d1 : ((z : Int) / 4096 == 0) = true := by simp; omega
        have d2 : ((z : Int) == 0) = decide (z = 0) := by by_cases h : z = 0 <;> simp [h]
        clear d2
        go_wp2_with fail
        go_ret
        refine ⟨ret_int ?_, HB.out⟩
        have : cls z = 2 := by unfold cls; repeat (first | rw [if_pos (by omega)] | rw [if_neg (by omega)])
        rw [this]; rfl
      · have d1 : ((z : Int) / 4096 == 0) = false := by simp; omega
        skip
        go_wp2_with fail
        go_round
        case rel => exact ⟨3, by omega, rfl, by omega, by omega, by omega, by omega⟩
        case measure => simp [intOf]
    · have ix : ∀ w, (Instr.index 131 (.agg #[.int .i64 0, .int .i64 7, .int .i64 12, .int .i64 32, .int .i64 64]) (.int .i64 3)).run Tryd.prog w = .ok (.int .i64 32) w := fun _ => by kernel_rfl
      by_cases hb : z < 4294967296
      · have d1 : ((z : Int) / 4294967296 == 0) = true := by simp; omega
        have d2 : ((z : Int) == 0) = decide (z = 0) := by by_cases h : z = 0 <;> simp [h]
        clear d2
        go_wp2_with fail
        go_ret
        refine ⟨ret_int ?_, HB.out⟩
        have : cls z = 3 := by unfold cls; repeat (first | rw [if_pos (by omega)] | rw [if_neg (by omega)])
        rw [this]; rfl
      · have d1 : ((z : Int) / 4294967296 == 0) = false := by simp; omega
        skip
        go_wp2_with fail
        go_round
        case rel => exact ⟨4, by omega, rfl, by omega, by omega, by omega, by omega⟩
        case measure => simp [intOf]
    · have ix : ∀ w, (Instr.index 131 (.agg #[.int .i64 0, .int .i64 7, .int .i64 12, .int .i64 32, .int .i64 64]) (.int .i64 4)).run Tryd.prog w = .ok (.int .i64 64) w := fun _ => by kernel_rfl
      go_wp2_with fail
      go_ret
      refine ⟨ret_int ?_, HB.out⟩
      have : cls z = 4 := by unfold cls; repeat (first | rw [if_pos (by omega)] | rw [if_neg (by omega)])
      rw [this]; rfl
end Go.Proofs.YtboecnakndpgfaaDoor.D
namespace Go.Proofs.YtboecnakndpgfaaDoor.D
set_option maxRecDepth 100000
open Go.RowKit
set_option linter.unusedVariables false
set_option linter.unusedSimpArgs false
/-- A difference modulo 2^64. -/
def sub64 (a b : Int) : Int := (a - b + 9223372036854775808) % 18446744073709551616 - 9223372036854775808
theorem sub64_range (a b : Int) : -9223372036854775808 ≤ sub64 a b ∧ sub64 a b ≤ 9223372036854775807 := by unfold sub64; omega
set_option maxRecDepth 100000 in
set_option maxHeartbeats 400000 in
theorem sub_any (a b : Int) (w : World) (a0 : -9223372036854775808 ≤ a) (a1 : a ≤ 9223372036854775807) (b0 : -9223372036854775808 ≤ b) (b1 : b ≤ 9223372036854775807) :
    Calls Tryd.prog 53 #[.int .i64 a, .int .i64 b] w fun e w' => e = .returned (.int .i64 (sub64 a b)) ∧ w = w' := by
  have H := Lib.hid (And.intro a0 (And.intro a1 (And.intro b0 b1)))
  clear a0 a1 b0 b1
  go_enter Tryd.func53, Tryd.ntmps53
  go_wp2
  go_ret
  refine ⟨ret_int ?_, rfl⟩
  obtain ⟨a0, a1, b0, b1⟩ := H.out
  unfold sub64
  unfold wrap64
  simp only [IntKind.wrap_u64]
  omega
/-- The bits of a step of a step. -/
def mk (k : Nat) : Nat := 2 ^ ah k - 1 - (if k < 4 then 1 else 0)
def dbits (z : Nat) : List Nat := bitsTo (mk (cls z)) (ah (cls z)) (ah (cls z)) ++ bitsTo z (wd (cls z)) (wd (cls z))
theorem wd_le {k : Nat} (hk : k ≤ 4) : wd k ≤ 64 := by
  rcases (show k = 0 ∨ k = 1 ∨ k = 2 ∨ k = 3 ∨ k = 4 by omega) with rfl | rfl | rfl | rfl | rfl <;> decide
theorem dbits_length (z : Nat) : (dbits z).length = ah (cls z) + wd (cls z) := by unfold dbits; rw [List.length_append, bitsTo_length, bitsTo_length]
theorem dbits_le (z : Nat) : (dbits z).length ≤ 68 := by
  rw [dbits_length]
  have := wd_le (cls_le z)
  unfold ah; omega
def DPutPost (w : World) (a : Nat) (g : Option Nat) (L' : List Nat) (e : Ending) (w' : World) : Prop :=
  e = .returned (.tuple #[]) ∧ ∃ g', Wr w' a g' L' ∧ Keeps (fun k => k = a ∨ some k = g) w w' ∧ Moved w g g'
theorem keeps_two {w w1 w2 : World} {a : Nat} {g g1 : Option Nat} (h : Keeps (fun k => k = a ∨ some k = g) w w1) (hm : Moved w g g1) (k : Keeps (fun k => k = a ∨ some k = g1) w1 w2) : Keeps (fun k => k = a ∨ some k = g) w w2 :=
  h.trans k (fun x hx e => by
    rcases e with e | e
    · exact .inl e
    · rcases hm with h | ⟨q, h, hq⟩
      · exact .inr (h ▸ e)
      · rw [h] at e; injection e with e; omega)
set_option maxRecDepth 100000 in
set_option maxHeartbeats 800000 in
theorem dput_any (w : World) (a : Nat) (g : Option Nat) (L : List Nat) (z : Nat) (h : Wr w a g L) (hz : z < 18446744073709551616) (hl : L.length ≤ 4000000) :
    Calls Tryd.prog 54 #[.pointer (some ⟨a, 0, none⟩), .int .u64 (z : Nat)] w (DPutPost w a g (L ++ dbits z)) := by
  have HZ := Lib.hid (And.intro h hz)
  clear h hz
  go_enter Tryd.func54, Tryd.ntmps54
  go_wp2_with fail
  refine (classOf_any _ HZ.out.2 _).mono ?_
  rintro e w1 ⟨rfl, hb1⟩
  have hk := cls_le z
  obtain ⟨k, hkk⟩ : ∃ k, k = cls z := ⟨_, rfl⟩
  rw [← hkk] at hk
  rw [← hkk]
  have hx1 := HZ.out.1.keeps (S := fun _ => False) (Keeps.of_below hb1) (fun h => h) (fun _ _ h => h)
  have H1 := Lib.hid (And.intro hx1 (And.intro hb1 hkk))
  clear hx1 hb1 hkk
  have l1 : 1 ≤ ah k ∧ ah k ≤ 4 := by unfold ah; omega
  obtain ⟨A, hA⟩ : ∃ A, A = ah k := ⟨_, rfl⟩
  rw [← hA] at l1
  have hpw : (2 : Int) ^ A = ((2 ^ A : Nat) : Int) := pow_cast A
  have hpl : 2 ^ A ≤ 2 ^ 4 := Nat.pow_le_pow_right (by omega) l1.2
  have hp1 : 2 ^ 1 ≤ 2 ^ A := Nat.pow_le_pow_right (by omega) l1.1
  obtain ⟨m, hm⟩ : ∃ m, m = mk k := ⟨_, rfl⟩
  have hmv : m = 2 ^ A - 1 - (if k < 4 then 1 else 0) := by rw [hm]; unfold mk; rw [hA]
  have hm16 : m < 16 := by rw [hmv]; omega
  have e1 : IntKind.u64.wrap (IntKind.u64.wrap ((2 : Int) ^ A) - 1) = ((2 ^ A - 1 : Nat) : Int) := by
    rw [hpw, IntKind.wrap_u64, IntKind.wrap_u64]; omega
  have e2 : k < 4 → IntKind.u64.wrap (((2 ^ A - 1 : Nat) : Int) - 1) = (m : Int) := fun h => by
    rw [IntKind.wrap_u64, hmv, if_pos h]; omega
  have e3 : ¬ k < 4 → ((2 ^ A - 1 : Nat) : Int) = (m : Int) := fun h => by rw [hmv, if_neg h]; rfl
  obtain ⟨q, hq⟩ : ∃ q, q = 2 ^ A - 1 := ⟨_, rfl⟩
  rw [← hq] at e1 e2 e3
  have HM := Lib.hid (And.intro hA (And.intro hm (And.intro e2 e3)))
  clear hpw hpl hp1 hm hmv e2 e3 hq
  go_wp2_with fail
  refine (ahead_any k hk _).mono ?_
  rintro e w2 ⟨rfl, rfl⟩
  rw [← hA]
  clear hA
  go_upto_if 13 with (fail)
  go_cut [5] (fun s5 wx => s5 = .int .u64 (m : Nat) ∧ w1 = wx)
  case first =>
    by_cases hk4 : k < 4
    · have e2 := HM.out.2.2.1 hk4
      go_wp2_with fail
      go_meet
      exact ⟨rfl, rfl⟩
    · go_wp2_with fail
      go_meet
      rw [HM.out.2.2.2 hk4]
      exact ⟨rfl, rfl⟩
  case rest =>
    obtain ⟨rfl, rfl⟩ := hcut
    clear e1
    go_wp2_with fail
    refine (ahead_any k hk _).mono ?_
    rintro e w2 ⟨rfl, rfl⟩
    rw [← HM.out.1]
    go_wp2_with fail
    refine (put_fit _ _ _ _ _ _ H1.out.1 (by omega) (by omega) (by omega) (by omega) (by omega)).mono ?_
    rintro e w2 ⟨rfl, g2, hx2, hk2, hm2⟩
    rw [show ((m : Int)).toNat = m from rfl, show ((A : Int)).toNat = A from rfl] at hx2
    have hkw : Keeps (fun k => k = a ∨ some k = g) w w2 := (Keeps.of_below H1.out.2.1).trans' hk2
    have hmw : Moved w g g2 := by
      rcases hm2 with h | ⟨q', h, hq'⟩
      · exact .inl h
      · exact .inr ⟨q', h, Nat.le_trans H1.out.2.1.size hq'⟩
    have H2 := Lib.hid (And.intro hx2 (And.intro hkw hmw))
    clear hx2 hkw hmw hk2 hm2
    go_wp2_with fail
    refine (widths_any _).mono ?_
    rintro e w3 ⟨rfl, hb3⟩
    have hx3 := H2.out.1.keeps (S := fun _ => False) (Keeps.of_below hb3) (fun h => h) (fun _ _ h => h)
    have H3 := Lib.hid (And.intro hx3 hb3)
    clear hx3 hb3
    unfold widthsV
    have ix := fun w => widths_at k (by omega) w
    have l2 := wd_le hk
    go_wp2_with fail
    clear ix
    refine (put_fit _ _ _ _ _ _ H3.out.1 (by omega) (by have := HZ.out.2; omega) (by omega) (by omega) (by rw [List.length_append, bitsTo_length]; omega)).mono ?_
    rintro e w4 ⟨rfl, g4, hx4, hk4, hm4⟩
    rw [show ((z : Int)).toNat = z from rfl, show ((wd k : Int)).toNat = wd k from rfl] at hx4
    have hk24 : Keeps (fun k => k = a ∨ some k = g2) w2 w4 := (Keeps.of_below H3.out.2).trans' hk4
    have hm24 : Moved w2 g2 g4 := by
      rcases hm4 with h | ⟨q', h, hq'⟩
      · exact .inl h
      · exact .inr ⟨q', h, Nat.le_trans H3.out.2.size hq'⟩
    have hkw4 := keeps_two H2.out.2.1 H2.out.2.2 hk24
    have hmw4 := H2.out.2.2.trans H2.out.2.1.size hm24
    have H4 := Lib.hid (And.intro hx4 (And.intro hkw4 hmw4))
    clear hx4 hk4 hm4 hk24 hm24 hkw4 hmw4
    go_wp2_with fail
    go_end0
    refine ⟨rfl, g4, ?_, H4.out.2.1, H4.out.2.2⟩
    have e : L ++ dbits z = L ++ bitsTo m A A ++ bitsTo z (wd k) (wd k) := by
      unfold dbits
      rw [← H1.out.2.2, ← HM.out.1, ← HM.out.2.1, List.append_assoc]
    rw [e]
    exact H4.out.1
end Go.Proofs.YtboecnakndpgfaaDoor.D
namespace Go.Proofs.YtboecnakndpgfaaDoor.D
set_option maxRecDepth 100000
open Go.RowKit
set_option linter.unusedVariables false
set_option linter.unusedSimpArgs false
/-- The step behind k times; the bits of the first k. -/
def st (f : Nat → Int) : Nat → Int
  | 0 => 0
  | 1 => 0
  | k + 2 => sub64 (f (k + 1)) (f k)
def u64 (n : Int) : Nat := (n % 18446744073709551616).toNat
theorem u64_lt (n : Int) : u64 n < 18446744073709551616 := by unfold u64; omega
def encTo (f : Nat → Int) : Nat → List Nat
  | 0 => []
  | 1 => bitsTo (u64 (f 0)) 64 64
  | k + 2 => encTo f (k + 1) ++ dbits (zig (sub64 (sub64 (f (k + 1)) (f k)) (st f (k + 1))))
theorem st_range (f : Nat → Int) (k : Nat) : -9223372036854775808 ≤ st f k ∧ st f k ≤ 9223372036854775807 := by
  match k with
  | 0 => exact ⟨by show _ ≤ (0 : Int); omega, by show (0 : Int) ≤ _; omega⟩
  | 1 => exact ⟨by show _ ≤ (0 : Int); omega, by show (0 : Int) ≤ _; omega⟩
  | k + 2 => exact sub64_range _ _
theorem encTo_len (f : Nat → Int) (k : Nat) : (encTo f k).length ≤ 64 + 68 * k := by
  induction k with
  | zero => simp [encTo]
  | succ k ih =>
    match k with
    | 0 => unfold encTo; rw [bitsTo_length]; omega
    | k + 1 => unfold encTo; rw [List.length_append]; have := dbits_le (zig (sub64 (sub64 (f (k + 1)) (f k)) (st f (k + 1)))); omega
theorem dbits_bit (z : Nat) : ∀ j, (dbits z).getD j 0 < 2 := by unfold dbits; exact bits_append (bitsTo_bit _ _ _) (bitsTo_bit _ _ _)
theorem encTo_bit (f : Nat → Int) (k : Nat) : ∀ j, (encTo f k).getD j 0 < 2 := by
  induction k with
  | zero => intro j; simp [encTo]
  | succ k ih =>
    match k with
    | 0 => unfold encTo; exact bitsTo_bit _ _ _
    | k + 1 => unfold encTo; exact bits_append ih (dbits_bit _)
def EncPost (w : World) (bs : List Nat) (e : Ending) (w' : World) : Prop :=
  ∃ A c, e = .returned (.tuple #[.slice A bs.length c, .int .i64 0]) ∧ w'.ownsRow w.heap.size 5 1 (.slice A bs.length c) bs.length (bs.map byteV) ∧ Keeps (fun _ => False) w w'
set_option maxRecDepth 100000 in
set_option maxHeartbeats 1600000 in
theorem encode_any (w : World) (A : Option Addr) (len c : Nat) (D : Nat → Prop) (f : Nat → Int) (hsl : Sl w D A len (fun j => .int .i64 (f j))) (hf : ∀ j, -9223372036854775808 ≤ f j ∧ f j ≤ 9223372036854775807) (hlen : len ≤ 4096) :
    Calls Tryd.prog 25 #[.slice A len c] w (EncPost w (pack (encTo f len))) := by
  have HS := Lib.hid (And.intro hsl hf)
  clear hsl hf
  have d0 : decide ((4096 : Int) < len) = false := by simp; omega
  go_enter Tryd.func25, Tryd.ntmps25
  go_wp2_with fail
  refine (newWriter_any _).mono ?_
  rintro e w1 ⟨rfl, hx1, hk1⟩
  obtain ⟨x, hx⟩ : ∃ x, x = w.heap.size := ⟨_, rfl⟩
  rw [← hx] at hx1
  rw [← hx]
  have H1 := Lib.hid (And.intro hx1 (And.intro hk1 hx))
  have hxB : w.heap.size ≤ x := by omega
  clear hx1 hk1 hx d0
  go_wp2_with fail
  go_loopw [5, 15] (fun s i wr => ∃ (k : Nat) (g : Option Nat), k ≤ len ∧ i = .int .i64 k ∧ s = .int .i64 (st f k) ∧ Wr wr x g (encTo f k) ∧ Keeps (fun _ => False) w wr ∧ (∀ q, g = some q → w.heap.size ≤ q))
    (fun _ i _ => len - (intOf i).toNat)
  case atStart => exact ⟨0, none, Nat.zero_le _, rfl, rfl, H1.out.1, H1.out.2.1, fun _ h => by cases h⟩
  case round =>
    obtain ⟨k, g, hk, rfl, rfl, hxr, hkr, hgr⟩ := hrel
    by_cases hlt : k < len
    · obtain ⟨b, off, hA, hD, hcell⟩ := (HS.out.1.keep (w' := wr) (fun q _ hq => hkr.block q hq (fun h => h))) (by omega)
      have ck : wr.cell? ⟨b, off + k, none⟩ = some (.int .i64 (f k)) := hcell k hlt
      have hcp : 1 ≤ k → wr.cell? ⟨b, off + (k - 1), none⟩ = some (.int .i64 (f (k - 1))) := fun h => hcell (k - 1) (by omega)
      subst hA
      have HR := Lib.hid (And.intro hxr (And.intro hkr (And.intro hgr hcell)))
      clear hxr hkr hgr hcell
      have hlk := encTo_len f k
      rcases Nat.eq_zero_or_pos k with hk0 | hk0
      · subst hk0
        clear hcp
        have e1 : IntKind.u64.wrap (f 0) = (u64 (f 0) : Int) := by rw [IntKind.wrap_u64]; unfold u64; omega
        have hu := u64_lt (f 0)
        obtain ⟨u, hu'⟩ : ∃ u, u = u64 (f 0) := ⟨_, rfl⟩
        rw [← hu'] at e1 hu
        have HU := Lib.hid (And.intro hu hu')
        clear hu hu' hlk
        rw [show ((0 : Nat) : Int) = 0 from rfl]
        rw [Nat.add_zero] at ck
        go_wp2_with fail
        refine (put_fit _ _ _ _ _ _ HR.out.1 (by omega) (by have := HU.out.1; omega) (by omega) (by omega) (by simp [encTo])).mono ?_
        rintro e w2 ⟨rfl, g2, hx2, hk2, hm2⟩
        have H2 := Lib.hid (And.intro hx2 (And.intro (keeps_new HR.out.2.1 hk2 hxB HR.out.2.2.1) (moved_new (w0 := w) hm2 HR.out.2.1.size HR.out.2.2.1)))
        clear hx2 hk2 hm2 e1 ck
        go_wp2_with fail
        go_roundw
        case rel =>
          refine ⟨1, g2, by omega, rfl, rfl, ?_, H2.out.2.1, H2.out.2.2⟩
          have := H2.out.1
          rw [show ((u : Int)).toNat = u from rfl, show (64 : Int).toNat = 64 from rfl, HU.out.2] at this
          exact this
        case measure => simp [intOf]; omega
      · obtain ⟨j, rfl⟩ : ∃ j, k = j + 1 := ⟨k - 1, by omega⟩
        have cp := hcp (by omega)
        rw [show j + 1 - 1 = j by omega] at cp
        obtain ⟨r1, r2⟩ := HS.out.2 (j + 1)
        obtain ⟨r3, r4⟩ := HS.out.2 j
        obtain ⟨a, ha⟩ : ∃ a, a = f (j + 1) := ⟨_, rfl⟩
        obtain ⟨p, hp⟩ : ∃ p, p = f j := ⟨_, rfl⟩
        obtain ⟨s, hs⟩ : ∃ s, s = st f (j + 1) := ⟨_, rfl⟩
        rw [← ha] at ck r1 r2
        rw [← hp] at cp r3 r4
        rw [← hs]
        have hsr := st_range f (j + 1)
        rw [← hs] at hsr
        have HV := Lib.hid (And.intro ha (And.intro hp (And.intro hs (And.intro r1 (And.intro r2 (And.intro r3 (And.intro r4 hsr)))))))
        clear ha hp hs r1 r2 r3 r4 hsr hcp hk0
        go_wp2_with fail
        refine (sub_any _ _ _ HV.out.2.2.2.1 HV.out.2.2.2.2.1 HV.out.2.2.2.2.2.1 HV.out.2.2.2.2.2.2.1).mono ?_
        rintro e w2 ⟨rfl, rfl⟩
        obtain ⟨t, ht⟩ : ∃ t, t = sub64 a p := ⟨_, rfl⟩
        have htr := sub64_range a p
        rw [← ht] at htr
        rw [← ht]
        have HT := Lib.hid (And.intro ht htr)
        clear ht htr
        go_wp2_with fail
        refine (sub_any _ _ _ HT.out.2.1 HT.out.2.2 HV.out.2.2.2.2.2.2.2.1 HV.out.2.2.2.2.2.2.2.2).mono ?_
        rintro e w2 ⟨rfl, rfl⟩
        go_wp2_with fail
        refine (zig_any _ _ (sub64_range _ _).1 (sub64_range _ _).2).mono ?_
        rintro e w2 ⟨rfl, rfl⟩
        go_wp2_with fail
        refine (dput_any _ _ _ _ _ HR.out.1 (zig_lt (sub64_range _ _).1 (sub64_range _ _).2) (by omega)).mono ?_
        rintro e w2 ⟨rfl, g2, hx2, hk2, hm2⟩
        have H2 := Lib.hid (And.intro hx2 (And.intro (keeps_new HR.out.2.1 hk2 hxB HR.out.2.2.1) (moved_new (w0 := w) hm2 HR.out.2.1.size HR.out.2.2.1)))
        clear hx2 hk2 hm2 ck cp hlk
        go_wp2_with fail
        go_roundw
        case rel =>
          obtain ⟨ha, hp, hs, -⟩ := HV.out
          have ht := HT.out.1
          refine ⟨j + 2, g2, by omega, by go_num, ?_, ?_, H2.out.2.1, H2.out.2.2⟩
          · rw [ht, ha, hp]; rfl
          · have := H2.out.1
            rw [ht, ha, hp, hs] at this
            exact this
        case measure => simp [intOf]; omega
    · obtain rfl : k = len := by omega
      have HR := Lib.hid (And.intro hxr hkr)
      clear hxr hkr hgr
      go_wp2_with fail
      refine (bytes_wr _ _ _ _ HR.out.1).mono ?_
      rintro e w2 ⟨A2, c2, rfl, ho2, hk2⟩
      have H2 := Lib.hid (And.intro (own_base ho2 HR.out.2.size) (HR.out.2.trans' hk2))
      clear ho2 hk2
      go_wp2_with fail
      go_ret2
      exact ⟨A2, c2, rfl, H2.out.1, H2.out.2⟩
set_option maxHeartbeats 400000 in
theorem encode_big (w : World) (A : Option Addr) (len c : Nat) (hlen : 4096 < len) (hl : len ≤ 9223372036854775807) :
    Calls Tryd.prog 25 #[.slice A len c] w fun e w' => e = .returned (.tuple #[.slice none 0 0, .int .i64 3]) ∧ w = w' := by
  go_enter Tryd.func25, Tryd.ntmps25
  go_wp2
  go_ret2
  exact ⟨rfl, rfl⟩
end Go.Proofs.YtboecnakndpgfaaDoor.D
namespace Go.Proofs.YtboecnakndpgfaaDoor.D
set_option maxRecDepth 100000
open Go.RowKit
set_option linter.unusedVariables false
set_option linter.unusedSimpArgs false
/-- A sum modulo 2^64. -/
def add64 (a b : Int) : Int := (a + b + 9223372036854775808) % 18446744073709551616 - 9223372036854775808
theorem add64_range (a b : Int) : -9223372036854775808 ≤ add64 a b ∧ add64 a b ≤ 9223372036854775807 := by unfold add64; omega
theorem sub_add (a s : Int) (h0 : -9223372036854775808 ≤ s) (h1 : s ≤ 9223372036854775807) : sub64 (add64 a s) a = s := by unfold sub64 add64; omega
theorem sub_zero64 (s : Int) (h0 : -9223372036854775808 ≤ s) (h1 : s ≤ 9223372036854775807) : sub64 s 0 = s := by unfold sub64; omega
theorem sub_self64 (s : Int) : sub64 s s = 0 := by unfold sub64; omega
theorem add_walk (a s : Int) (a0 : -9223372036854775808 ≤ a) (a1 : a ≤ 9223372036854775807) (h0 : -9223372036854775808 ≤ s) (h1 : s ≤ 9223372036854775807) : wrap64 (IntKind.u64.wrap (IntKind.u64.wrap a + IntKind.u64.wrap s)) = add64 a s := by
  unfold add64 wrap64
  simp only [IntKind.wrap_u64]
  omega
/-- Times of one step each. -/
def tick (a s : Int) : Nat → Int
  | 0 => a
  | k + 1 => add64 (tick a s k) s
theorem tick_range (a s : Int) (a0 : -9223372036854775808 ≤ a) (a1 : a ≤ 9223372036854775807) (k : Nat) : -9223372036854775808 ≤ tick a s k ∧ tick a s k ≤ 9223372036854775807 := by
  cases k with
  | zero => exact ⟨a0, a1⟩
  | succ k => exact add64_range _ _
theorem tick_len (a s : Int) (h0 : -9223372036854775808 ≤ s) (h1 : s ≤ 9223372036854775807) (n : Nat) : (encTo (tick a s) (n + 2)).length = 64 + (ah (cls (zig s)) + wd (cls (zig s))) + n := by
  induction n with
  | zero =>
    unfold encTo
    rw [List.length_append, dbits_length]
    have e : sub64 (sub64 (tick a s 1) (tick a s 0)) (st (tick a s) 1) = s := by
      show sub64 (sub64 (add64 (tick a s 0) s) (tick a s 0)) 0 = s
      rw [sub_add _ _ h0 h1, sub_zero64 s h0 h1]
    rw [e]
    show (bitsTo (u64 (tick a s 0)) 64 64).length + _ = _
    rw [bitsTo_length]
    omega
  | succ n ih =>
    have e : sub64 (sub64 (tick a s (n + 2)) (tick a s (n + 1))) (st (tick a s) (n + 2)) = 0 := by
      show sub64 (sub64 (add64 (tick a s (n + 1)) s) (tick a s (n + 1))) (sub64 (add64 (tick a s n) s) (tick a s n)) = 0
      rw [sub_add _ _ h0 h1, sub_add _ _ h0 h1, sub_self64]
    show (encTo (tick a s) (n + 2) ++ dbits (zig (sub64 (sub64 (tick a s (n + 2)) (tick a s (n + 1))) (st (tick a s) (n + 2))))).length = _
    rw [List.length_append, ih, e, dbits_length]
    have : ah (cls (zig 0)) + wd (cls (zig 0)) = 1 := by decide
    omega
theorem sl_of_row {w : World} {base c n : Nat} {A : Option Addr} {f : Nat → Int} (ho : w.ownsRow base 3 1 (.slice A n c) n ((List.range n).map fun j => Value.int .i64 (f j))) : Sl w (fun k => (Value.slice A n c).ownBlock = some k) A n (fun j => .int .i64 (f j)) := by
  refine Sl.of_own ho ?_
  intro j u hu
  rw [List.getElem?_map] at hu
  rcases Nat.lt_or_ge j n with hj | hj
  · rw [List.getElem?_range hj] at hu
    simpa using hu.symm
  · rw [List.getElem?_eq_none (by simpa using hj)] at hu
    cases hu
end Go.Proofs.YtboecnakndpgfaaDoor.D
namespace Go.Proofs.YtboecnakndpgfaaDoor.D
set_option maxRecDepth 100000
open Go.RowKit
set_option linter.unusedVariables false
set_option linter.unusedSimpArgs false
theorem ret2_int {k l : IntKind} {a b c d : Int} (h : a = b) (h' : c = d) : Ending.returned (.tuple #[.int k a, .int l c]) = .returned (.tuple #[.int k b, .int l d]) := by rw [h, h']
set_option maxRecDepth 100000 in
set_option maxHeartbeats 400000 in
theorem class_any (z : Nat) (w : World) : Calls Tryd.prog 47 #[.int .u64 (z : Nat)] w fun e w' => e = .returned (.tuple #[.int .i64 (cls z : Nat), .int .i64 (wd (cls z) : Nat)]) ∧ w = w' := by
  by_cases h0 : z = 0
  · subst h0
    have d0 : (((0 : Nat) : Int) == 0) = true := rfl
    go_enter Tryd.func47, Tryd.ntmps47
    go_wp2
    go_ret2
    exact ⟨rfl, rfl⟩
  · have d0 : ((z : Int) == 0) = false := by simp; omega
    by_cases h1 : z < 128
    · have e : cls z = 1 := by unfold cls; rw [if_neg h0, if_pos h1]
      rw [e]
      clear e h0
      go_enter Tryd.func47, Tryd.ntmps47
      go_wp2
      go_ret2
      exact ⟨rfl, rfl⟩
    · by_cases h2 : z < 4096
      · have e : cls z = 2 := by unfold cls; rw [if_neg h0, if_neg h1, if_pos h2]
        rw [e]
        clear e h0
        go_enter Tryd.func47, Tryd.ntmps47
        go_wp2
        go_ret2
        exact ⟨rfl, rfl⟩
      · by_cases h3 : z < 4294967296
        · have e : cls z = 3 := by unfold cls; rw [if_neg h0, if_neg h1, if_neg h2, if_pos h3]
          rw [e]
          have d1 : decide ((z : Int) < 128) = false := by simp; omega
          have d2 : decide ((z : Int) < 4096) = false := by simp; omega
          have d3 : decide ((z : Int) < 4294967296) = true := by simp; omega
          clear e h0 h1 h2 h3
          go_enter Tryd.func47, Tryd.ntmps47
          go_wp2
          go_ret2
          exact ⟨rfl, rfl⟩
        · have e : cls z = 4 := by unfold cls; rw [if_neg h0, if_neg h1, if_neg h2, if_neg h3]
          rw [e]
          have d1 : decide ((z : Int) < 128) = false := by simp; omega
          have d2 : decide ((z : Int) < 4096) = false := by simp; omega
          have d3 : decide ((z : Int) < 4294967296) = false := by simp; omega
          clear e h0 h1 h2 h3
          go_enter Tryd.func47, Tryd.ntmps47
          go_wp2
          go_ret2
          exact ⟨rfl, rfl⟩
theorem dbits_ref (z : Nat) : dbits z = List.replicate (cls z) 1 ++ (if cls z < 4 then [0] else []) ++ bitsTo z (wd (cls z)) (wd (cls z)) := by
  unfold dbits
  congr 1
  have hk := cls_le z
  generalize cls z = k at *
  rcases (show k = 0 ∨ k = 1 ∨ k = 2 ∨ k = 3 ∨ k = 4 by omega) with rfl | rfl | rfl | rfl | rfl <;> decide
end Go.Proofs.YtboecnakndpgfaaDoor.D
namespace Go.Proofs.YtboecnakndpgfaaDoor.D
set_option maxRecDepth 100000
open Go.RowKit
set_option linter.unusedVariables false
set_option linter.unusedSimpArgs false
theorem wrap_u64n (n : Int) : IntKind.u64.wrap n = (u64 n : Int) := by rw [IntKind.wrap_u64]; unfold u64; omega
theorem bits_one_one : bitsTo (1 : Int).toNat (1 : Int).toNat (1 : Int).toNat = [1] := by decide
theorem bits_zero_one : bitsTo (0 : Int).toNat (1 : Int).toNat (1 : Int).toNat = [0] := by decide
end Go.Proofs.YtboecnakndpgfaaDoor.D
namespace Go.Proofs.YtboecnakndpgfaaDoor.X
/-- How many of 64 bits are 0 ahead of the first bit 1. -/
def lead (u : Nat) : Nat := if u = 0 then 64 else 63 - Nat.log2 u
/-- How many of n bits are 0 behind the last bit 1. -/
def trailF : Nat → Nat → Nat
  | 0, _ => 0
  | n + 1, u => if u % 2 = 0 then trailF n (u / 2) + 1 else 0
def trail (u : Nat) : Nat := trailF 64 u
theorem lead_spec {u : Nat} (h0 : 0 < u) (h : u < 18446744073709551616) : lead u ≤ 63 ∧ 2 ^ (63 - lead u) ≤ u ∧ u < 2 ^ (64 - lead u) := by
  have hl : Nat.log2 u < 64 := (Nat.log2_lt (by omega)).2 h
  have hu : lead u = 63 - Nat.log2 u := by unfold lead; rw [if_neg (by omega)]
  rw [hu]
  refine ⟨by omega, ?_, ?_⟩
  · rw [show 63 - (63 - Nat.log2 u) = Nat.log2 u by omega]; exact Nat.log2_self_le (by omega)
  · rw [show 64 - (63 - Nat.log2 u) = Nat.log2 u + 1 by omega]; exact Nat.lt_log2_self
theorem lead_uniq {u n : Nat} (hn : n ≤ 63) (h1 : 2 ^ (63 - n) ≤ u) (h2 : u < 2 ^ (64 - n)) : lead u = n := by
  have hp : 0 < 2 ^ (63 - n) := Nat.two_pow_pos _
  have h3 : Nat.log2 u < 64 - n := (Nat.log2_lt (by omega)).2 h2
  have h4 : ¬ Nat.log2 u < 63 - n := fun h => by have := (Nat.log2_lt (by omega)).1 h; omega
  unfold lead; rw [if_neg (by omega)]; omega
theorem lead_zero : lead 0 = 64 := rfl
theorem lead_pow {t : Nat} (h : t ≤ 63) : lead (2 ^ t) = 63 - t := by
  refine lead_uniq (by omega) ?_ ?_
  · rw [show 63 - (63 - t) = t by omega]; exact Nat.le_refl _
  · exact Nat.pow_lt_pow_right (by omega) (by omega)
theorem trailF_zero (n : Nat) : trailF n 0 = n := by
  induction n with
  | zero => rfl
  | succ n ih => simp [trailF, ih]
theorem trail_zero : trail 0 = 64 := trailF_zero 64
theorem trailF_spec (n : Nat) : ∀ u, 0 < u → u < 2 ^ n → trailF n u < n ∧ ∃ m, u = 2 ^ trailF n u * (2 * m + 1) := by
  induction n with
  | zero => intro u h0 h; simp at h; omega
  | succ n ih =>
    intro u h0 h
    rw [Nat.pow_succ] at h
    by_cases hu : u % 2 = 0
    · obtain ⟨h1, m, hm⟩ := ih (u / 2) (by omega) (by omega)
      have ht : trailF (n + 1) u = trailF n (u / 2) + 1 := by simp [trailF, hu]
      rw [ht]
      refine ⟨by omega, m, ?_⟩
      rw [Nat.pow_succ, Nat.mul_comm (2 ^ _) 2, Nat.mul_assoc, ← hm]; omega
    · have ht : trailF (n + 1) u = 0 := by simp [trailF, hu]
      rw [ht]
      exact ⟨by omega, u / 2, by omega⟩
theorem trail_spec {u : Nat} (h0 : 0 < u) (h : u < 18446744073709551616) : trail u ≤ 63 ∧ ∃ m, u = 2 ^ trail u * (2 * m + 1) := by
  obtain ⟨h1, h2⟩ := trailF_spec 64 u h0 h
  exact ⟨by unfold trail; omega, h2⟩
theorem odd_uniq (t : Nat) : ∀ s m k : Nat, 2 ^ t * (2 * m + 1) = 2 ^ s * (2 * k + 1) → t = s := by
  induction t with
  | zero =>
    intro s m k h
    cases s with
    | zero => rfl
    | succ s => rw [Nat.pow_succ, Nat.mul_comm (2 ^ s) 2, Nat.mul_assoc] at h; generalize 2 ^ s * (2 * k + 1) = z at h; simp at h; omega
  | succ t ih =>
    intro s m k h
    cases s with
    | zero => rw [Nat.pow_succ, Nat.mul_comm (2 ^ t) 2, Nat.mul_assoc] at h; generalize 2 ^ t * (2 * m + 1) = z at h; simp at h; omega
    | succ s =>
      rw [Nat.pow_succ, Nat.pow_succ, Nat.mul_comm (2 ^ s) 2, Nat.mul_comm (2 ^ t) 2, Nat.mul_assoc, Nat.mul_assoc] at h
      rw [ih s m k (by omega)]
theorem trail_uniq {u t m : Nat} (h : u < 18446744073709551616) (hm : u = 2 ^ t * (2 * m + 1)) : trail u = t := by
  have hp : 0 < 2 ^ t := Nat.two_pow_pos _
  have h0 : 0 < u := by rw [hm]; exact Nat.mul_pos hp (by omega)
  obtain ⟨_, k, hk⟩ := trail_spec h0 h
  exact odd_uniq _ _ k m (hk.symm.trans hm)
theorem window_le {u : Nat} (h0 : 0 < u) (h : u < 18446744073709551616) : lead u + trail u ≤ 63 := by
  obtain ⟨h1, h2, h3⟩ := lead_spec h0 h
  obtain ⟨h4, m, hm⟩ := trail_spec h0 h
  have h5 : 2 ^ trail u ≤ u := by
    calc 2 ^ trail u = 2 ^ trail u * 1 := by omega
      _ ≤ 2 ^ trail u * (2 * m + 1) := Nat.mul_le_mul_left _ (by omega)
      _ = u := hm.symm
  have h6 : trail u < 64 - lead u := (Nat.pow_lt_pow_iff_right (by omega : 1 < 2)).1 (Nat.lt_of_le_of_lt h5 h3)
  omega
theorem and_compl {n m : Nat} (h : m < 2 ^ n) : m &&& (2 ^ n - (m + 1)) = 0 := by
  apply Nat.eq_of_testBit_eq
  intro i
  rw [Nat.testBit_and, Nat.testBit_two_pow_sub_succ h, Nat.zero_testBit]
  cases Nat.testBit m i <;> simp
theorem odd_and (m k : Nat) : (2 * m + 1) &&& (2 * k + 1) = 2 * (m &&& k) + 1 := by
  apply Nat.eq_of_testBit_eq
  intro i
  cases i with
  | zero => simp [Nat.testBit_zero]
  | succ i => rw [Nat.testBit_and, Nat.testBit_succ, Nat.testBit_succ, Nat.testBit_succ, show (2 * m + 1) / 2 = m by omega, show (2 * k + 1) / 2 = k by omega, show (2 * (m &&& k) + 1) / 2 = m &&& k by omega, Nat.testBit_and]
/-- The lowest bit 1. -/
theorem low_bit {u : Nat} (h0 : 0 < u) (h : u < 18446744073709551616) : u &&& (18446744073709551616 - u) = 2 ^ trail u := by
  obtain ⟨h4, m, hm⟩ := trail_spec h0 h
  generalize trail u = t at h4 hm
  have hp : 0 < 2 ^ t := Nat.two_pow_pos _
  have h64 : 18446744073709551616 = 2 ^ t * (2 * 2 ^ (63 - t)) := by
    rw [show 2 * 2 ^ (63 - t) = 2 ^ (64 - t) by rw [← Nat.pow_succ']; congr 1; omega, ← Nat.pow_add, show t + (64 - t) = 64 by omega]
  have hm' : m < 2 ^ (63 - t) := by
    have h7 : 2 ^ t * (2 * m + 1) < 2 ^ t * (2 * 2 ^ (63 - t)) := by rw [← h64, ← hm]; exact h
    have := Nat.lt_of_mul_lt_mul_left h7
    omega
  have hk : 18446744073709551616 - u = 2 ^ t * (2 * (2 ^ (63 - t) - (m + 1)) + 1) := by
    rw [h64, hm, ← Nat.mul_sub]; congr 1; omega
  rw [hk, hm, Nat.mul_comm (2 ^ t), Nat.mul_comm (2 ^ t), ← Nat.shiftLeft_eq, ← Nat.shiftLeft_eq, ← Nat.shiftLeft_and_distrib, odd_and, and_compl hm', Nat.shiftLeft_eq]
  omega
end Go.Proofs.YtboecnakndpgfaaDoor.X
namespace Go.Proofs.YtboecnakndpgfaaDoor.X
open Go.RowKit
set_option linter.unusedVariables false
def stepsV : Value := .agg #[.int .i64 32, .int .i64 16, .int .i64 8, .int .i64 4, .int .i64 2, .int .i64 1]
def leadLo (k : Nat) : Nat := [1, 4294967296, 281474976710656, 72057594037927936, 1152921504606846976, 4611686018427387904, 9223372036854775808].getD k 0
def leadMost (k : Nat) : Nat := [0, 32, 48, 56, 60, 62, 63].getD k 0
theorem xret_int {a b : Int} (h : a = b) : Ending.returned (.int .i64 a) = .returned (.int .i64 b) := by rw [h]
set_option maxHeartbeats 400000 in
theorem steps_any (w : World) : Calls Tryd.prog 82 #[] w fun e w' => e = .returned stepsV ∧ Below w.heap.size w w' := by
  go_enter Tryd.func82, Tryd.ntmps82
  go_wp2
  exact bodyPost_ret (v := stepsV) (by simp [results, Tryd.results82, go_sem, stepsV]) rfl ⟨rfl, (Below.refl _ _).alloc (Nat.le_refl _) _⟩
set_option maxRecDepth 100000 in
set_option maxHeartbeats 800000 in
theorem wlead_any (u : Nat) (hu : u < 18446744073709551616) (w : World) :
    Calls Tryd.prog 76 #[.int .u64 (u : Nat)] w fun e w' => e = .returned (.int .i64 (lead u : Nat)) ∧ Below w.heap.size w w' := by
  by_cases h0 : u = 0
  · subst h0
    go_enter Tryd.func76, Tryd.ntmps76
    go_wp2
    go_ret
    exact ⟨rfl, Below.refl _ _⟩
  have HU := Lib.hid (And.intro hu h0)
  have d0 : ((u : Int) == 0) = false := by simp; omega
  clear hu h0
  go_enter Tryd.func76, Tryd.ntmps76
  go_wp2_with fail
  refine (steps_any _).mono ?_
  rintro e w1 ⟨rfl, hb1⟩
  have HB := Lib.hid hb1
  clear hb1
  unfold stepsV
  go_wp2_with fail
  go_loop [0, 3, 9] (fun a b i => ∃ k n v : Nat, k ≤ 6 ∧ a = .int .u64 (v : Nat) ∧ b = .int .i64 (n : Nat) ∧ i = .int .i64 (k : Nat) ∧ v = u * 2 ^ n ∧ v < 18446744073709551616 ∧ leadLo k ≤ v ∧ n ≤ leadMost k) (fun _ _ i => 6 - (intOf i).toNat)
  case atStart => exact ⟨0, 0, u, by omega, rfl, rfl, rfl, by omega, HU.out.1, by have := HU.out.2; show 1 ≤ u; omega, Nat.le_refl _⟩
  case round =>
    obtain ⟨k, n, v, hk, rfl, rfl, rfl, hv, hlt, hlo, hn⟩ := hrel
    have HV := Lib.hid hv
    clear hv
    rcases (show k = 0 ∨ k = 1 ∨ k = 2 ∨ k = 3 ∨ k = 4 ∨ k = 5 ∨ k = 6 by omega) with rfl | rfl | rfl | rfl | rfl | rfl | rfl
    · have hlo' : 1 ≤ v := hlo
      have hn' : n ≤ 0 := hn
      clear hlo hn
      have ix : ∀ w, (Instr.index 145 (.agg #[.int .i64 32, .int .i64 16, .int .i64 8, .int .i64 4, .int .i64 2, .int .i64 1]) (.int .i64 0)).run Tryd.prog w = .ok (.int .i64 32) w := fun _ => by kernel_rfl
      by_cases hb : v < 4294967296
      · have d1 : ((v : Int) / 4294967296 == 0) = true := by simp; omega
        go_wp2_with fail
        go_round
        case rel =>
          refine ⟨1, n + 32, v * 4294967296, by omega, by congr 1, ?_, rfl, ?_, by omega, by show 4294967296 ≤ v * 4294967296; omega, by show n + 32 ≤ 32; omega⟩
          · congr 1
          · rw [Nat.pow_add, ← Nat.mul_assoc, ← HV.out]
        case measure => simp [intOf]
      · have d1 : ((v : Int) / 4294967296 == 0) = false := by simp; omega
        go_wp2_with fail
        go_round
        case rel => exact ⟨1, n, v, by omega, rfl, rfl, rfl, HV.out, hlt, by show 4294967296 ≤ v; omega, by show n ≤ 32; omega⟩
        case measure => simp [intOf]
    · have hlo' : 4294967296 ≤ v := hlo
      have hn' : n ≤ 32 := hn
      clear hlo hn
      have ix : ∀ w, (Instr.index 145 (.agg #[.int .i64 32, .int .i64 16, .int .i64 8, .int .i64 4, .int .i64 2, .int .i64 1]) (.int .i64 1)).run Tryd.prog w = .ok (.int .i64 16) w := fun _ => by kernel_rfl
      by_cases hb : v < 281474976710656
      · have d1 : ((v : Int) / 281474976710656 == 0) = true := by simp; omega
        go_wp2_with fail
        go_round
        case rel =>
          refine ⟨2, n + 16, v * 65536, by omega, by congr 1, ?_, rfl, ?_, by omega, by show 281474976710656 ≤ v * 65536; omega, by show n + 16 ≤ 48; omega⟩
          · congr 1
          · rw [Nat.pow_add, ← Nat.mul_assoc, ← HV.out]
        case measure => simp [intOf]
      · have d1 : ((v : Int) / 281474976710656 == 0) = false := by simp; omega
        go_wp2_with fail
        go_round
        case rel => exact ⟨2, n, v, by omega, rfl, rfl, rfl, HV.out, hlt, by show 281474976710656 ≤ v; omega, by show n ≤ 48; omega⟩
        case measure => simp [intOf]
    · have hlo' : 281474976710656 ≤ v := hlo
      have hn' : n ≤ 48 := hn
      clear hlo hn
      have ix : ∀ w, (Instr.index 145 (.agg #[.int .i64 32, .int .i64 16, .int .i64 8, .int .i64 4, .int .i64 2, .int .i64 1]) (.int .i64 2)).run Tryd.prog w = .ok (.int .i64 8) w := fun _ => by kernel_rfl
      by_cases hb : v < 72057594037927936
      · have d1 : ((v : Int) / 72057594037927936 == 0) = true := by simp; omega
        go_wp2_with fail
        go_round
        case rel =>
          refine ⟨3, n + 8, v * 256, by omega, by congr 1, ?_, rfl, ?_, by omega, by show 72057594037927936 ≤ v * 256; omega, by show n + 8 ≤ 56; omega⟩
          · congr 1
          · rw [Nat.pow_add, ← Nat.mul_assoc, ← HV.out]
        case measure => simp [intOf]
      · have d1 : ((v : Int) / 72057594037927936 == 0) = false := by simp; omega
        go_wp2_with fail
        go_round
        case rel => exact ⟨3, n, v, by omega, rfl, rfl, rfl, HV.out, hlt, by show 72057594037927936 ≤ v; omega, by show n ≤ 56; omega⟩
        case measure => simp [intOf]
    · have hlo' : 72057594037927936 ≤ v := hlo
      have hn' : n ≤ 56 := hn
      clear hlo hn
      have ix : ∀ w, (Instr.index 145 (.agg #[.int .i64 32, .int .i64 16, .int .i64 8, .int .i64 4, .int .i64 2, .int .i64 1]) (.int .i64 3)).run Tryd.prog w = .ok (.int .i64 4) w := fun _ => by kernel_rfl
      by_cases hb : v < 1152921504606846976
      · have d1 : ((v : Int) / 1152921504606846976 == 0) = true := by simp; omega
        go_wp2_with fail
        go_round
        case rel =>
          refine ⟨4, n + 4, v * 16, by omega, by congr 1, ?_, rfl, ?_, by omega, by show 1152921504606846976 ≤ v * 16; omega, by show n + 4 ≤ 60; omega⟩
          · congr 1
          · rw [Nat.pow_add, ← Nat.mul_assoc, ← HV.out]
        case measure => simp [intOf]
      · have d1 : ((v : Int) / 1152921504606846976 == 0) = false := by simp; omega
        go_wp2_with fail
        go_round
        case rel => exact ⟨4, n, v, by omega, rfl, rfl, rfl, HV.out, hlt, by show 1152921504606846976 ≤ v; omega, by show n ≤ 60; omega⟩
        case measure => simp [intOf]
    · have hlo' : 1152921504606846976 ≤ v := hlo
      have hn' : n ≤ 60 := hn
      clear hlo hn
      have ix : ∀ w, (Instr.index 145 (.agg #[.int .i64 32, .int .i64 16, .int .i64 8, .int .i64 4, .int .i64 2, .int .i64 1]) (.int .i64 4)).run Tryd.prog w = .ok (.int .i64 2) w := fun _ => by kernel_rfl
      by_cases hb : v < 4611686018427387904
      · have d1 : ((v : Int) / 4611686018427387904 == 0) = true := by simp; omega
        go_wp2_with fail
        go_round
        case rel =>
          refine ⟨5, n + 2, v * 4, by omega, by congr 1, ?_, rfl, ?_, by omega, by show 4611686018427387904 ≤ v * 4; omega, by show n + 2 ≤ 62; omega⟩
          · congr 1
          · rw [Nat.pow_add, ← Nat.mul_assoc, ← HV.out]
        case measure => simp [intOf]
      · have d1 : ((v : Int) / 4611686018427387904 == 0) = false := by simp; omega
        go_wp2_with fail
        go_round
        case rel => exact ⟨5, n, v, by omega, rfl, rfl, rfl, HV.out, hlt, by show 4611686018427387904 ≤ v; omega, by show n ≤ 62; omega⟩
        case measure => simp [intOf]
    · have hlo' : 4611686018427387904 ≤ v := hlo
      have hn' : n ≤ 62 := hn
      clear hlo hn
      have ix : ∀ w, (Instr.index 145 (.agg #[.int .i64 32, .int .i64 16, .int .i64 8, .int .i64 4, .int .i64 2, .int .i64 1]) (.int .i64 5)).run Tryd.prog w = .ok (.int .i64 1) w := fun _ => by kernel_rfl
      by_cases hb : v < 9223372036854775808
      · have d1 : ((v : Int) / 9223372036854775808 == 0) = true := by simp; omega
        go_wp2_with fail
        go_round
        case rel =>
          refine ⟨6, n + 1, v * 2, by omega, by congr 1, ?_, rfl, ?_, by omega, by show 9223372036854775808 ≤ v * 2; omega, by show n + 1 ≤ 63; omega⟩
          · congr 1
          · rw [Nat.pow_add, ← Nat.mul_assoc, ← HV.out]
        case measure => simp [intOf]
      · have d1 : ((v : Int) / 9223372036854775808 == 0) = false := by simp; omega
        go_wp2_with fail
        go_round
        case rel => exact ⟨6, n, v, by omega, rfl, rfl, rfl, HV.out, hlt, by show 9223372036854775808 ≤ v; omega, by show n ≤ 63; omega⟩
        case measure => simp [intOf]
    · have hlo' : 9223372036854775808 ≤ v := hlo
      have hn' : n ≤ 63 := hn
      clear hlo hn
      go_wp2_with fail
      go_ret
      refine ⟨xret_int ?_, HB.out⟩
      have hv := HV.out
      have hp : 2 ^ (63 - n) * 2 ^ n = 9223372036854775808 := by rw [← Nat.pow_add, show 63 - n + n = 63 by omega]
      have hq : 2 ^ (64 - n) * 2 ^ n = 18446744073709551616 := by rw [← Nat.pow_add, show 64 - n + n = 64 by omega]
      have hpos : 0 < 2 ^ n := Nat.two_pow_pos n
      have : lead u = n := lead_uniq hn' (Nat.le_of_mul_le_mul_right (by rw [hp, ← hv]; exact hlo') hpos) (Nat.lt_of_mul_lt_mul_right (a := 2 ^ n) (by rw [hq, ← hv]; exact hlt))
      rw [this]
set_option maxRecDepth 100000 in
set_option maxHeartbeats 800000 in
theorem wtrail_any (u : Nat) (hu : u < 18446744073709551616) (w : World) :
    Calls Tryd.prog 77 #[.int .u64 (u : Nat)] w fun e w' => e = .returned (.int .i64 (trail u : Nat)) ∧ Below w.heap.size w w' := by
  by_cases h0 : u = 0
  · subst h0
    go_enter Tryd.func77, Tryd.ntmps77
    go_wp2
    go_ret
    exact ⟨rfl, Below.refl _ _⟩
  obtain ⟨ht, m, hm⟩ := trail_spec (by omega) hu
  clear hm
  have d0 : ((u : Int) == 0) = false := by simp; omega
  have hlow : bits .and .u64 (u : Int) (IntKind.u64.wrap (-(u : Int))) = ((2 ^ trail u : Nat) : Int) := by
    rw [IntKind.wrap_u64, show -(u : Int) % 18446744073709551616 = ((18446744073709551616 - u : Nat) : Int) by omega, u64_and_nat _ _ hu (by omega), low_bit (by omega) hu]
  have hc := wlead_any (2 ^ trail u) (show 2 ^ trail u < 2 ^ 64 from Nat.pow_lt_pow_right (by omega) (by omega))
  rw [lead_pow ht] at hc
  have HT := Lib.hid (And.intro hu h0)
  clear hu h0
  go_enter Tryd.func77, Tryd.ntmps77
  go_wp2_with fail
  rw [show ((2 : Int) ^ trail u) = ((2 ^ trail u : Nat) : Int) by simp]
  refine (hc _).mono ?_
  rintro e w1 ⟨rfl, hb1⟩
  have HB := Lib.hid hb1
  clear hb1
  go_wp2_with fail
  go_ret
  exact ⟨xret_int (by first | omega | (simp only [IntKind.wrap_i64]; omega)), HB.out⟩
end Go.Proofs.YtboecnakndpgfaaDoor.X
namespace Go.Proofs.YtboecnakndpgfaaDoor.X
open Go.RowKit
set_option linter.unusedVariables false
theorem and_one_u64 (x s : Nat) (hx : x < 18446744073709551616) : bits .and .u64 ((x : Int) / 2 ^ s) 1 = ((x / 2 ^ s % 2 : Nat) : Int) := by
  have h1 : x / 2 ^ s < 18446744073709551616 := Nat.lt_of_le_of_lt (Nat.div_le_self _ _) hx
  rw [show ((2 : Int) ^ s) = ((2 ^ s : Nat) : Int) by simp, show (x : Int) / ((2 ^ s : Nat) : Int) = ((x / 2 ^ s : Nat) : Int) from rfl, show (1 : Int) = ((1 : Nat) : Int) from rfl, u64_and_nat _ _ h1 (by omega), Nat.and_one_is_mod]
end Go.Proofs.YtboecnakndpgfaaDoor.X
namespace Go.Proofs.YtboecnakndpgfaaDoor.X
open Go.RowKit
set_option linter.unusedVariables false
set_option linter.unusedSimpArgs false
theorem xbox_below {w w1 : World} {t : TypeId} {cs : Array Value} (hb : Below (w.alloc (.cells cs t)).heap.size (w.alloc (.cells cs t)) w1) : Blk w1 w.heap.size t cs ∧ Below w.heap.size w w1 :=
  ⟨(Blk.fresh w t cs).below hb (by simp), ((Below.refl w.heap.size w).alloc (Nat.le_refl _) _).trans (hb.mono (by simp))⟩
theorem _root_.Go.Proofs.YtboecnakndpgfaaDoor.Blk.set2 {w : World} {g : Nat} {t : TypeId} {a b : Value} (h : Blk w g t #[a, b]) (x y : Value) : Blk ((w.setCell ⟨g, 0, none⟩ x).setCell ⟨g, 1, none⟩ y) g t #[x, y] := by
  simpa using (h.set 0 x).set 1 y
theorem below_set2 {B : Nat} {w w' : World} {g : Nat} (h : Below B w w') (hg : B ≤ g) (x y : Value) : Below B w ((w'.setCell ⟨g, 0, none⟩ x).setCell ⟨g, 1, none⟩ y) :=
  (h.setCell (by simpa using hg) _).setCell (by simpa using hg) _
set_option maxHeartbeats 400000 in
theorem none_any (w : World) : Calls Tryd.prog 39 #[] w fun e w' => e = .returned (.agg #[.int .i64 (-1), .int .i64 (-1)]) ∧ Below w.heap.size w w' := by
  go_enter Tryd.func39, Tryd.ntmps39
  go_wp2
  exact bodyPost_ret (v := .agg #[.int .i64 (-1), .int .i64 (-1)]) (by simp [results, Tryd.results39, go_sem]) rfl ⟨rfl, (Below.refl _ _).alloc (Nat.le_refl _) _⟩
set_option maxHeartbeats 400000 in
theorem inside_any (l t : Nat) (h : l + t ≤ 64) (w : World) : Calls Tryd.prog 59 #[.agg #[.int .i64 (l : Nat), .int .i64 (t : Nat)]] w fun e w' => e = .returned (.int .i64 ((64 - l - t : Nat) : Int)) ∧ Below w.heap.size w w' := by
  have bel := ((Below.refl w.heap.size w).alloc (Nat.le_refl _) (.cells #[.int .i64 (l : Nat), .int .i64 (t : Nat)] 90))
  have HB := Lib.hid bel
  clear bel
  go_enter Tryd.func59, Tryd.ntmps59
  go_wp2_with fail
  go_ret
  exact ⟨xret_int (by omega), HB.out⟩
set_option maxRecDepth 100000 in
set_option maxHeartbeats 800000 in
theorem of_any (u : Nat) (hu : u < 18446744073709551616) (w : World) : Calls Tryd.prog 57 #[.int .u64 (u : Nat)] w fun e w' => e = .returned (.agg #[.int .i64 (lead u : Nat), .int .i64 (trail u : Nat)]) ∧ Below w.heap.size w w' := by
  have HU := Lib.hid hu
  clear hu
  obtain ⟨x, hx⟩ : ∃ x, x = w.heap.size := ⟨_, rfl⟩
  have HX := Lib.hid hx
  go_enter Tryd.func57, Tryd.ntmps57
  go_wp2_with fail
  refine (wlead_any u HU.out _).mono ?_
  rintro e w1 ⟨rfl, hb1⟩
  obtain ⟨k1, g1⟩ := xbox_below hb1
  clear hb1
  have H1 := Lib.hid (And.intro k1 g1)
  clear k1 g1
  go_wp2_with fail
  refine (wtrail_any u HU.out _).mono ?_
  rintro e w2 ⟨rfl, hb2⟩
  have b0 := H1.out.1.below hb2 H1.out.1.lt
  have bel := H1.out.2.trans (hb2.mono H1.out.2.size)
  rw [← hx] at b0
  rw [← hx]
  have f0 := b0.frozen
  have p0 := b0.cell 0
  have p1 := b0.cell 1
  simp at p0 p1
  have HB := Lib.hid (And.intro b0 (And.intro bel hx))
  clear hb2 b0 bel hx
  go_wp2_with fail
  have b2 := HB.out.1.set2 (.int .i64 (lead u : Nat)) (.int .i64 (trail u : Nat))
  have bel2 := below_set2 (g := x) HB.out.2.1 (by have := HB.out.2.2; omega) (.int .i64 (lead u : Nat)) (.int .i64 (trail u : Nat))
  generalize ((w2.setCell ⟨x, 0, none⟩ (.int .i64 (lead u : Nat))).setCell ⟨x, 1, none⟩ (.int .i64 (trail u : Nat))) = w3 at b2 bel2 ⊢
  have r0 := b2.cell 0
  have r1 := b2.cell 1
  simp at r0 r1
  exact bodyPost_ret (v := .agg #[.int .i64 (lead u : Nat), .int .i64 (trail u : Nat)]) (by simp [results, Tryd.results57, go_sem, r0, r1]) rfl ⟨rfl, bel2⟩
/-- What has reads: both windows. -/
def WR (x : Nat) (l t y z : Int) (w : World) : Prop :=
  w.cell? ⟨x, 0, none⟩ = some (.int .i64 l) ∧ w.cell? ⟨x, 1, none⟩ = some (.int .i64 t) ∧ w.cell? ⟨x + 1, 0, none⟩ = some (.int .i64 y) ∧ w.cell? ⟨x + 1, 1, none⟩ = some (.int .i64 z)
theorem wr_of {x : Nat} {l t y z : Int} {w : World} {T : TypeId} (h : Blk w x T #[.int .i64 l, .int .i64 t]) (h' : Blk w (x + 1) T #[.int .i64 y, .int .i64 z]) : WR x l t y z w := by
  have p0 := h.cell 0
  have p1 := h.cell 1
  have q0 := h'.cell 0
  have q1 := h'.cell 1
  simp at p0 p1 q0 q1
  exact ⟨p0, p1, q0, q1⟩
set_option maxRecDepth 100000 in
set_option maxHeartbeats 800000 in
theorem has_none (y z : Int) (w : World) : Calls Tryd.prog 58 #[.agg #[.int .i64 (-1), .int .i64 (-1)], .agg #[.int .i64 y, .int .i64 z]] w fun e w' => e = .returned (.bool false) ∧ Below w.heap.size w w' := by
  obtain ⟨x, hx⟩ : ∃ x, x = w.heap.size := ⟨_, rfl⟩
  obtain ⟨W, hW⟩ : ∃ W, W = (w.alloc (.cells #[.int .i64 (-1), .int .i64 (-1)] 90)).alloc (.cells #[.int .i64 y, .int .i64 z] 90) := ⟨_, rfl⟩
  have b0 : Blk W x 90 #[.int .i64 (-1), .int .i64 (-1)] := by rw [hx, hW]; exact (Blk.fresh w _ _).alloc _
  have b1 : Blk W (x + 1) 90 #[.int .i64 y, .int .i64 z] := by
    rw [hx, hW]
    have h := Blk.fresh (w.alloc (.cells #[.int .i64 (-1), .int .i64 (-1)] 90)) 90 #[.int .i64 y, .int .i64 z]
    simpa using h
  have bel : Below x w W := by rw [hx, hW]; exact ((Below.refl w.heap.size w).alloc (Nat.le_refl _) _).alloc (by simp) _
  have HB := Lib.hid (And.intro b0 (And.intro b1 (And.intro bel hx)))
  clear b0 b1 bel
  go_enter Tryd.func58, Tryd.ntmps58
  go_wp2_with fail
  rw [← hW, ← hx]
  clear hW hx
  have hS : (WR x (-1) (-1) y z) (W.drew) := wr_of HB.out.1.drew HB.out.2.1.drew
  refine reg_start (WR x (-1) (-1) y z) (by kernel_rfl) hS ?_
  refine reg_take (i := 0) (v := ?_) rfl (by kernel_rfl) (by kernel_rfl) (by kernel_rfl) (fun _ _ _ h => h) (Or.inl ⟨by kernel_rfl, ?_⟩) hS ?_
  rotate_left
  · (intro w' hSw; obtain ⟨p0, p1, q0, q1⟩ := hSw; go_simp <;> with_reducible rfl)
  try simp only [List.getElem_toArray, List.getElem_cons_succ, List.getElem_cons_zero, Act.put, List.setIfInBounds_toArray, List.set_cons_zero, List.set_cons_succ]
  refine reg_call (i := 1) rfl (by kernel_rfl) (fun K hK => ?_)
  have HK := Lib.hid hK
  clear hK
  go_simp
  refine (none_any W.drew).mono ?_
  rintro e w1 ⟨rfl, hb1⟩
  have r1 : WR x (-1) (-1) y z w1 := wr_of (HB.out.1.drew.below hb1 HB.out.1.drew.lt) (HB.out.2.1.drew.below hb1 HB.out.2.1.drew.lt)
  have bel1 : Below w.heap.size w w1 := by
    have h := HB.out.2.2.1.drew
    rw [HB.out.2.2.2] at h
    exact h.trans (hb1.mono h.size)
  have H1 := Lib.hid (And.intro r1 bel1)
  clear hb1 r1 bel1
  go_wp2_with fail
  refine HK.out.to (WR x (-1) (-1) y z) (fun _ h => h) (H1.out.1) ?_
  clear HK hS
  have hS : (WR x (-1) (-1) y z) (w1) := H1.out.1
  try simp only [List.getElem_toArray, List.getElem_cons_succ, List.getElem_cons_zero, Act.put, List.setIfInBounds_toArray, List.set_cons_zero, List.set_cons_succ]
  refine reg_take (i := 2) (v := ?_) rfl (by kernel_rfl) (by kernel_rfl) (by kernel_rfl) (fun _ _ _ h => h) (Or.inl ⟨by kernel_rfl, ?_⟩) hS ?_
  rotate_left
  · (intro w' hSw; go_simp <;> with_reducible rfl)
  try simp only [List.getElem_toArray, List.getElem_cons_succ, List.getElem_cons_zero, Act.put, List.setIfInBounds_toArray, List.set_cons_zero, List.set_cons_succ]
  refine reg_take (i := 3) (v := ?_) rfl (by kernel_rfl) (by kernel_rfl) (by kernel_rfl) (fun _ _ _ h => h) (Or.inl ⟨by kernel_rfl, ?_⟩) hS ?_
  rotate_left
  · (intro w' hSw; go_simp <;> with_reducible rfl)
  try simp only [List.getElem_toArray, List.getElem_cons_succ, List.getElem_cons_zero, Act.put, List.setIfInBounds_toArray, List.set_cons_zero, List.set_cons_succ]
  refine reg_take (i := 4) (v := undef) rfl (by kernel_rfl) (by kernel_rfl) (by kernel_rfl) (fun _ _ _ h => h) (Or.inr ⟨by kernel_rfl, rfl⟩) hS ?_
  try simp only [List.getElem_toArray, List.getElem_cons_succ, List.getElem_cons_zero, Act.put, List.setIfInBounds_toArray, List.set_cons_zero, List.set_cons_succ]
  refine reg_take (i := 5) (v := undef) rfl (by kernel_rfl) (by kernel_rfl) (by kernel_rfl) (fun _ _ _ h => h) (Or.inr ⟨by kernel_rfl, rfl⟩) hS ?_
  try simp only [List.getElem_toArray, List.getElem_cons_succ, List.getElem_cons_zero, Act.put, List.setIfInBounds_toArray, List.set_cons_zero, List.set_cons_succ]
  refine reg_take (i := 6) (v := undef) rfl (by kernel_rfl) (by kernel_rfl) (by kernel_rfl) (fun _ _ _ h => h) (Or.inr ⟨by kernel_rfl, rfl⟩) hS ?_
  try simp only [List.getElem_toArray, List.getElem_cons_succ, List.getElem_cons_zero, Act.put, List.setIfInBounds_toArray, List.set_cons_zero, List.set_cons_succ]
  refine reg_take (i := 7) (v := undef) rfl (by kernel_rfl) (by kernel_rfl) (by kernel_rfl) (fun _ _ _ h => h) (Or.inr ⟨by kernel_rfl, rfl⟩) hS ?_
  try simp only [List.getElem_toArray, List.getElem_cons_succ, List.getElem_cons_zero, Act.put, List.setIfInBounds_toArray, List.set_cons_zero, List.set_cons_succ]
  refine reg_take (i := 8) (v := undef) rfl (by kernel_rfl) (by kernel_rfl) (by kernel_rfl) (fun _ _ _ h => h) (Or.inr ⟨by kernel_rfl, rfl⟩) hS ?_
  try simp only [List.getElem_toArray, List.getElem_cons_succ, List.getElem_cons_zero, Act.put, List.setIfInBounds_toArray, List.set_cons_zero, List.set_cons_succ]
  refine reg_take (i := 9) (v := ?_) rfl (by kernel_rfl) (by kernel_rfl) (by kernel_rfl) (fun _ _ _ h => h) (Or.inl ⟨by kernel_rfl, ?_⟩) hS ?_
  rotate_left
  · (intro w' hSw; go_simp <;> with_reducible rfl)
  try simp only [List.getElem_toArray, List.getElem_cons_succ, List.getElem_cons_zero, Act.put, List.setIfInBounds_toArray, List.set_cons_zero, List.set_cons_succ]
  refine reg_take (i := 10) (v := ?_) rfl (by kernel_rfl) (by kernel_rfl) (by kernel_rfl) (fun _ _ _ h => h) (Or.inl ⟨by kernel_rfl, ?_⟩) hS ?_
  rotate_left
  · (intro w' hSw; go_simp <;> with_reducible rfl)
  try simp only [List.getElem_toArray, List.getElem_cons_succ, List.getElem_cons_zero, Act.put, List.setIfInBounds_toArray, List.set_cons_zero, List.set_cons_succ]
  refine reg_take (i := 11) (v := undef) rfl (by kernel_rfl) (by kernel_rfl) (by kernel_rfl) (fun _ _ _ h => h) (Or.inr ⟨by kernel_rfl, rfl⟩) hS ?_
  try simp only [List.getElem_toArray, List.getElem_cons_succ, List.getElem_cons_zero, Act.put, List.setIfInBounds_toArray, List.set_cons_zero, List.set_cons_succ]
  refine reg_take (i := 12) (v := undef) rfl (by kernel_rfl) (by kernel_rfl) (by kernel_rfl) (fun _ _ _ h => h) (Or.inr ⟨by kernel_rfl, rfl⟩) hS ?_
  try simp only [List.getElem_toArray, List.getElem_cons_succ, List.getElem_cons_zero, Act.put, List.setIfInBounds_toArray, List.set_cons_zero, List.set_cons_succ]
  refine reg_take (i := 13) (v := undef) rfl (by kernel_rfl) (by kernel_rfl) (by kernel_rfl) (fun _ _ _ h => h) (Or.inr ⟨by kernel_rfl, rfl⟩) hS ?_
  try simp only [List.getElem_toArray, List.getElem_cons_succ, List.getElem_cons_zero, Act.put, List.setIfInBounds_toArray, List.set_cons_zero, List.set_cons_succ]
  refine reg_take (i := 14) (v := undef) rfl (by kernel_rfl) (by kernel_rfl) (by kernel_rfl) (fun _ _ _ h => h) (Or.inr ⟨by kernel_rfl, rfl⟩) hS ?_
  try simp only [List.getElem_toArray, List.getElem_cons_succ, List.getElem_cons_zero, Act.put, List.setIfInBounds_toArray, List.set_cons_zero, List.set_cons_succ]
  refine reg_take (i := 15) (v := undef) rfl (by kernel_rfl) (by kernel_rfl) (by kernel_rfl) (fun _ _ _ h => h) (Or.inr ⟨by kernel_rfl, rfl⟩) hS ?_
  try simp only [List.getElem_toArray, List.getElem_cons_succ, List.getElem_cons_zero, Act.put, List.setIfInBounds_toArray, List.set_cons_zero, List.set_cons_succ]
  refine reg_take (i := 16) (v := ?_) rfl (by kernel_rfl) (by kernel_rfl) (by kernel_rfl) (fun _ _ _ h => h) (Or.inl ⟨by kernel_rfl, ?_⟩) hS ?_
  rotate_left
  · (intro w' hSw; go_simp <;> with_reducible rfl)
  try simp only [List.getElem_toArray, List.getElem_cons_succ, List.getElem_cons_zero, Act.put, List.setIfInBounds_toArray, List.set_cons_zero, List.set_cons_succ]
  refine reg_take (i := 17) (v := ?_) rfl (by kernel_rfl) (by kernel_rfl) (by kernel_rfl) (fun _ _ _ h => h) (Or.inl ⟨by kernel_rfl, ?_⟩) hS ?_
  rotate_left
  · (intro w' hSw; go_simp <;> with_reducible rfl)
  try simp only [List.getElem_toArray, List.getElem_cons_succ, List.getElem_cons_zero, Act.put, List.setIfInBounds_toArray, List.set_cons_zero, List.set_cons_succ]
  refine wpAnyH_done (by kernel_rfl) ?_ _
  try simp only [List.getElem_toArray, List.getElem_cons_succ, List.getElem_cons_zero]
  try simp only [List.getElem_toArray, List.getElem_cons_succ, List.getElem_cons_zero, Act.put, List.setIfInBounds_toArray, List.set_cons_zero, List.set_cons_succ]
  go_wp2_with fail
  go_ret
  exact ⟨rfl, H1.out.2⟩
set_option maxRecDepth 100000 in
set_option maxHeartbeats 800000 in
theorem has_win (l t : Nat) (y z : Int) (w : World) : Calls Tryd.prog 58 #[.agg #[.int .i64 (l : Nat), .int .i64 (t : Nat)], .agg #[.int .i64 y, .int .i64 z]] w fun e w' => e = .returned (.bool (decide ((l : Int) ≤ y) && decide ((t : Int) ≤ z))) ∧ Below w.heap.size w w' := by
  have hl : ¬ ((l : Int) = -1) := by omega
  obtain ⟨x, hx⟩ : ∃ x, x = w.heap.size := ⟨_, rfl⟩
  obtain ⟨W, hW⟩ : ∃ W, W = (w.alloc (.cells #[.int .i64 (l : Nat), .int .i64 (t : Nat)] 90)).alloc (.cells #[.int .i64 y, .int .i64 z] 90) := ⟨_, rfl⟩
  have b0 : Blk W x 90 #[.int .i64 (l : Nat), .int .i64 (t : Nat)] := by rw [hx, hW]; exact (Blk.fresh w _ _).alloc _
  have b1 : Blk W (x + 1) 90 #[.int .i64 y, .int .i64 z] := by
    rw [hx, hW]
    have h := Blk.fresh (w.alloc (.cells #[.int .i64 (l : Nat), .int .i64 (t : Nat)] 90)) 90 #[.int .i64 y, .int .i64 z]
    simpa using h
  have bel : Below x w W := by rw [hx, hW]; exact ((Below.refl w.heap.size w).alloc (Nat.le_refl _) _).alloc (by simp) _
  have HB := Lib.hid (And.intro b0 (And.intro b1 (And.intro bel hx)))
  clear b0 b1 bel
  go_enter Tryd.func58, Tryd.ntmps58
  go_wp2_with fail
  rw [← hW, ← hx]
  clear hW hx
  have hS : (WR x (l : Nat) (t : Nat) y z) (W.drew) := wr_of HB.out.1.drew HB.out.2.1.drew
  refine reg_start (WR x (l : Nat) (t : Nat) y z) (by kernel_rfl) hS ?_
  refine reg_take (i := 0) (v := ?_) rfl (by kernel_rfl) (by kernel_rfl) (by kernel_rfl) (fun _ _ _ h => h) (Or.inl ⟨by kernel_rfl, ?_⟩) hS ?_
  rotate_left
  · (intro w' hSw; obtain ⟨p0, p1, q0, q1⟩ := hSw; go_simp <;> with_reducible rfl)
  try simp only [List.getElem_toArray, List.getElem_cons_succ, List.getElem_cons_zero, Act.put, List.setIfInBounds_toArray, List.set_cons_zero, List.set_cons_succ]
  refine reg_call (i := 1) rfl (by kernel_rfl) (fun K hK => ?_)
  have HK := Lib.hid hK
  clear hK
  go_simp
  refine (none_any W.drew).mono ?_
  rintro e w1 ⟨rfl, hb1⟩
  have r1 : WR x (l : Nat) (t : Nat) y z w1 := wr_of (HB.out.1.drew.below hb1 HB.out.1.drew.lt) (HB.out.2.1.drew.below hb1 HB.out.2.1.drew.lt)
  have bel1 : Below w.heap.size w w1 := by
    have h := HB.out.2.2.1.drew
    rw [HB.out.2.2.2] at h
    exact h.trans (hb1.mono h.size)
  have H1 := Lib.hid (And.intro r1 bel1)
  clear hb1 r1 bel1
  go_wp2_with fail
  refine HK.out.to (WR x (l : Nat) (t : Nat) y z) (fun _ h => h) (H1.out.1) ?_
  clear HK hS
  have hS : (WR x (l : Nat) (t : Nat) y z) (w1) := H1.out.1
  try simp only [List.getElem_toArray, List.getElem_cons_succ, List.getElem_cons_zero, Act.put, List.setIfInBounds_toArray, List.set_cons_zero, List.set_cons_succ]
  refine reg_take (i := 2) (v := ?_) rfl (by kernel_rfl) (by kernel_rfl) (by kernel_rfl) (fun _ _ _ h => h) (Or.inl ⟨by kernel_rfl, ?_⟩) hS ?_
  rotate_left
  · (intro w' hSw; go_simp <;> with_reducible rfl)
  try simp only [List.getElem_toArray, List.getElem_cons_succ, List.getElem_cons_zero, Act.put, List.setIfInBounds_toArray, List.set_cons_zero, List.set_cons_succ]
  refine reg_take (i := 3) (v := ?_) rfl (by kernel_rfl) (by kernel_rfl) (by kernel_rfl) (fun _ _ _ h => h) (Or.inl ⟨by kernel_rfl, ?_⟩) hS ?_
  rotate_left
  · (intro w' hSw; go_simp <;> with_reducible rfl)
  try simp only [List.getElem_toArray, List.getElem_cons_succ, List.getElem_cons_zero, Act.put, List.setIfInBounds_toArray, List.set_cons_zero, List.set_cons_succ]
  by_cases h1 : (l : Int) ≤ y
  · have d1 : decide ((l : Int) ≤ y) = true := by simp [h1]
    clear h1
    refine reg_take (i := 4) (v := ?_) rfl (by kernel_rfl) (by kernel_rfl) (by kernel_rfl) (fun _ _ _ h => h) (Or.inl ⟨by kernel_rfl, ?_⟩) hS ?_
    rotate_left
    · (intro w' hSw; obtain ⟨p0, p1, q0, q1⟩ := hSw; go_simp <;> with_reducible rfl)
    try simp only [List.getElem_toArray, List.getElem_cons_succ, List.getElem_cons_zero, Act.put, List.setIfInBounds_toArray, List.set_cons_zero, List.set_cons_succ]
    refine reg_take (i := 5) (v := ?_) rfl (by kernel_rfl) (by kernel_rfl) (by kernel_rfl) (fun _ _ _ h => h) (Or.inl ⟨by kernel_rfl, ?_⟩) hS ?_
    rotate_left
    · (intro w' hSw; obtain ⟨p0, p1, q0, q1⟩ := hSw; go_simp <;> with_reducible rfl)
    try simp only [List.getElem_toArray, List.getElem_cons_succ, List.getElem_cons_zero, Act.put, List.setIfInBounds_toArray, List.set_cons_zero, List.set_cons_succ]
    refine reg_take (i := 6) (v := ?_) rfl (by kernel_rfl) (by kernel_rfl) (by kernel_rfl) (fun _ _ _ h => h) (Or.inl ⟨by kernel_rfl, ?_⟩) hS ?_
    rotate_left
    · (intro w' hSw; obtain ⟨p0, p1, q0, q1⟩ := hSw; go_simp <;> with_reducible rfl)
    try simp only [List.getElem_toArray, List.getElem_cons_succ, List.getElem_cons_zero, Act.put, List.setIfInBounds_toArray, List.set_cons_zero, List.set_cons_succ]
    refine reg_take (i := 7) (v := ?_) rfl (by kernel_rfl) (by kernel_rfl) (by kernel_rfl) (fun _ _ _ h => h) (Or.inl ⟨by kernel_rfl, ?_⟩) hS ?_
    rotate_left
    · (intro w' hSw; obtain ⟨p0, p1, q0, q1⟩ := hSw; go_simp <;> with_reducible rfl)
    try simp only [List.getElem_toArray, List.getElem_cons_succ, List.getElem_cons_zero, Act.put, List.setIfInBounds_toArray, List.set_cons_zero, List.set_cons_succ]
    refine reg_take (i := 8) (v := ?_) rfl (by kernel_rfl) (by kernel_rfl) (by kernel_rfl) (fun _ _ _ h => h) (Or.inl ⟨by kernel_rfl, ?_⟩) hS ?_
    rotate_left
    · (intro w' hSw; obtain ⟨p0, p1, q0, q1⟩ := hSw; go_simp <;> with_reducible rfl)
    try simp only [List.getElem_toArray, List.getElem_cons_succ, List.getElem_cons_zero, Act.put, List.setIfInBounds_toArray, List.set_cons_zero, List.set_cons_succ]
    refine reg_take (i := 9) (v := ?_) rfl (by kernel_rfl) (by kernel_rfl) (by kernel_rfl) (fun _ _ _ h => h) (Or.inl ⟨by kernel_rfl, ?_⟩) hS ?_
    rotate_left
    · (intro w' hSw; go_simp <;> with_reducible rfl)
    try simp only [List.getElem_toArray, List.getElem_cons_succ, List.getElem_cons_zero, Act.put, List.setIfInBounds_toArray, List.set_cons_zero, List.set_cons_succ]
    refine reg_take (i := 10) (v := ?_) rfl (by kernel_rfl) (by kernel_rfl) (by kernel_rfl) (fun _ _ _ h => h) (Or.inl ⟨by kernel_rfl, ?_⟩) hS ?_
    rotate_left
    · (intro w' hSw; go_simp <;> with_reducible rfl)
    try simp only [List.getElem_toArray, List.getElem_cons_succ, List.getElem_cons_zero, Act.put, List.setIfInBounds_toArray, List.set_cons_zero, List.set_cons_succ]
    refine reg_take (i := 11) (v := ?_) rfl (by kernel_rfl) (by kernel_rfl) (by kernel_rfl) (fun _ _ _ h => h) (Or.inl ⟨by kernel_rfl, ?_⟩) hS ?_
    rotate_left
    · (intro w' hSw; obtain ⟨p0, p1, q0, q1⟩ := hSw; go_simp <;> with_reducible rfl)
    try simp only [List.getElem_toArray, List.getElem_cons_succ, List.getElem_cons_zero, Act.put, List.setIfInBounds_toArray, List.set_cons_zero, List.set_cons_succ]
    refine reg_take (i := 12) (v := ?_) rfl (by kernel_rfl) (by kernel_rfl) (by kernel_rfl) (fun _ _ _ h => h) (Or.inl ⟨by kernel_rfl, ?_⟩) hS ?_
    rotate_left
    · (intro w' hSw; obtain ⟨p0, p1, q0, q1⟩ := hSw; go_simp <;> with_reducible rfl)
    try simp only [List.getElem_toArray, List.getElem_cons_succ, List.getElem_cons_zero, Act.put, List.setIfInBounds_toArray, List.set_cons_zero, List.set_cons_succ]
    refine reg_take (i := 13) (v := ?_) rfl (by kernel_rfl) (by kernel_rfl) (by kernel_rfl) (fun _ _ _ h => h) (Or.inl ⟨by kernel_rfl, ?_⟩) hS ?_
    rotate_left
    · (intro w' hSw; obtain ⟨p0, p1, q0, q1⟩ := hSw; go_simp <;> with_reducible rfl)
    try simp only [List.getElem_toArray, List.getElem_cons_succ, List.getElem_cons_zero, Act.put, List.setIfInBounds_toArray, List.set_cons_zero, List.set_cons_succ]
    refine reg_take (i := 14) (v := ?_) rfl (by kernel_rfl) (by kernel_rfl) (by kernel_rfl) (fun _ _ _ h => h) (Or.inl ⟨by kernel_rfl, ?_⟩) hS ?_
    rotate_left
    · (intro w' hSw; obtain ⟨p0, p1, q0, q1⟩ := hSw; go_simp <;> with_reducible rfl)
    try simp only [List.getElem_toArray, List.getElem_cons_succ, List.getElem_cons_zero, Act.put, List.setIfInBounds_toArray, List.set_cons_zero, List.set_cons_succ]
    refine reg_take (i := 15) (v := ?_) rfl (by kernel_rfl) (by kernel_rfl) (by kernel_rfl) (fun _ _ _ h => h) (Or.inl ⟨by kernel_rfl, ?_⟩) hS ?_
    rotate_left
    · (intro w' hSw; obtain ⟨p0, p1, q0, q1⟩ := hSw; go_simp <;> with_reducible rfl)
    try simp only [List.getElem_toArray, List.getElem_cons_succ, List.getElem_cons_zero, Act.put, List.setIfInBounds_toArray, List.set_cons_zero, List.set_cons_succ]
    refine reg_take (i := 16) (v := ?_) rfl (by kernel_rfl) (by kernel_rfl) (by kernel_rfl) (fun _ _ _ h => h) (Or.inl ⟨by kernel_rfl, ?_⟩) hS ?_
    rotate_left
    · (intro w' hSw; go_simp <;> with_reducible rfl)
    try simp only [List.getElem_toArray, List.getElem_cons_succ, List.getElem_cons_zero, Act.put, List.setIfInBounds_toArray, List.set_cons_zero, List.set_cons_succ]
    refine reg_take (i := 17) (v := ?_) rfl (by kernel_rfl) (by kernel_rfl) (by kernel_rfl) (fun _ _ _ h => h) (Or.inl ⟨by kernel_rfl, ?_⟩) hS ?_
    rotate_left
    · (intro w' hSw; go_simp <;> with_reducible rfl)
    try simp only [List.getElem_toArray, List.getElem_cons_succ, List.getElem_cons_zero, Act.put, List.setIfInBounds_toArray, List.set_cons_zero, List.set_cons_succ]
    refine wpAnyH_done (by kernel_rfl) ?_ _
    try simp only [List.getElem_toArray, List.getElem_cons_succ, List.getElem_cons_zero]
    try simp only [List.getElem_toArray, List.getElem_cons_succ, List.getElem_cons_zero, Act.put, List.setIfInBounds_toArray, List.set_cons_zero, List.set_cons_succ]
    go_wp2_with fail
    go_ret
    exact ⟨by rw [d1, Bool.true_and]; rfl, H1.out.2⟩
  · have d1 : decide ((l : Int) ≤ y) = false := by simp; omega
    clear h1
    refine reg_take (i := 4) (v := ?_) rfl (by kernel_rfl) (by kernel_rfl) (by kernel_rfl) (fun _ _ _ h => h) (Or.inl ⟨by kernel_rfl, ?_⟩) hS ?_
    rotate_left
    · (intro w' hSw; obtain ⟨p0, p1, q0, q1⟩ := hSw; go_simp <;> with_reducible rfl)
    try simp only [List.getElem_toArray, List.getElem_cons_succ, List.getElem_cons_zero, Act.put, List.setIfInBounds_toArray, List.set_cons_zero, List.set_cons_succ]
    refine reg_take (i := 5) (v := ?_) rfl (by kernel_rfl) (by kernel_rfl) (by kernel_rfl) (fun _ _ _ h => h) (Or.inl ⟨by kernel_rfl, ?_⟩) hS ?_
    rotate_left
    · (intro w' hSw; obtain ⟨p0, p1, q0, q1⟩ := hSw; go_simp <;> with_reducible rfl)
    try simp only [List.getElem_toArray, List.getElem_cons_succ, List.getElem_cons_zero, Act.put, List.setIfInBounds_toArray, List.set_cons_zero, List.set_cons_succ]
    refine reg_take (i := 6) (v := ?_) rfl (by kernel_rfl) (by kernel_rfl) (by kernel_rfl) (fun _ _ _ h => h) (Or.inl ⟨by kernel_rfl, ?_⟩) hS ?_
    rotate_left
    · (intro w' hSw; obtain ⟨p0, p1, q0, q1⟩ := hSw; go_simp <;> with_reducible rfl)
    try simp only [List.getElem_toArray, List.getElem_cons_succ, List.getElem_cons_zero, Act.put, List.setIfInBounds_toArray, List.set_cons_zero, List.set_cons_succ]
    refine reg_take (i := 7) (v := ?_) rfl (by kernel_rfl) (by kernel_rfl) (by kernel_rfl) (fun _ _ _ h => h) (Or.inl ⟨by kernel_rfl, ?_⟩) hS ?_
    rotate_left
    · (intro w' hSw; obtain ⟨p0, p1, q0, q1⟩ := hSw; go_simp <;> with_reducible rfl)
    try simp only [List.getElem_toArray, List.getElem_cons_succ, List.getElem_cons_zero, Act.put, List.setIfInBounds_toArray, List.set_cons_zero, List.set_cons_succ]
    refine reg_take (i := 8) (v := ?_) rfl (by kernel_rfl) (by kernel_rfl) (by kernel_rfl) (fun _ _ _ h => h) (Or.inl ⟨by kernel_rfl, ?_⟩) hS ?_
    rotate_left
    · (intro w' hSw; obtain ⟨p0, p1, q0, q1⟩ := hSw; go_simp <;> with_reducible rfl)
    try simp only [List.getElem_toArray, List.getElem_cons_succ, List.getElem_cons_zero, Act.put, List.setIfInBounds_toArray, List.set_cons_zero, List.set_cons_succ]
    refine reg_take (i := 9) (v := ?_) rfl (by kernel_rfl) (by kernel_rfl) (by kernel_rfl) (fun _ _ _ h => h) (Or.inl ⟨by kernel_rfl, ?_⟩) hS ?_
    rotate_left
    · (intro w' hSw; go_simp <;> with_reducible rfl)
    try simp only [List.getElem_toArray, List.getElem_cons_succ, List.getElem_cons_zero, Act.put, List.setIfInBounds_toArray, List.set_cons_zero, List.set_cons_succ]
    refine reg_take (i := 10) (v := ?_) rfl (by kernel_rfl) (by kernel_rfl) (by kernel_rfl) (fun _ _ _ h => h) (Or.inl ⟨by kernel_rfl, ?_⟩) hS ?_
    rotate_left
    · (intro w' hSw; go_simp <;> with_reducible rfl)
    try simp only [List.getElem_toArray, List.getElem_cons_succ, List.getElem_cons_zero, Act.put, List.setIfInBounds_toArray, List.set_cons_zero, List.set_cons_succ]
    refine reg_take (i := 11) (v := undef) rfl (by kernel_rfl) (by kernel_rfl) (by kernel_rfl) (fun _ _ _ h => h) (Or.inr ⟨by kernel_rfl, rfl⟩) hS ?_
    try simp only [List.getElem_toArray, List.getElem_cons_succ, List.getElem_cons_zero, Act.put, List.setIfInBounds_toArray, List.set_cons_zero, List.set_cons_succ]
    refine reg_take (i := 12) (v := undef) rfl (by kernel_rfl) (by kernel_rfl) (by kernel_rfl) (fun _ _ _ h => h) (Or.inr ⟨by kernel_rfl, rfl⟩) hS ?_
    try simp only [List.getElem_toArray, List.getElem_cons_succ, List.getElem_cons_zero, Act.put, List.setIfInBounds_toArray, List.set_cons_zero, List.set_cons_succ]
    refine reg_take (i := 13) (v := undef) rfl (by kernel_rfl) (by kernel_rfl) (by kernel_rfl) (fun _ _ _ h => h) (Or.inr ⟨by kernel_rfl, rfl⟩) hS ?_
    try simp only [List.getElem_toArray, List.getElem_cons_succ, List.getElem_cons_zero, Act.put, List.setIfInBounds_toArray, List.set_cons_zero, List.set_cons_succ]
    refine reg_take (i := 14) (v := undef) rfl (by kernel_rfl) (by kernel_rfl) (by kernel_rfl) (fun _ _ _ h => h) (Or.inr ⟨by kernel_rfl, rfl⟩) hS ?_
    try simp only [List.getElem_toArray, List.getElem_cons_succ, List.getElem_cons_zero, Act.put, List.setIfInBounds_toArray, List.set_cons_zero, List.set_cons_succ]
    refine reg_take (i := 15) (v := undef) rfl (by kernel_rfl) (by kernel_rfl) (by kernel_rfl) (fun _ _ _ h => h) (Or.inr ⟨by kernel_rfl, rfl⟩) hS ?_
    try simp only [List.getElem_toArray, List.getElem_cons_succ, List.getElem_cons_zero, Act.put, List.setIfInBounds_toArray, List.set_cons_zero, List.set_cons_succ]
    refine reg_take (i := 16) (v := ?_) rfl (by kernel_rfl) (by kernel_rfl) (by kernel_rfl) (fun _ _ _ h => h) (Or.inl ⟨by kernel_rfl, ?_⟩) hS ?_
    rotate_left
    · (intro w' hSw; go_simp <;> with_reducible rfl)
    try simp only [List.getElem_toArray, List.getElem_cons_succ, List.getElem_cons_zero, Act.put, List.setIfInBounds_toArray, List.set_cons_zero, List.set_cons_succ]
    refine reg_take (i := 17) (v := ?_) rfl (by kernel_rfl) (by kernel_rfl) (by kernel_rfl) (fun _ _ _ h => h) (Or.inl ⟨by kernel_rfl, ?_⟩) hS ?_
    rotate_left
    · (intro w' hSw; go_simp <;> with_reducible rfl)
    try simp only [List.getElem_toArray, List.getElem_cons_succ, List.getElem_cons_zero, Act.put, List.setIfInBounds_toArray, List.set_cons_zero, List.set_cons_succ]
    refine wpAnyH_done (by kernel_rfl) ?_ _
    try simp only [List.getElem_toArray, List.getElem_cons_succ, List.getElem_cons_zero]
    try simp only [List.getElem_toArray, List.getElem_cons_succ, List.getElem_cons_zero, Act.put, List.setIfInBounds_toArray, List.set_cons_zero, List.set_cons_succ]
    go_wp2_with fail
    go_ret
    exact ⟨by rw [d1, Bool.false_and]; rfl, H1.out.2⟩
end Go.Proofs.YtboecnakndpgfaaDoor.X
