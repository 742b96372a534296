/-
  The walk of the law FrameSums.
-/
import Derived.Test.YtdgedhamacpghaaFrmR
import Derived.Test.YtdgedhamacpghaaFrmL
import Derived.Test.YtdgedhamacpghaaConv
import Derived.Deep.DeepCutAuto
import Derived.Lib.SlBytesConst
namespace Go.Proofs.Ytdgedhamacpghaa
open Go.RowKit
set_option linter.unusedVariables false
set_option linter.unusedSimpArgs false
theorem crc_check : crcS [49, 50, 51, 52, 53, 54, 55, 56, 57] = 3421780262 := by decide +kernel
theorem sl_nine (w : World) : Sl (w.alloc (.cells #[.int .u8 49, .int .u8 50, .int .u8 51, .int .u8 52, .int .u8 53, .int .u8 54, .int .u8 55, .int .u8 56, .int .u8 57] 5 (9, 10))) (fun k => k = w.heap.size) (some ⟨w.heap.size, 0, none⟩) 9 (byteC [49, 50, 51, 52, 53, 54, 55, 56, 57]) := fun _ =>
  ⟨_, _, rfl, rfl, fun j hj => by
    rw [cell_of_row _ _ (0 + j) _ _ _ (heap_alloc_new w _)]
    rcases (show j = 0 ∨ j = 1 ∨ j = 2 ∨ j = 3 ∨ j = 4 ∨ j = 5 ∨ j = 6 ∨ j = 7 ∨ j = 8 by omega) with rfl | rfl | rfl | rfl | rfl | rfl | rfl | rfl | rfl <;> rfl⟩
theorem wf_u8' {z : Int} (h : (Lit.int .u8 z).wf = true) : ∃ k : Nat, k < 256 ∧ z = (k : Int) := by
  have := wf_u8 h
  exact ⟨z.toNat, by omega, by omega⟩
set_option maxRecDepth 100000 in
set_option maxHeartbeats 4000000 in
theorem frameSums_walk (a0 : Int) (a1 : Option Addr) (len1 cap1 : Nat) (z1 : List Int) (w : World) (w0 : (Lit.int .u8 a0).wf = true) (w1 : IsRow .u8 w a1 len1 cap1 z1) :
    Calls Try.prog 3 #[.int .u8 a0, .slice a1 len1 cap1] w fun e w' => e = .returned (.bool true) ∧ Below w.heap.size w w' := by
  obtain ⟨kind, hkind, rfl⟩ := wf_u8' w0
  obtain ⟨n, hn⟩ : ∃ n, n = min len1 2000 := ⟨_, rfl⟩
  obtain ⟨bs, hxl, hxb, hxs⟩ := w1.bytes n (by omega)
  have l0 := w1.le
  clear w0 w1
  obtain ⟨l0a, l0b, -⟩ := l0
  have HF := Lib.hid (And.intro hxb (And.intro hxs (And.intro hkind (And.intro hn hxl))))
  have hn3 : n ≤ 2000 := by omega
  clear hxl hxb hxs hkind hn
  go_enter Try.func3, Try.ntmps3
  go_upto_if 11 with (fail)
  go_cut [1] (fun s0 wx => s0 = .slice a1 n cap1 ∧ w = wx)
  case first =>
    by_cases h : 2000 < len1
    · obtain ⟨b, off, ha, -, -⟩ := HF.out.2.1 (by have := HF.out.2.2.2.1; omega)
      subst ha
      go_wp2_with fail
      go_meet
      have : n = 2000 := by have := HF.out.2.2.2.1; omega
      subst this
      exact ⟨rfl, rfl⟩
    · go_wp2_with fail
      go_meet
      have : n = len1 := by have := HF.out.2.2.2.1; omega
      subst this
      exact ⟨rfl, rfl⟩
  case rest =>
    obtain ⟨rfl, rfl⟩ := hcut
    go_wp2_with fail
    refine (seal_ok _ kind _ _ _ _ bs HF.out.2.2.2.2 HF.out.2.1 HF.out.1 HF.out.2.2.1 (by omega)).mono ?_
    rintro e w2 ⟨A2, c2, rfl, ho2, hk2⟩
    have hsl2 := HF.out.2.1.keep (w' := w2) (fun q _ hq => hk2.block q hq (fun h => h))
    obtain ⟨l, hl⟩ : ∃ l, l = sealL kind bs := ⟨_, rfl⟩
    rw [← hl] at ho2
    rw [← hl]
    obtain ⟨m, hm⟩ : ∃ m, m = l.length := ⟨_, rfl⟩
    rw [← hm] at ho2
    rw [← hm]
    have H2 := Lib.hid (And.intro ho2 (And.intro hk2 (And.intro hsl2 (And.intro hl hm))))
    clear ho2 hk2 hsl2 hl hm
    go_wp2_with fail
    refine (rseal_ok _ kind _ _ _ _ bs HF.out.2.2.2.2 H2.out.2.2.1 HF.out.1 HF.out.2.2.1 (by omega)).mono ?_
    rintro e w3 ⟨A3, c3, rfl, ho3, hk3⟩
    rw [← H2.out.2.2.2.1] at ho3
    rw [← H2.out.2.2.2.1]
    rw [← H2.out.2.2.2.2] at ho3
    rw [← H2.out.2.2.2.2]
    have ho23 := own_keeps H2.out.1 hk3 (fun _ _ h => h)
    have hsl3 := H2.out.2.2.1.keep (w' := w3) (fun q _ hq => hk3.block q hq (fun h => h))
    have H3 := Lib.hid (And.intro ho23 (And.intro ho3 (And.intro (H2.out.2.1.trans' hk3) hsl3)))
    clear ho3 hk3 ho23 hsl3
    go_wp2_with fail
    refine (sum_any _ _ _ _ _ bs HF.out.2.2.2.2 H3.out.2.2.2 HF.out.1 (by omega)).mono ?_
    rintro e w4 ⟨rfl, rfl⟩
    go_wp2_with fail
    refine (rsum_any _ _ _ _ _ bs HF.out.2.2.2.2 H3.out.2.2.2 HF.out.1 (by omega)).mono ?_
    rintro e w4 ⟨rfl, rfl⟩
    go_wp2_with fail
    refine (little_any _ _ _ _ _ bs HF.out.2.2.2.2 H3.out.2.2.2 HF.out.1 (by omega)).mono ?_
    rintro e w4 ⟨rfl, hk4⟩
    have o24 := own_keeps H3.out.1 hk4 (fun _ _ h => h)
    have o34 := own_keeps H3.out.2.1 hk4 (fun _ _ h => h)
    have hsl4 := H3.out.2.2.2.keep (w' := w4) (fun q _ hq => hk4.block q hq (fun h => h))
    have H4 := Lib.hid (And.intro o24 (And.intro o34 (And.intro (H3.out.2.2.1.trans' hk4) hsl4)))
    clear o24 o34 hsl4 hk4
    go_wp2_with fail
    refine (rlittle_any _ _ _ _ _ bs HF.out.2.2.2.2 H4.out.2.2.2 HF.out.1 (by omega)).mono ?_
    rintro e w5 ⟨rfl, rfl⟩
    have hc2 := conv_own (P := Try.prog) (c := c2) 22 5 9 Try.underlying22 Try.underlying5 Try.underlying9 H2.out.2.2.2.2.symm H4.out.1
    have hc3 := conv_own (P := Try.prog) (c := c3) 22 5 9 Try.underlying22 Try.underlying5 Try.underlying9 H2.out.2.2.2.2.symm H4.out.2.1
    have hcs := fun (w : World) (C : Array Value) (n c : Nat) => Lib.run_convert_bytes_const (P := Try.prog) w 22 5 C n c Try.underlying22 Try.underlying5
    go_wp2_with fail
    refine (sum_any _ _ _ _ _ [49, 50, 51, 52, 53, 54, 55, 56, 57] rfl (sl_nine w4) (getD_of_mem (by decide)) (by simp)).mono ?_
    rintro e w6 ⟨rfl, rfl⟩
    rw [crc_check]
    clear hc2 hc3 hcs
    rw [show ((3421780262 : Nat) : Int) = 3421780262 from rfl]
    go_wp2_with fail
    go_ret
    exact ⟨rfl, (H4.out.2.2.1.alloc _).to_below⟩
end Go.Proofs.Ytdgedhamacpghaa
