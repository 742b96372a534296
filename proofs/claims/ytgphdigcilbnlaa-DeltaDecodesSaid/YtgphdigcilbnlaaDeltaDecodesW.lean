/-
  The walk of the law DeltaDecodes.
-/
import Derived.Test.YtgphdigcilbnlaaDeltaRDec
namespace Go.Proofs.Ytgphdigcilbnlaa
open Go.RowKit
set_option linter.unusedVariables false
set_option linter.unusedSimpArgs false
set_option maxHeartbeats 400000 in
theorem rdecode_arg (w : World) (A : Option Addr) (len c : Nat) (n : Int) (hn : n < 0) :
    Calls Try.prog 32 #[.slice A len c, .int .i64 n] w (DecPost w ([], 2)) := by
  go_enter Try.func32, Try.ntmps32
  go_wp2
  go_ret2
  exact ⟨none, 0, rfl, ⟨rfl, .inl ⟨rfl, rfl⟩⟩, Keeps.refl _ _⟩
set_option maxHeartbeats 400000 in
theorem rdecode_big (w : World) (A : Option Addr) (len c : Nat) (n : Int) (hn : 4096 < n) :
    Calls Try.prog 32 #[.slice A len c, .int .i64 n] w (DecPost w ([], 3)) := by
  have h0 : ¬ n < 0 := by omega
  go_enter Try.func32, Try.ntmps32
  go_wp2
  go_ret2
  exact ⟨none, 0, rfl, ⟨rfl, .inl ⟨rfl, rfl⟩⟩, Keeps.refl _ _⟩
theorem rdecode_any (w : World) (A : Option Addr) (len c : Nat) (D0 : Nat → Prop) (bs : List Nat) (n : Int) (hl : bs.length = len) (hsl : Sl w D0 A len (byteC bs)) (hbyte : ∀ j, bs.getD j 0 < 256) (hsm : len ≤ 1048576) (hD : ∀ k, D0 k → k < w.heap.size) :
    Calls Try.prog 32 #[.slice A len c, .int .i64 n] w (DecPost w (decA bs n)) := by
  unfold decA
  by_cases h1 : n < 0
  · rw [if_pos h1]; exact rdecode_arg w A len c n h1
  · rw [if_neg h1]
    by_cases h2 : 4096 < n
    · rw [if_pos h2]; exact rdecode_big w A len c n h2
    · rw [if_neg h2]
      obtain ⟨m, rfl⟩ := Int.eq_ofNat_of_zero_le (show 0 ≤ n by omega)
      exact rdecode_ok w A len c D0 bs m hl hsl hbyte hsm (by omega) hD
theorem decR_len (bs : List Nat) (en : Nat) : ∀ m (out : List Int) (step : Int) (p : Nat), (decR bs en m out step p).1.length ≤ out.length + m
  | 0, out, _, _ => Nat.le_refl _
  | m + 1, out, step, p => by
    unfold decR
    split
    · have := decR_len bs en m (out ++ [(nextR bs en out step p).1]) (nextR bs en out step p).2.2.1 (nextR bs en out step p).2.2.2
      simp at this
      omega
    · exact Nat.zero_le _
theorem decA_len (bs : List Nat) (n : Int) : (decA bs n).1.length ≤ 4096 := by
  unfold decA
  split
  · exact Nat.zero_le _
  · split
    · exact Nat.zero_le _
    · unfold decL decM
      split
      · split
        · have := decR_len bs (8 * bs.length) n.toNat [] 0 0
          simp only [List.length_nil] at this
          show (decR bs (8 * bs.length) n.toNat [] 0 0).1.length ≤ 4096
          omega
        · exact Nat.zero_le _
      · exact Nat.zero_le _
theorem sl_bytes8 (w : World) (a b c d e f g h : Nat) : Sl (w.alloc (.cells #[.int .u8 (a : Nat), .int .u8 (b : Nat), .int .u8 (c : Nat), .int .u8 (d : Nat), .int .u8 (e : Nat), .int .u8 (f : Nat), .int .u8 (g : Nat), .int .u8 (h : Nat)] 5)) (fun k => k = w.heap.size) (some ⟨w.heap.size, 0, none⟩) 8 (byteC [a, b, c, d, e, f, g, h]) := fun _ =>
  ⟨_, _, rfl, rfl, fun j hj => by
    rw [(Blk.fresh w _ _).cell (0 + j)]
    rcases (show j = 0 ∨ j = 1 ∨ j = 2 ∨ j = 3 ∨ j = 4 ∨ j = 5 ∨ j = 6 ∨ j = 7 by omega) with rfl | rfl | rfl | rfl | rfl | rfl | rfl | rfl <;> rfl⟩
theorem dec_five : decL [0, 0, 0, 0, 0, 0, 0, 5] 1 = ([5], 0) := by decide
set_option maxRecDepth 100000 in
set_option maxHeartbeats 4000000 in
theorem deltaDecodes_walk (a0 : Option Addr) (len0 cap0 : Nat) (z0 : List Int) (a1 : Int) (w : World) (w0 : IsRow .u8 w a0 len0 cap0 z0) (w1 : (Lit.int .i64 a1).wf = true) :
    Calls Try.prog 12 #[.slice a0 len0 cap0, .int .i64 a1] w fun e w' => e = .returned (.bool true) ∧ Below w.heap.size w w' := by
  obtain ⟨n, hn⟩ : ∃ n, n = min len0 1500 := ⟨_, rfl⟩
  obtain ⟨bs, hxl, hxb, hxs⟩ := w0.bytes n (by omega)
  have l0 := w0.le
  have b1 := wf_i64 w1
  clear w0 w1
  obtain ⟨l0a, l0b, -⟩ := l0
  have HF := Lib.hid (And.intro hxb (And.intro hxs (And.intro b1 (And.intro hn hxl))))
  have hn3 : n ≤ 1500 := by omega
  clear hxl hxb hxs b1 hn
  go_enter Try.func12, Try.ntmps12
  go_upto_if 13 with (fail)
  go_cut [0] (fun s0 wx => s0 = .slice a0 n cap0 ∧ w = wx)
  case first =>
    by_cases h : 1500 < len0
    · obtain ⟨b, off, ha, -, -⟩ := HF.out.2.1 (by have := HF.out.2.2.2.1; omega)
      subst ha
      go_wp2_with fail
      go_meet
      have : n = 1500 := by have := HF.out.2.2.2.1; omega
      subst this
      exact ⟨rfl, rfl⟩
    · go_wp2_with fail
      go_meet
      have : n = len0 := by have := HF.out.2.2.2.1; omega
      subst this
      exact ⟨rfl, rfl⟩
  case rest =>
    obtain ⟨rfl, rfl⟩ := hcut
    go_wp2_with fail
    refine (decode_any _ _ _ _ _ bs _ HF.out.2.2.2.2 HF.out.2.1 HF.out.1 (by omega)).mono ?_
    rintro e w2 ⟨A2, c2, rfl, ho2, hk2⟩
    have hsl2 := HF.out.2.1.keep (w' := w2) (fun q _ hq => hk2.block q hq (fun h => h))
    have hle := decA_len bs a1
    obtain ⟨l, hl⟩ : ∃ l, l = decA bs a1 := ⟨_, rfl⟩
    rw [← hl] at ho2 hle
    rw [← hl]
    obtain ⟨l, er⟩ := l
    simp only [] at ho2 hle
    obtain ⟨m, hm⟩ : ∃ m, m = l.length := ⟨_, rfl⟩
    rw [← hm] at ho2 hle
    have hx2 := row_sl hm.symm ho2
    have H2 := Lib.hid (And.intro hx2 (And.intro hk2 (And.intro hsl2 (And.intro hl hm))))
    clear ho2 hx2 hk2 hsl2 hl
    simp only []
    rw [← hm]
    clear hm
    go_wp2_with fail
    refine (rdecode_any _ _ _ _ _ bs _ HF.out.2.2.2.2 H2.out.2.2.1 HF.out.1 (by omega) (fun k hk => by have := H2.out.2.1.size; omega)).mono ?_
    rintro e w3 ⟨A3, c3, rfl, ho3, hk3⟩
    obtain ⟨hx2, hk2, -, hl, hm⟩ := H2.out
    rw [← hl] at ho3
    rw [← hl]
    simp only [] at ho3
    rw [← hm] at ho3
    have hx3 := row_sl hm.symm ho3
    have hx2' := hx2.keep (w' := w3) (fun q _ hq => hk3.block q hq (fun h => h))
    have H3 := Lib.hid (And.intro hx2' (And.intro hx3 (hk2.trans' hk3)))
    simp only []
    rw [← hm]
    clear ho3 hk3 hx3 hx2' hk2 hx2 hl hm
    go_wp2_with fail
    refine (decode_ok _ _ _ _ _ [0, 0, 0, 0, 0, 0, 0, 5] 1 rfl (sl_bytes8 w3 0 0 0 0 0 0 0 5) (fun j => by
      rcases Nat.lt_or_ge j 8 with h | h
      · rcases (show j = 0 ∨ j = 1 ∨ j = 2 ∨ j = 3 ∨ j = 4 ∨ j = 5 ∨ j = 6 ∨ j = 7 by omega) with rfl | rfl | rfl | rfl | rfl | rfl | rfl | rfl <;> decide
      · rw [List.getD_eq_getElem?_getD, List.getElem?_eq_none (by simpa using h)]; decide) (by simp) (by omega)).mono ?_
    rintro e w4 ⟨A4, c4, rfl, ho4, hk4⟩
    rw [dec_five] at ho4
    rw [dec_five]
    simp only [] at ho4
    have hx4 := row_sl (out := [5]) (n := 1) rfl ho4
    obtain ⟨b4, off4, hA4, -, hc4⟩ := hx4 (by omega)
    have c5 : w4.cell? ⟨b4, off4, none⟩ = some (.int .i64 5) := hc4 0 (by omega)
    subst hA4
    have hk4' : Keeps (fun _ => False) w3 w4 := ((Keeps.refl _ w3).alloc _).trans' hk4
    have hx4 := H3.out.1.keep (w' := w4) (fun q _ hq => hk4'.block q hq (fun h => h))
    have hy4 := H3.out.2.1.keep (w' := w4) (fun q _ hq => hk4'.block q hq (fun h => h))
    have H4 := Lib.hid (And.intro hx4 (And.intro hy4 (H3.out.2.2.trans' hk4')))
    clear ho4 hk4 hk4' hx4 hy4 hc4
    simp only [List.length_cons, List.length_nil]
    go_wp2_with fail
    refine (ints_eq _ _ _ _ _ _ _ _ (fun j => l.getD j 0) H4.out.1 H4.out.2.1 (by omega)).mono ?_
    rintro e w5 ⟨rfl, k5, rfl⟩
    go_wp2_with fail
    go_ret
    exact ⟨rfl, (H4.out.2.2.drewN k5).to_below⟩
end Go.Proofs.Ytgphdigcilbnlaa
