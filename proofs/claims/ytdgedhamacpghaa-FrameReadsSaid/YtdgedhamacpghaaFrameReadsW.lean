/-
  The walk of the law FrameReads.
-/
import Derived.Test.YtdgedhamacpghaaFrameSumsW
import Derived.Test.YtdgedhamacpghaaFrmF
namespace Go.Proofs.Ytdgedhamacpghaa
open Go.RowKit
set_option linter.unusedVariables false
set_option linter.unusedSimpArgs false
set_option maxRecDepth 100000 in
set_option maxHeartbeats 800000 in
theorem rRead_any (w : World) (A : Option Addr) (len c : Nat) (D : Nat → Prop) (bs : List Nat) (hl : bs.length = len) (hsl : Sl w D A len (byteC bs)) (hb : ∀ j, bs.getD j 0 < 256) (hlen : len ≤ 2097152) (hlc : len ≤ c) :
    Calls Try.prog 16 #[.slice A len c] w (ReadPost w (readK bs) (readI bs) (readN bs) (readE bs)) := by
  have HS := Lib.hid (And.intro hl (And.intro hsl hb))
  clear hl hsl hb
  go_enter Try.func16, Try.ntmps16
  go_wp2_with fail
  refine (rread_any _ false _ _ _ _ bs HS.out.1 HS.out.2.1 HS.out.2.2 hlen hlc).mono ?_
  rintro e w1 ⟨A1, c1, rfl, ho1, hk1⟩
  obtain ⟨r1, r2, r3, r4⟩ := rr_read bs
  have hfin : ReadPost w (readK bs) (readI bs) (readN bs) (readE bs) (.returned (.tuple #[.int .u8 (rrK false bs : Nat), .slice A1 (rrI false bs).length c1, .int .i64 (rrN false bs : Nat), .int .i64 (rrE false bs)])) w1 := by
    rw [← r1, ← r2, ← r3, ← r4]
    exact ⟨A1, c1, rfl, ho1, hk1⟩
  have HF := Lib.hid hfin
  clear ho1 hk1 r1 r2 r3 r4 hfin
  go_wp2_with fail
  exact bodyPost_ret (v := .tuple #[.int .u8 (rrK false bs : Nat), .slice A1 (rrI false bs).length c1, .int .i64 (rrN false bs : Nat), .int .i64 (rrE false bs)]) (by simp [results, Try.results16, go_sem]) rfl HF.out
set_option maxRecDepth 100000 in
set_option maxHeartbeats 800000 in
theorem rOpen_any (w : World) (A : Option Addr) (len c : Nat) (D : Nat → Prop) (bs : List Nat) (hl : bs.length = len) (hsl : Sl w D A len (byteC bs)) (hb : ∀ j, bs.getD j 0 < 256) (hlen : len ≤ 2097152) (hlc : len ≤ c) :
    Calls Try.prog 17 #[.slice A len c] w (WithPost w (openK bs) (openI bs) (openE bs)) := by
  have HS := Lib.hid (And.intro hl (And.intro hsl hb))
  clear hl hsl hb
  go_enter Try.func17, Try.ntmps17
  go_wp2_with fail
  refine (rread_any _ true _ _ _ _ bs HS.out.1 HS.out.2.1 HS.out.2.2 hlen hlc).mono ?_
  rintro e w1 ⟨A1, c1, rfl, ho1, hk1⟩
  obtain ⟨r1, r2, r3⟩ := rr_open bs
  have hfin : WithPost w (openK bs) (openI bs) (openE bs) (.returned (.tuple #[.int .u8 (rrK true bs : Nat), .slice A1 (rrI true bs).length c1, .int .i64 (rrE true bs)])) w1 := by
    rw [← r1, ← r2, ← r3]
    exact ⟨A1, c1, rfl, ho1, hk1⟩
  have HF := Lib.hid hfin
  clear ho1 hk1 r1 r2 r3 hfin
  go_wp2_with fail
  go_ret3
  exact HF.out
set_option maxRecDepth 100000 in
set_option maxHeartbeats 8000000 in
theorem frameReads_walk (a0 : Option Addr) (len0 cap0 : Nat) (z0 : List Int) (w : World) (w0 : IsRow .u8 w a0 len0 cap0 z0) :
    Calls Try.prog 6 #[.slice a0 len0 cap0] w fun e w' => e = .returned (.bool true) ∧ Below w.heap.size w w' := by
  obtain ⟨n, hn⟩ : ∃ n, n = min len0 2000 := ⟨_, rfl⟩
  obtain ⟨bs, hxl, hxb, hxs⟩ := w0.bytes n (by omega)
  have l0 := w0.le
  clear w0
  obtain ⟨l0a, l0b, -⟩ := l0
  have HF := Lib.hid (And.intro hxb (And.intro hxs (And.intro hn hxl)))
  have hn3 : n ≤ 2000 := by omega
  have hnc : n ≤ cap0 := by omega
  clear hxl hxb hxs hn
  go_enter Try.func6, Try.ntmps6
  go_upto_if 21 with (fail)
  go_cut [0] (fun s0 wx => s0 = .slice a0 n cap0 ∧ w = wx)
  case first =>
    by_cases h : 2000 < len0
    · obtain ⟨b, off, ha, -, -⟩ := HF.out.2.1 (by have := HF.out.2.2.1; omega)
      subst ha
      go_wp2_with fail
      go_meet
      have : n = 2000 := by have := HF.out.2.2.1; omega
      subst this
      exact ⟨rfl, rfl⟩
    · go_wp2_with fail
      go_meet
      have : n = len0 := by have := HF.out.2.2.1; omega
      subst this
      exact ⟨rfl, rfl⟩
  case rest =>
    obtain ⟨rfl, rfl⟩ := hcut
    obtain ⟨k1, hk1⟩ : ∃ x, x = readK bs := ⟨_, rfl⟩
    obtain ⟨i1, hi1⟩ : ∃ x, x = readI bs := ⟨_, rfl⟩
    obtain ⟨n1, hn1⟩ : ∃ x, x = readN bs := ⟨_, rfl⟩
    obtain ⟨e1, he1⟩ : ∃ x, x = readE bs := ⟨_, rfl⟩
    obtain ⟨k2, hk2⟩ : ∃ x, x = openK bs := ⟨_, rfl⟩
    obtain ⟨i2, hi2⟩ : ∃ x, x = openI bs := ⟨_, rfl⟩
    obtain ⟨e2, he2⟩ : ∃ x, x = openE bs := ⟨_, rfl⟩
    have HN := Lib.hid (And.intro hk1 (And.intro hi1 (And.intro hn1 (And.intro he1 (And.intro hk2 (And.intro hi2 he2))))))
    clear hk1 hi1 hn1 he1 hk2 hi2 he2
    obtain ⟨m1, hm1⟩ : ∃ x, x = i1.length := ⟨_, rfl⟩
    obtain ⟨m2, hm2⟩ : ∃ x, x = i2.length := ⟨_, rfl⟩
    have HM := Lib.hid (And.intro hm1 hm2)
    clear hm1 hm2
    go_wp2_with fail
    refine (read_any _ _ _ _ _ bs HF.out.2.2.2 HF.out.2.1 HF.out.1 (by omega) hnc).mono ?_
    rintro e w1 ⟨A1, c1, rfl, ho1, hk1⟩
    rw [← HN.out.2.1, ← HM.out.1] at ho1
    rw [← HN.out.1, ← HN.out.2.1, ← HN.out.2.2.1, ← HN.out.2.2.2.1, ← HM.out.1]
    have H1 := Lib.hid (And.intro ho1 hk1)
    clear ho1 hk1
    go_wp2_with fail
    refine (rRead_any _ _ _ _ _ bs HF.out.2.2.2 (HF.out.2.1.keep (w' := w1) (fun q _ hq => H1.out.2.block q hq (fun h => h))) HF.out.1 (by omega) hnc).mono ?_
    rintro e w2 ⟨A2, c2, rfl, ho2, hk2⟩
    rw [← HN.out.2.1, ← HM.out.1] at ho2
    rw [← HN.out.1, ← HN.out.2.1, ← HN.out.2.2.1, ← HN.out.2.2.2.1, ← HM.out.1]
    have k2' := H1.out.2.trans' hk2
    have o12 := own_keeps H1.out.1 hk2 (fun _ _ h => h)
    have H2 := Lib.hid (And.intro o12 (And.intro ho2 k2'))
    clear ho2 hk2 k2' o12
    go_wp2_with fail
    refine (open_any _ _ _ _ _ bs HF.out.2.2.2 (HF.out.2.1.keep (w' := w2) (fun q _ hq => H2.out.2.2.block q hq (fun h => h))) HF.out.1 (by omega) hnc).mono ?_
    rintro e w3 ⟨A3, c3, rfl, ho3, hk3⟩
    rw [← HN.out.2.2.2.2.2.1, ← HM.out.2] at ho3
    rw [← HN.out.2.2.2.2.1, ← HN.out.2.2.2.2.2.1, ← HN.out.2.2.2.2.2.2, ← HM.out.2]
    have k3' := H2.out.2.2.trans' hk3
    have H3 := Lib.hid (And.intro (own_keeps H2.out.1 hk3 (fun _ _ h => h)) (And.intro (own_keeps H2.out.2.1 hk3 (fun _ _ h => h)) (And.intro ho3 k3')))
    clear ho3 hk3 k3'
    go_wp2_with fail
    refine (rOpen_any _ _ _ _ _ bs HF.out.2.2.2 (HF.out.2.1.keep (w' := w3) (fun q _ hq => H3.out.2.2.2.block q hq (fun h => h))) HF.out.1 (by omega) hnc).mono ?_
    rintro e w4 ⟨A4, c4, rfl, ho4, hk4⟩
    rw [← HN.out.2.2.2.2.2.1, ← HM.out.2] at ho4
    rw [← HN.out.2.2.2.2.1, ← HN.out.2.2.2.2.2.1, ← HN.out.2.2.2.2.2.2, ← HM.out.2]
    have k4' := H3.out.2.2.2.trans' hk4
    have H4 := Lib.hid (And.intro (own_keeps H3.out.1 hk4 (fun _ _ h => h)) (And.intro (own_keeps H3.out.2.1 hk4 (fun _ _ h => h)) (And.intro (own_keeps H3.out.2.2.1 hk4 (fun _ _ h => h)) (And.intro ho4 k4'))))
    clear ho4 hk4 k4'
    go_wp2_with fail
    refine (seal_ok _ 7 _ _ _ (fun _ => False) [] rfl (Sl.nil _ _ _ _) (fun j => by simp) (by omega) (by simp)).mono ?_
    rintro e w5 ⟨A5, c5, rfl, ho5, hk5⟩
    rw [sealL_length]
    have k5' := H4.out.2.2.2.2.trans' hk5
    obtain ⟨h1, h2, h3, h4, -⟩ := H4.out
    have g1 := conv_own (P := Try.prog) (c := c1) 22 5 9 Try.underlying22 Try.underlying5 Try.underlying9 HM.out.1.symm (own_keeps h1 hk5 (fun _ _ h => h))
    have g2 := conv_own (P := Try.prog) (c := c2) 22 5 9 Try.underlying22 Try.underlying5 Try.underlying9 HM.out.1.symm (own_keeps h2 hk5 (fun _ _ h => h))
    have g3 := conv_own (P := Try.prog) (c := c3) 22 5 9 Try.underlying22 Try.underlying5 Try.underlying9 HM.out.2.symm (own_keeps h3 hk5 (fun _ _ h => h))
    have g4 := conv_own (P := Try.prog) (c := c4) 22 5 9 Try.underlying22 Try.underlying5 Try.underlying9 HM.out.2.symm (own_keeps h4 hk5 (fun _ _ h => h))
    have H5 := Lib.hid k5'
    clear ho5 hk5 k5' h1 h2 h3 h4
    rw [show ([] : List Nat).length + 9 = 9 from rfl]
    go_wp2_with fail
    go_ret
    exact ⟨rfl, H5.out.to_below⟩
end Go.Proofs.Ytdgedhamacpghaa
