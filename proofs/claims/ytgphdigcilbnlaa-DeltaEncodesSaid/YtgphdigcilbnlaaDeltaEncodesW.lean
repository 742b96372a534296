/-
  The walk of the law DeltaEncodes.
-/
import Derived.Test.YtgphdigcilbnlaaDeltaRE
import Derived.Test.YtgphdigcilbnlaaConv
namespace Go.Proofs.Ytgphdigcilbnlaa
open Go.RowKit
set_option linter.unusedVariables false
set_option linter.unusedSimpArgs false
set_option maxRecDepth 100000 in
set_option maxHeartbeats 4000000 in
theorem deltaEncodes_walk (a0 : Option Addr) (len0 cap0 : Nat) (z0 : List Int) (a1 : Int) (w : World) (w0 : IsRow .i64 w a0 len0 cap0 z0) (w1 : (Lit.int .i64 a1).wf = true) :
    Calls Try.prog 10 #[.slice a0 len0 cap0, .int .i64 a1] w fun e w' => e = .returned (.bool true) ∧ Below w.heap.size w w' := by
  obtain ⟨n, hn⟩ : ∃ n, n = min len0 300 := ⟨_, rfl⟩
  obtain ⟨xs, hxl, hxb, hxs⟩ := w0.ints n (by omega)
  have l0 := w0.le
  have b1 := wf_i64 w1
  clear w0 w1
  obtain ⟨l0a, l0b, -⟩ := l0
  obtain ⟨f, hf⟩ : ∃ f : Nat → Int, f = fun j => xs.getD j 0 := ⟨_, rfl⟩
  have hfb : ∀ j, -9223372036854775808 ≤ f j ∧ f j ≤ 9223372036854775807 := by rw [hf]; exact hxb
  have hfs : Sl w (fun x => x < w.heap.size) a0 n (fun j => .int .i64 (f j)) := by rw [hf]; exact hxs
  have HF := Lib.hid (And.intro hfb (And.intro hfs (And.intro b1 hn)))
  have hn3 : n ≤ 300 := by omega
  clear hxl hxb hxs hf hfb hfs b1 hn
  obtain ⟨ht, -, i, hi, hz, hs1, hby⟩ := intElem
  have HI := Lib.hid (And.intro ht (And.intro hi (And.intro hz (And.intro hs1 hby))))
  clear ht hi hz hs1 hby
  go_enter Try.func10, Try.ntmps10
  go_upto_if 13 with (fail)
  go_cut [0] (fun s0 wx => s0 = .slice a0 n cap0 ∧ w = wx)
  case first =>
    by_cases h : 300 < len0
    · obtain ⟨b, off, ha, -, -⟩ := HF.out.2.1 (by have := HF.out.2.2.2; omega)
      subst ha
      go_wp2_with fail
      go_meet
      have : n = 300 := by have := HF.out.2.2.2; omega
      subst this
      exact ⟨rfl, rfl⟩
    · go_wp2_with fail
      go_meet
      have : n = len0 := by have := HF.out.2.2.2; omega
      subst this
      exact ⟨rfl, rfl⟩
  case rest =>
    obtain ⟨rfl, rfl⟩ := hcut
    go_wp2_with fail
    refine (encode_any _ _ _ _ _ f HF.out.2.1 HF.out.1 (by omega)).mono ?_
    rintro e w2 ⟨A2, c2, rfl, ho2, hk2⟩
    have hsl2 := HF.out.2.1.keep (w' := w2) (fun q _ hq => hk2.block q hq (fun h => h))
    have H2 := Lib.hid (And.intro ho2 (And.intro hk2 hsl2))
    clear ho2 hk2 hsl2
    go_wp2_with fail
    refine (rencode_any _ _ _ _ _ f H2.out.2.2 HF.out.1 (by omega)).mono ?_
    rintro e w3 ⟨A3, c3, rfl, ho3, hk3⟩
    have ho23 := own_keeps H2.out.1 hk3 (fun _ _ h => h)
    have H3 := Lib.hid (And.intro ho3 (And.intro ho23 (H2.out.2.1.trans' hk3)))
    clear ho3 hk3 ho23
    obtain ⟨bs, hbs⟩ : ∃ bs, bs = pack (encTo f n) := ⟨_, rfl⟩
    rw [← hbs] at H3
    rw [← hbs]
    obtain ⟨m, hm⟩ : ∃ m, m = bs.length := ⟨_, rfl⟩
    rw [← hm] at H3
    rw [← hm]
    have HM := Lib.hid (And.intro hbs hm)
    clear hbs hm
    go_wp2_with (at_make; refine wpList_make_full _ rfl _ _ 23 rfl w3.heap.size 3 i (.int .i64 0) 1 HI.out.1 HI.out.2.1 HI.out.2.2.1 HI.out.2.2.2.1 .i64 .i64 4097 4097 4097 rfl rfl rfl rfl ?hb1 ?hb2 ?hb3 ?_)
    case hb1 => rw [HI.out.2.2.2.2]; omega
    case hb2 => unfold maxLen; omega
    case hb3 => exact Nat.le_refl _
    intro w4 ho4 hg4
    have hk4 : Keeps (fun _ => False) w3 w4 := (Keeps.refl _ w3).grown hg4 (fun _ h => by cases h)
    have H4 := Lib.hid (And.intro (own_keeps H3.out.1 hk4 (fun _ _ h => h)) (And.intro (own_keeps H3.out.2.1 hk4 (fun _ _ h => h)) (H3.out.2.2.trans' hk4)))
    clear ho4 hg4 hk4
    go_wp2_with fail
    refine (encode_big _ _ _ _ (by omega) (by omega)).mono ?_
    rintro e w5 ⟨rfl, rfl⟩
    have hc3 := conv_own (P := Try.prog) (c := c3) 22 5 9 Try.underlying22 Try.underlying5 Try.underlying9 HM.out.2.symm H4.out.1
    have hc2 := conv_own (P := Try.prog) (c := c2) 22 5 9 Try.underlying22 Try.underlying5 Try.underlying9 HM.out.2.symm H4.out.2.1
    go_wp2_with fail
    refine (size_any _ _ HF.out.2.2.1.1 HF.out.2.2.1.2).mono ?_
    rintro e w6 ⟨rfl, hb6⟩
    have H6 := Lib.hid (H4.out.2.2.to_below.trans (hb6.mono H4.out.2.2.size))
    clear hb6
    go_wp2_with fail
    refine (rsize_any _ _ HF.out.2.2.1.1 HF.out.2.2.1.2).mono ?_
    rintro e w7 ⟨rfl, rfl⟩
    go_wp2_with fail
    go_ret
    exact ⟨rfl, H6.out⟩
end Go.Proofs.Ytgphdigcilbnlaa
