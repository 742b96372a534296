/-
  The walk of the law XorvalEncodes.
-/
import Derived.Test.YtllmdgbaidkmfaaXorRE
import Derived.Test.YtllmdgbaidkmfaaU64s
namespace Go.Proofs.Ytllmdgbaidkmfaa
open Go.RowKit
set_option linter.unusedVariables false
set_option linter.unusedSimpArgs false
set_option maxRecDepth 100000 in
set_option maxHeartbeats 4000000 in
theorem xorvalEncodes_walk (a0 : Option Addr) (len0 cap0 : Nat) (z0 : List Int) (w : World) (w0 : IsRow .u64 w a0 len0 cap0 z0) :
    Calls Try.prog 3 #[.slice a0 len0 cap0] w fun e w' => e = .returned (.bool true) ∧ Below w.heap.size w w' := by
  obtain ⟨n, hn⟩ : ∃ n, n = min len0 300 := ⟨_, rfl⟩
  obtain ⟨f, hfb, hfs⟩ := w0.u64s n (by omega)
  have l0 := w0.le
  clear w0
  obtain ⟨l0a, l0b, -⟩ := l0
  have HF := Lib.hid (And.intro hfb (And.intro hfs (And.intro trivial hn)))
  have hn3 : n ≤ 300 := by omega
  clear hfb hfs hn
  obtain ⟨ht, -, i, hi, hz, hs1, hby⟩ := u64Elem
  have HI := Lib.hid (And.intro ht (And.intro hi (And.intro hz (And.intro hs1 hby))))
  clear ht hi hz hs1 hby
  go_enter Try.func3, Try.ntmps3
  go_upto_if 11 with (fail)
  go_cut [0] (fun s0 wx => s0 = .slice a0 n cap0 ∧ w = wx)
  case first =>
    by_cases h : 300 < len0
    · obtain ⟨b, off, ha, -, -⟩ := HF.out.2.1 (by have := HF.out.2.2.2; omega)
      subst ha
      go_wp2_with fail
      go_meet
      have : n = 300 := by have := HF.out.2.2.2; omega
      subst this
      exact ⟨rfl, rfl⟩
    · go_wp2_with fail
      go_meet
      have : n = len0 := by have := HF.out.2.2.2; omega
      subst this
      exact ⟨rfl, rfl⟩
  case rest =>
    obtain ⟨rfl, rfl⟩ := hcut
    go_wp2_with fail
    refine (xencode_any _ _ _ _ _ f HF.out.2.1 HF.out.1 (by omega)).mono ?_
    rintro e w2 ⟨A2, c2, rfl, ho2, hk2⟩
    have hsl2 := HF.out.2.1.keep (w' := w2) (fun q _ hq => hk2.block q hq (fun h => h))
    have H2 := Lib.hid (And.intro ho2 (And.intro hk2 hsl2))
    clear ho2 hk2 hsl2
    go_wp2_with fail
    refine (rxencode_any _ _ _ _ _ f H2.out.2.2 HF.out.1 (by omega)).mono ?_
    rintro e w3 ⟨A3, c3, rfl, ho3, hk3⟩
    have ho23 := own_keeps H2.out.1 hk3 (fun _ _ h => h)
    have H3 := Lib.hid (And.intro ho3 (And.intro ho23 (H2.out.2.1.trans' hk3)))
    clear ho3 hk3 ho23
    obtain ⟨bs, hbs⟩ : ∃ bs, bs = pack (xencTo f n) := ⟨_, rfl⟩
    rw [← hbs] at H3
    rw [← hbs]
    obtain ⟨m, hm⟩ : ∃ m, m = bs.length := ⟨_, rfl⟩
    rw [← hm] at H3
    rw [← hm]
    have HM := Lib.hid (And.intro hbs hm)
    clear hbs hm
    go_wp2_with (at_make; refine wpList_make_full _ rfl _ _ 22 rfl w3.heap.size 30 i (.int .u64 0) 1 HI.out.1 HI.out.2.1 HI.out.2.2.1 HI.out.2.2.2.1 .i64 .i64 4097 4097 4097 rfl rfl rfl rfl ?hb1 ?hb2 ?hb3 ?_)
    case hb1 => rw [HI.out.2.2.2.2]; omega
    case hb2 => unfold maxLen; omega
    case hb3 => exact Nat.le_refl _
    intro w4 ho4 hg4
    have hk4 : Keeps (fun _ => False) w3 w4 := (Keeps.refl _ w3).grown hg4 (fun _ h => by cases h)
    have H4 := Lib.hid (And.intro (own_keeps H3.out.1 hk4 (fun _ _ h => h)) (And.intro (own_keeps H3.out.2.1 hk4 (fun _ _ h => h)) (H3.out.2.2.trans' hk4)))
    clear ho4 hg4 hk4
    go_wp2_with fail
    refine (xencode_big _ _ _ _ (by omega) (by omega)).mono ?_
    rintro e w5 ⟨rfl, rfl⟩
    have hc3 := conv_own (P := Try.prog) (c := c3) 23 5 9 Try.underlying23 Try.underlying5 Try.underlying9 HM.out.2.symm H4.out.1
    have hc2 := conv_own (P := Try.prog) (c := c2) 23 5 9 Try.underlying23 Try.underlying5 Try.underlying9 HM.out.2.symm H4.out.2.1
    go_wp2_with fail
    go_ret
    exact ⟨rfl, H4.out.2.2.to_below⟩
end Go.Proofs.Ytllmdgbaidkmfaa
