/-
  The walk of the law XorvalBack.
-/
import Derived.Test.YtllmdgbaidkmfaaXorWs
namespace Go.Proofs.Ytllmdgbaidkmfaa
open Go.RowKit
set_option linter.unusedVariables false
set_option linter.unusedSimpArgs false
theorem xenc_one_len (f : Nat → Nat) : (pack (xencTo f 1)).length = 8 := by
  rw [pack_length]
  show ((bitsTo (f 0) 64 64).length + 7) / 8 = 8
  rw [bitsTo_length]
set_option maxRecDepth 100000 in
set_option maxHeartbeats 4000000 in
theorem xorvalBack_walk (a0 : Option Addr) (len0 cap0 : Nat) (z0 : List Int) (w : World) (w0 : IsRow .u64 w a0 len0 cap0 z0) :
    Calls Try.prog 6 #[.slice a0 len0 cap0] w fun e w' => e = .returned (.bool true) ∧ Below w.heap.size w w' := by
  obtain ⟨n, hn⟩ : ∃ n, n = min len0 1000 := ⟨_, rfl⟩
  obtain ⟨f, hfb, hfs⟩ := w0.u64s n (by omega)
  have l0 := w0.le
  clear w0
  obtain ⟨l0a, l0b, -⟩ := l0
  have HF := Lib.hid (And.intro hfb (And.intro hfs hn))
  have hn3 : n ≤ 1000 := by omega
  clear hfb hfs hn
  go_enter Try.func6, Try.ntmps6
  go_upto_if 11 with (fail)
  go_cut [0] (fun s0 wx => s0 = .slice a0 n cap0 ∧ w = wx)
  case first =>
    by_cases h : 1000 < len0
    · obtain ⟨b, off, ha, -, -⟩ := HF.out.2.1 (by have := HF.out.2.2; omega)
      subst ha
      go_wp2_with fail
      go_meet
      have : n = 1000 := by have := HF.out.2.2; omega
      subst this
      exact ⟨rfl, rfl⟩
    · go_wp2_with fail
      go_meet
      have : n = len0 := by have := HF.out.2.2; omega
      subst this
      exact ⟨rfl, rfl⟩
  case rest =>
    obtain ⟨rfl, rfl⟩ := hcut
    go_wp2_with fail
    refine (xencode_any _ _ _ _ _ f HF.out.2.1 HF.out.1 (by omega)).mono ?_
    rintro e w2 ⟨A2, c2, rfl, ho2, hk2⟩
    have hsl2 := HF.out.2.1.keep (w' := w2) (fun q _ hq => hk2.block q hq (fun h => h))
    have hdec := xdec_back HF.out.1 n
    have hby := pack_byte (xencTo f n) (xencTo_bit f n)
    have hml : (pack (xencTo f n)).length ≤ 1048576 := by rw [pack_length]; have := xencTo_len f n; omega
    obtain ⟨bs, hbs⟩ : ∃ bs, bs = pack (xencTo f n) := ⟨_, rfl⟩
    rw [← hbs] at ho2 hdec hby hml
    rw [← hbs]
    obtain ⟨m, hm⟩ : ∃ m, m = bs.length := ⟨_, rfl⟩
    rw [← hm] at ho2 hml
    rw [← hm]
    have H2 := Lib.hid (And.intro (row_bytes hm.symm ho2) (And.intro hk2 (And.intro hsl2 (And.intro hdec (And.intro hby (And.intro hm hml))))))
    clear ho2 hk2 hsl2 hdec hby hm hml hbs
    go_wp2_with fail
    refine (xdecode_ok _ _ _ _ _ bs _ H2.out.2.2.2.2.2.1.symm H2.out.1 H2.out.2.2.2.2.1 H2.out.2.2.2.2.2.2 (by omega)).mono ?_
    rintro e w3 ⟨l3, er3, A3, c3, rfl, ho3, hk3, -, hc3⟩
    obtain ⟨-, hk2, hsl2, hdec, -, -, -⟩ := H2.out
    obtain ⟨rfl, hl3⟩ : er3 = 0 ∧ l3 = upToN f n := by
      rw [hdec] at hc3
      rcases hc3 with ⟨h1, h2⟩ | ⟨-, h2⟩
      · injection h2 with h2; exact ⟨h1, h2.symm⟩
      · cases h2
    subst hl3
    have ho3' : w3.ownsRow w2.heap.size 30 1 (.slice A3 n c3) n ((upToN f n).map u64V) := by have := ho3; rw [upToN_length] at this; exact this
    have hx3 : Sl w3 (fun k => (Value.slice A3 n c3).ownBlock = some k) A3 n (fun j => .int .u64 (f j : Nat)) := (row_at ho3' (upToN_length f n)).congr (fun j hj => by rw [upToN_getD f n j hj]; rfl)
    have hsl3 := hsl2.keep (w' := w3) (fun q _ hq => hk3.block q hq (fun h => h))
    rw [upToN_length]
    have H3 := Lib.hid (And.intro hx3 (And.intro hsl3 (hk2.trans' hk3)))
    clear hc3 ho3 ho3' hx3 hsl3 hk3 hk2 hsl2 hdec
    go_wp2_with fail
    refine (xencode_any _ _ _ _ _ (fun _ => 1) (sl_one w3 _ _) (fun _ => by omega) (by omega)).mono ?_
    rintro e w4 ⟨A4, c4, rfl, ho4, hk4⟩
    rw [xenc_one_len]
    have hk4' : Keeps (fun _ => False) w3 w4 := ((Keeps.refl _ w3).alloc _).trans' hk4
    have hx4 := H3.out.1.keep (w' := w4) (fun q _ hq => hk4'.block q hq (fun h => h))
    have hy4 := H3.out.2.1.keep (w' := w4) (fun q _ hq => hk4'.block q hq (fun h => h))
    have H4 := Lib.hid (And.intro hx4 (And.intro hy4 (H3.out.2.2.trans' hk4')))
    clear ho4 hk4 hk4' hx4 hy4
    go_wp2_with fail
    refine (words_eq _ _ _ _ _ _ _ _ f H4.out.1 H4.out.2.1 (by omega)).mono ?_
    rintro e w5 ⟨rfl, k5, rfl⟩
    go_wp2_with fail
    go_ret
    exact ⟨rfl, (H4.out.2.2.drewN k5).to_below⟩
end Go.Proofs.Ytllmdgbaidkmfaa
