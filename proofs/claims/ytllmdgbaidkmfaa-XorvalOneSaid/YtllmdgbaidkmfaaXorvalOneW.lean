/-
  The walk of the law XorvalOne.
-/
import Derived.Test.YtllmdgbaidkmfaaXorWs
namespace Go.Proofs.Ytllmdgbaidkmfaa
open Go.RowKit
set_option linter.unusedVariables false
set_option linter.unusedSimpArgs false
def decXA (bs : List Nat) (n : Int) : Option (List Nat) := if n < 0 then none else if 4096 < n then none else decXL bs n.toNat
theorem xdecode_any (w : World) (A : Option Addr) (len c : Nat) (D0 : Nat → Prop) (bs : List Nat) (n : Int) (hl : bs.length = len) (hsl : Sl w D0 A len (byteC bs)) (hbyte : ∀ j, bs.getD j 0 < 256) (hsm : len ≤ 1048576) :
    Calls Try.prog 10 #[.slice A len c, .int .i64 n] w (XDecPost w (decXA bs n)) := by
  unfold decXA
  by_cases h1 : n < 0
  · rw [if_pos h1]
    refine (xdecode_arg w A len c n h1).mono ?_
    rintro e w' ⟨rfl, rfl⟩
    exact ⟨[], 2, none, 0, rfl, ⟨rfl, .inl ⟨rfl, rfl⟩⟩, Keeps.refl _ _, fun j => by simp, .inr ⟨⟨by decide, rfl⟩, rfl⟩⟩
  · rw [if_neg h1]
    by_cases h2 : 4096 < n
    · rw [if_pos h2]
      refine (xdecode_big w A len c n h2).mono ?_
      rintro e w' ⟨rfl, rfl⟩
      exact ⟨[], 3, none, 0, rfl, ⟨rfl, .inl ⟨rfl, rfl⟩⟩, Keeps.refl _ _, fun j => by simp, .inr ⟨⟨by decide, rfl⟩, rfl⟩⟩
    · rw [if_neg h2]
      obtain ⟨m, rfl⟩ := Int.eq_ofNat_of_zero_le (show 0 ≤ n by omega)
      exact xdecode_ok w A len c D0 bs m hl hsl hbyte hsm (by omega)
theorem decXA_ok {bs : List Nat} (hb : ∀ j, bs.getD j 0 < 256) {n : Int} {l : List Nat} (h : decXA bs n = some l) : (l.length : Int) = n ∧ l.length ≤ 4096 ∧ pack (xencTo (fun j => l.getD j 0) l.length) = bs := by
  unfold decXA at h
  by_cases h1 : n < 0
  · rw [if_pos h1] at h; cases h
  · rw [if_neg h1] at h
    by_cases h2 : 4096 < n
    · rw [if_pos h2] at h; cases h
    · rw [if_neg h2] at h
      obtain ⟨g1, g2⟩ := xdec_one hb h
      rw [← g1] at g2
      exact ⟨by omega, by omega, g2⟩
theorem sl_two (w : World) (t : TypeId) (u v : Value) : Sl (w.alloc (.cells #[u, v] t)) (fun k => k = w.heap.size) (some ⟨w.heap.size, 0, none⟩) 2 (fun j => if j = 0 then u else v) := fun _ =>
  ⟨_, _, rfl, rfl, fun j hj => by
    rw [(Blk.fresh w t #[u, v]).cell (0 + j)]
    rcases (show j = 0 ∨ j = 1 by omega) with rfl | rfl <;> rfl⟩
theorem xenc_two_len : (pack (xencTo (fun _ => 9) 2)).length = 9 := by
  rw [pack_length]
  show ((bitsTo 9 64 64 ++ xbits none (9 ^^^ 9)).length + 7) / 8 = 9
  rw [List.length_append, bitsTo_length, Nat.xor_self]
  rfl
set_option maxRecDepth 100000 in
set_option maxHeartbeats 4000000 in
theorem xorvalOne_walk (a0 : Option Addr) (len0 cap0 : Nat) (z0 : List Int) (a1 : Int) (w : World) (w0 : IsRow .u8 w a0 len0 cap0 z0) (w1 : (Lit.int .i64 a1).wf = true) :
    Calls Try.prog 7 #[.slice a0 len0 cap0, .int .i64 a1] w fun e w' => e = .returned (.bool true) ∧ Below w.heap.size w w' := by
  obtain ⟨n, hn⟩ : ∃ n, n = min len0 1500 := ⟨_, rfl⟩
  obtain ⟨bs, hxl, hxb, hxs⟩ := w0.bytes n (by omega)
  have l0 := w0.le
  have b1 := wf_i64 w1
  clear w0 w1
  obtain ⟨l0a, l0b, -⟩ := l0
  have HF := Lib.hid (And.intro hxb (And.intro hxs (And.intro b1 (And.intro hn hxl))))
  have hn3 : n ≤ 1500 := by omega
  clear hxl hxb hxs b1 hn
  go_enter Try.func7, Try.ntmps7
  go_upto_if 12 with (fail)
  go_cut [0] (fun s0 wx => s0 = .slice a0 n cap0 ∧ w = wx)
  case first =>
    by_cases h : 1500 < len0
    · obtain ⟨b, off, ha, -, -⟩ := HF.out.2.1 (by have := HF.out.2.2.2.1; omega)
      subst ha
      go_wp2_with fail
      go_meet
      have : n = 1500 := by have := HF.out.2.2.2.1; omega
      subst this
      exact ⟨rfl, rfl⟩
    · go_wp2_with fail
      go_meet
      have : n = len0 := by have := HF.out.2.2.2.1; omega
      subst this
      exact ⟨rfl, rfl⟩
  case rest =>
    obtain ⟨rfl, rfl⟩ := hcut
    go_wp2_with fail
    refine (xdecode_any _ _ _ _ _ bs _ HF.out.2.2.2.2 HF.out.2.1 HF.out.1 (by omega)).mono ?_
    rintro e w2 ⟨l, er, A2, c2, rfl, ho2, hk2, hi, hc2⟩
    have hsl2 := HF.out.2.1.keep (w' := w2) (fun q _ hq => hk2.block q hq (fun h => h))
    rcases hc2 with ⟨rfl, hc2⟩ | ⟨⟨he, rfl⟩, -⟩
    · obtain ⟨g1, g2, g3⟩ := decXA_ok HF.out.1 hc2
      obtain ⟨m, hm⟩ : ∃ m, m = l.length := ⟨_, rfl⟩
      rw [← hm] at ho2 g1 g2 g3
      rw [← hm]
      have hx2 := row_at ho2 hm.symm
      have H2 := Lib.hid (And.intro hx2 (And.intro hk2 (And.intro hsl2 (And.intro hi (And.intro g1 (And.intro g2 g3))))))
      clear ho2 hx2 hk2 hsl2 hi g1 g2 g3 hm hc2
      go_wp2_with fail
      refine (xencode_any _ _ _ _ _ (fun j => l.getD j 0) H2.out.1 H2.out.2.2.2.1 H2.out.2.2.2.2.2.1).mono ?_
      rintro e w3 ⟨A3, c3, rfl, ho3, hk3⟩
      obtain ⟨-, hk2, hsl2, -, g1, -, g3⟩ := H2.out
      rw [g3] at ho3
      rw [g3]
      have hbl := HF.out.2.2.2.2
      rw [hbl] at ho3
      rw [hbl]
      have hsl3 := hsl2.keep (w' := w3) (fun q _ hq => hk3.block q hq (fun h => h))
      have hc2 := conv_sl (P := Try.prog) (c := cap0) 23 5 9 Try.underlying23 Try.underlying5 Try.underlying9 hbl hsl3
      have hc3 := conv_sl (P := Try.prog) (c := c3) 23 5 9 Try.underlying23 Try.underlying5 Try.underlying9 hbl (row_bytes hbl ho3)
      have H3 := Lib.hid (hk2.trans' hk3)
      clear ho3 hk2 hk3 hsl2 hsl3 g3 hbl
      subst g1
      go_wp2_with fail
      go_ret
      exact ⟨rfl, H3.out.to_below⟩
    · have he1 : (er == 0) = false := by simp [he]
      have he2 : (er != 0) = true := by simp [he]
      have H2 := Lib.hid hk2
      clear ho2 hk2 hsl2 hi
      go_wp2_with fail
      refine (xencode_any _ _ _ _ _ (fun _ => 9) ((sl_two w2 _ _ _).congr (fun j _ => by split <;> rfl)) (fun _ => by omega) (by omega)).mono ?_
      rintro e w4 ⟨A4, c4, rfl, ho4, hk4⟩
      rw [xenc_two_len]
      have H4 := Lib.hid ((H2.out.alloc _).trans' hk4)
      clear ho4 hk4
      go_wp2_with fail
      go_ret
      exact ⟨rfl, H4.out.to_below⟩
end Go.Proofs.Ytllmdgbaidkmfaa
