/-
  The walk of the law DeltaOne.
-/
import Derived.Test.YtgphdigcilbnlaaDeltaInts
namespace Go.Proofs.Ytgphdigcilbnlaa
open Go.RowKit
set_option linter.unusedVariables false
set_option linter.unusedSimpArgs false
def decA (bs : List Nat) (n : Int) : List Int × Int := if n < 0 then ([], 2) else if 4096 < n then ([], 3) else decL bs n.toNat
theorem decode_any (w : World) (A : Option Addr) (len c : Nat) (D0 : Nat → Prop) (bs : List Nat) (n : Int) (hl : bs.length = len) (hsl : Sl w D0 A len (byteC bs)) (hbyte : ∀ j, bs.getD j 0 < 256) (hsm : len ≤ 1048576) :
    Calls Try.prog 31 #[.slice A len c, .int .i64 n] w (DecPost w (decA bs n)) := by
  unfold decA
  by_cases h1 : n < 0
  · rw [if_pos h1]; exact decode_arg w A len c n h1
  · rw [if_neg h1]
    by_cases h2 : 4096 < n
    · rw [if_pos h2]; exact decode_big w A len c n h2
    · rw [if_neg h2]
      obtain ⟨m, rfl⟩ := Int.eq_ofNat_of_zero_le (show 0 ≤ n by omega)
      exact decode_ok w A len c D0 bs m hl hsl hbyte hsm (by omega)
theorem decL_err {bs : List Nat} {n : Nat} (h : (decL bs n).2 ≠ 0) : (decL bs n).1 = [] := by
  unfold decL decM at h ⊢
  split
  · next e =>
    rw [if_pos e] at h
    split
    · next e2 => rw [if_pos e2] at h; exact absurd rfl h
    · rfl
  · rfl
theorem decA_err {bs : List Nat} {n : Int} (h : (decA bs n).2 ≠ 0) : (decA bs n).1 = [] := by
  unfold decA at h ⊢
  split
  · rfl
  · next h1 =>
    rw [if_neg h1] at h
    split
    · rfl
    · next h2 => rw [if_neg h2] at h; exact decL_err h
theorem decA_ok {bs : List Nat} (hb : ∀ j, bs.getD j 0 < 256) {n : Int} {l : List Int} (h : decA bs n = (l, 0)) : (l.length : Int) = n ∧ l.length ≤ 4096 ∧ pack (encTo (fun j => l.getD j 0) l.length) = bs := by
  unfold decA at h
  by_cases h1 : n < 0
  · rw [if_pos h1] at h; injection h with _ h; omega
  · rw [if_neg h1] at h
    by_cases h2 : 4096 < n
    · rw [if_pos h2] at h; injection h with _ h; omega
    · rw [if_neg h2] at h
      obtain ⟨g1, g2⟩ := dec_one hb h
      rw [← g1] at g2
      exact ⟨by omega, by omega, g2⟩
theorem decR_ints (bs : List Nat) (en : Nat) : ∀ m (out : List Int) (step : Int) (p : Nat), (∀ j, I64 (out.getD j 0)) → I64 step → ∀ j, I64 ((decR bs en m out step p).1.getD j 0)
  | 0, out, _, _, h, _ => h
  | m + 1, out, step, p, h, hs => by
    have hr := nextR_range bs en out step p hs
    unfold decR
    split
    · exact decR_ints bs en m _ _ _ (getD_I h hr.1) hr.2
    · intro j; exact ⟨by simp, by simp⟩
theorem decA_ints (bs : List Nat) (n : Int) : ∀ j, I64 ((decA bs n).1.getD j 0) := by
  intro j
  have z : I64 (([] : List Int).getD j 0) := ⟨by simp, by simp⟩
  unfold decA
  split
  · exact z
  · split
    · exact z
    · unfold decL decM
      split
      · split
        · exact decR_ints bs _ _ [] 0 0 (fun j => ⟨by simp, by simp⟩) ⟨by omega, by omega⟩ j
        · exact z
      · exact z
theorem sl_two (w : World) (t : TypeId) (u v : Value) : Sl (w.alloc (.cells #[u, v] t)) (fun k => k = w.heap.size) (some ⟨w.heap.size, 0, none⟩) 2 (fun j => if j = 0 then u else v) := fun _ =>
  ⟨_, _, rfl, rfl, fun j hj => by
    rw [(Blk.fresh w t #[u, v]).cell (0 + j)]
    rcases (show j = 0 ∨ j = 1 by omega) with rfl | rfl <;> rfl⟩
theorem enc_two_len : (pack (encTo (fun _ => 9) 2)).length = 9 := by
  rw [pack_length]
  show ((bitsTo (u64 9) 64 64 ++ dbits (zig (sub64 (sub64 9 9) (st (fun _ => 9) 1)))).length + 7) / 8 = 9
  rw [List.length_append, bitsTo_length, dbits_length]
  have : zig (sub64 (sub64 9 9) (st (fun _ => 9) 1)) = 0 := by decide
  rw [this]
  decide
set_option maxRecDepth 100000 in
set_option maxHeartbeats 4000000 in
theorem deltaOne_walk (a0 : Option Addr) (len0 cap0 : Nat) (z0 : List Int) (a1 : Int) (w : World) (w0 : IsRow .u8 w a0 len0 cap0 z0) (w1 : (Lit.int .i64 a1).wf = true) :
    Calls Try.prog 14 #[.slice a0 len0 cap0, .int .i64 a1] w fun e w' => e = .returned (.bool true) ∧ Below w.heap.size w w' := by
  obtain ⟨n, hn⟩ : ∃ n, n = min len0 1500 := ⟨_, rfl⟩
  obtain ⟨bs, hxl, hxb, hxs⟩ := w0.bytes n (by omega)
  have l0 := w0.le
  have b1 := wf_i64 w1
  clear w0 w1
  obtain ⟨l0a, l0b, -⟩ := l0
  have HF := Lib.hid (And.intro hxb (And.intro hxs (And.intro b1 (And.intro hn hxl))))
  have hn3 : n ≤ 1500 := by omega
  clear hxl hxb hxs b1 hn
  go_enter Try.func14, Try.ntmps14
  go_upto_if 14 with (fail)
  go_cut [0] (fun s0 wx => s0 = .slice a0 n cap0 ∧ w = wx)
  case first =>
    by_cases h : 1500 < len0
    · obtain ⟨b, off, ha, -, -⟩ := HF.out.2.1 (by have := HF.out.2.2.2.1; omega)
      subst ha
      go_wp2_with fail
      go_meet
      have : n = 1500 := by have := HF.out.2.2.2.1; omega
      subst this
      exact ⟨rfl, rfl⟩
    · go_wp2_with fail
      go_meet
      have : n = len0 := by have := HF.out.2.2.2.1; omega
      subst this
      exact ⟨rfl, rfl⟩
  case rest =>
    obtain ⟨rfl, rfl⟩ := hcut
    go_wp2_with fail
    refine (decode_any _ _ _ _ _ bs _ HF.out.2.2.2.2 HF.out.2.1 HF.out.1 (by omega)).mono ?_
    rintro e w2 ⟨A2, c2, rfl, ho2, hk2⟩
    have hsl2 := HF.out.2.1.keep (w' := w2) (fun q _ hq => hk2.block q hq (fun h => h))
    have hi := decA_ints bs a1
    by_cases he : (decA bs a1).2 = 0
    · obtain ⟨g1, g2, g3⟩ := decA_ok (l := (decA bs a1).1) HF.out.1 (Prod.ext rfl he)
      rw [he]
      obtain ⟨l, hl⟩ : ∃ l, l = (decA bs a1).1 := ⟨_, rfl⟩
      rw [← hl] at ho2 hi g1 g2 g3
      rw [← hl]
      obtain ⟨m, hm⟩ : ∃ m, m = l.length := ⟨_, rfl⟩
      rw [← hm] at ho2 g1 g2 g3
      rw [← hm]
      have hx2 := row_sl hm.symm ho2
      have H2 := Lib.hid (And.intro hx2 (And.intro hk2 (And.intro hsl2 (And.intro hi (And.intro g1 (And.intro g2 g3))))))
      clear ho2 hx2 hk2 hsl2 hi g1 g2 g3 hl hm he
      go_wp2_with fail
      refine (encode_any _ _ _ _ _ (fun j => l.getD j 0) H2.out.1 H2.out.2.2.2.1 H2.out.2.2.2.2.2.1).mono ?_
      rintro e w3 ⟨A3, c3, rfl, ho3, hk3⟩
      obtain ⟨-, hk2, hsl2, -, g1, -, g3⟩ := H2.out
      rw [g3] at ho3
      rw [g3]
      have hbl := HF.out.2.2.2.2
      rw [hbl] at ho3
      rw [hbl]
      have hsl3 := hsl2.keep (w' := w3) (fun q _ hq => hk3.block q hq (fun h => h))
      have hc2 := conv_sl (P := Try.prog) (c := cap0) 22 5 9 Try.underlying22 Try.underlying5 Try.underlying9 hbl hsl3
      have hc3 := conv_sl (P := Try.prog) (c := c3) 22 5 9 Try.underlying22 Try.underlying5 Try.underlying9 hbl (row_bytes hbl ho3)
      have H3 := Lib.hid (hk2.trans' hk3)
      clear ho3 hk2 hk3 hsl2 hsl3 g3 hbl
      subst g1
      go_wp2_with fail
      go_ret
      exact ⟨rfl, H3.out.to_below⟩
    · have hnil := decA_err he
      have he1 : ((decA bs a1).2 == 0) = false := by simp [he]
      have he2 : ((decA bs a1).2 != 0) = true := by simp [he]
      rw [hnil]
      obtain ⟨er, her⟩ : ∃ er, er = (decA bs a1).2 := ⟨_, rfl⟩
      rw [← her] at he1 he2
      rw [← her]
      have H2 := Lib.hid hk2
      clear ho2 hk2 hsl2 hi hnil he her
      go_wp2_with fail
      refine (decode_ok _ _ _ _ (fun _ => False) [] 0 rfl (Sl.nil _ _ _ _) (fun j => by simp) (by simp) (by omega)).mono ?_
      rintro e w3 ⟨A3, c3, rfl, ho3, hk3⟩
      have H3 := Lib.hid (H2.out.trans' hk3)
      rw [show decL [] 0 = ([], 0) from rfl]
      clear ho3 hk3
      go_wp2_with fail
      refine (encode_any _ _ _ _ _ (fun _ => 9) ((sl_two w3 _ _ _).congr (fun j _ => by split <;> rfl)) (fun _ => by constructor <;> omega) (by omega)).mono ?_
      rintro e w4 ⟨A4, c4, rfl, ho4, hk4⟩
      rw [enc_two_len]
      have H4 := Lib.hid ((H3.out.alloc _).trans' hk4)
      clear ho4 hk4
      go_wp2_with fail
      go_ret
      exact ⟨rfl, H4.out.to_below⟩
end Go.Proofs.Ytgphdigcilbnlaa
