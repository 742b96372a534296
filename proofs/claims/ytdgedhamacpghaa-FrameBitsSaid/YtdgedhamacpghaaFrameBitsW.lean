/-
  The walk of the law FrameBits.
-/
import Derived.Test.YtdgedhamacpghaaFrameSumsW
import Derived.Test.YtdgedhamacpghaaFrmQ
import Derived.Laws.OwnMore
namespace Go.Proofs.Ytdgedhamacpghaa
open Go.RowKit
set_option linter.unusedVariables false
set_option linter.unusedSimpArgs false
theorem wf_u32' {z : Int} (h : (Lit.int .u32 z).wf = true) : ∃ k : Nat, k < 4294967296 ∧ z = (k : Int) := by
  simp [Lit.wf, IntKind.min, IntKind.max, IntKind.signed, IntKind.bits] at h
  exact ⟨z.toNat, by omega, by omega⟩
theorem pow_castB (s : Nat) : ((2 : Int) ^ s) = ((2 ^ s : Nat) : Int) := by simp
theorem and_one_u32 (x s : Nat) (hx : x < 4294967296) : bits .and .u32 ((x : Int) / 2 ^ s) 1 = ((x / 2 ^ s % 2 : Nat) : Int) := by
  have h1 : x / 2 ^ s < 4294967296 := Nat.lt_of_le_of_lt (Nat.div_le_self _ _) hx
  rw [pow_castB, show (x : Int) / ((2 ^ s : Nat) : Int) = ((x / 2 ^ s : Nat) : Int) from rfl, show (1 : Int) = ((1 : Nat) : Int) from rfl, u32_and_nat _ _ h1 (by omega), nat_mask1]
set_option maxRecDepth 100000 in
set_option maxHeartbeats 8000000 in
theorem frameBits_walk (a0 : Option Addr) (len0 cap0 : Nat) (z0 : List Int) (a1 a2 : Int) (w : World) (w0 : IsRow .u8 w a0 len0 cap0 z0) (w1 : (Lit.int .i64 a1).wf = true) (w2 : (Lit.int .u32 a2).wf = true) :
    Calls Try.prog 4 #[.slice a0 len0 cap0, .int .i64 a1, .int .u32 a2] w fun e w' => e = .returned (.bool true) ∧ Below w.heap.size w w' := by
  obtain ⟨b, hb32, rfl⟩ := wf_u32' w2
  have hat := wf_i64 w1
  obtain ⟨n, hn⟩ : ∃ n, n = min len0 1000 := ⟨_, rfl⟩
  obtain ⟨bs, hxl, hxb, hxs⟩ := w0.bytes n (by omega)
  have l0 := w0.le
  clear w0 w1 w2
  obtain ⟨l0a, l0b, -⟩ := l0
  obtain ⟨m, hm⟩ : ∃ m, m = n + 9 := ⟨_, rfl⟩
  obtain ⟨S, hS⟩ : ∃ S, S = sealL 3 bs := ⟨_, rfl⟩
  have hSl : S.length = m := by rw [hS, sealL_length, hxl, hm]
  have hSb : ∀ x ∈ S, x < 256 := by rw [hS]; exact sealL_byte (by omega) hxb
  have hop := open_seal (kind := 3) (by omega) hxb (by omega)
  rw [← hS] at hop
  obtain ⟨p, hp⟩ : ∃ p : Nat, (p : Int) = (Int.tmod (Int.tmod a1 (8 * (m : Int)) + 8 * (m : Int)) (8 * (m : Int))) := by
    have h1 := Int.tmod_lt_of_pos a1 (show 0 < 8 * (m : Int) by omega)
    have h2 := Int.lt_tmod_of_pos a1 (show 0 < 8 * (m : Int) by omega)
    refine ⟨(Int.tmod (Int.tmod a1 (8 * (m : Int)) + 8 * (m : Int)) (8 * (m : Int))).toNat, ?_⟩
    have h3 : 0 ≤ Int.tmod (Int.tmod a1 (8 * (m : Int)) + 8 * (m : Int)) (8 * (m : Int)) := Int.tmod_nonneg _ (by omega)
    omega
  have hpl : (p : Int) < 8 * (m : Int) := by
    rw [hp]
    exact Int.tmod_lt_of_pos _ (by omega)
  have ht1 := Int.tmod_lt_of_pos a1 (show 0 < 8 * (m : Int) by omega)
  have ht2 := Int.lt_tmod_of_pos a1 (show 0 < 8 * (m : Int) by omega)
  have HF := Lib.hid (And.intro hxl (And.intro hxs (And.intro hxb (And.intro hn (And.intro hm (And.intro hS (And.intro hSl (And.intro hSb (And.intro hop (And.intro hat hp))))))))))
  have hn3 : n ≤ 1000 := by omega
  have hm9 : 9 ≤ m := by omega
  have hm3 : m ≤ 1009 := by omega
  clear hxl hxb hxs hn hS hSl hSb hop hat
  go_enter Try.func4, Try.ntmps4
  go_upto_if 16 with (fail)
  go_cut [0] (fun s0 wx => s0 = .slice a0 n cap0 ∧ w = wx)
  case first =>
    clear hp ht1 ht2 hm
    by_cases h : 1000 < len0
    · obtain ⟨b, off, ha, -, -⟩ := HF.out.2.1 (by have := HF.out.2.2.2.1; omega)
      subst ha
      go_wp2_with fail
      go_meet
      have : n = 1000 := by have := HF.out.2.2.2.1; omega
      subst this
      exact ⟨rfl, rfl⟩
    · go_wp2_with fail
      go_meet
      have : n = len0 := by have := HF.out.2.2.2.1; omega
      subst this
      exact ⟨rfl, rfl⟩
  case rest =>
    obtain ⟨rfl, rfl⟩ := hcut
    have HPm := Lib.hid (And.intro hp hm)
    obtain ⟨r1, hr1⟩ : ∃ r1, r1 = Int.tmod a1 (8 * (m : Int)) := ⟨_, rfl⟩
    rw [← hr1] at hp ht1 ht2
    have HR1 := Lib.hid hr1
    clear hp hm hr1
    go_wp2_with fail
    refine (seal_ok _ 3 _ _ _ _ bs HF.out.1 HF.out.2.1 HF.out.2.2.1 (by omega) (by omega)).mono ?_
    rintro e w3 ⟨A3, c3, rfl, ho3, hk3⟩
    rw [← HF.out.2.2.2.2.2.1] at ho3
    rw [← HF.out.2.2.2.2.2.1]
    rw [HF.out.2.2.2.2.2.2.1] at ho3
    rw [HF.out.2.2.2.2.2.2.1]
    obtain ⟨A3', c3', hv3, hc3, hA3⟩ := own_form ho3
    injection hv3 with q1 q2 q3
    subst q3
    rw [← q1] at hA3
    obtain ⟨g, hg, hgb, hgl⟩ := hA3 (by omega)
    subst hg
    clear q1 q2 A3' hA3
    have H3 := Lib.hid (And.intro ho3 hk3)
    clear ho3 hk3
    have e1 : ((m : Int) != (n : Int) + 9) = false := by have := HPm.out.2; simp; omega
    have e2 : Int.tmod a1 (8 * (m : Int)) = r1 := HR1.out.symm
    have e3 : Int.tmod (r1 + 8 * (m : Int)) (8 * (m : Int)) = (p : Int) := by rw [HR1.out]; exact HPm.out.1.symm
    have e4 : ((8 * (m : Int)) == 0) = false := by simp; omega
    go_wp2_with fail
    clear e1 e2 e3 e4
    go_loopw [10, 11] (fun ch i wr => ∃ k : Nat, k ≤ 32 ∧ p + k ≤ 8 * m ∧ i = .int .i64 k ∧ ch = .bool (decide (b % 2 ^ k ≠ 0)) ∧ wr.ownsRow w.heap.size 5 1 (.slice (some ⟨g, 0, none⟩) m c3) m ((flipL S p b k).map byteV) ∧ Keeps (fun _ => False) w wr)
      (fun _ i _ => 32 - (intOf i).toNat)
    case atStart => exact ⟨0, Nat.zero_le _, by omega, rfl, by simp [Nat.mod_one], H3.out.1, H3.out.2⟩
    case round =>
      obtain ⟨k, hk, hpk, rfl, rfl, hor, hkr⟩ := hrel
      by_cases hgo : k < 32 ∧ p + k < 8 * m
      · obtain ⟨hk32, hpk2⟩ := hgo
        obtain ⟨s, hs⟩ : ∃ s, s = p + k := ⟨_, rfl⟩
        obtain ⟨q, hq⟩ : ∃ q, q = s / 8 := ⟨_, rfl⟩
        obtain ⟨r, hr⟩ : ∃ r, r = s % 8 := ⟨_, rfl⟩
        have hqm : q < m := by omega
        have hr8 : r < 8 := by omega
        have hfl := flipL_length S p b k
        rw [HF.out.2.2.2.2.2.2.1] at hfl
        have hfb := flipL_byte HF.out.2.2.2.2.2.2.2.1 p b k
        obtain ⟨T, hT⟩ : ∃ T, T = flipL S p b k := ⟨_, rfl⟩
        rw [← hT] at hor hfl hfb
        obtain ⟨x, hx⟩ : ∃ x, x = T.getD q 0 := ⟨_, rfl⟩
        have hxb : x < 256 := by rw [hx]; exact getD_of_mem hfb q
        have ck : wr.cell? ⟨g, q, none⟩ = some (.int .u8 (x : Nat)) := by
          rw [hor.cellAt q (by omega), List.getElem?_map, List.getElem?_eq_getElem (by omega), hx, List.getD_eq_getElem?_getD, List.getElem?_eq_getElem (by omega)]
          rfl
        have fk := hor.frozenAt q
        have hst := (hor.stored q (byteV (x ^^^ 2 ^ r))).1
        have hrow : (T.map byteV).set q (byteV (x ^^^ 2 ^ r)) = (T.set q (x ^^^ 2 ^ r)).map byteV := by rw [List.map_set]
        rw [hrow] at hst
        have hks : Keeps (fun _ => False) w (wr.setCell ⟨g, q, none⟩ (byteV (x ^^^ 2 ^ r))) := hkr.setCell (p := ⟨g, q, none⟩) (fun hlt => by simp at hlt; omega) _
        have hch := chg_step b k
        have hfs : flipL S p b (k + 1) = if b / 2 ^ k % 2 = 1 then T.set q (x ^^^ 2 ^ r) else T := by
          rw [hx, hT, hr, hq, hs]; rfl
        have e5 : (p : Int) + (k : Int) = (s : Int) := by omega
        have e6 : (s : Int) / 8 = (q : Int) := by omega
        have e7 : (s : Int) % 8 = (r : Int) := by omega
        have e8 := and_one_u32 b k hb32
        have hbt : b / 2 ^ k % 2 < 2 := Nat.mod_lt _ (by omega)
        obtain ⟨bt, hbtt⟩ : ∃ bt, bt = b / 2 ^ k % 2 := ⟨_, rfl⟩
        rw [← hbtt] at e8 hbt hch hfs
        have hsm : s < 8 * m := by omega
        have HK := Lib.hid (And.intro hor (And.intro hkr (And.intro hst (And.intro hks (And.intro hch (And.intro hfs (And.intro hT hs)))))))
        clear hor hkr hst hks hch hfs hT hfl hfb hx hq hr hrow hbtt hs
        obtain ⟨chv, hchv⟩ : ∃ c, c = decide (b % 2 ^ k ≠ 0) := ⟨_, rfl⟩
        rw [← hchv]
        have HC := Lib.hid hchv
        clear hchv
        have d1 : decide ((s : Int) < 8 * (m : Int)) = true := by simp; omega
        rcases (show bt = 0 ∨ bt = 1 by omega) with hb0 | hb0
        · subst hb0
          rw [show ((0 : Nat) : Int) = 0 from rfl] at e8
          go_wp2_with fail
          clear e5 e6 e7 e8
          go_roundw
          case rel =>
            obtain ⟨hor, hkr, hst, hks, hch, hfs, hT, hs⟩ := HK.out
            rw [if_neg (by omega)] at hch hfs
            refine ⟨k + 1, by omega, by omega, by go_num, by rw [hch, HC.out], by rw [hfs]; exact hor, hkr⟩
          case measure => simp [intOf]; omega
        · subst hb0
          rw [show ((1 : Nat) : Int) = 1 from rfl] at e8
          go_wp2_with fail
          clear e5 e6 e7 e8
          go_roundw
          case rel =>
            obtain ⟨hor, hkr, hst, hks, hch, hfs, hT, hs⟩ := HK.out
            rw [if_pos rfl] at hch hfs
            have h28 : (2 : Nat) ^ r ≤ 2 ^ 7 := Nat.pow_le_pow_right (by omega) (by omega)
            have ex : bits .xor .u8 (x : Int) (2 ^ r % 256) = ((x ^^^ 2 ^ r : Nat) : Int) := by
              rw [pow_castB]
              generalize (2 : Nat) ^ r = t at h28 ⊢
              rw [show (t : Int) % 256 = (t : Int) by omega, u8_xor_nat _ _ hxb (by omega)]
            rw [ex]
            exact ⟨k + 1, by omega, by omega, by go_num, by rw [hch], by rw [hfs]; exact hst, hks⟩
          case measure => simp [intOf]; omega
      · have hfl := flipL_length S p b k
        rw [HF.out.2.2.2.2.2.2.1] at hfl
        have hfb := flipL_byte HF.out.2.2.2.2.2.2.2.1 p b k
        have hsame := flipL_same S p b k
        have hdiff := flip_open HF.out.2.2.2.2.2.2.2.1 (p := p) (b := b) hk (by rw [HF.out.2.2.2.2.2.2.1]; exact hpk) HF.out.2.2.2.2.2.2.2.2.1.1
        obtain ⟨T, hT⟩ : ∃ T, T = flipL S p b k := ⟨_, rfl⟩
        rw [← hT] at hor hfl hfb hsame hdiff
        obtain ⟨y, hy⟩ : ∃ y, y = b % 2 ^ k := ⟨_, rfl⟩
        rw [← hy] at hsame hdiff
        rw [← hy]
        have HK := Lib.hid (And.intro hor (And.intro hkr (And.intro hfl (And.intro hfb (And.intro hsame hdiff)))))
        clear hor hkr hfl hfb hsame hdiff hT hy
        obtain ⟨chv, hchv⟩ : ∃ c, c = decide (y ≠ 0) := ⟨_, rfl⟩
        rw [← hchv]
        have HC := Lib.hid hchv
        clear hchv
        by_cases hk32 : k < 32
        · have hpm : p + k = 8 * m := by omega
          have d1 : decide ((p : Int) + (k : Int) < 8 * (m : Int)) = false := by simp; omega
          clear hpm hgo
          go_wp2_with fail
          try clear d1
          refine (open_any _ _ _ _ _ T HK.out.2.2.1 (own_sl HK.out.2.2.1 HK.out.1) (getD_of_mem HK.out.2.2.2.1) (by omega) hc3).mono ?_
          rintro e w4 ⟨A4, c4, rfl, ho4, hk4⟩
          have k4 := HK.out.2.1.trans' hk4
          rcases Nat.eq_zero_or_pos y with hy0 | hy0
          · have hTS := HK.out.2.2.2.2.1 hy0
            obtain ⟨p1, p2, p3⟩ := HF.out.2.2.2.2.2.2.2.2.1
            rw [hTS, p3, HF.out.1] at ho4
            rw [hTS, p1, p2, p3, HF.out.1]
            have hcv : chv = false := by rw [HC.out, hy0]; rfl
            subst hcv
            have hsl4 := HF.out.2.1.keep (w' := w4) (fun q _ hq => k4.block q hq (fun h => h))
            have hc1 := conv_sl (P := Try.prog) (c := cap0) 22 5 9 Try.underlying22 Try.underlying5 Try.underlying9 HF.out.1 hsl4
            have hc4 := conv_sl (P := Try.prog) (c := c4) 22 5 9 Try.underlying22 Try.underlying5 Try.underlying9 HF.out.1 (own_sl HF.out.1 ho4)
            have H4 := Lib.hid k4
            clear ho4 hk4 k4 hsl4 hTS p1 p2 p3
            rw [show ((3 : Nat) : Int) = 3 from rfl]
            go_wp2_with fail
            go_ret
            exact ⟨rfl, H4.out.to_below⟩
          · have hne := HK.out.2.2.2.2.2 (by omega)
            obtain ⟨p2, p3⟩ := open_err hne
            rw [p2, p3]
            have hcv : chv = true := by rw [HC.out]; simp; omega
            subst hcv
            have d1 : (openE T != 0) = true := by simp [hne]
            have d2 : (openE T == 0) = false := by simp [hne]
            obtain ⟨er, her⟩ : ∃ er, er = openE T := ⟨_, rfl⟩
            rw [← her] at d1 d2
            rw [← her]
            have H4 := Lib.hid k4
            clear ho4 hk4 k4 hne her p2 p3
            rw [show ((0 : Nat) : Int) = 0 from rfl]
            rw [show ([] : List Nat).length = 0 from rfl]
            go_wp2_with fail
            go_ret
            exact ⟨rfl, H4.out.to_below⟩
        · clear hgo
          go_wp2_with fail
          try clear d1
          refine (open_any _ _ _ _ _ T HK.out.2.2.1 (own_sl HK.out.2.2.1 HK.out.1) (getD_of_mem HK.out.2.2.2.1) (by omega) hc3).mono ?_
          rintro e w4 ⟨A4, c4, rfl, ho4, hk4⟩
          have k4 := HK.out.2.1.trans' hk4
          rcases Nat.eq_zero_or_pos y with hy0 | hy0
          · have hTS := HK.out.2.2.2.2.1 hy0
            obtain ⟨p1, p2, p3⟩ := HF.out.2.2.2.2.2.2.2.2.1
            rw [hTS, p3, HF.out.1] at ho4
            rw [hTS, p1, p2, p3, HF.out.1]
            have hcv : chv = false := by rw [HC.out, hy0]; rfl
            subst hcv
            have hsl4 := HF.out.2.1.keep (w' := w4) (fun q _ hq => k4.block q hq (fun h => h))
            have hc1 := conv_sl (P := Try.prog) (c := cap0) 22 5 9 Try.underlying22 Try.underlying5 Try.underlying9 HF.out.1 hsl4
            have hc4 := conv_sl (P := Try.prog) (c := c4) 22 5 9 Try.underlying22 Try.underlying5 Try.underlying9 HF.out.1 (own_sl HF.out.1 ho4)
            have H4 := Lib.hid k4
            clear ho4 hk4 k4 hsl4 hTS p1 p2 p3
            rw [show ((3 : Nat) : Int) = 3 from rfl]
            go_wp2_with fail
            go_ret
            exact ⟨rfl, H4.out.to_below⟩
          · have hne := HK.out.2.2.2.2.2 (by omega)
            obtain ⟨p2, p3⟩ := open_err hne
            rw [p2, p3]
            have hcv : chv = true := by rw [HC.out]; simp; omega
            subst hcv
            have d1 : (openE T != 0) = true := by simp [hne]
            have d2 : (openE T == 0) = false := by simp [hne]
            obtain ⟨er, her⟩ : ∃ er, er = openE T := ⟨_, rfl⟩
            rw [← her] at d1 d2
            rw [← her]
            have H4 := Lib.hid k4
            clear ho4 hk4 k4 hne her p2 p3
            rw [show ((0 : Nat) : Int) = 0 from rfl]
            rw [show ([] : List Nat).length = 0 from rfl]
            go_wp2_with fail
            go_ret
            exact ⟨rfl, H4.out.to_below⟩
end Go.Proofs.Ytdgedhamacpghaa
