/-
  Proved: bits that are turned, at most 32 side by side, make a block corrupt.
  No condition beyond those of the given row. (The frame follows the kit's proof-skeleton; the walk is the text ColumnBitsW of this claim.)
-/
import Derived.Test.YtboecnakndpgfaaDoorJ12
import Derived.Test.YtboecnakndpgfaaDoorJ06
import Derived.Laws.OwnMore
import Derived.Laws.BitsAllLaws
import Derived.Laws.BitsLemmas
import Derived.Test.YtboecnakndpgfaaDoorCards
import Derived.Test.YtboecnakndpgfaaDoorTie
import Derived.WalkKit
import Derived.ProofKit
import Derived.OpenShut
import Derived.ShutString
import Derived.ChangeOld
import Derived.Below
import Derived.SizedLaws
import Derived.ChangeVars
import Derived.Lib.SmallJoins
import Derived.LaidLaws
import Derived.LaidHandle
import Derived.Stop.Joined
import Derived.Deep.DeepHandedRow
namespace Go.Proofs.YtboecnakndpgfaaDoor
open Go.RowKit
set_option linter.unusedVariables false
set_option linter.unusedSimpArgs false
theorem row_le {w : World} {base n c : Nat} {A : Option Addr} {xs : List Value} (h : w.ownsRow base 5 1 (.slice A n c) n xs) : n ≤ c := by
  obtain ⟨A', c', hv, hc, -⟩ := own_form h
  injection hv with _ _ h3
  omega
/-- A frame that is cut anywhere does not open. -/
theorem cut_open {kind : Nat} {bs : List Nat} (h : bs.length ≤ 1048576) {m : Nat} (hm : m < (F.sealL kind bs).length) : F.openE ((F.sealL kind bs).take m) ≠ 0 := by
  intro ho
  have hl : ((F.sealL kind bs).take m).length = m := by rw [List.length_take]; omega
  unfold F.openE at ho
  by_cases h0 : F.lenE ((F.sealL kind bs).take m) = 0
  · rw [if_pos h0] at ho
    obtain ⟨l1, -, l3⟩ := F.lenE_zero h0
    by_cases h1 : F.lenV ((F.sealL kind bs).take m) = ((F.sealL kind bs).take m).length
    · have hn : F.frameN ((F.sealL kind bs).take m) = F.frameN (F.sealL kind bs ++ []) := by
        unfold F.frameN
        rw [List.append_nil, List.take_take, show min 5 m = 5 by omega]
      rw [F.frameN_seal kind bs [] (by omega)] at hn
      rw [F.sealL_length] at hm
      omega
    · rw [if_neg h1] at ho
      cases ho
  · rw [if_neg h0] at ho
    exact h0 ho
theorem not_open {b : List Nat} (h : F.openE b ≠ 0) : NotEnc b := fun f n hE => h (enc_open hE)
theorem not_cut {f : Nat → Pt} {n : Nat} {b : List Nat} (h : IsEnc b f n) {m : Nat} (hm : m < b.length) : NotEnc (b.take m) := by
  refine not_open ?_
  have hl := colUp_len f n (enc_n h).2 3
  rw [← h.2] at hm ⊢
  exact cut_open (by omega) hm
theorem not_more {f : Nat → Pt} {n : Nat} {b : List Nat} (h : IsEnc b f n) : NotEnc (b ++ [0]) := by
  refine not_open ?_
  have hl := colUp_len f n (enc_n h).2 3
  rw [← h.2, F.open_more 3 (colUp f n 3) (by omega)]
  decide
theorem one_v : colV (fun _ => (⟨1, 0, 0⟩ : Pt)) 1 = true := by decide
/-- A place below L, as the laws make it. -/
theorem mod_in (a : Int) (L : Nat) (hL : 0 < L) : ∃ (r : Int) (p : Nat), a.tmod (L : Int) = r ∧ -(L : Int) < r ∧ r < (L : Int) ∧ (r + (L : Int)).tmod (L : Int) = (p : Int) ∧ p < L := by
  have h1 := Int.tmod_lt_of_pos a (show 0 < (L : Int) by omega)
  have h2 := Int.lt_tmod_of_pos a (show 0 < (L : Int) by omega)
  have h3 : 0 ≤ Int.tmod (a.tmod L + (L : Int)) L := Int.tmod_nonneg _ (by omega)
  have h4 := Int.tmod_lt_of_pos (a.tmod L + (L : Int)) (show 0 < (L : Int) by omega)
  exact ⟨_, (Int.tmod (a.tmod L + (L : Int)) L).toNat, rfl, by omega, h1, by omega, by omega⟩
end Go.Proofs.YtboecnakndpgfaaDoor
namespace Go.Proofs.YtboecnakndpgfaaDoor
open Go.RowKit
set_option linter.unusedVariables false
set_option linter.unusedSimpArgs false
theorem wf_u32c {z : Int} (h : (Lit.int .u32 z).wf = true) : ∃ k : Nat, k < 4294967296 ∧ z = (k : Int) := by
  simp [Lit.wf, IntKind.min, IntKind.max, IntKind.signed, IntKind.bits] at h
  exact ⟨z.toNat, by omega, by omega⟩
theorem pow_castC (s : Nat) : ((2 : Int) ^ s) = ((2 ^ s : Nat) : Int) := by simp
theorem and_one_u32c (x s : Nat) (hx : x < 4294967296) : bits .and .u32 ((x : Int) / 2 ^ s) 1 = ((x / 2 ^ s % 2 : Nat) : Int) := by
  have h1 : x / 2 ^ s < 4294967296 := Nat.lt_of_le_of_lt (Nat.div_le_self _ _) hx
  rw [pow_castC, show (x : Int) / ((2 ^ s : Nat) : Int) = ((x / 2 ^ s : Nat) : Int) from rfl, show (1 : Int) = ((1 : Nat) : Int) from rfl, u32_and_nat _ _ h1 (by omega), nat_mask1]
/-- Whether any of k bits is turned. -/
def chB (b k : Nat) : Bool := decide (b % 2 ^ k ≠ 0)
/-- The points stand as they did, whatever is done in block g. -/
theorem SlP.off {w w' : World} {g : Nat} {A : Option Addr} {n : Nat} {f : Nat → Pt} (h : SlP w (fun k => k ≠ g) A n f) (hk : Keeps (fun k => k = g) w w') : SlP w' (fun k => k ≠ g) A n f :=
  h.keep fun k hk' hlt => hk.block k hlt (fun e => hk' e)
set_option maxRecDepth 100000 in
set_option maxHeartbeats 8000000 in
theorem columnBits_walk (a0 : Option Addr) (len0 cap0 : Nat) (f0 : Nat → Pt) (a1 a2 : Int) (w : World) (w0 : IsPoints w a0 len0 cap0 f0) (w1 : (Lit.int .i64 a1).wf = true) (w2 : (Lit.int .u32 a2).wf = true) (hv : V.HErr w) :
    Calls Tryd.prog 5 #[.slice a0 len0 cap0, .int .i64 a1, .int .u32 a2] w fun e w' => e = .returned (.bool true) ∧ Below w.heap.size w w' := by
  obtain ⟨bb, hb32, rfl⟩ := wf_u32c w2
  obtain ⟨n, hn⟩ : ∃ n, n = min len0 100 := ⟨_, rfl⟩
  obtain ⟨g0, hg, hsl⟩ := w0.cut n (by omega)
  have l1 := w0.le
  have l2 := w0.cap_le
  have hat := wf_i64 w1
  unfold maxLen at l2
  clear w0 w1 w2
  have HF := Lib.hid (And.intro hn (And.intro hg (And.intro hsl hv)))
  have hn3 : n ≤ 100 := by omega
  have hn4 : n ≤ cap0 := by omega
  clear hn hg hsl hv
  go_enter Tryd.func5, Tryd.ntmps5
  go_upto_if 15 with (fail)
  go_cut [0] (fun s0 wx => s0 = .slice a0 n cap0 ∧ w = wx)
  case first =>
    by_cases h : 100 < len0
    · obtain ⟨b, off, ha, -, -⟩ := HF.out.2.2.1 (by have := HF.out.1; omega)
      subst ha
      go_wp2_with fail
      go_meet
      have : n = 100 := by have := HF.out.1; omega
      subst this
      exact ⟨rfl, rfl⟩
    · go_wp2_with fail
      go_meet
      have : n = len0 := by have := HF.out.1; omega
      subst this
      exact ⟨rfl, rfl⟩
  case rest =>
    obtain ⟨rfl, rfl⟩ := hcut
    clear l1
    go_wp2_with fail
    refine (cencode_any _ _ _ g0 _ _ HF.out.2.2.1 (by omega)).mono ?_
    rintro e w1 ⟨A1, c1, rfl, ho1, hk1⟩
    go_upto_if 24 with (fail)
    go_cut [0, 7, 8] (fun s0 s7 s8 wx => ∃ (gA : Nat) (c : Nat) (b : List Nat) (f : Nat → Pt) (m : Nat) (Al : Option Addr) (cl : Nat), s7 = .slice (some ⟨gA, 0, none⟩) b.length c ∧ s8 = .int .i64 0 ∧ s0 = .slice Al m cl ∧ IsEnc b f m ∧ (∀ j, I64 (f j).v) ∧
      wx.ownsRow w.heap.size 5 1 (.slice (some ⟨gA, 0, none⟩) b.length c) b.length (b.map byteV) ∧ w.heap.size ≤ gA ∧ Keeps (fun _ => False) w wx ∧ SlP wx (fun k => k ≠ gA) Al m f)
    case first =>
      rcases L_cases g0 n with ⟨hvv, hL, hE⟩ | ⟨hvv, hL⟩
      · rw [hL] at ho1 ⊢
        obtain ⟨b, hb⟩ : ∃ b, b = F.sealL 3 (colUp g0 n 3) := ⟨_, rfl⟩
        rw [← hb] at ho1 hE ⊢
        simp only [] at ho1 ⊢
        obtain ⟨A', c', hv3, -, hA3⟩ := own_form ho1
        injection hv3 with q1 q2 q3
        rw [← q1] at hA3
        obtain ⟨gA, rfl, hgA, hgl⟩ := hA3 (by have := (enc_len hE).1; omega)
        have H1 := Lib.hid (And.intro ho1 (And.intro hk1 (And.intro hE hgA)))
        clear ho1 hk1 hE hvv hL hb q1 q2 q3 hA3 hgA hgl
        go_wp2_with fail
        go_meet
        exact ⟨gA, c1, b, g0, n, a0, cap0, rfl, rfl, rfl, H1.out.2.2.1, fun j => (HF.out.2.1 j).v, H1.out.1, H1.out.2.2.2, H1.out.2.1, (HF.out.2.2.1.keeps H1.out.2.1).mono (fun k hk => by have := H1.out.2.2.2; omega)⟩
      · rw [hL] at ho1 ⊢
        simp only [] at ho1 ⊢
        have H1 := Lib.hid hk1
        clear ho1 hk1 hvv hL
        go_wp2_with fail
        refine (cencode_any _ 1 1 (fun _ => ⟨1, 0, 0⟩) _ _ (slp_one _ _ ⟨1, 0, 0⟩) (by omega)).mono ?_
        rcases L_cases (fun _ => ⟨1, 0, 0⟩) 1 with ⟨-, hL, hE⟩ | ⟨hvv, -⟩
        · rw [hL]
          rintro e w3 ⟨A3, c3, rfl, ho3, hk3⟩
          obtain ⟨b, hb⟩ : ∃ b, b = F.sealL 3 (colUp (fun _ => (⟨1, 0, 0⟩ : Pt)) 1 3) := ⟨_, rfl⟩
          rw [← hb] at ho3 hE ⊢
          simp only [] at ho3 ⊢
          obtain ⟨A', c', hv3, -, hA3⟩ := own_form ho3
          injection hv3 with q1 q2 q3
          rw [← q1] at hA3
          obtain ⟨gA, rfl, hgA, hgl⟩ := hA3 (by have := (enc_len hE).1; omega)
          have hka := H1.out.alloc (.cells #[.int .i64 1, .int .i64 0, .int .i64 0] 34)
          have hgA2 : w.heap.size ≤ gA := Nat.le_trans hka.size hgA
          have hsp := slp_one w3 34 ⟨1, 0, 0⟩
          have H3 := Lib.hid (And.intro ((own_base ho3 hka.size).alloc (.cells #[.int .i64 1, .int .i64 0, .int .i64 0] 34)) (And.intro ((hka.trans' hk3).alloc (.cells #[.int .i64 1, .int .i64 0, .int .i64 0] 34)) (And.intro hE (And.intro hgA2 (And.intro hgl hsp)))))
          clear ho3 hk3 hE hL hb hka q1 q2 q3 hA3 hgA hgl hgA2 hsp
          go_wp2_with fail
          go_meet
          exact ⟨gA, c3, b, _, 1, _, _, rfl, rfl, rfl, H3.out.2.2.1, fun j => (by unfold I64; simp), H3.out.1, H3.out.2.2.2.1, H3.out.2.1, H3.out.2.2.2.2.2.mono (fun k hk => by have := H3.out.2.2.2.2.1; omega)⟩
        · rw [one_v] at hvv
          cases hvv
    case rest =>
      obtain ⟨gA, c, b, f, m, Al, cl, rfl, rfl, rfl, hE, hfi, ho, hgA, hk, hsp⟩ := hcut
      have hbl := enc_len hE
      obtain ⟨r, p, hr, hr1, hr2, hp, hpL⟩ := mod_in a1 (8 * b.length) (by omega)
      have hlc := row_le ho
      have hbs := enc_bytes hE
      have hop := enc_open hE
      have hmm := enc_n hE
      clear hat
      obtain ⟨L, hL⟩ : ∃ L, L = b.length := ⟨_, rfl⟩
      rw [← hL] at hbl hr hr1 hr2 hp hpL hlc ho ⊢
      rw [show ((8 * L : Nat) : Int) = 8 * (L : Int) by omega] at hr hr1 hr2 hp
      have HC := Lib.hid (And.intro hE (And.intro ho (And.intro hk (And.intro hbs (And.intro hL.symm (And.intro hgA (And.intro hsp (And.intro hfi hop))))))))
      clear hE ho hk hbs hL hgA hsp hfi hop
      have e4 : ((8 * (L : Int)) == 0) = false := by simp; omega
      have e5 : ¬ 8 * (L : Int) = 0 := by omega
      go_wp2_with fail
      clear e4 e5 hr hr1 hr2 hp
      go_loopw [10, 11] (fun ch i wr => ∃ k : Nat, k ≤ 32 ∧ p + k ≤ 8 * L ∧ i = .int .i64 k ∧ ch = .bool (chB bb k) ∧ wr.ownsRow w.heap.size 5 1 (.slice (some ⟨gA, 0, none⟩) L c) L ((F.flipL b p bb k).map byteV) ∧ Keeps (fun _ => False) w wr ∧ Keeps (fun k => k = gA) wc wr)
        (fun _ i _ => 32 - (intOf i).toNat)
      case atStart => exact ⟨0, Nat.zero_le _, by omega, rfl, by simp [chB, Nat.mod_one], HC.out.2.1, HC.out.2.2.1, Keeps.refl _ _⟩
      case round =>
        obtain ⟨k, hk, hpk, rfl, rfl, hor, hkr, hkg⟩ := hrel
        by_cases hgo : k < 32 ∧ p + k < 8 * L
        · obtain ⟨hk32, hpk2⟩ := hgo
          obtain ⟨s, hs⟩ : ∃ s, s = p + k := ⟨_, rfl⟩
          obtain ⟨q, hq⟩ : ∃ q, q = s / 8 := ⟨_, rfl⟩
          obtain ⟨r, hr⟩ : ∃ r, r = s % 8 := ⟨_, rfl⟩
          have hqm : q < L := by omega
          have hr8 : r < 8 := by omega
          have hfl := F.flipL_length b p bb k
          rw [HC.out.2.2.2.2.1] at hfl
          have hfb := F.flipL_byte HC.out.2.2.2.1 p bb k
          obtain ⟨T, hT⟩ : ∃ T, T = F.flipL b p bb k := ⟨_, rfl⟩
          rw [← hT] at hor hfl hfb
          obtain ⟨x, hx⟩ : ∃ x, x = T.getD q 0 := ⟨_, rfl⟩
          have hxb : x < 256 := by rw [hx]; exact F.getD_of_mem hfb q
          have ck : wr.cell? ⟨gA, q, none⟩ = some (.int .u8 (x : Nat)) := by
            rw [hor.cellAt q (by omega), List.getElem?_map, List.getElem?_eq_getElem (by omega), hx, List.getD_eq_getElem?_getD, List.getElem?_eq_getElem (by omega)]
            rfl
          have fk := hor.frozenAt q
          have hst := (hor.stored q (byteV (x ^^^ 2 ^ r))).1
          have hrow : (T.map byteV).set q (byteV (x ^^^ 2 ^ r)) = (T.set q (x ^^^ 2 ^ r)).map byteV := by rw [List.map_set]
          rw [hrow] at hst
          have hks : Keeps (fun _ => False) w (wr.setCell ⟨gA, q, none⟩ (byteV (x ^^^ 2 ^ r))) := hkr.setCell (p := ⟨gA, q, none⟩) (fun hlt => by have := HC.out.2.2.2.2.2.1; simp at hlt; omega) _
          have hkg' : Keeps (fun k => k = gA) wc (wr.setCell ⟨gA, q, none⟩ (byteV (x ^^^ 2 ^ r))) := hkg.setCell (p := ⟨gA, q, none⟩) (fun _ => rfl) _
          have hch : chB bb (k + 1) = if bb / 2 ^ k % 2 = 1 then true else chB bb k := F.chg_step bb k
          have hfs : F.flipL b p bb (k + 1) = if bb / 2 ^ k % 2 = 1 then T.set q (x ^^^ 2 ^ r) else T := by
            rw [hx, hT, hr, hq, hs]; rfl
          have e5 : (p : Int) + (k : Int) = (s : Int) := by omega
          have e6 : (s : Int) / 8 = (q : Int) := by omega
          have e7 : (s : Int) % 8 = (r : Int) := by omega
          have e8 := and_one_u32c bb k hb32
          have hbt : bb / 2 ^ k % 2 < 2 := Nat.mod_lt _ (by omega)
          obtain ⟨bt, hbtt⟩ : ∃ bt, bt = bb / 2 ^ k % 2 := ⟨_, rfl⟩
          rw [← hbtt] at e8 hbt hch hfs
          have hsm : s < 8 * L := by omega
          have HK := Lib.hid (And.intro hor (And.intro hkr (And.intro hst (And.intro hks (And.intro hch (And.intro hfs (And.intro hkg hkg')))))))
          clear hor hkr hst hks hch hfs hT hfl hfb hx hq hr hrow hbtt hs hkg hkg'
          obtain ⟨chv, hchv⟩ : ∃ c, c = chB bb k := ⟨_, rfl⟩
          rw [← hchv]
          have HC2 := Lib.hid hchv
          clear hchv
          have d1 : decide ((s : Int) < 8 * (L : Int)) = true := by simp; omega
          rcases (show bt = 0 ∨ bt = 1 by omega) with hb0 | hb0
          · subst hb0
            rw [show ((0 : Nat) : Int) = 0 from rfl] at e8
            go_wp2_with fail
            clear e5 e6 e7 e8
            go_roundw
            case rel =>
              obtain ⟨hor, hkr, hst, hks, hch, hfs, hkg, hkg'⟩ := HK.out
              rw [if_neg (by omega)] at hch hfs
              refine ⟨k + 1, by omega, by omega, by go_num, by rw [hch, HC2.out], by rw [hfs]; exact hor, hkr, hkg⟩
            case measure => simp [intOf]; omega
          · subst hb0
            rw [show ((1 : Nat) : Int) = 1 from rfl] at e8
            go_wp2_with fail
            clear e5 e6 e7 e8
            go_roundw
            case rel =>
              obtain ⟨hor, hkr, hst, hks, hch, hfs, hkg, hkg'⟩ := HK.out
              rw [if_pos (by trivial)] at hch hfs
              have h28 : (2 : Nat) ^ r ≤ 2 ^ 7 := Nat.pow_le_pow_right (by omega) (by omega)
              have ex : bits .xor .u8 (x : Int) (2 ^ r % 256) = ((x ^^^ 2 ^ r : Nat) : Int) := by
                rw [pow_castC]
                generalize (2 : Nat) ^ r = t at h28 ⊢
                rw [show (t : Int) % 256 = (t : Int) by omega, u8_xor_nat _ _ hxb (by omega)]
              rw [ex]
              exact ⟨k + 1, by omega, by omega, by go_num, by rw [hch], by rw [hfs]; exact hst, hks, hkg'⟩
            case measure => simp [intOf]; omega
        · have hfl := F.flipL_length b p bb k
          rw [HC.out.2.2.2.2.1] at hfl
          have hfb := F.flipL_byte HC.out.2.2.2.1 p bb k
          have hsame := F.flipL_same b p bb k
          have hdiff := F.flip_open HC.out.2.2.2.1 (p := p) (b := bb) hk (by rw [HC.out.2.2.2.2.1]; exact hpk) HC.out.2.2.2.2.2.2.2.2
          obtain ⟨T, hT⟩ : ∃ T, T = F.flipL b p bb k := ⟨_, rfl⟩
          rw [← hT] at hor hfl hfb hsame hdiff
          obtain ⟨y, hy⟩ : ∃ y, y = bb % 2 ^ k := ⟨_, rfl⟩
          rw [← hy] at hsame hdiff
          have hcy : chB bb k = decide (y ≠ 0) := by rw [hy]; rfl
          rw [hcy]
          clear hcy
          have HK := Lib.hid (And.intro hor (And.intro hkr (And.intro hfl (And.intro hfb (And.intro hsame (And.intro hdiff hkg))))))
          clear hor hkr hfl hfb hsame hdiff hT hy hkg
          obtain ⟨chv, hchv⟩ : ∃ c, c = decide (y ≠ 0) := ⟨_, rfl⟩
          rw [← hchv]
          have HC2 := Lib.hid hchv
          clear hchv
          by_cases hk32 : k < 32
          · have hpm : p + k = 8 * L := by omega
            have d1 : decide ((p : Int) + (k : Int) < 8 * (L : Int)) = false := by simp; omega
            clear hpm hgo
            go_wp2_with fail
            try clear d1
            refine (cdecode_any _ _ L c _ T HK.out.2.2.1 (V.ow_sl HK.out.1) (getD_of HK.out.2.2.2.1) (by omega) hlc (HF.out.2.2.2.below HK.out.2.1.to_below)).mono ?_
            rintro e w4 ⟨hk4, ⟨A4, m4, c4, f4, rfl, hmc4, hsl4, henc4, hi4⟩ | ⟨rfl, hne⟩⟩
            · have hy0 : y = 0 := by
                rcases Nat.eq_zero_or_pos y with h | h
                · exact h
                · exact absurd (enc_open henc4) (HK.out.2.2.2.2.2.1 (by omega))
              rw [HK.out.2.2.2.2.1 hy0] at henc4
              obtain ⟨rfl, hfe⟩ := enc_inj HC.out.1 henc4 (fun j _ => HC.out.2.2.2.2.2.2.2.1 j) (fun j _ => hi4 j)
              have hs := sameL_of (f := f4) (g := f) (n := m) rfl (fun j hj => (hfe j hj).symm)
              have hcv : chv = false := by rw [HC2.out, hy0]; rfl
              subst hcv
              have hsp4 := (HC.out.2.2.2.2.2.2.1.off HK.out.2.2.2.2.2.2).keeps hk4
              have H4 := Lib.hid (And.intro hsl4 (And.intro hs (And.intro hsp4 (HK.out.2.1.trans' hk4))))
              clear hsl4 hs hsp4 hk4 henc4 hi4 hfe hy0
              go_wp2_with fail
              refine (same_any _ _ m m _ _ f4 f _ _ _ H4.out.1 H4.out.2.2.1 (by omega) (by omega)).mono ?_
              rintro e w5 ⟨rfl, hb5⟩
              rw [H4.out.2.1]
              have H5 := Lib.hid (H4.out.2.2.2.trans' (Keeps.of_below hb5))
              clear hb5
              go_wp2_with fail
              go_ret
              exact ⟨rfl, H5.out.to_below⟩
            · have hy0 : y ≠ 0 := fun h => by
                rw [HK.out.2.2.2.2.1 h] at hne
                exact hne f m HC.out.1
              have hcv : chv = true := by rw [HC2.out]; simp [hy0]
              subst hcv
              have H4 := Lib.hid (HK.out.2.1.trans' hk4)
              clear hk4 hne hy0
              go_wp2_with fail
              go_ret
              exact ⟨rfl, H4.out.to_below⟩
          · clear hgo
            go_wp2_with fail
            try clear d1
            refine (cdecode_any _ _ L c _ T HK.out.2.2.1 (V.ow_sl HK.out.1) (getD_of HK.out.2.2.2.1) (by omega) hlc (HF.out.2.2.2.below HK.out.2.1.to_below)).mono ?_
            rintro e w4 ⟨hk4, ⟨A4, m4, c4, f4, rfl, hmc4, hsl4, henc4, hi4⟩ | ⟨rfl, hne⟩⟩
            · have hy0 : y = 0 := by
                rcases Nat.eq_zero_or_pos y with h | h
                · exact h
                · exact absurd (enc_open henc4) (HK.out.2.2.2.2.2.1 (by omega))
              rw [HK.out.2.2.2.2.1 hy0] at henc4
              obtain ⟨rfl, hfe⟩ := enc_inj HC.out.1 henc4 (fun j _ => HC.out.2.2.2.2.2.2.2.1 j) (fun j _ => hi4 j)
              have hs := sameL_of (f := f4) (g := f) (n := m) rfl (fun j hj => (hfe j hj).symm)
              have hcv : chv = false := by rw [HC2.out, hy0]; rfl
              subst hcv
              have hsp4 := (HC.out.2.2.2.2.2.2.1.off HK.out.2.2.2.2.2.2).keeps hk4
              have H4 := Lib.hid (And.intro hsl4 (And.intro hs (And.intro hsp4 (HK.out.2.1.trans' hk4))))
              clear hsl4 hs hsp4 hk4 henc4 hi4 hfe hy0
              go_wp2_with fail
              refine (same_any _ _ m m _ _ f4 f _ _ _ H4.out.1 H4.out.2.2.1 (by omega) (by omega)).mono ?_
              rintro e w5 ⟨rfl, hb5⟩
              rw [H4.out.2.1]
              have H5 := Lib.hid (H4.out.2.2.2.trans' (Keeps.of_below hb5))
              clear hb5
              go_wp2_with fail
              go_ret
              exact ⟨rfl, H5.out.to_below⟩
            · have hy0 : y ≠ 0 := fun h => by
                rw [HK.out.2.2.2.2.1 h] at hne
                exact hne f m HC.out.1
              have hcv : chv = true := by rw [HC2.out]; simp [hy0]
              subst hcv
              have H4 := Lib.hid (HK.out.2.1.trans' hk4)
              clear hk4 hne hy0
              go_wp2_with fail
              go_ret
              exact ⟨rfl, H4.out.to_below⟩
end Go.Proofs.YtboecnakndpgfaaDoor
namespace Go.Proofs.YtboecnakndpgfaaDoor.columnBits
open Go.ChangeShapes Go.WideShapes Go.ChangeAt Go.RowKit
open Go.ChangeMaps (open_string shut_string)
set_option linter.unusedVariables false

theorem own : ownKnob Tryd.prog.godebug = none := by kernel_rfl
theorem laidOut : laidOutB Tryd.prog = true := by kernel_rfl

theorem errAt : Tryd.prog.globalNamed "errors.errorType" = some 0 := by kernel_rfl
theorem rtAt : (Tryd.prog.cutTypes.find? (·.1 == "internal/reflectlite.rtype")).map (·.2) = some 164 := by kernel_rfl
theorem oneRow : ((List.range Tryd.prog.types.size).filter fun t => Tryd.prog.rowNamed t [101, 114, 114, 111, 114]) = [125] := by kernel_rfl
/-- What the row's list gives: the variable's one cell. -/
theorem herr {W : World} (h : laidMetH Tryd.prog Rows.columnBitsRow.laid W) : V.HErr W := by
  have h' : laidMet Tryd.prog [] W ∧ handlesMet Tryd.prog Rows.columnBitsRow.laid W := h
  obtain ⟨name, u, ty, e1, e2, e3, e4, e5⟩ := h'.2 _ (List.mem_singleton.2 rfl)
  have en : name = [101, 114, 114, 111, 114] := (Option.some.inj e1).symm
  subst en
  obtain rfl := Option.some.inj (rtAt.symm.trans e2)
  have hm : ty ∈ (List.range Tryd.prog.types.size).filter fun t => Tryd.prog.rowNamed t [101, 114, 114, 111, 114] := List.mem_filter.2 ⟨List.mem_range.2 e3, e4⟩
  rw [oneRow] at hm
  obtain rfl := List.mem_singleton.1 hm
  have hh : typeHandle Tryd.prog 125 = .pointer (some ⟨1, 125, none⟩) := by kernel_rfl
  rw [hh] at e5
  have := World.var?_cell errAt e5 0
  simpa [V.HErr] using this
/-- A world that meets the condition: the settled one, the variable's cell laid. -/
noncomputable def laidWorld (os : Os) : World :=
  let w0 := World.holding Tryd.prog os ⟨#[], #[], []⟩
  { w0 with heap := w0.heap.modify 0 fun
      | .cells _ t frozen => .cells #[.iface 164 (.agg #[.pointer (some ⟨1, 125, none⟩)])] t frozen
      | o => o }
theorem laid_met (os : Os) (args : Array Value) : laidMetH Tryd.prog Rows.columnBitsRow.laid ((laidWorld os).forCall (fun _ _ => 0) ⟨#[], args, []⟩).memory :=
  laidMetH_of_parts (laidMet_nil _ _) (by kernel_rfl)
theorem reads (os : Os) {H : Type} (enc : TypeId × Value → H) : ∃ places, DataW.whole enc Tryd.prog ((laidWorld os).forCall (fun _ _ => 0) ⟨#[], #[.slice none 0 0, .int .i64 0, .int .u32 0], []⟩).memory Tryd.f5.params.toList Rows.columnBitsSpec.vars false #[.slice none 0 0, .int .i64 0, .int .u32 0].toList 8 = some ([.nil, .lit (.int .i64 0), .lit (.int .u32 0)], [], places) :=
  ⟨[], by kernel_rfl⟩

set_option maxRecDepth 100000 in
theorem lifted (os : Os) (started : os.Started) (H : Type) (enc : TypeId × Value → H) (F : Stop.Interp) :
    ReturnsInHanded {} Tryd.checked os 5 .any ((OpenSpec.ofChange Rows.columnBitsSpec).preRow enc Tryd.prog Tryd.f5 Rows.columnBitsRow.domain false Rows.columnBitsRow.laid) (((OpenSpec.ofChange Rows.columnBitsSpec).at F).post enc Tryd.prog Tryd.f5 false true false false) := by
  obtain ⟨places, hx⟩ := reads os enc
  refine returnsInHanded_of_row (C := Tryd.checked) (s := OpenSpec.ofChange Rows.columnBitsSpec) own started (by kernel_rfl) Tryd.func5
    (witness_row_at (enc := enc) (C := Tryd.checked) false (laidWorld os) #[.slice none 0 0, .int .i64 0, .int .u32 0] rfl (by kernel_rfl) (by kernel_rfl) (by kernel_rfl)
      (OpenSpec.preRow_of_cond 8 hx (by kernel_rfl) (fun k hk => by cases hk) (by kernel_rfl) (laid_met os _))) ?_
  intro W base args ds gs before hval0 hW hcnd _ hsz0 hL _ _
  have hErr := herr hL
  have hval : ∀ (j : Nat) t v, Tryd.f5.params[j]? = some t → args[j]? = some v → Value.okWide Tryd.prog W .any base t v := hval0
  have hW' := hW
  obtain ⟨p, q, hA0, hV, rfl, hfz, hnd⟩ := hW
  have hA : DataW.TrodAll enc Tryd.prog W 0 (fun _ => true) true Tryd.f5.params.toList args.toList ds p := hA0
  rw [Tryd.params5] at hA hval
  obtain ⟨v0, vs0, d0, ds0, p0, q0, hargs, rfl, rfl, h0, r0⟩ := trodAll_cons hA
  obtain ⟨v1, vs1, d1, ds1, p1, q1, rfl, rfl, rfl, h1, r1⟩ := trodAll_cons r0
  obtain ⟨v2, vs2, d2, ds2, p2, q2, rfl, rfl, rfl, h2, r2⟩ := trodAll_cons r1
  obtain ⟨rfl, rfl, rfl⟩ := trodAll_nil r2
  obtain rfl : args = #[v0, v1, v2] := by cases args; simp_all
  obtain ⟨rfl, rfl⟩ := trodVars_none hV
  obtain ⟨a0, len0, cap0, rfl⟩ := okWide_slice Tryd.underlying23 (hval 0 23 v0 rfl rfl)
  have k0 := h0
  have lt0 : ∀ x ∈ p0, x.block < W.heap.size := by obtain ⟨m, hm⟩ := k0; exact DataW.trod_lt m _ _ _ hm
  obtain ⟨f0, w0⟩ : ∃ f, IsPoints W a0 len0 cap0 f := by
    obtain ⟨fuel, hf⟩ := h0
    exact open_points hf
  obtain ⟨a1, rfl, rfl, rfl, w1⟩ := open_int Tryd.underlying3 (hval 1 3 v1 rfl rfl) h1
  obtain ⟨a2, rfl, rfl, rfl, w2⟩ := open_int Tryd.underlying38 (hval 2 38 v2 rfl rfl) h2
  clear hA0 hval0
  refine (columnBits_walk a0 len0 cap0 f0 a1 a2 W w0 w1 w2 hErr).mono fun e W' ⟨he, bel⟩ => ?_
  subst he
  exact ⟨_, rfl, _, _, _, [], _, [], hW', trodAll_mk1 (shut_bool Tryd.underlying4 _), (trodAll_cons_mk (Below.trod laidOut (by kernel_rfl) (of_decide_eq_true (by kernel_rfl)) k0 bel lt0) (trodAll_cons_mk (shut_int Tryd.underlying3 w1) (trodAll_cons_mk (shut_int Tryd.underlying38 w2) trodAll_mk0))), rfl, bel.frame _, fun h => by cases h⟩

theorem said : Rows.ColumnBitsSaid :=
  OpenClaim.holds_of_cond 5 Tryd.f5 rfl rfl rfl rfl rfl rfl rfl ⟨rfl, rfl, rfl, rfl, rfl⟩ rfl rfl rfl rfl rfl (by kernel_rfl) Tryd.func5 (by kernel_rfl)
    (of_decide_eq_true (by kernel_rfl)) (by unfold Func.isWrapper; first | (rw [if_pos (by decide +kernel)]; kernel_rfl) | (rw [if_neg (by decide +kernel)]; exact ⟨rfl, rfl⟩))
    (fun os started H enc _ F => by rw [OpenClaim.pre_eq_preRow]; exact lifted os started H enc F)

/-- No parameter wants a stand-in; the program's own looks are off: what the card asks. -/
theorem plainArgs (f : FuncId) (fn : Func) (hf : Tryd.pinned.checked.prog.funcNamed "tidemill/tidemilllaw13.ColumnBits" = some f) (hfn : Tryd.pinned.checked.prog.funcs[f]? = some fn) :
    true = Tryd.pinned.checked.prog.looks [] ∧ ∀ (j : Nat) t, fn.params[j]? = some t → Tryd.pinned.checked.prog.wantsStandIn t = false := by
  obtain rfl : f = 5 := Option.some.inj ((show Tryd.prog.funcNamed "tidemill/tidemilllaw13.ColumnBits" = some 5 by kernel_rfl).symm.trans hf) |>.symm
  obtain rfl : fn = Tryd.f5 := (Option.some.inj (Tryd.func5.symm.trans hfn)).symm
  refine ⟨by kernel_rfl, fun j t ht => ?_⟩
  rw [Tryd.params5] at ht
  have hall : ([23, 3, 38] : List TypeId).all (fun t => Tryd.prog.wantsStandIn t == false) = true := by kernel_rfl
  have hm : t ∈ ([23, 3, 38] : List TypeId) := by simpa using Array.mem_of_getElem? ht
  have hr : Tryd.prog.wantsStandIn t = false := by simpa using List.all_eq_true.1 hall t hm
  exact hr

theorem proved : Rows.ColumnBitsCardSaid :=
  Claim7.holds_tied_plain_at .later [] _ _ _ _ said (fun _ h => by cases h) (by kernel_rfl) (fun _ h => by cases h) columnBits_row_tie rfl ⟨rfl, rfl⟩ (by kernel_rfl) rfl plainArgs (by kernel_rfl)
#print axioms proved
end Go.Proofs.YtboecnakndpgfaaDoor.columnBits
