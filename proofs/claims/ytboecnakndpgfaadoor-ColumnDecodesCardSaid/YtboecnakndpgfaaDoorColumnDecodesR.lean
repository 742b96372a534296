/-
  Proved: any bytes are the document's points, or corrupt.
  No condition beyond those of the given row. (The frame follows the kit's proof-skeleton; the walk is the text ColumnDecodesW of this claim.)
-/
import Derived.Test.YtboecnakndpgfaaDoorJ05
import Derived.Test.YtboecnakndpgfaaDoorJ09
import Derived.Test.YtboecnakndpgfaaDoorJ06
import Derived.WalkKit
import Derived.WalkSpells
import Derived.Deep.DeepCutAuto
import Derived.Deep.CutBlock
import Derived.StillTailTactics
import Derived.Test.YtboecnakndpgfaaDoorJ12
import Derived.Test.YtboecnakndpgfaaDoorJ07
import Derived.Test.YtboecnakndpgfaaDoorJ02
import Derived.WalkLawsBesides
import Derived.Outline
import Derived.Deep.Cut
import Derived.Test.YtboecnakndpgfaaDoorCards
import Derived.Test.YtboecnakndpgfaaDoorTie
import Derived.ProofKit
import Derived.OpenShut
import Derived.ShutString
import Derived.ChangeOld
import Derived.Below
import Derived.SizedLaws
import Derived.ChangeVars
import Derived.Lib.SmallJoins
import Derived.LaidLaws
import Derived.LaidHandle
import Derived.Stop.Joined
import Derived.Deep.DeepHandedRow
namespace Go.Proofs.YtboecnakndpgfaaDoor.V
open Go.RowKit
set_option linter.unusedVariables false
set_option linter.unusedSimpArgs false
set_option maxRecDepth 100000 in
set_option maxHeartbeats 4000000 in
theorem rvreadText_any (w : World) (A : Option Addr) (len c : Nat) (l : List Nat) (most : Int) (hl : l.length = len) (hb : ∀ j, l.getD j 0 < 256) (hsl : Sl w (fun q => q < w.heap.size) A len (byteC l)) (hlc : len ≤ c) (hcm : c ≤ 9223372036854775807)
    (hm0 : -9223372036854775808 ≤ most) (hm1 : most ≤ 9223372036854775807) :
    Calls Tryd.prog 21 #[.slice A len c, .int .i64 most] w (VTextPost l most w) := by
  have HS := Lib.hid (And.intro hl (And.intro hb hsl))
  clear hl hb hsl
  go_enter Tryd.func21, Tryd.ntmps21
  go_wp2_with fail
  refine (rvread_any w _ A len c l HS.out.1 HS.out.2.1 HS.out.2.2 (by omega)).mono ?_
  rintro e w1 ⟨rfl, hb⟩
  have hvl := vget_lt l
  have hve := vget_e l
  have hvt := vtext_eq l most
  have hlen := HS.out.1
  have hvo : (vget l).2.2 = 0 → 1 ≤ (vget l).2.1 := fun h => (vget_put HS.out.2.1 h).1
  obtain ⟨u, hu⟩ : ∃ u, u = (vget l).1 := ⟨_, rfl⟩
  obtain ⟨n, hn⟩ : ∃ n, n = (vget l).2.1 := ⟨_, rfl⟩
  obtain ⟨k, hk⟩ : ∃ k, k = (vget l).2.2 := ⟨_, rfl⟩
  rw [← hu, ← hn, ← hk] at hve hvt
  rw [← hu, ← hn] at hvl
  rw [← hk, ← hn] at hvo
  rw [← hu, ← hn, ← hk]
  rw [hlen] at hvl hvt
  have HB := Lib.hid hb
  clear hb hu hn hk hlen
  by_cases h0 : k = 0
  · have h1 := hvo h0
    subst h0
    rw [if_neg (by omega)] at hvt
    obtain ⟨hu64, hn10, hnl⟩ := hvl
    clear hve hvo
    by_cases c2 : most < 0
    · rw [if_pos (.inl c2)] at hvt
      have HT := Lib.hid hvt
      clear hvt
      go_wp2_with fail
      go_ret3
      exact ⟨by rw [HT.out]; rfl, HB.out⟩
    · have d2 : decide (most < 0) = false := by simp; omega
      have k2 : IntKind.u64.wrap most = most := by rw [IntKind.wrap_u64]; omega
      by_cases c3 : most < u
      · rw [if_pos (.inr c3)] at hvt
        have HT := Lib.hid hvt
        clear hvt
        go_wp2_with fail
        go_ret3
        exact ⟨by rw [HT.out]; rfl, HB.out⟩
      · rw [if_neg (by omega)] at hvt
        have d3 : decide (most < (u : Int)) = false := by simp; omega
        have k3 : IntKind.u64.wrap ((len : Int) - (n : Int)) = (len : Int) - (n : Int) := by rw [IntKind.wrap_u64]; omega
        have k4 : IntKind.i64.wrap (u : Int) = (u : Int) := by rw [IntKind.wrap_i64]; omega
        by_cases c4 : len - n < u
        · rw [if_pos c4] at hvt
          have HT := Lib.hid hvt
          have d4 : decide ((len : Int) - (n : Int) < (u : Int)) = true := by simp; omega
          clear hvt
          go_wp2_with fail
          go_ret3
          exact ⟨by rw [HT.out]; rfl, HB.out⟩
        · rw [if_neg c4] at hvt
          have HT := Lib.hid hvt
          have d4 : decide ((len : Int) - (n : Int) < (u : Int)) = false := by simp; omega
          obtain ⟨b, off, rfl, -, -⟩ := HS.out.2.2 (by omega)
          clear hvt
          have hun : u ≤ len - n := by omega
          clear c4
          by_cases hnc : n = c
          · have hu0 : u = 0 := by omega
            have hnl2 : len = n := by omega
            subst hu0 hnl2 hnc
            have hc := fun (A : Option Addr) (q : Nat) => conv_sl (P := Tryd.prog) (w := w1) (D := fun _ => True) (A := A) (len := 0) (c := q) (bs := []) 22 5 9 Tryd.underlying22 Tryd.underlying5 Tryd.underlying9 rfl (Sl.nil _ _ _ _)
            have HT2 := Lib.hid (show vtext l most = ([], len, 0) by rw [HT.out]; simp)
            clear HT
            go_wp2_with fail
            go_ret3
            exact ⟨by rw [HT2.out]; rfl, HB.out⟩
          · have hs := sl_take_list (sl_drop_list (sl_later HS.out.2.2 HB.out) hnl) hun
            have hc := conv_sl (P := Tryd.prog) (c := c - n) 22 5 9 Tryd.underlying22 Tryd.underlying5 Tryd.underlying9 (by rw [List.length_take, List.length_drop]; have := HS.out.1; omega) hs
            obtain ⟨P, hP⟩ : ∃ P, P = (l.drop n).take u := ⟨_, rfl⟩
            rw [← hP] at hc HT
            clear hs hP
            go_wp2_with fail
            go_ret3
            exact ⟨by rw [HT.out]; rfl, HB.out⟩
  · rw [if_pos h0] at hvt
    have d0 : ((k : Int) != 0) = true := by simp; omega
    have HT := Lib.hid hvt
    clear hvt hvo hve h0
    go_wp2_with fail
    go_ret3
    exact ⟨by rw [HT.out]; rfl, HB.out⟩
end Go.Proofs.YtboecnakndpgfaaDoor.V
namespace Go.Proofs.YtboecnakndpgfaaDoor.X
set_option maxRecDepth 100000
open Go.RowKit
set_option linter.unusedVariables false
set_option linter.unusedSimpArgs false
/-- The window, as the reference holds it. -/
def rl (o : Option (Nat × Nat)) : Int := match o with
  | none => -1
  | some p => (p.1 : Nat)
def rt (o : Option (Nat × Nat)) : Int := match o with
  | none => 0
  | some p => (p.2 : Nat)
def ROnePost (w : World) (r : Nat) (D : Nat → Prop) (bs : List Nat) (en : Nat) (N : Option (Nat × Option (Nat × Nat) × Nat)) (e : Ending) (w' : World) : Prop :=
  Keeps (fun k => k = r) w w' ∧ ((∃ er : Int, er ≠ 0 ∧ N = none ∧ e = .returned (.tuple #[.int .u64 0, .int .i64 0, .int .i64 0, .int .i64 er])) ∨
    (∃ x o' p', N = some (x, o', p') ∧ x < 18446744073709551616 ∧ e = .returned (.tuple #[.int .u64 (x : Nat), .int .i64 (rl o'), .int .i64 (rt o'), .int .i64 0]) ∧ RRd w' r D bs p' en))
theorem rgetN (w : World) (r : Nat) (D : Nat → Prop) (bs : List Nat) (p en n : Nat) (h : RRd w r D bs p en) (hn : n ≤ 64) :
    Calls Tryd.prog 46 #[.pointer (some ⟨r, 0, none⟩), .int .i64 n] w fun e w' => Keeps (fun k => k = r) w w' ∧
      ((p + n ≤ en ∧ e = .returned (.tuple #[.int .u64 (gets bs p n : Nat), .int .i64 0]) ∧ RRd w' r D bs (p + n) en) ∨ (¬ p + n ≤ en ∧ e = .returned (.tuple #[.int .u64 0, .int .i64 10]))) := by
  refine (rget_any w r D bs p en n h).mono ?_
  rintro e w' ⟨rfl, hr, hk⟩
  have := h.le
  by_cases hq : p + n ≤ en
  · obtain ⟨g1, g2, g3⟩ := _root_.Go.Proofs.YtboecnakndpgfaaDoor.D.get_some bs p en n hq hn
    rw [g3] at hr
    rw [g1, g2]
    exact ⟨hk, .inl ⟨hq, rfl, hr⟩⟩
  · obtain ⟨g1, g2, g3⟩ := _root_.Go.Proofs.YtboecnakndpgfaaDoor.D.get_none bs p en n (by omega) (by omega) (by omega)
    rw [g1, g2]
    exact ⟨hk, .inr ⟨hq, rfl⟩⟩
/-- A window of its own is the least one: the last bit is 1, and the first. -/
theorem new_ok {v m l t : Nat} (hm : 1 ≤ m) (h : l + m + t = 64) (hv : v < 2 ^ m) : (v * 2 ^ t ≠ 0 ∧ lead (v * 2 ^ t) = l ∧ trail (v * 2 ^ t) = t) ↔ (v % 2 = 1 ∧ 2 ^ (m - 1) ≤ v) := by
  have hp : 0 < 2 ^ t := Nat.two_pow_pos t
  have hx : v * 2 ^ t < 18446744073709551616 := shift_lt hv (by omega)
  constructor
  · rintro ⟨h0, h1, h2⟩
    obtain ⟨-, l2, -⟩ := lead_spec (by omega) hx
    obtain ⟨-, k, hk⟩ := trail_spec (by omega) hx
    rw [h1, show 63 - l = (m - 1) + t by omega, Nat.pow_add] at l2
    rw [h2, Nat.mul_comm (2 ^ t)] at hk
    have hv2 : v = 2 * k + 1 := Nat.eq_of_mul_eq_mul_right hp hk
    exact ⟨by omega, Nat.le_of_mul_le_mul_right l2 hp⟩
  · rintro ⟨h1, h2⟩
    have hvp : 0 < v := by omega
    refine ⟨by have := Nat.mul_pos hvp hp; omega, ?_, ?_⟩
    · refine lead_uniq (by omega) ?_ ?_
      · rw [show 63 - l = (m - 1) + t by omega, Nat.pow_add]
        exact Nat.mul_le_mul_right _ h2
      · rw [show 64 - l = m + t by omega, Nat.pow_add]
        exact Nat.mul_lt_mul_of_pos_right hv hp
    · exact trail_uniq (m := v / 2) hx (by rw [show 2 * (v / 2) + 1 = v by omega, Nat.mul_comm])
/-- Whether the window ahead would do. -/
def fitLT (o : Option (Nat × Nat)) (l t : Nat) : Bool := match o with
  | none => false
  | some p => decide (p.1 ≤ l) && decide (p.2 ≤ t)
theorem newY_eq {bs : List Nat} {en : Nat} {o : Option (Nat × Nat)} {l m t q v : Nat} (hm : 1 ≤ m) (h : l + m + t = 64) (hq : q + m ≤ en) (hv : v = gets bs q m) : newY bs en o l m q = if (v % 2 = 1 ∧ 2 ^ (m - 1) ≤ v) ∧ fitLT o l t = false then some (v * 2 ^ t, some (l, t), q + m) else none := by
  have hvl : v < 2 ^ m := by rw [hv]; exact gets_lt bs q m
  have hk := new_ok hm h hvl
  unfold newY
  rw [if_pos (by omega), if_pos hq, ← hv, show 64 - l - m = t by omega]
  by_cases hc : v % 2 = 1 ∧ 2 ^ (m - 1) ≤ v
  · obtain ⟨h0, h1, h2⟩ := hk.2 hc
    have hf : fits o (v * 2 ^ t) = fitLT o l t := by
      unfold fits fitLT
      rw [h1, h2]
      cases o <;> rfl
    by_cases hb : fitLT o l t = false
    · rw [if_pos ⟨h0, h1, h2, by rw [hf]; exact hb⟩, if_pos ⟨hc, hb⟩]
    · rw [if_neg (fun k => hb (by rw [← hf]; exact k.2.2.2)), if_neg (fun k => hb k.2)]
  · rw [if_neg (fun k => hc (hk.1 ⟨k.1, k.2.1, k.2.2.1⟩)), if_neg (fun k => hc k.1)]
theorem rone_err {w w' : World} {r : Nat} {D : Nat → Prop} {bs : List Nat} {en : Nat} {N : Option (Nat × Option (Nat × Nat) × Nat)} {er : Int} (h0 : er ≠ 0) (hN : N = none) (hk : Keeps (fun k => k = r) w w') :
    ROnePost w r D bs en N (.returned (.tuple #[.int .u64 0, .int .i64 0, .int .i64 0, .int .i64 er])) w' := ⟨hk, .inl ⟨er, h0, hN, rfl⟩⟩
theorem rone_ok {w w' : World} {r : Nat} {D : Nat → Prop} {bs : List Nat} {en : Nat} {N : Option (Nat × Option (Nat × Nat) × Nat)} {x p' : Nat} {o' : Option (Nat × Nat)} (hN : N = some (x, o', p')) (hx : x < 18446744073709551616) (hr : RRd w' r D bs p' en) (hk : Keeps (fun k => k = r) w w') :
    ROnePost w r D bs en N (.returned (.tuple #[.int .u64 (x : Nat), .int .i64 (rl o'), .int .i64 (rt o'), .int .i64 0])) w' := ⟨hk, .inr ⟨x, o', p', hN, hx, rfl, hr⟩⟩
set_option maxRecDepth 100000 in
set_option maxHeartbeats 4000000 in
theorem rone_any (w : World) (r : Nat) (D : Nat → Prop) (bs : List Nat) (p en : Nat) (o : Option (Nat × Nat)) (h : RRd w r D bs p en) (hok : WinOk o) :
    Calls Tryd.prog 50 #[.pointer (some ⟨r, 0, none⟩), .int .i64 (rl o), .int .i64 (rt o)] w (ROnePost w r D bs en (nextX bs en o p)) := by
  obtain ⟨N, hN⟩ : ∃ N, N = nextX bs en o p := ⟨_, rfl⟩
  rw [← hN]
  have HH := Lib.hid (And.intro h (And.intro hok hN))
  clear h hok hN
  go_enter Tryd.func50, Tryd.ntmps50
  go_wp2_with fail
  refine (rgetN w r D bs p en 1 HH.out.1 (by omega)).mono ?_
  rintro e w1 ⟨hk1, ⟨q1, rfl, h1⟩ | ⟨q1, rfl⟩⟩
  · have hv := gets_lt bs p 1
    obtain ⟨v1, hv1⟩ : ∃ v1, v1 = gets bs p 1 := ⟨_, rfl⟩
    rw [← hv1] at hv
    rw [← hv1]
    rcases (show v1 = 0 ∨ v1 = 1 by omega) with rfl | rfl
    · have hn : N = some (0, o, p + 1) := by rw [HH.out.2.2]; unfold nextX; rw [if_pos q1, if_pos hv1.symm]
      have H1 := Lib.hid (And.intro h1 (And.intro hn hk1))
      clear h1 hn hv hv1 q1 hk1
      rw [show ((0 : Nat) : Int) = 0 from rfl]
      go_wp2_with fail
      exact bodyPost_ret (v := .tuple #[.int .u64 0, .int .i64 (rl o), .int .i64 (rt o), .int .i64 0]) (by simp [results, Tryd.results50, go_sem]) rfl (rone_ok (x := 0) H1.out.2.1 (by decide) H1.out.1 H1.out.2.2)
    · have hn : N = if p + 1 + 1 ≤ en then (if gets bs (p + 1) 1 = 0 then oldX bs en o (p + 1 + 1) else newX bs en o (p + 1 + 1)) else none := by
        rw [HH.out.2.2]; unfold nextX; rw [if_pos q1, if_neg (by omega)]
      have H1 := Lib.hid (And.intro h1 (And.intro hn hk1))
      clear h1 hn hv hv1 q1 hk1
      rw [show ((1 : Nat) : Int) = 1 from rfl]
      go_wp2_with fail
      refine (rgetN w1 r D bs (p + 1) en 1 H1.out.1 (by omega)).mono ?_
      rintro e w2 ⟨hk1, ⟨q1, rfl, h2⟩ | ⟨q1, rfl⟩⟩
      · have hv := gets_lt bs (p + 1) 1
        have hn := H1.out.2.1
        rw [if_pos q1] at hn
        obtain ⟨v1, hv1⟩ : ∃ v1, v1 = gets bs (p + 1) 1 := ⟨_, rfl⟩
        rw [← hv1] at hv hn
        rw [← hv1]
        obtain ⟨q, hq⟩ : ∃ q, q = p + 1 + 1 := ⟨_, rfl⟩
        rw [← hq] at h2 hn
        rcases (show v1 = 0 ∨ v1 = 1 by omega) with rfl | rfl
        · rw [if_pos rfl] at hn
          have H2 := Lib.hid (And.intro h2 (And.intro hn (H1.out.2.2.trans' hk1)))
          clear h2 hn hv hv1 q1 hk1 hq H1
          rw [show ((0 : Nat) : Int) = 0 from rfl]
          cases o with
          | none =>
            have HE := Lib.hid (show N = none from H2.out.2.1)
            unfold rl rt
            go_wp2_with fail
            exact bodyPost_ret (v := .tuple #[.int .u64 0, .int .i64 0, .int .i64 0, .int .i64 11]) (by simp [results, Tryd.results50, go_sem]) rfl (rone_err (by decide) HE.out H2.out.2.2)
          | some lt =>
            obtain ⟨l, t⟩ := lt
            have hlt : l + t ≤ 63 := HH.out.2.1 (l, t) rfl
            have ei : (64 : Int) - (l : Nat) - (t : Nat) = ((64 - l - t : Nat) : Int) := by omega
            obtain ⟨z, hz⟩ : ∃ z, z = 64 - l - t := ⟨_, rfl⟩
            rw [← hz] at ei
            have hz64 : z ≤ 64 := by omega
            have HZ := Lib.hid (And.intro hz hlt)
            clear hz hlt
            unfold rl rt
            simp only []
            go_wp2_with fail
            refine (rgetN w2 r D bs q en z H2.out.1 hz64).mono ?_
            rintro e w3 ⟨hk1, ⟨q1, rfl, h3⟩ | ⟨q1, rfl⟩⟩
            · have hvl := gets_lt bs q z
              have hn := H2.out.2.1
              unfold oldX at hn
              simp only [] at hn
              rw [← HZ.out.1, if_pos q1] at hn
              obtain ⟨v, hv⟩ : ∃ v, v = gets bs q z := ⟨_, rfl⟩
              rw [← hv] at hvl hn
              rw [← hv]
              obtain ⟨x, hx⟩ : ∃ x, x = v * 2 ^ t := ⟨_, rfl⟩
              have hxl : x < 18446744073709551616 := by rw [hx]; exact shift_lt hvl (by have := HZ.out; omega)
              have hsw := shift_walk hx hxl
              rw [← hx] at hn
              have H3 := Lib.hid (And.intro h3 (And.intro hn (And.intro (H2.out.2.2.trans' hk1) hxl)))
              have HX := Lib.hid hx
              clear h3 hn hv hvl hk1 q1 hx hxl H2 ei hz64
              by_cases h0 : v = 0
              · have HE := Lib.hid (show N = none by rw [H3.out.2.1, if_pos h0])
                subst h0
                rw [show ((0 : Nat) : Int) = 0 from rfl]
                go_wp2_with fail
                exact bodyPost_ret (v := .tuple #[.int .u64 0, .int .i64 0, .int .i64 0, .int .i64 11]) (by simp [results, Tryd.results50, go_sem]) rfl (rone_err (by decide) HE.out H3.out.2.2.1)
              · have HN := Lib.hid (show N = some (x, some (l, t), q + z) by rw [H3.out.2.1, if_neg h0])
                have d0 : ((v : Int) == 0) = false := by simp; omega
                have ht63 : t ≤ 63 := by have := HZ.out.2; omega
                have e9 : min (IntKind.u64.wrap (t : Int)).toNat 64 = t := by rw [IntKind.wrap_u64]; omega
                go_wp2_with fail
                exact bodyPost_ret (v := .tuple #[.int .u64 (x : Nat), .int .i64 (rl (some (l, t))), .int .i64 (rt (some (l, t))), .int .i64 0]) (by simp [results, Tryd.results50, go_sem, rl, rt, hsw, e9]) rfl (rone_ok HN.out H3.out.2.2.2 H3.out.1 H3.out.2.2.1)
            ·
              have HE := Lib.hid ((show N = none by rw [H2.out.2.1]; unfold oldX; simp only []; rw [← HZ.out.1, if_neg q1]))
              have HKE := Lib.hid (H2.out.2.2.trans' hk1)
              clear q1 hk1
              go_wp2_with fail
              exact bodyPost_ret (v := .tuple #[.int .u64 0, .int .i64 0, .int .i64 0, .int .i64 10]) (by simp [results, Tryd.results50, go_sem]) rfl (rone_err (by decide) HE.out HKE.out)
        · rw [if_neg (by omega)] at hn
          have H2 := Lib.hid (And.intro h2 (And.intro hn (H1.out.2.2.trans' hk1)))
          clear h2 hn hv hv1 q1 hk1 hq H1
          rw [show ((1 : Nat) : Int) = 1 from rfl]
          go_wp2_with fail
          refine (rgetN w2 r D bs q en 6 H2.out.1 (by omega)).mono ?_
          rintro e w3 ⟨hk1, ⟨q1, rfl, h3⟩ | ⟨q1, rfl⟩⟩
          · have ha := gets_lt bs q 6
            have hn := H2.out.2.1
            unfold newX at hn
            rw [if_pos q1] at hn
            obtain ⟨l, hl⟩ : ∃ l, l = gets bs q 6 := ⟨_, rfl⟩
            rw [← hl] at ha hn
            rw [← hl]
            obtain ⟨q', hq'⟩ : ∃ q', q' = q + 6 := ⟨_, rfl⟩
            rw [← hq'] at h3 hn
            have ha : l < 64 := ha
            have H3 := Lib.hid (And.intro h3 (And.intro hn (H2.out.2.2.trans' hk1)))
            clear h3 hn hl q1 hk1 hq' H2
            go_wp2_with fail
            refine (rgetN w3 r D bs q' en 6 H3.out.1 (by omega)).mono ?_
            rintro e w4 ⟨hk1, ⟨q1, rfl, h4⟩ | ⟨q1, rfl⟩⟩
            · have hb := gets_lt bs q' 6
              have hn := H3.out.2.1
              rw [if_pos q1] at hn
              obtain ⟨m0, hm0⟩ : ∃ m0, m0 = gets bs q' 6 := ⟨_, rfl⟩
              rw [← hm0] at hb hn
              rw [← hm0]
              obtain ⟨q2, hq2⟩ : ∃ q2, q2 = q' + 6 := ⟨_, rfl⟩
              rw [← hq2] at h4 hn
              have hb : m0 < 64 := hb
              have H4 := Lib.hid (And.intro h4 (And.intro hn (H3.out.2.2.trans' hk1)))
              clear h4 hn hm0 q1 hk1 hq2 H3
              have k1 : IntKind.i64.wrap (l : Int) = (l : Int) := IntWalk.i64_in _ (by omega)
              have k2 : IntKind.i64.wrap (m0 : Int) = (m0 : Int) := IntWalk.i64_in _ (by omega)
              by_cases hlm : l + (m0 + 1) ≤ 64
              · have d : decide ((64 : Int) < (l : Int) + ((m0 : Int) + 1)) = false := by simp; omega
                obtain ⟨m, hm⟩ : ∃ m, m = m0 + 1 := ⟨_, rfl⟩
                have em : (m0 : Int) + 1 = (m : Int) := by omega
                obtain ⟨t, ht⟩ : ∃ t, t = 64 - l - m := ⟨_, rfl⟩
                have et : (64 : Int) - (l : Int) - (m : Int) = (t : Int) := by omega
                have hm64 : m ≤ 64 := by omega
                have hm1 : 1 ≤ m := by omega
                have HM := Lib.hid (And.intro hm (And.intro ht hlm))
                clear hm ht hlm hb
                rw [em] at d
                go_wp2_with fail
                refine (rgetN w4 r D bs q2 en m H4.out.1 hm64).mono ?_
                rintro e w5 ⟨hk1, ⟨q1, rfl, h5⟩ | ⟨q1, rfl⟩⟩
                · have hvl := gets_lt bs q2 m
                  obtain ⟨v, hv⟩ : ∃ v, v = gets bs q2 m := ⟨_, rfl⟩
                  have hn := H4.out.2.1
                  rw [← HM.out.1, newY_eq (t := t) hm1 (by have := HM.out; omega) q1 hv] at hn
                  rw [← hv] at hvl
                  rw [← hv]
                  obtain ⟨x, hx⟩ : ∃ x, x = v * 2 ^ t := ⟨_, rfl⟩
                  have hxl : x < 18446744073709551616 := by rw [hx]; exact shift_lt hvl (by have := HM.out; omega)
                  have hsw := shift_walk hx hxl
                  have hv64 : v < 18446744073709551616 := Nat.lt_of_lt_of_le hvl (Nat.le_trans (Nat.pow_le_pow_right (by omega) hm64) (by decide))
                  rw [← hx, show m - 1 = m0 by have := HM.out; omega] at hn
                  obtain ⟨u, hu⟩ : ∃ u, u = v / 2 ^ m0 := ⟨_, rfl⟩
                  have hu0 : u = 0 ↔ ¬ 2 ^ m0 ≤ v := by
                    rw [hu, Nat.div_eq_zero_iff]
                    have := Nat.two_pow_pos m0
                    omega
                  have e7 : (v : Int) / 2 ^ m0 = (u : Int) := by
                    rw [hu, show ((2 : Int) ^ m0) = ((2 ^ m0 : Nat) : Int) by simp]
                    rfl
                  have em1 : (m : Int) - 1 = (m0 : Int) := by have := HM.out; omega
                  have hm063 : m0 ≤ 63 := by have := HM.out; omega
                  have ht63 : t ≤ 63 := by have := HM.out; omega
                  have e9 : min (IntKind.u64.wrap (t : Int)).toNat 64 = t := by rw [IntKind.wrap_u64]; omega
                  have e8 : min (IntKind.u64.wrap (m0 : Int)).toNat 64 = m0 := by rw [IntKind.wrap_u64]; omega
                  obtain ⟨a, hva⟩ : ∃ a, a = v % 2 := ⟨_, rfl⟩
                  have e6 : (v : Int) % 2 = (a : Int) := by omega
                  have ha2 : a < 2 := by omega
                  rw [← hva] at hn
                  have H5 := Lib.hid (And.intro h5 (And.intro hn (And.intro (H4.out.2.2.trans' hk1) (And.intro hxl (And.intro hu0 (And.intro hx (And.intro hu hva)))))))
                  clear h5 hn hv hvl hk1 q1 hx hxl H4 hu0 hu hva em
                  rcases (show a = 0 ∨ a = 1 by omega) with rfl | rfl
                  · have HE := Lib.hid (show N = none by rw [H5.out.2.1, if_neg (fun h => by have := h.1.1; omega)])
                    rw [show ((0 : Nat) : Int) = 0 from rfl] at e6
                    go_wp2_with fail
                    exact bodyPost_ret (v := .tuple #[.int .u64 0, .int .i64 0, .int .i64 0, .int .i64 11]) (by simp [results, Tryd.results50, go_sem]) rfl (rone_err (by decide) HE.out H5.out.2.2.1)
                  · rw [show ((1 : Nat) : Int) = 1 from rfl] at e6
                    by_cases hz : u = 0
                    · have HE := Lib.hid (show N = none by rw [H5.out.2.1, if_neg (fun h => H5.out.2.2.2.2.1.1 hz h.1.2)])
                      subst hz
                      rw [show ((0 : Nat) : Int) = 0 from rfl] at e7
                      go_wp2_with fail
                      exact bodyPost_ret (v := .tuple #[.int .u64 0, .int .i64 0, .int .i64 0, .int .i64 11]) (by simp [results, Tryd.results50, go_sem]) rfl (rone_err (by decide) HE.out H5.out.2.2.1)
                    · have d0 : ((u : Int) == 0) = false := by simp; omega
                      have hge : 2 ^ m0 ≤ v := by
                        rcases Nat.lt_or_ge v (2 ^ m0) with h | h
                        · exact absurd (H5.out.2.2.2.2.1.2 (by omega)) hz
                        · exact h
                      cases o with
                      | none =>
                        have HN := Lib.hid (show N = some (x, some (l, t), q2 + m) by rw [H5.out.2.1, if_pos ⟨⟨rfl, hge⟩, rfl⟩])
                        clear hge hz
                        unfold rl rt
                        go_wp2_with fail
                        exact bodyPost_ret (v := .tuple #[.int .u64 (x : Nat), .int .i64 (rl (some (l, t))), .int .i64 (rt (some (l, t))), .int .i64 0]) (by simp [results, Tryd.results50, go_sem, rl, rt, hsw, e9]) rfl (rone_ok HN.out H5.out.2.2.2.1 H5.out.1 H5.out.2.2.1)
                      | some lt =>
                        obtain ⟨l0, t0⟩ := lt
                        have hfe : fitLT (some (l0, t0)) l t = (decide (l0 ≤ l) && decide (t0 ≤ t)) := rfl
                        by_cases c1 : l0 ≤ l
                        · by_cases c2 : t0 ≤ t
                          · have HE := Lib.hid (show N = none by rw [H5.out.2.1, if_neg (fun h => by have := h.2; rw [hfe] at this; simp [c1, c2] at this)])
                            have d1 : decide ((l0 : Int) ≤ (l : Int)) = true := by simp; omega
                            have d2 : decide ((t0 : Int) ≤ (t : Int)) = true := by simp; omega
                            clear hge hz hfe
                            unfold rl rt
                            simp only []
                            go_wp2_with fail
                            exact bodyPost_ret (v := .tuple #[.int .u64 0, .int .i64 0, .int .i64 0, .int .i64 11]) (by simp [results, Tryd.results50, go_sem]) rfl (rone_err (by decide) HE.out H5.out.2.2.1)
                          · have HN := Lib.hid (show N = some (x, some (l, t), q2 + m) by rw [H5.out.2.1, if_pos ⟨⟨rfl, hge⟩, by rw [hfe]; simp [c2]⟩])
                            have d1 : decide ((l0 : Int) ≤ (l : Int)) = true := by simp; omega
                            have d2 : decide ((t0 : Int) ≤ (t : Int)) = false := by simp; omega
                            clear hge hz hfe
                            unfold rl rt
                            simp only []
                            go_wp2_with fail
                            exact bodyPost_ret (v := .tuple #[.int .u64 (x : Nat), .int .i64 (rl (some (l, t))), .int .i64 (rt (some (l, t))), .int .i64 0]) (by simp [results, Tryd.results50, go_sem, rl, rt, hsw, e9]) rfl (rone_ok HN.out H5.out.2.2.2.1 H5.out.1 H5.out.2.2.1)
                        · have HN := Lib.hid (show N = some (x, some (l, t), q2 + m) by rw [H5.out.2.1, if_pos ⟨⟨rfl, hge⟩, by rw [hfe]; simp [c1]⟩])
                          have d1 : decide ((l0 : Int) ≤ (l : Int)) = false := by simp; omega
                          clear hge hz hfe
                          unfold rl rt
                          simp only []
                          go_wp2_with fail
                          exact bodyPost_ret (v := .tuple #[.int .u64 (x : Nat), .int .i64 (rl (some (l, t))), .int .i64 (rt (some (l, t))), .int .i64 0]) (by simp [results, Tryd.results50, go_sem, rl, rt, hsw, e9]) rfl (rone_ok HN.out H5.out.2.2.2.1 H5.out.1 H5.out.2.2.1)
                ·
                  have HE := Lib.hid ((show N = none by rw [H4.out.2.1, ← HM.out.1]; unfold newY; rw [if_pos (by have := HM.out; omega), if_neg q1]))
                  have HKE := Lib.hid (H4.out.2.2.trans' hk1)
                  clear q1 hk1
                  go_wp2_with fail
                  exact bodyPost_ret (v := .tuple #[.int .u64 0, .int .i64 0, .int .i64 0, .int .i64 10]) (by simp [results, Tryd.results50, go_sem]) rfl (rone_err (by decide) HE.out HKE.out)
              · have HE := Lib.hid (show N = none by rw [H4.out.2.1]; unfold newY; rw [if_neg hlm])
                have d : decide ((64 : Int) < (l : Int) + ((m0 : Int) + 1)) = true := by simp; omega
                go_wp2_with fail
                exact bodyPost_ret (v := .tuple #[.int .u64 0, .int .i64 0, .int .i64 0, .int .i64 11]) (by simp [results, Tryd.results50, go_sem]) rfl (rone_err (by decide) HE.out H4.out.2.2)
            ·
              have HE := Lib.hid ((show N = none by rw [H3.out.2.1, if_neg q1]))
              have HKE := Lib.hid (H3.out.2.2.trans' hk1)
              clear q1 hk1
              go_wp2_with fail
              exact bodyPost_ret (v := .tuple #[.int .u64 0, .int .i64 0, .int .i64 0, .int .i64 10]) (by simp [results, Tryd.results50, go_sem]) rfl (rone_err (by decide) HE.out HKE.out)
          ·
            have HE := Lib.hid ((show N = none by rw [H2.out.2.1]; unfold newX; rw [if_neg q1]))
            have HKE := Lib.hid (H2.out.2.2.trans' hk1)
            clear q1 hk1
            go_wp2_with fail
            exact bodyPost_ret (v := .tuple #[.int .u64 0, .int .i64 0, .int .i64 0, .int .i64 10]) (by simp [results, Tryd.results50, go_sem]) rfl (rone_err (by decide) HE.out HKE.out)
      ·
        have HE := Lib.hid ((show N = none by rw [H1.out.2.1, if_neg q1]))
        have HKE := Lib.hid (H1.out.2.2.trans' hk1)
        clear q1 hk1
        go_wp2_with fail
        exact bodyPost_ret (v := .tuple #[.int .u64 0, .int .i64 0, .int .i64 0, .int .i64 10]) (by simp [results, Tryd.results50, go_sem]) rfl (rone_err (by decide) HE.out HKE.out)
  ·
    have HE := Lib.hid ((show N = none by rw [HH.out.2.2]; unfold nextX; rw [if_neg q1]))
    have HKE := Lib.hid (hk1)
    clear q1 hk1
    go_wp2_with fail
    exact bodyPost_ret (v := .tuple #[.int .u64 0, .int .i64 0, .int .i64 0, .int .i64 10]) (by simp [results, Tryd.results50, go_sem]) rfl (rone_err (by decide) HE.out HKE.out)
end Go.Proofs.YtboecnakndpgfaaDoor.X
namespace Go.Proofs.YtboecnakndpgfaaDoor.X
set_option maxRecDepth 100000
open Go.RowKit
set_option linter.unusedVariables false
set_option linter.unusedSimpArgs false
structure RXt (w wr : World) (r : Nat) (D : Nat → Prop) (bs : List Nat) (en x : Nat) (out : List Nat) (o : Option (Nat × Nat)) (p : Nat) (v : Value) : Prop where
  rd : RRd wr r D bs p en
  row : wr.ownsRow x 51 1 v out.length (out.map u64V)
  keep : Keeps (fun _ => False) w wr
  u64 : ∀ j, out.getD j 0 < 18446744073709551616
  win : WinOk o
  old : w.heap.size ≤ r ∧ r < x
  dlt : ∀ k, D k → k < w.heap.size
  size : x ≤ wr.heap.size
theorem RXt.get {w wr w' : World} {r : Nat} {D : Nat → Prop} {bs : List Nat} {en x : Nat} {out : List Nat} {o o' : Option (Nat × Nat)} {p p' : Nat} {v : Value} (h : RXt w wr r D bs en x out o p v)
    (hr : RRd w' r D bs p' en) (hk : Keeps (fun k => k = r) wr w') (hw : WinOk o') : RXt w w' r D bs en x out o' p' v := by
  obtain ⟨h1, h2, h3, h4, h5, h6, h7, h8⟩ := h
  exact ⟨hr, own_keeps h2 hk (fun g hg e => by have := (h2.lt g hg).1; omega), h3.trans hk (fun y hy e => by omega), h4, hw, h6, h7, Nat.le_trans h8 hk.size⟩
theorem RXt.app {w wr w' : World} {r : Nat} {D : Nat → Prop} {bs : List Nat} {en x : Nat} {out : List Nat} {o : Option (Nat × Nat)} {p t : Nat} {v v' : Value} {ob : Obj} (h : RXt w wr r D bs en x out o p v)
    (hown : w'.ownsRow x 51 1 v' (out.length + 1) (out.map u64V ++ [.int .u64 (t : Nat)])) (hg : (wr.alloc ob).grownBy w' v.ownBlock) (ht : t < 18446744073709551616) : RXt w w' r D bs en x (out ++ [t]) o p v' := by
  obtain ⟨h1, h2, h3, h4, h5, h6, h7, h8⟩ := h
  have hk : Keeps (fun k => v.ownBlock = some k) wr w' := ((Keeps.refl _ wr).alloc _).grown hg (fun q hq _ => hq)
  have hvb : ∀ g, v.ownBlock = some g → x ≤ g := fun g hg => (h2.lt g hg).1
  refine ⟨h1.keeps hk (fun e => by have := hvb _ e; omega) (fun k hk e => by have := hvb _ e; have := h7 k hk; omega), ?_, h3.trans hk (fun y hy e => by have := hvb _ e; omega), getD_u h4 ht, h5, h6, h7, Nat.le_trans h8 hk.size⟩
  rw [List.length_append, List.map_append]
  exact hown
theorem xdec_err {w w' : World} {bs : List Nat} {n : Nat} {er : Int} (h : decXL bs n = none) (h0 : er ≠ 0) (hk : Keeps (fun _ => False) w w') : XDecPost w (decXL bs n) (.returned (.tuple #[.slice none 0 0, .int .i64 er])) w' :=
  ⟨[], er, none, 0, rfl, ⟨rfl, .inl ⟨rfl, rfl⟩⟩, hk, fun j => by simp, .inr ⟨⟨h0, rfl⟩, h⟩⟩
theorem decX_next {bs : List Nat} {en f : Nat} {out : List Nat} {o : Option (Nat × Nat)} {p : Nat} {q : Nat × Option (Nat × Nat) × Nat} (h : stepX bs en out o p = some q) : decX bs en (f + 1) out o p = decX bs en f (out ++ [q.1]) q.2.1 q.2.2 := by
  show (match stepX bs en out o p with | none => none | some q => decX bs en f (out ++ [q.1]) q.2.1 q.2.2) = _
  rw [h]
theorem decX_none {bs : List Nat} {n f : Nat} {out : List Nat} {o : Option (Nat × Nat)} {p : Nat} (hd : decX bs (8 * bs.length) n [] none 0 = decX bs (8 * bs.length) (f + 1) out o p) (h : stepX bs (8 * bs.length) out o p = none) : decXL bs n = none := by
  unfold decXL
  rw [hd]
  show (match (match stepX bs (8 * bs.length) out o p with | none => none | some q => decX bs (8 * bs.length) f (out ++ [q.1]) q.2.1 q.2.2) with | none => none | some q => _) = _
  rw [h]
theorem decXL_end {bs : List Nat} {n : Nat} {out : List Nat} {p : Nat} (hd : decX bs (8 * bs.length) n [] none 0 = some (out, p)) : decXL bs n = if endX bs (8 * bs.length) p then some out else none := by
  unfold decXL
  rw [hd]
set_option maxRecDepth 100000 in
set_option maxHeartbeats 4000000 in
theorem rxdecode_ok (w : World) (A : Option Addr) (len c : Nat) (D : Nat → Prop) (bs : List Nat) (n : Nat) (hl : bs.length = len) (hsl : Sl w D A len (byteC bs)) (hbyte : ∀ j, bs.getD j 0 < 256) (hsm : len ≤ 1048576) (hn : n ≤ 4096) (hD : ∀ k, D k → k < w.heap.size) :
    Calls Tryd.prog 23 #[.slice A len c, .int .i64 n] w (XDecPost w (decXL bs n)) := by
  have HS := Lib.hid (And.intro hsl (And.intro hbyte (And.intro hl hD)))
  clear hsl hbyte hl hD
  have d1 : decide ((n : Int) < 0) = false := by simp
  have d2 : decide ((4096 : Int) < n) = false := by simp; omega
  go_enter Tryd.func23, Tryd.ntmps23
  go_wp2_with fail
  refine (rnewReader_fit _ _ _ _ _ bs _ HS.out.2.2.1 HS.out.1 HS.out.2.1 (by omega) (by omega) (by omega) HS.out.2.2.2).mono ?_
  rintro e w1 ⟨r, rfl, hlr, hr1, hk1⟩
  clear d1 d2
  obtain ⟨en, hen⟩ : ∃ en, en = (8 * (len : Int)).toNat := ⟨_, rfl⟩
  rw [← hen] at hr1
  have hen' : en = 8 * bs.length := by have := HS.out.2.2.1; omega
  have hrlt : r < w1.heap.size := by obtain ⟨A', c', hb, -⟩ := hr1.blk; exact hb.lt
  have hst : RXt w w1 r D bs en w1.heap.size [] none 0 (.slice none 0 0) := ⟨hr1, ⟨rfl, .inl ⟨rfl, rfl⟩⟩, hk1, (fun j => by simp), (fun q hq => by cases hq), ⟨hlr, hrlt⟩, HS.out.2.2.2, Nat.le_refl _⟩
  obtain ⟨x, hx⟩ : ∃ x, x = w1.heap.size := ⟨_, rfl⟩
  rw [← hx] at hst
  have hen20 : en ≤ 8388608 := by omega
  have H1 := Lib.hid (And.intro hst (And.intro hen' hen20))
  clear hr1 hk1 hlr hrlt hen hst hen' hx hen20
  go_wp2_with fail
  go_loopw [8, 9, 10, 11] (fun v s9 s10 i wr => ∃ (k : Nat) (out : List Nat) (o : Option (Nat × Nat)) (p : Nat), k ≤ n ∧ i = .int .i64 k ∧ s9 = .int .i64 (rl o) ∧ s10 = .int .i64 (rt o) ∧ RXt w wr r D bs en x out o p v ∧ out.length = k ∧ decX bs en n [] none 0 = decX bs en (n - k) out o p)
    (fun _ _ _ i _ => n - (intOf i).toNat)
  case atStart => exact ⟨0, [], none, 0, Nat.zero_le _, rfl, rfl, rfl, H1.out.1, rfl, rfl⟩
  case round =>
    obtain ⟨k, out, o, p, hk, rfl, rfl, rfl, hst, hlen, hdec⟩ := hrel
    obtain ⟨wo, rfl⟩ : ∃ wo : World, wo = wr := ⟨_, rfl⟩
    obtain ⟨Av, cv, hv, -, -⟩ := own_form hst.row
    rw [hlen] at hv
    subst hv
    by_cases hlt : k < n
    · obtain ⟨f, hf⟩ : ∃ f, n - k = f + 1 := ⟨n - k - 1, by omega⟩
      rw [hf] at hdec
      have herr : stepX bs en out o p = none → decXL bs n = none := by
        obtain ⟨-, hen', -⟩ := H1.out
        rw [hen'] at hdec ⊢
        exact decX_none hdec
      have HR := Lib.hid (And.intro hst (And.intro hlen (And.intro hdec (And.intro hf herr))))
      clear hst hlen hdec hf herr
      rcases Nat.eq_zero_or_pos k with hk0 | hk0
      · subst hk0
        rw [show ((0 : Nat) : Int) = 0 from rfl]
        go_wp2_with fail
        refine (rgetN _ r D bs p en 64 HR.out.1.rd (by omega)).mono ?_
        rintro e w2 ⟨hk2, ⟨q1, rfl, hr2⟩ | ⟨q1, rfl⟩⟩
        · have hst2 := HR.out.1.get hr2 hk2 HR.out.1.win
          have hz64 := gets_u64 bs p 64 (by omega)
          have hs : stepX bs en out o p = some (gets bs p 64, o, p + 64) := by
            unfold stepX
            rw [if_pos HR.out.2.1, if_pos q1]
          obtain ⟨z, hz⟩ : ∃ z, z = gets bs p 64 := ⟨_, rfl⟩
          rw [← hz] at hs hz64
          rw [← hz]
          have H2 := Lib.hid (And.intro hst2 (And.intro hs hz64))
          clear hst2 hs hz64 hk2 q1 hr2 hz
          go_wp2_with (at_builtin; refine wpList_append_sl (f := fun _ => .int .u64 (z : Nat)) (D := fun k => k = w2.heap.size) (base := x) (n := 0) (xs := out.map u64V) u64Elem rfl (.tmp 46) (.tmp 48) rfl rfl rfl ?hown ?hsl ?h1 ?h63 ?hby ?hbase ?_)
          case hown => have := H2.out.1.row; rw [HR.out.2.1] at this; exact this.alloc _
          case hsl => exact sl_one _ _ _
          case h1 => intro j _; rfl
          case h63 => unfold maxLen; omega
          case hby => omega
          case hbase => have := H2.out.1.size; simp; omega
          intro v3 w3 hown3 hg3 hat3
          have hst3 : RXt w w3 r D bs en x (out ++ [z]) o (p + 64) v3 := H2.out.1.app (by rw [HR.out.2.1]; exact hown3) hg3 H2.out.2.2
          have H3 := Lib.hid hst3
          clear hown3 hg3 hat3 hst3
          go_wp2_with fail
          go_roundw
          case rel =>
            refine ⟨1, out ++ [z], o, p + 64, by omega, rfl, rfl, rfl, H3.out, by simp [HR.out.2.1], ?_⟩
            rw [HR.out.2.2.1, decX_next H2.out.2.1, show n - 1 = f by have := HR.out.2.2.2.1; omega]
          case measure => simp [intOf]; omega
        · have hfin : XDecPost w (decXL bs n) (.returned (.tuple #[.slice none 0 0, .int .i64 10])) w2 := xdec_err (HR.out.2.2.2.2 (by unfold stepX; rw [if_pos HR.out.2.1, if_neg q1])) (by decide) (HR.out.1.keep.trans hk2 (fun y hy e => by have := HR.out.1.old; omega))
          have HF := Lib.hid hfin
          clear hk2 q1 hfin
          go_wp2_with fail
          go_ret2
          exact HF.out
      · obtain ⟨j, rfl⟩ : ∃ j, k = j + 1 := ⟨k - 1, by omega⟩
        have d0 : (((j : Int) + 1) == 0) = false := by simp; omega
        have dl : decide ((j : Int) + 1 < (n : Int)) = true := by simp; omega
        rw [show ((j + 1 : Nat) : Int) = (j : Int) + 1 from rfl]
        go_wp2_with fail
        refine (rone_any _ r D bs p en o HR.out.1.rd HR.out.1.win).mono ?_
        rintro e w2 ⟨hk2, ⟨er, her, hN, rfl⟩ | ⟨y, o', p', hN, hy64, rfl, hr2⟩⟩
        · have hfin : XDecPost w (decXL bs n) (.returned (.tuple #[.slice none 0 0, .int .i64 er])) w2 := xdec_err (HR.out.2.2.2.2 (by unfold stepX; rw [if_neg (by have := HR.out.2.1; omega), hN])) her (HR.out.1.keep.trans hk2 (fun y hy e => by have := HR.out.1.old; omega))
          have HF := Lib.hid hfin
          have e0 : (er != 0) = true := by simp [her]
          have e1 : ¬ er = 0 := her
          clear hk2 hN hfin
          go_wp2_with fail
          go_ret2
          exact HF.out
        · have hw' := decX_ok_win HR.out.1.win hN
          have hst2 := HR.out.1.get hr2 hk2 hw'
          have hlj : out.length = j + 1 := HR.out.2.1
          have hs : stepX bs en out o p = some (out.getD j 0 ^^^ y, o', p') := by
            unfold stepX
            rw [if_neg (by omega), hN, hlj]
            rfl
          have hl64 := HR.out.1.u64 j
          have hrow2 := hst2.row
          rw [hlj] at hrow2
          obtain ⟨bl, off, hA, -, hcell⟩ := row_at hrow2 hlj (by omega)
          have cl : w2.cell? ⟨bl, off + j, none⟩ = some (u64V (out.getD j 0)) := hcell j (by omega)
          unfold u64V at cl
          subst hA
          obtain ⟨la, hla⟩ : ∃ la, la = out.getD j 0 := ⟨_, rfl⟩
          rw [← hla] at hs hl64 cl
          have hz64 := xor_lt hl64 hy64
          have e4 := u64_xor_nat la y hl64 hy64
          obtain ⟨z, hz⟩ : ∃ z, z = la ^^^ y := ⟨_, rfl⟩
          rw [← hz] at hs hz64 e4
          have H2 := Lib.hid (And.intro hst2 (And.intro hs hz64))
          clear hst2 hs hz64 hk2 hr2 hz hN hw' hrow2 hcell hla hl64 hy64 d0 dl
          have ejw2 : (j : Int) + 1 - 1 = (j : Int) := by omega
          have ejw4 : ((j : Int)).toNat = j := by omega
          have hj2 : (0 : Int) ≤ (j : Int) := by omega
          have hj3 : (j : Int) < (j : Int) + 1 := by omega
          go_wp2_with (at_builtin; refine wpList_append_sl (f := fun _ => .int .u64 (z : Nat)) (D := fun k => k = w2.heap.size) (base := x) (n := j + 1) (xs := out.map u64V) u64Elem rfl (.tmp 64) (.tmp 72) rfl rfl rfl ?hown ?hsl ?h1 ?h63 ?hby ?hbase ?_)
          case hown => have := H2.out.1.row; rw [HR.out.2.1] at this; exact this.alloc _
          case hsl => first | exact sl_one _ _ _ | (rw [e4]; exact sl_one _ _ _)
          case h1 => intro j _; rfl
          case h63 => unfold maxLen; omega
          case hby => omega
          case hbase => have := H2.out.1.size; simp; omega
          intro v3 w3 hown3 hg3 hat3
          have hst3 : RXt w w3 r D bs en x (out ++ [z]) o' p' v3 := H2.out.1.app (by rw [HR.out.2.1]; exact hown3) hg3 H2.out.2.2
          have H3 := Lib.hid hst3
          clear hown3 hg3 hat3 hst3 cl
          go_wp2_with fail
          go_roundw
          case rel =>
            refine ⟨j + 2, out ++ [z], o', p', by omega, by go_num, rfl, rfl, H3.out, by simp [HR.out.2.1], ?_⟩
            rw [HR.out.2.2.1, decX_next H2.out.2.1, show n - (j + 2) = f by have := HR.out.2.2.2.1; omega]
          case measure => simp [intOf]; omega
    · obtain rfl : k = n := by omega
      rw [Nat.sub_self] at hdec
      have hrow := hst.row
      rw [hlen] at hrow
      obtain ⟨A', c', hb, -⟩ := hst.rd.blk
      have hle := hst.rd.le
      have c1 := hb.cell 1
      have c2 := hb.cell 2
      simp at c1 c2
      have hd : decXL bs k = if endX bs en p then some out else none := by
        obtain ⟨-, hen', -⟩ := H1.out
        rw [hen'] at hdec ⊢
        exact decXL_end hdec
      have hen20 := H1.out.2.2
      obtain ⟨m, hm⟩ : ∃ m : Nat, m = en - p := ⟨_, rfl⟩
      have hni : (en : Int) - p = (m : Int) := by omega
      have hnw : IntKind.i64.wrap ((en : Int) - p) = (m : Int) := by rw [hni]; exact IntWalk.i64_in _ (by omega)
      have hni2 : IntKind.i64.wrap (m : Int) = (m : Int) := IntWalk.i64_in _ (by omega)
      have HR := Lib.hid (And.intro hst (And.intro hlen (And.intro hd (And.intro hrow (And.intro hm hle)))))
      clear hst hlen hdec hd hrow hm hb
      by_cases h8 : m < 8
      · have d8 : decide ((8 : Int) ≤ (m : Int)) = false := by simp; omega
        go_wp2_with fail
        go_quiet (fail)
        go_wp2_with fail
        obtain ⟨wq, hwq⟩ : ∃ wq, wq = wo.drewN nq := ⟨_, rfl⟩
        have hrq : RRd wq r D bs p en := by rw [hwq]; exact HR.out.1.rd.drewN nq
        have kq : Keeps (fun k => k = r) wo wq := by rw [hwq]; exact (Keeps.refl _ wo).drewN nq
        rw [← hwq]
        clear hwq c1 c2
        obtain ⟨A'', c'', hbq, -⟩ := hrq.blk
        have c1 := hbq.cell 1
        have c2 := hbq.cell 2
        simp at c1 c2
        have HQ := Lib.hid (And.intro hrq kq)
        clear hbq hrq kq
        have hS : (fun _ : World => True) (wq.drew) := trivial
        refine reg_start (fun _ : World => True) (by kernel_rfl) hS ?_
        refine reg_take (i := 0) (v := ?_) rfl (by kernel_rfl) (by kernel_rfl) (by kernel_rfl) (fun _ _ _ h => h) (Or.inl ⟨by kernel_rfl, ?_⟩) hS ?_
        rotate_left
        · (intro w' hSw; go_simp <;> with_reducible rfl)
        try simp only [List.getElem_toArray, List.getElem_cons_succ, List.getElem_cons_zero, Act.put, List.setIfInBounds_toArray, List.set_cons_zero, List.set_cons_succ]
        refine reg_take (i := 1) (v := ?_) rfl (by kernel_rfl) (by kernel_rfl) (by kernel_rfl) (fun _ _ _ h => h) (Or.inl ⟨by kernel_rfl, ?_⟩) hS ?_
        rotate_left
        · (intro w' hSw; go_simp <;> with_reducible rfl)
        try simp only [List.getElem_toArray, List.getElem_cons_succ, List.getElem_cons_zero, Act.put, List.setIfInBounds_toArray, List.set_cons_zero, List.set_cons_succ]
        refine reg_take (i := 2) (v := ?_) rfl (by kernel_rfl) (by kernel_rfl) (by kernel_rfl) (fun _ _ _ h => h) (Or.inl ⟨by kernel_rfl, ?_⟩) hS ?_
        rotate_left
        · (intro w' hSw; go_simp <;> with_reducible rfl)
        try simp only [List.getElem_toArray, List.getElem_cons_succ, List.getElem_cons_zero, Act.put, List.setIfInBounds_toArray, List.set_cons_zero, List.set_cons_succ]
        refine reg_take (i := 3) (v := ?_) rfl (by kernel_rfl) (by kernel_rfl) (by kernel_rfl) (fun _ _ _ h => h) (Or.inl ⟨by kernel_rfl, ?_⟩) hS ?_
        rotate_left
        · (intro w' hSw; go_simp <;> with_reducible rfl)
        try simp only [List.getElem_toArray, List.getElem_cons_succ, List.getElem_cons_zero, Act.put, List.setIfInBounds_toArray, List.set_cons_zero, List.set_cons_succ]
        refine reg_take (i := 5) (v := ?_) rfl (by kernel_rfl) (by kernel_rfl) (by kernel_rfl) (fun _ _ _ h => h) (Or.inl ⟨by kernel_rfl, ?_⟩) hS ?_
        rotate_left
        · (intro w' hSw; go_simp <;> with_reducible rfl)
        try simp only [List.getElem_toArray, List.getElem_cons_succ, List.getElem_cons_zero, Act.put, List.setIfInBounds_toArray, List.set_cons_zero, List.set_cons_succ]
        refine reg_take (i := 6) (v := ?_) rfl (by kernel_rfl) (by kernel_rfl) (by kernel_rfl) (fun _ _ _ h => h) (Or.inl ⟨by kernel_rfl, ?_⟩) hS ?_
        rotate_left
        · (intro w' hSw; go_simp <;> with_reducible rfl)
        try simp only [List.getElem_toArray, List.getElem_cons_succ, List.getElem_cons_zero, Act.put, List.setIfInBounds_toArray, List.set_cons_zero, List.set_cons_succ]
        refine reg_take (i := 7) (v := ?_) rfl (by kernel_rfl) (by kernel_rfl) (by kernel_rfl) (fun _ _ _ h => h) (Or.inl ⟨by kernel_rfl, ?_⟩) hS ?_
        rotate_left
        · (intro w' hSw; go_simp <;> with_reducible rfl)
        try simp only [List.getElem_toArray, List.getElem_cons_succ, List.getElem_cons_zero, Act.put, List.setIfInBounds_toArray, List.set_cons_zero, List.set_cons_succ]
        refine reg_two (i := 4) (j := 8) rfl rfl (by kernel_rfl) (fun K hK => ?_) (fun K hK => ?_)
        · have HK := Lib.hid hK
          clear hK
          go_simp
          go_wp2_with fail
          refine HK.out.to (fun _ : World => True) (fun _ h => h) (trivial) ?_
          clear HK hS
          have hS : (fun _ : World => True) (wq.drew) := trivial
          try simp only [List.getElem_toArray, List.getElem_cons_succ, List.getElem_cons_zero, Act.put, List.setIfInBounds_toArray, List.set_cons_zero, List.set_cons_succ]
          refine reg_call (i := 8) rfl (by kernel_rfl) (fun K hK => ?_)
          have HK := Lib.hid hK
          clear hK
          go_simp
          go_wp2_with fail
          refine HK.out.to (fun _ : World => True) (fun _ h => h) (trivial) ?_
          clear HK hS
          have hS : (fun _ : World => True) (wq.drew) := trivial
          try simp only [List.getElem_toArray, List.getElem_cons_succ, List.getElem_cons_zero, Act.put, List.setIfInBounds_toArray, List.set_cons_zero, List.set_cons_succ]
          refine reg_take (i := 9) (v := ?_) rfl (by kernel_rfl) (by kernel_rfl) (by kernel_rfl) (fun _ _ _ h => h) (Or.inl ⟨by kernel_rfl, ?_⟩) hS ?_
          rotate_left
          · (intro w' hSw; go_simp <;> with_reducible rfl)
          try simp only [List.getElem_toArray, List.getElem_cons_succ, List.getElem_cons_zero, Act.put, List.setIfInBounds_toArray, List.set_cons_zero, List.set_cons_succ]
          clear c1 c2 hnw
          refine reg_call (i := 10) rfl (by kernel_rfl) (fun K hK => ?_)
          have HK := Lib.hid hK
          clear hK
          go_simp
          refine (rgetN wq.drew r D bs p en m (HQ.out.1.drewN 1) (by omega)).mono ?_
          rintro e w2 ⟨hk2, ⟨q1, rfl, hr2⟩ | ⟨q1, rfl⟩⟩
          case inr => exact absurd (show p + m ≤ en by have := HR.out.2.2.2.2; omega) q1
          have hk2' : Keeps (fun k => k = r) wo w2 := Keeps.trans' HQ.out.2.drew hk2
          have hkk2 : Keeps (fun _ => False) w w2 := HR.out.1.keep.trans hk2' (fun y hy e => by have := HR.out.1.old; omega)
          have hro2 := own_keeps HR.out.2.2.2.1 hk2' (fun g hg e => by have := (HR.out.1.row.lt g (by first | exact hg | (rw [HR.out.2.1]; exact hg))).1; have := HR.out.1.old; omega)
          obtain ⟨z, hzz⟩ : ∃ z, z = gets bs p m := ⟨_, rfl⟩
          rw [← hzz]
          have H3 := Lib.hid (And.intro hzz (And.intro hkk2 hro2))
          clear hr2 hk2 hk2' hkk2 hro2 hzz hni hni2 q1
          go_wp2_with fail
          refine HK.out.to (fun _ : World => True) (fun _ h => h) (trivial) ?_
          clear HK hS
          have hS : (fun _ : World => True) (w2) := trivial
          try simp only [List.getElem_toArray, List.getElem_cons_succ, List.getElem_cons_zero, Act.put, List.setIfInBounds_toArray, List.set_cons_zero, List.set_cons_succ]
          refine reg_take (i := 11) (v := ?_) rfl (by kernel_rfl) (by kernel_rfl) (by kernel_rfl) (fun _ _ _ h => h) (Or.inl ⟨by kernel_rfl, ?_⟩) hS ?_
          rotate_left
          · (intro w' hSw; go_simp <;> with_reducible rfl)
          try simp only [List.getElem_toArray, List.getElem_cons_succ, List.getElem_cons_zero, Act.put, List.setIfInBounds_toArray, List.set_cons_zero, List.set_cons_succ]
          refine reg_take (i := 12) (v := ?_) rfl (by kernel_rfl) (by kernel_rfl) (by kernel_rfl) (fun _ _ _ h => h) (Or.inl ⟨by kernel_rfl, ?_⟩) hS ?_
          rotate_left
          · (intro w' hSw; go_simp <;> with_reducible rfl)
          try simp only [List.getElem_toArray, List.getElem_cons_succ, List.getElem_cons_zero, Act.put, List.setIfInBounds_toArray, List.set_cons_zero, List.set_cons_succ]
          refine reg_take (i := 13) (v := ?_) rfl (by kernel_rfl) (by kernel_rfl) (by kernel_rfl) (fun _ _ _ h => h) (Or.inl ⟨by kernel_rfl, ?_⟩) hS ?_
          rotate_left
          · (intro w' hSw; go_simp <;> with_reducible rfl)
          try simp only [List.getElem_toArray, List.getElem_cons_succ, List.getElem_cons_zero, Act.put, List.setIfInBounds_toArray, List.set_cons_zero, List.set_cons_succ]
          refine reg_take (i := 14) (v := ?_) rfl (by kernel_rfl) (by kernel_rfl) (by kernel_rfl) (fun _ _ _ h => h) (Or.inl ⟨by kernel_rfl, ?_⟩) hS ?_
          rotate_left
          · (intro w' hSw; go_simp <;> with_reducible rfl)
          try simp only [List.getElem_toArray, List.getElem_cons_succ, List.getElem_cons_zero, Act.put, List.setIfInBounds_toArray, List.set_cons_zero, List.set_cons_succ]
          refine reg_take (i := 15) (v := ?_) rfl (by kernel_rfl) (by kernel_rfl) (by kernel_rfl) (fun _ _ _ h => h) (Or.inl ⟨by kernel_rfl, ?_⟩) hS ?_
          rotate_left
          · (intro w' hSw; go_simp <;> with_reducible rfl)
          try simp only [List.getElem_toArray, List.getElem_cons_succ, List.getElem_cons_zero, Act.put, List.setIfInBounds_toArray, List.set_cons_zero, List.set_cons_succ]
          refine wpAnyH_done (by kernel_rfl) ?_ _
          try simp only [List.getElem_toArray, List.getElem_cons_succ, List.getElem_cons_zero]
          try simp only [List.getElem_toArray, List.getElem_cons_succ, List.getElem_cons_zero, Act.put, List.setIfInBounds_toArray, List.set_cons_zero, List.set_cons_succ]
          by_cases h0 : z = 0
          · have HE := Lib.hid (show decXL bs k = some out by
              rw [HR.out.2.2.1, if_pos]
              unfold endX
              rw [← HR.out.2.2.2.2.1, ← H3.out.1]
              exact ⟨h8, h0⟩)
            subst h0
            rw [show ((0 : Nat) : Int) = 0 from rfl]
            have hfin : XDecPost w (decXL bs k) (.returned (.tuple #[.slice Av k cv, .int .i64 0])) w2 := by
              rw [HE.out]
              refine ⟨out, 0, Av, cv, by rw [HR.out.2.1], ?_, H3.out.2.1, HR.out.1.u64, .inl ⟨rfl, rfl⟩⟩
              rw [HR.out.2.1]
              exact own_base H3.out.2.2 (by have := HR.out.1.old; omega)
            have HF := Lib.hid hfin
            clear hfin
            go_wp2_with fail
            go_ret2
            exact HF.out
          · have e1 : ((z : Int) != 0) = true := by simp; omega
            have e2 : ((z : Int) == 0) = false := by simp; omega
            have HF := Lib.hid (show XDecPost w (decXL bs k) (.returned (.tuple #[.slice none 0 0, .int .i64 11])) w2 from xdec_err (by
              rw [HR.out.2.2.1, if_neg]
              intro h
              unfold endX at h
              rw [← HR.out.2.2.2.2.1, ← H3.out.1] at h
              exact h0 h.2) (by decide) H3.out.2.1)
            go_wp2_with fail
            go_ret2
            exact HF.out
        · have HK := Lib.hid hK
          clear hK
          go_simp
          go_wp2_with fail
          refine HK.out.to (fun _ : World => True) (fun _ h => h) (trivial) ?_
          clear HK hS
          have hS : (fun _ : World => True) (wq.drew) := trivial
          try simp only [List.getElem_toArray, List.getElem_cons_succ, List.getElem_cons_zero, Act.put, List.setIfInBounds_toArray, List.set_cons_zero, List.set_cons_succ]
          refine reg_call (i := 4) rfl (by kernel_rfl) (fun K hK => ?_)
          have HK := Lib.hid hK
          clear hK
          go_simp
          go_wp2_with fail
          refine HK.out.to (fun _ : World => True) (fun _ h => h) (trivial) ?_
          clear HK hS
          have hS : (fun _ : World => True) (wq.drew) := trivial
          try simp only [List.getElem_toArray, List.getElem_cons_succ, List.getElem_cons_zero, Act.put, List.setIfInBounds_toArray, List.set_cons_zero, List.set_cons_succ]
          refine reg_take (i := 9) (v := ?_) rfl (by kernel_rfl) (by kernel_rfl) (by kernel_rfl) (fun _ _ _ h => h) (Or.inl ⟨by kernel_rfl, ?_⟩) hS ?_
          rotate_left
          · (intro w' hSw; go_simp <;> with_reducible rfl)
          try simp only [List.getElem_toArray, List.getElem_cons_succ, List.getElem_cons_zero, Act.put, List.setIfInBounds_toArray, List.set_cons_zero, List.set_cons_succ]
          clear c1 c2 hnw
          refine reg_call (i := 10) rfl (by kernel_rfl) (fun K hK => ?_)
          have HK := Lib.hid hK
          clear hK
          go_simp
          refine (rgetN wq.drew r D bs p en m (HQ.out.1.drewN 1) (by omega)).mono ?_
          rintro e w2 ⟨hk2, ⟨q1, rfl, hr2⟩ | ⟨q1, rfl⟩⟩
          case inr => exact absurd (show p + m ≤ en by have := HR.out.2.2.2.2; omega) q1
          have hk2' : Keeps (fun k => k = r) wo w2 := Keeps.trans' HQ.out.2.drew hk2
          have hkk2 : Keeps (fun _ => False) w w2 := HR.out.1.keep.trans hk2' (fun y hy e => by have := HR.out.1.old; omega)
          have hro2 := own_keeps HR.out.2.2.2.1 hk2' (fun g hg e => by have := (HR.out.1.row.lt g (by first | exact hg | (rw [HR.out.2.1]; exact hg))).1; have := HR.out.1.old; omega)
          obtain ⟨z, hzz⟩ : ∃ z, z = gets bs p m := ⟨_, rfl⟩
          rw [← hzz]
          have H3 := Lib.hid (And.intro hzz (And.intro hkk2 hro2))
          clear hr2 hk2 hk2' hkk2 hro2 hzz hni hni2 q1
          go_wp2_with fail
          refine HK.out.to (fun _ : World => True) (fun _ h => h) (trivial) ?_
          clear HK hS
          have hS : (fun _ : World => True) (w2) := trivial
          try simp only [List.getElem_toArray, List.getElem_cons_succ, List.getElem_cons_zero, Act.put, List.setIfInBounds_toArray, List.set_cons_zero, List.set_cons_succ]
          refine reg_take (i := 11) (v := ?_) rfl (by kernel_rfl) (by kernel_rfl) (by kernel_rfl) (fun _ _ _ h => h) (Or.inl ⟨by kernel_rfl, ?_⟩) hS ?_
          rotate_left
          · (intro w' hSw; go_simp <;> with_reducible rfl)
          try simp only [List.getElem_toArray, List.getElem_cons_succ, List.getElem_cons_zero, Act.put, List.setIfInBounds_toArray, List.set_cons_zero, List.set_cons_succ]
          refine reg_take (i := 12) (v := ?_) rfl (by kernel_rfl) (by kernel_rfl) (by kernel_rfl) (fun _ _ _ h => h) (Or.inl ⟨by kernel_rfl, ?_⟩) hS ?_
          rotate_left
          · (intro w' hSw; go_simp <;> with_reducible rfl)
          try simp only [List.getElem_toArray, List.getElem_cons_succ, List.getElem_cons_zero, Act.put, List.setIfInBounds_toArray, List.set_cons_zero, List.set_cons_succ]
          refine reg_take (i := 13) (v := ?_) rfl (by kernel_rfl) (by kernel_rfl) (by kernel_rfl) (fun _ _ _ h => h) (Or.inl ⟨by kernel_rfl, ?_⟩) hS ?_
          rotate_left
          · (intro w' hSw; go_simp <;> with_reducible rfl)
          try simp only [List.getElem_toArray, List.getElem_cons_succ, List.getElem_cons_zero, Act.put, List.setIfInBounds_toArray, List.set_cons_zero, List.set_cons_succ]
          refine reg_take (i := 14) (v := ?_) rfl (by kernel_rfl) (by kernel_rfl) (by kernel_rfl) (fun _ _ _ h => h) (Or.inl ⟨by kernel_rfl, ?_⟩) hS ?_
          rotate_left
          · (intro w' hSw; go_simp <;> with_reducible rfl)
          try simp only [List.getElem_toArray, List.getElem_cons_succ, List.getElem_cons_zero, Act.put, List.setIfInBounds_toArray, List.set_cons_zero, List.set_cons_succ]
          refine reg_take (i := 15) (v := ?_) rfl (by kernel_rfl) (by kernel_rfl) (by kernel_rfl) (fun _ _ _ h => h) (Or.inl ⟨by kernel_rfl, ?_⟩) hS ?_
          rotate_left
          · (intro w' hSw; go_simp <;> with_reducible rfl)
          try simp only [List.getElem_toArray, List.getElem_cons_succ, List.getElem_cons_zero, Act.put, List.setIfInBounds_toArray, List.set_cons_zero, List.set_cons_succ]
          refine wpAnyH_done (by kernel_rfl) ?_ _
          try simp only [List.getElem_toArray, List.getElem_cons_succ, List.getElem_cons_zero]
          try simp only [List.getElem_toArray, List.getElem_cons_succ, List.getElem_cons_zero, Act.put, List.setIfInBounds_toArray, List.set_cons_zero, List.set_cons_succ]
          by_cases h0 : z = 0
          · have HE := Lib.hid (show decXL bs k = some out by
              rw [HR.out.2.2.1, if_pos]
              unfold endX
              rw [← HR.out.2.2.2.2.1, ← H3.out.1]
              exact ⟨h8, h0⟩)
            subst h0
            rw [show ((0 : Nat) : Int) = 0 from rfl]
            have hfin : XDecPost w (decXL bs k) (.returned (.tuple #[.slice Av k cv, .int .i64 0])) w2 := by
              rw [HE.out]
              refine ⟨out, 0, Av, cv, by rw [HR.out.2.1], ?_, H3.out.2.1, HR.out.1.u64, .inl ⟨rfl, rfl⟩⟩
              rw [HR.out.2.1]
              exact own_base H3.out.2.2 (by have := HR.out.1.old; omega)
            have HF := Lib.hid hfin
            clear hfin
            go_wp2_with fail
            go_ret2
            exact HF.out
          · have e1 : ((z : Int) != 0) = true := by simp; omega
            have e2 : ((z : Int) == 0) = false := by simp; omega
            have HF := Lib.hid (show XDecPost w (decXL bs k) (.returned (.tuple #[.slice none 0 0, .int .i64 11])) w2 from xdec_err (by
              rw [HR.out.2.2.1, if_neg]
              intro h
              unfold endX at h
              rw [← HR.out.2.2.2.2.1, ← H3.out.1] at h
              exact h0 h.2) (by decide) H3.out.2.1)
            go_wp2_with fail
            go_ret2
            exact HF.out
      · have d8 : decide ((8 : Int) ≤ (m : Int)) = true := by simp; omega
        go_wp2_with fail
        go_quiet (fail)
        have HF := Lib.hid (show XDecPost w (decXL bs k) (.returned (.tuple #[.slice none 0 0, .int .i64 11])) (wo.drewN nq) from xdec_err (by rw [HR.out.2.2.1, if_neg (fun h => by have := h.1; have := HR.out.2.2.2.2.1; omega)]) (by decide) (HR.out.1.keep.drewN nq))
        go_wp2_with fail
        go_ret2
        exact HF.out
end Go.Proofs.YtboecnakndpgfaaDoor.X
namespace Go.Proofs.YtboecnakndpgfaaDoor
open Go.RowKit
set_option linter.unusedVariables false
set_option linter.unusedSimpArgs false
theorem row_le {w : World} {base n c : Nat} {A : Option Addr} {xs : List Value} (h : w.ownsRow base 5 1 (.slice A n c) n xs) : n ≤ c := by
  obtain ⟨A', c', hv, hc, -⟩ := own_form h
  injection hv with _ _ h3
  omega
/-- A frame that is cut anywhere does not open. -/
theorem cut_open {kind : Nat} {bs : List Nat} (h : bs.length ≤ 1048576) {m : Nat} (hm : m < (F.sealL kind bs).length) : F.openE ((F.sealL kind bs).take m) ≠ 0 := by
  intro ho
  have hl : ((F.sealL kind bs).take m).length = m := by rw [List.length_take]; omega
  unfold F.openE at ho
  by_cases h0 : F.lenE ((F.sealL kind bs).take m) = 0
  · rw [if_pos h0] at ho
    obtain ⟨l1, -, l3⟩ := F.lenE_zero h0
    by_cases h1 : F.lenV ((F.sealL kind bs).take m) = ((F.sealL kind bs).take m).length
    · have hn : F.frameN ((F.sealL kind bs).take m) = F.frameN (F.sealL kind bs ++ []) := by
        unfold F.frameN
        rw [List.append_nil, List.take_take, show min 5 m = 5 by omega]
      rw [F.frameN_seal kind bs [] (by omega)] at hn
      rw [F.sealL_length] at hm
      omega
    · rw [if_neg h1] at ho
      cases ho
  · rw [if_neg h0] at ho
    exact h0 ho
theorem not_open {b : List Nat} (h : F.openE b ≠ 0) : NotEnc b := fun f n hE => h (enc_open hE)
theorem not_cut {f : Nat → Pt} {n : Nat} {b : List Nat} (h : IsEnc b f n) {m : Nat} (hm : m < b.length) : NotEnc (b.take m) := by
  refine not_open ?_
  have hl := colUp_len f n (enc_n h).2 3
  rw [← h.2] at hm ⊢
  exact cut_open (by omega) hm
theorem not_more {f : Nat → Pt} {n : Nat} {b : List Nat} (h : IsEnc b f n) : NotEnc (b ++ [0]) := by
  refine not_open ?_
  have hl := colUp_len f n (enc_n h).2 3
  rw [← h.2, F.open_more 3 (colUp f n 3) (by omega)]
  decide
theorem one_v : colV (fun _ => (⟨1, 0, 0⟩ : Pt)) 1 = true := by decide
/-- A place below L, as the laws make it. -/
theorem mod_in (a : Int) (L : Nat) (hL : 0 < L) : ∃ (r : Int) (p : Nat), a.tmod (L : Int) = r ∧ -(L : Int) < r ∧ r < (L : Int) ∧ (r + (L : Int)).tmod (L : Int) = (p : Int) ∧ p < L := by
  have h1 := Int.tmod_lt_of_pos a (show 0 < (L : Int) by omega)
  have h2 := Int.lt_tmod_of_pos a (show 0 < (L : Int) by omega)
  have h3 : 0 ≤ Int.tmod (a.tmod L + (L : Int)) L := Int.tmod_nonneg _ (by omega)
  have h4 := Int.tmod_lt_of_pos (a.tmod L + (L : Int)) (show 0 < (L : Int) by omega)
  exact ⟨_, (Int.tmod (a.tmod L + (L : Int)) L).toNat, rfl, by omega, h1, by omega, by omega⟩
end Go.Proofs.YtboecnakndpgfaaDoor
namespace Go.Proofs.YtboecnakndpgfaaDoor
open Go.RowKit
set_option linter.unusedVariables false
set_option linter.unusedSimpArgs false
set_option maxRecDepth 100000 in
set_option maxHeartbeats 800000 in
theorem rOpen_col (w : World) (A : Option Addr) (len c : Nat) (D : Nat → Prop) (bs : List Nat) (hl : bs.length = len) (hsl : Sl w D A len (byteC bs)) (hb : ∀ j, bs.getD j 0 < 256) (hlen : len ≤ 2097152) (hlc : len ≤ c) :
    Calls Tryd.prog 19 #[.slice A len c] w (F.WithPost w (F.openK bs) (F.openI bs) (F.openE bs)) := by
  have HS := Lib.hid (And.intro hl (And.intro hsl hb))
  clear hl hsl hb
  go_enter Tryd.func19, Tryd.ntmps19
  go_wp2_with fail
  refine (F.rread_any _ true _ _ _ _ bs HS.out.1 HS.out.2.1 HS.out.2.2 hlen hlc).mono ?_
  rintro e w1 ⟨A1, c1, rfl, ho1, hk1⟩
  obtain ⟨r1, r2, r3⟩ := F.rr_open bs
  have hfin : F.WithPost w (F.openK bs) (F.openI bs) (F.openE bs) (.returned (.tuple #[.int .u8 (F.rrK true bs : Nat), .slice A1 (F.rrI true bs).length c1, .int .i64 (F.rrE true bs)])) w1 := by
    rw [← r1, ← r2, ← r3]
    exact ⟨A1, c1, rfl, ho1, hk1⟩
  have HF := Lib.hid hfin
  clear ho1 hk1 r1 r2 r3 hfin
  go_wp2_with fail
  go_ret3
  exact HF.out
theorem strElem : Elem1 Tryd.prog 60 9 (.string ByteArray.empty) 16 := Elem1.mk' Tryd.underlying60 rfl (by kernel_rfl)
def strs (I : List Nat) (j : Nat) : List Value := (List.range j).map fun i => Value.string (strB (cPt I i))
theorem strs_succ (I : List Nat) (j : Nat) : strs I (j + 1) = strs I j ++ [.string (strB (cPt I j))] := by unfold strs; rw [List.range_succ, List.map_append]; rfl
/-- append(out, p) in a region that draws. -/
theorem step_append_pt {w : World} {base g : Nat} {v : Value} {l : List Pt} {p : Pt} {c : Nat} {ops : Array Oper} {o : Oper} {a : Act} {K : Act → World → Prop} {Q : Exit → Act → World → Prop} {E : Prop} (hgd : o.guard = none) (s x : Operand)
    (ho : o.op = .call { callee := .builtin .append, args := #[s, x], argTypes := #[23, 23] }) (hs : a.eval s = v) (hx : a.eval x = .slice (some ⟨g, 0, none⟩) 1 c)
    (hown : PtRow w base v l) (hg : Blk w g 34 #[.int .i64 p.t, .int .i64 p.v, .int .i64 p.s]) (h63 : l.length < 4294967296) (hbase : base ≤ w.heap.size)
    (h : ∀ v' w', PtRow w' base v' (l ++ [p]) → w.grownBy w' v.ownBlock → K (a.put o.dst v') w') :
    if Region.wanted o (yielded ops a.tmps) = true then Oper.wp Tryd.prog o a w K Q else E := by
  have hw : Region.wanted o (yielded ops a.tmps) = true := by simp [Region.wanted, hgd]
  rw [if_pos hw]
  obtain ⟨v', w', hrun, h2, h3, h4⟩ := run_append_pt (ty := o.type) (c := c) hown hg h63 hbase
  unfold Oper.wp execOp
  simp only [ho, resolve, invoke, builtin, Sem.run_bind, Sem.run_pure, Result.andThen_ok, List.map_toArray, List.map_cons, List.map_nil, hs, hx, hrun]
  exact h v' w' h2 h3
def upP (f : Nat → Pt) (k : Nat) : List Pt := (List.range k).map f
theorem upP_len (f : Nat → Pt) (k : Nat) : (upP f k).length = k := by simp [upP]
theorem upP_succ (f : Nat → Pt) (k : Nat) : upP f (k + 1) = upP f k ++ [f k] := by unfold upP; rw [List.range_succ, List.map_append]; rfl
theorem upP_sl {w : World} {base k c : Nat} {A : Option Addr} {f : Nat → Pt} (h : PtRow w base (.slice A k c) (upP f k)) : SlP w (fun x => base ≤ x) A k f := by
  have hl := upP_len f k
  have h2 : PtRow w base (.slice A (upP f k).length c) (upP f k) := by rw [hl]; exact h
  have h3 := h2.sl
  rw [hl] at h3
  refine (h3.mono (fun x hx => hx.1)).congr (fun j hj => ?_)
  unfold upP
  exact getD_upTo f k j _ hj
theorem upP_form {w : World} {base k : Nat} {v : Value} {f : Nat → Pt} (h : PtRow w base v (upP f k)) : ∃ A c, v = .slice A k c ∧ k ≤ c := by
  obtain ⟨A, c, h1, h2⟩ := h.form
  rw [upP_len] at h1 h2
  exact ⟨A, c, h1, h2⟩
theorem part_ok {I : List Nat} (hIb : ∀ j, I.getD j 0 < 256) {j : Nat} (h : cEr I j = 0) : (∀ i, (cPt I j).getD i 0 < 256) ∧ (cPt I j).length ≤ 1048576 := by
  obtain ⟨k1, k2, k3⟩ := vtext_get (l := I.drop (cAt I j)) (most := 1048576) (V.getD_drop_lt hIb _) h
  refine ⟨V.getD_all_lt (fun x hx => ?_), by unfold cPt; omega⟩
  have hm : x ∈ (I.drop (cAt I j)).take (V.vtext (I.drop (cAt I j)) 1048576).2.1 := by rw [k2]; exact List.mem_append_right _ hx
  exact F.mem_byte hIb x (List.mem_of_mem_drop (List.mem_of_mem_take hm))
theorem bw_sl (w : World) {p : List Nat} {n : Nat} (hn : p.length = n) (hp : ∀ j, p.getD j 0 < 256) : Sl (Lib.bytesWorld w 5 (strB p)) (fun k => k = w.heap.size) (some ⟨w.heap.size, 0, none⟩) n (byteC p) := by
  subst hn
  exact bytesWorld_sl w 5 hp
theorem cdec_no {w w' : World} {b : List Nat} (h : NotEnc b) (hk : Keeps (fun _ => False) w w') : CDecPost b w (.returned (.tuple #[.slice none 0 0, .int .i64 24])) w' := ⟨hk, .inr ⟨rfl, h⟩⟩
theorem decA_L {bs : List Nat} {M : Nat} (h : M ≤ 4096) : D.decA bs (M : Nat) = D.decL bs M := by
  unfold D.decA
  rw [if_neg (by omega), if_neg (by omega)]
  rfl
theorem decXA_L {bs : List Nat} {M : Nat} (h : M ≤ 4096) : X.decXA bs (M : Nat) = X.decXL bs M := by
  unfold X.decXA
  rw [if_neg (by omega), if_neg (by omega)]
  rfl
set_option maxRecDepth 100000 in
set_option maxHeartbeats 4000000 in
theorem rcdecode_any (w : World) (A : Option Addr) (len c : Nat) (D0 : Nat → Prop) (b : List Nat) (hl : b.length = len) (hsl : Sl w D0 A len (byteC b)) (hb : ∀ j, b.getD j 0 < 256) (hlen : len ≤ 1048576) (hlc : len ≤ c) :
    Calls Tryd.prog 9 #[.slice A len c] w (CDecPost b w) := by
  have HS := Lib.hid (And.intro hl (And.intro hsl hb))
  clear hl hsl hb
  go_enter Tryd.func9, Tryd.ntmps9
  go_wp2_with fail
  refine (rOpen_col _ _ _ _ D0 b HS.out.1 HS.out.2.1 HS.out.2.2 (by omega) hlc).mono ?_
  rintro e w2 ⟨A1, c1, rfl, ho, hk⟩
  obtain ⟨A1', c1', hv1, hc1, -⟩ := own_form ho
  injection hv1 with q1 q2 q3
  subst q1; subst q3
  clear q2
  have hcm : c1 ≤ 9223372036854775807 := by
    rcases ho.2 with ⟨h1, -⟩ | ⟨g, cap, cur, h1, -, -, -, h2, -⟩
    · injection h1 with _ _ h1; omega
    · injection h1 with _ _ h1; unfold maxLen at h2; omega
  obtain ⟨I, hI⟩ : ∃ I, I = F.openI b := ⟨_, rfl⟩
  rw [← hI] at ho hc1 ⊢
  have hIb : ∀ j, I.getD j 0 < 256 := by rw [hI]; exact openI_byte HS.out.2.2
  have hIl : I.length ≤ 1048576 := by have := openI_len b; rw [← hI, HS.out.1] at this; omega
  have HI := Lib.hid (And.intro hI (And.intro hIb hIl))
  have HT := Lib.hid (And.intro (V.ow_sl ho) hk)
  clear ho hk hI hIb hIl
  obtain ⟨K, hK⟩ : ∃ K, K = F.openK b := ⟨_, rfl⟩
  obtain ⟨E, hE⟩ : ∃ E, E = F.openE b := ⟨_, rfl⟩
  rw [← hK, ← hE]
  have HK := Lib.hid (And.intro hK hE)
  clear hK hE
  by_cases hE0 : E = 0
  · by_cases hK3 : K = 3
    · subst hE0
      subst hK3
      rw [show ((3 : Nat) : Int) = 3 from rfl]
      go_wp2_with fail
      refine (V.rvread_any w2 _ A1 _ c1 I rfl HI.out.2.1 HT.out.1 (by have := HI.out.2.2; omega)).mono ?_
      rintro e w5 ⟨rfl, hb5⟩
      have H5 := Lib.hid (And.intro (V.sl_later HT.out.1 hb5) (HT.out.2.trans' (Keeps.of_below hb5)))
      have hM64 := (V.vget_lt I).1
      obtain ⟨M, hM⟩ : ∃ M, M = (V.vget I).1 := ⟨_, rfl⟩
      obtain ⟨q0, hq0⟩ : ∃ q, q = (V.vget I).2.1 := ⟨_, rfl⟩
      obtain ⟨R, hR⟩ : ∃ R, R = (V.vget I).2.2 := ⟨_, rfl⟩
      rw [← hM, ← hq0, ← hR]
      rw [← hM] at hM64
      have HU := Lib.hid (And.intro hM (And.intro hq0 hR))
      clear hM hq0 hR hb5 HT
      by_cases hR0 : R = 0
      · subst hR0
        by_cases hM4 : M ≤ 4096
        · have hq10 : q0 ≤ 10 := by rw [HU.out.2.1]; exact (V.vget_lt I).2.1
          have hmw : IntKind.i64.wrap (M : Int) = (M : Int) := by rw [IntKind.wrap_i64]; omega
          have d4 : decide ((4096 : Int) < (M : Int)) = false := by simp; omega
          rw [show ((0 : Nat) : Int) = 0 from rfl]
          go_wp2_with fail
          go_loopw [8, 9, 10] (fun at_ s9 i wr => ∃ (j : Nat) (A9 : Option Addr) (c9 : Nat), j ≤ 3 ∧ i = .int .i64 j ∧ at_ = .int .i64 (cAt I j : Nat) ∧ s9 = .slice A9 j c9 ∧ wr.ownsRow w5.heap.size 9 1 (.slice A9 j c9) j (strs I j) ∧ Keeps (fun _ => False) w5 wr ∧ ∀ i, i < j → cEr I i = 0) (fun _ _ i _ => 3 - (intOf i).toNat)
          case atStart => exact ⟨0, none, 0, Nat.zero_le _, rfl, by rw [HU.out.2.1]; rfl, rfl, ⟨rfl, .inl ⟨rfl, rfl⟩⟩, Keeps.refl _ _, fun i hi => absurd hi (Nat.not_lt_zero _)⟩
          case round =>
            obtain ⟨j, A9, c9, hj, rfl, rfl, rfl, hrow, hkr, hEr⟩ := hrel
            obtain ⟨u1, u2⟩ := parts_up HI.out.2.1 HU.out.2.2.symm j hEr
            clear u1
            obtain ⟨q, hq⟩ : ∃ q, q = cAt I j := ⟨_, rfl⟩
            rw [← hq] at u2 ⊢
            have HB := Lib.hid (And.intro hrow (And.intro hkr (And.intro hEr hq)))
            clear hrow hkr hEr hq
            have hIl := HI.out.2.2
            by_cases hj3 : j < 3
            · obtain ⟨A2, hA1, hA2⟩ := V.slice_from (P := Tryd.prog) 22 5 Tryd.underlying22 oneU8c A1 I.length c1 q u2 hc1
              have s2 := sl_lt (hA2 wr _ I (H5.out.1.keeps HB.out.2.1 (fun _ _ h => h)))
              have HQ := Lib.hid s2
              clear s2 hA2
              go_wp2_with fail
              refine (V.rvreadText_any wr _ _ _ (I.drop q) 1048576 (by rw [List.length_drop]) (V.getD_drop_lt HI.out.2.1 q) HQ.out (by omega) (by omega) (by omega) (by omega)).mono ?_
              rintro e w6 ⟨rfl, hb6⟩
              obtain ⟨T, hT⟩ : ∃ T, T = (V.vtext (I.drop q) 1048576).1 := ⟨_, rfl⟩
              obtain ⟨U, hU⟩ : ∃ U, U = (V.vtext (I.drop q) 1048576).2.1 := ⟨_, rfl⟩
              obtain ⟨R2, hR2⟩ : ∃ R, R = (V.vtext (I.drop q) 1048576).2.2 := ⟨_, rfl⟩
              rw [← hT, ← hU, ← hR2]
              have eT : T = cPt I j := by unfold cPt; rw [← HB.out.2.2.2]; exact hT
              have eR : R2 = cEr I j := by unfold cEr; rw [← HB.out.2.2.2]; exact hR2
              have eU : cAt I (j + 1) = q + U := by rw [cAt_succ, ← HB.out.2.2.2, ← hU]
              have hU2 : R2 = 0 → U ≤ 1048576 := fun h0 => by
                obtain ⟨g1, -, -⟩ := vtext_get (l := I.drop q) (most := 1048576) (V.getD_drop_lt HI.out.2.1 q) (by rw [← hR2]; exact h0)
                rw [← hU, List.length_drop] at g1
                omega
              have k6 : Keeps (fun _ => False) w5 w6 := HB.out.2.1.trans' (Keeps.of_below hb6)
              have r6 := own_keeps HB.out.1 (Keeps.of_below (S := fun _ => False) hb6) (fun _ _ h => h)
              have HT2 := Lib.hid (And.intro eT (And.intro eR (And.intro eU (And.intro k6 r6))))
              clear hT hU hR2 eT eR eU hb6 k6 r6
              by_cases hR3 : R2 = 0
              · subst hR3
                have hUb := hU2 rfl
                clear hU2
                rw [show ((0 : Nat) : Int) = 0 from rfl]
                go_wp2_with (at_builtin; refine wpList_append_sl (f := fun _ => .string (strB T)) (D := fun k => k = w6.heap.size) (base := w5.heap.size) (n := j) (xs := strs I j) strElem rfl (.tmp 59) (.tmp 61) rfl rfl rfl ?hown ?hsl ?h1 ?h63 ?hby ?hbase ?_)
                case hown => exact HT2.out.2.2.2.2.alloc _
                case hsl => exact sl_one _ _ _
                case h1 => intro j _; rfl
                case h63 => unfold maxLen; omega
                case hby => omega
                case hbase => have := HT2.out.2.2.2.1.size; simp; omega
                intro v7 w7 ho7 hg7 hx7
                have k7 : Keeps (fun _ => False) w5 w7 := F.keeps_grown (HT2.out.2.2.2.1.alloc _) (HT2.out.2.2.2.2.alloc _) hg7
                have ho7' : w7.ownsRow w5.heap.size 9 1 v7 (j + 1) (strs I (j + 1)) := by
                  rw [strs_succ, ← HT2.out.1]
                  exact ho7
                obtain ⟨A7, c7, rfl, -, -⟩ := own_form ho7'
                have H7 := Lib.hid (And.intro ho7' k7)
                clear ho7 ho7' hg7 hx7 k7
                go_wp2_with fail
                go_roundw
                case rel =>
                  refine ⟨j + 1, A7, c7, by omega, by go_num, by rw [HT2.out.2.2.1]; go_num, rfl, H7.out.1, H7.out.2, fun i hi => ?_⟩
                  rcases Nat.lt_or_ge i j with h1 | h1
                  · exact HB.out.2.2.1 i h1
                  · obtain rfl : i = j := by omega
                    exact HT2.out.2.1.symm
                case measure => simp [intOf]; omega
              · have HN := Lib.hid (not_parts (fun h => hR3 (by rw [HT2.out.2.1, HI.out.1]; exact h.t j (by omega))))
                have d0 : ((R2 : Int) != 0) = true := by simp; omega
                have d0' : ¬ (R2 : Int) = 0 := by omega
                clear hU2
                go_wp2_with fail
                go_ret2
                exact cdec_no HN.out (H5.out.2.trans' HT2.out.2.2.2.1)
            · obtain rfl : j = 3 := by omega
              rw [show ((3 : Nat) : Int) = 3 from rfl]
              have e0 := HB.out.2.2.1 0 (by omega)
              have e1 := HB.out.2.2.1 1 (by omega)
              have e2 := HB.out.2.2.1 2 (by omega)
              have b0 := part_ok HI.out.2.1 e0
              have b1 := part_ok HI.out.2.1 e1
              have b2 := part_ok HI.out.2.1 e2
              clear e0 e1 e2
              have hrow := HB.out.1
              obtain ⟨A9', c9', hv9, -, hA9⟩ := own_form hrow
              injection hv9 with q1 q2 q3
              rw [← q1] at hA9
              obtain ⟨g9, rfl, hg9, hg9l⟩ := hA9 (by omega)
              clear q1 q2 q3 hA9
              obtain ⟨p, hp⟩ : ∃ p : Nat → List Nat, p = cPt I := ⟨_, rfl⟩
              have hstr : strs I 3 = [.string (strB (p 0)), .string (strB (p 1)), .string (strB (p 2))] := by rw [hp]; rfl
              rw [hstr] at hrow
              rw [← hp] at b0 b1 b2
              clear hstr
              obtain ⟨l0, hl0⟩ : ∃ l, l = (p 0).length := ⟨_, rfl⟩
              obtain ⟨l1, hl1⟩ : ∃ l, l = (p 1).length := ⟨_, rfl⟩
              obtain ⟨l2, hl2⟩ : ∃ l, l = (p 2).length := ⟨_, rfl⟩
              rw [← hl0] at b0
              rw [← hl1] at b1
              rw [← hl2] at b2
              have HP := Lib.hid (And.intro hp (And.intro hl0.symm (And.intro hl1.symm (And.intro hl2.symm hrow))))
              have H0 := Lib.hid b0
              have H1 := Lib.hid b1
              have H2 := Lib.hid b2
              have c0 : wr.cell? ⟨g9, 0, none⟩ = some (.string (strB (p 0))) := by rw [hrow.cellAt 0 (by omega)]; rfl
              clear hp hl0 hl1 hl2 hrow b0 b1 b2
              have hcv := Lib.run_convert_string_bytes (P := Tryd.prog) wr 9 22 5 (strB (p 0)) Tryd.underlying9 Tryd.underlying22 Tryd.underlying5
              have hz : (strB (p 0)).size = l0 := by rw [strB_size]; exact HP.out.2.1
              rw [hz] at hcv
              have kb := bytesWorld_keeps wr 5 (strB (p 0))
              have sb := bw_sl wr HP.out.2.1 H0.out.1
              obtain ⟨W0, hW0⟩ : ∃ W, W = Lib.bytesWorld wr 5 (strB (p 0)) := ⟨_, rfl⟩
              rw [← hW0] at hcv kb sb
              have HW := Lib.hid (And.intro kb (sb.mono (E := fun k => k < W0.heap.size) (fun k hk => by subst hk; rw [hW0, Lib.bytesWorld_size]; omega)))
              clear kb sb hW0 hz
              go_wp2_with fail
              refine (D.rdecode_ok W0 _ l0 _ (fun k => k < W0.heap.size) (p 0) M HP.out.2.1 HW.out.2 H0.out.1 H0.out.2 hM4 (fun k h => h)).mono ?_
              rintro e w8 ⟨T0, d0, rfl, ho0, hk8⟩
              obtain ⟨y0, hy0⟩ : ∃ q, q = D.decL (p 0) M := ⟨_, rfl⟩
              rw [← hy0] at ho0 ⊢
              obtain ⟨ts, r0⟩ := y0
              rw [← decA_L hM4] at hy0
              simp only [] at ho0 ⊢
              have hts : r0 = 0 → ts.length = M := fun h => by
                subst h
                have hd := (D.decA_ok H0.out.1 hy0.symm).1
                omega
              have k8 := HW.out.1.trans' hk8
              have hr8 := own_keeps HP.out.2.2.2.2 k8 (fun _ _ h => h)
              have c1' : w8.cell? ⟨g9, 1, none⟩ = some (.string (strB (p 1))) := by rw [hr8.cellAt 1 (by omega)]; rfl
              have H8 := Lib.hid (And.intro ho0 (And.intro hy0 (And.intro hts (And.intro k8 hr8))))
              clear c0 hcv HW ho0 hy0 hts k8 hr8 hk8
              have hcv := Lib.run_convert_string_bytes (P := Tryd.prog) w8 9 22 5 (strB (p 1)) Tryd.underlying9 Tryd.underlying22 Tryd.underlying5
              have hz : (strB (p 1)).size = l1 := by rw [strB_size]; exact HP.out.2.2.1
              rw [hz] at hcv
              have kb := bytesWorld_keeps w8 5 (strB (p 1))
              have sb := bw_sl w8 HP.out.2.2.1 H1.out.1
              obtain ⟨W1, hW1⟩ : ∃ W, W = Lib.bytesWorld w8 5 (strB (p 1)) := ⟨_, rfl⟩
              rw [← hW1] at hcv kb sb
              have HW := Lib.hid (And.intro kb (sb.mono (E := fun k => k < W1.heap.size) (fun k hk => by subst hk; rw [hW1, Lib.bytesWorld_size]; omega)))
              clear kb sb hW1 hz
              go_wp2_with fail
              refine (X.rxdecode_ok W1 _ l1 _ (fun k => k < W1.heap.size) (p 1) M HP.out.2.2.1 HW.out.2 H1.out.1 H1.out.2 hM4 (fun k h => h)).mono ?_
              rintro e w9 ⟨vs, r1, T1, d1, rfl, ho1, hk9, hvs, hc1'⟩
              rw [← decXA_L hM4] at hc1'
              have hvl : r1 = 0 → X.decXA (p 1) M = some vs ∧ vs.length = M := fun h => by
                subst h
                rcases hc1' with ⟨-, h⟩ | ⟨⟨h, -⟩, -⟩
                · have := (X.decXA_ok H1.out.1 h).1
                  exact ⟨h, by omega⟩
                · exact absurd rfl h
              have hvn : r1 ≠ 0 → X.decXA (p 1) M = none := fun h => by
                rcases hc1' with ⟨h', -⟩ | ⟨-, h'⟩
                · exact absurd h' h
                · exact h'
              have k9 := HW.out.1.trans' hk9
              have hr9 := own_keeps H8.out.2.2.2.2 k9 (fun _ _ h => h)
              have c2' : w9.cell? ⟨g9, 2, none⟩ = some (.string (strB (p 2))) := by rw [hr9.cellAt 2 (by omega)]; rfl
              have H9 := Lib.hid (And.intro ho1 (And.intro hvs (And.intro hvl (And.intro hvn k9))))
              clear c1' hcv HW ho1 hvs hvl hvn k9 hr9 hk9 hc1'
              have hcv := Lib.run_convert_string_bytes (P := Tryd.prog) w9 9 22 5 (strB (p 2)) Tryd.underlying9 Tryd.underlying22 Tryd.underlying5
              have hz : (strB (p 2)).size = l2 := by rw [strB_size]; exact HP.out.2.2.2.1
              rw [hz] at hcv
              have kb := bytesWorld_keeps w9 5 (strB (p 2))
              have sb := bw_sl w9 HP.out.2.2.2.1 H2.out.1
              obtain ⟨W2, hW2⟩ : ∃ W, W = Lib.bytesWorld w9 5 (strB (p 2)) := ⟨_, rfl⟩
              rw [← hW2] at hcv kb sb
              have HW := Lib.hid (And.intro kb (sb.mono (E := fun k => k < W2.heap.size) (fun k hk => by subst hk; rw [hW2, Lib.bytesWorld_size]; omega)))
              clear kb sb hW2 hz
              go_wp2_with fail
              refine (D.rdecode_ok W2 _ l2 _ (fun k => k < W2.heap.size) (p 2) M HP.out.2.2.2.1 HW.out.2 H2.out.1 H2.out.2 hM4 (fun k h => h)).mono ?_
              rintro e w10 ⟨T2, d2, rfl, ho2, hk10⟩
              obtain ⟨y2, hy2⟩ : ∃ q, q = D.decL (p 2) M := ⟨_, rfl⟩
              rw [← hy2] at ho2 ⊢
              obtain ⟨ss, r2⟩ := y2
              rw [← decA_L hM4] at hy2
              simp only [] at ho2 ⊢
              have hss : r2 = 0 → ss.length = M := fun h => by
                subst h
                have hd := (D.decA_ok H2.out.1 hy2.symm).1
                omega
              have k10 := HW.out.1.trans' hk10
              have r0' := own_keeps (own_keeps H8.out.1 H9.out.2.2.2.2 (fun _ _ h => h)) k10 (fun _ _ h => h)
              have r1' := own_keeps H9.out.1 k10 (fun _ _ h => h)
              have kk := (H5.out.2.trans' HB.out.2.1).trans' (H8.out.2.2.2.1.trans' (H9.out.2.2.2.2.trans' k10))
              have HG : Hid (D.decA (cPt (F.openI b) 0) ((V.vget (F.openI b)).1 : Nat) = (ts, r0) ∧ D.decA (cPt (F.openI b) 2) ((V.vget (F.openI b)).1 : Nat) = (ss, r2) ∧ (r1 = 0 → X.decXA (cPt (F.openI b) 1) ((V.vget (F.openI b)).1 : Nat) = some vs) ∧ (r1 ≠ 0 → X.decXA (cPt (F.openI b) 1) ((V.vget (F.openI b)).1 : Nat) = none)) := Lib.hid (by
                rw [← HI.out.1, ← HU.out.1, ← HP.out.1]
                exact ⟨H8.out.2.1.symm, hy2.symm, fun h => (H9.out.2.2.1 h).1, H9.out.2.2.2.1⟩)
              have HL := Lib.hid (And.intro H8.out.2.2.1 (And.intro (fun h => (H9.out.2.2.1 h).2) hss))
              have HR := Lib.hid (And.intro r0' (And.intro r1' (And.intro ho2 (And.intro kk H9.out.2.1))))
              clear c2' hcv HW ho2 hy2 hss k10 hk10 r0' r1' kk H8 H9
              by_cases hqz : q = I.length
              · have dz : ((q : Int) != (I.length : Int)) = false := by simp; omega
                by_cases z0 : r0 = 0
                · by_cases z1 : r1 = 0
                  · by_cases z2 : r2 = 0
                    · subst z0
                      subst z1
                      subst z2
                      have n0 := HL.out.1 rfl
                      have n1 := HL.out.2.1 rfl
                      have n2 := HL.out.2.2 rfl
                      have HPt := Lib.hid (show Parts b from ⟨HK.out.2.symm, HK.out.1.symm, by rw [← HI.out.1]; exact HU.out.2.2.symm, by rw [← HI.out.1, ← HU.out.1]; exact hM4, by rw [← HI.out.1]; exact HB.out.2.2.1, by rw [← HI.out.1, ← HB.out.2.2.2]; exact hqz⟩)
                      have s0' := row_i HR.out.1 rfl
                      have s1' := row_u HR.out.2.1 rfl
                      have s2' := row_i HR.out.2.2.1 rfl
                      rw [n0] at s0' ⊢
                      rw [n1] at s1' ⊢
                      rw [n2] at s2' ⊢
                      have HSs := Lib.hid (And.intro s0' (And.intro s1' s2'))
                      clear s0' s1' s2' n0 n1 n2
                      obtain ⟨f, hf⟩ : ∃ f, f = gP ts vs ss := ⟨_, rfl⟩
                      have HF := Lib.hid hf
                      clear hf
                      go_wp2_with fail
                      go_loopw [19, 20] (fun v i wr' => ∃ (k : Nat), k ≤ M ∧ i = .int .i64 k ∧ PtRow wr' w10.heap.size v (upP f k) ∧ Keeps (fun _ => False) w10 wr') (fun _ i _ => M - (intOf i).toNat)
                      case atStart => exact ⟨0, Nat.zero_le _, rfl, PtRow.nil _ _, Keeps.refl _ _⟩
                      case round =>
                        obtain ⟨k, hkM, rfl, hpr, hkk⟩ := hrel
                        obtain ⟨Av, cv, rfl, hcv⟩ := upP_form hpr
                        by_cases hlt : k < M
                        · obtain ⟨bt, ot, rfl, -, ct⟩ := HSs.out.1 (by omega)
                          obtain ⟨bv, ov, rfl, -, cvv⟩ := HSs.out.2.1 (by omega)
                          obtain ⟨bs, os_, rfl, -, cs⟩ := HSs.out.2.2 (by omega)
                          have ct : w10.cell? ⟨bt, ot + k, none⟩ = some (.int .i64 (ts.getD k 0)) := ct k hlt
                          have cvv : w10.cell? ⟨bv, ov + k, none⟩ = some (.int .u64 (vs.getD k 0 : Nat)) := cvv k hlt
                          have cs : w10.cell? ⟨bs, os_ + k, none⟩ = some (.int .i64 (ss.getD k 0)) := cs k hlt
                          have hfk : f k = ⟨ts.getD k 0, IntKind.i64.wrap (vs.getD k 0 : Nat), ss.getD k 0⟩ := by rw [HF.out]; rfl
                          generalize ts.getD k 0 = tv at ct hfk
                          obtain ⟨z, hz⟩ : ∃ z, z = IntKind.i64.wrap (vs.getD k 0 : Nat) := ⟨_, rfl⟩
                          rw [← hz] at hfk
                          generalize vs.getD k 0 = vv at cvv hz
                          generalize ss.getD k 0 = sv at cs hfk
                          have hz' := hz.symm
                          have old : ∀ {a : Addr} {u : Value}, w10.cell? a = some u → ∀ w', Keeps (fun _ => False) w10 w' → w'.cell? a = some u := fun {a u} h w' hb => (World.cell?_of_block (w := w10) (a := a) (hb.block a.block (World.block_lt_of_cell? w10 _ h) (fun h => h))).trans h
                          have HC := Lib.hid (show ∀ w', Keeps (fun _ => False) w10 w' → w'.cell? ⟨bt, ot + k, none⟩ = some (.int .i64 tv) ∧ w'.cell? ⟨bv, ov + k, none⟩ = some (.int .u64 (vv : Nat)) ∧ w'.cell? ⟨bs, os_ + k, none⟩ = some (.int .i64 sv) from fun w' hb => ⟨old ct w' hb, old cvv w' hb, old cs w' hb⟩)
                          have HX := Lib.hid (And.intro hpr (And.intro hkk hfk))
                          clear old ct cvv cs hpr hkk hfk hz
                          go_upto_region 25 with (fail)
                          have hS : (fun w' => Keeps (fun _ => False) w10 w') (_) := HX.out.2.1.drew
                          refine reg_start (fun w' => Keeps (fun _ => False) w10 w') (by kernel_rfl) hS ?_
                          refine reg_take (i := 0) (v := ?_) rfl (by kernel_rfl) (by kernel_rfl) (by kernel_rfl) (fun _ _ _ h => h) (Or.inl ⟨by kernel_rfl, ?_⟩) hS ?_
                          rotate_left
                          · (intro w' hSw; obtain ⟨t0, t1, t2⟩ := HC.out w' hSw; go_simp <;> with_reducible rfl)
                          try simp only [List.getElem_toArray, List.getElem_cons_succ, List.getElem_cons_zero, Act.put, List.setIfInBounds_toArray, List.set_cons_zero, List.set_cons_succ]
                          refine reg_take (i := 1) (v := ?_) rfl (by kernel_rfl) (by kernel_rfl) (by kernel_rfl) (fun _ _ _ h => h) (Or.inl ⟨by kernel_rfl, ?_⟩) hS ?_
                          rotate_left
                          · (intro w' hSw; obtain ⟨t0, t1, t2⟩ := HC.out w' hSw; go_simp <;> with_reducible rfl)
                          try simp only [List.getElem_toArray, List.getElem_cons_succ, List.getElem_cons_zero, Act.put, List.setIfInBounds_toArray, List.set_cons_zero, List.set_cons_succ]
                          refine reg_take (i := 2) (v := ?_) rfl (by kernel_rfl) (by kernel_rfl) (by kernel_rfl) (fun _ _ _ h => h) (Or.inl ⟨by kernel_rfl, ?_⟩) hS ?_
                          rotate_left
                          · (intro w' hSw; obtain ⟨t0, t1, t2⟩ := HC.out w' hSw; go_simp <;> with_reducible rfl)
                          try simp only [List.getElem_toArray, List.getElem_cons_succ, List.getElem_cons_zero, Act.put, List.setIfInBounds_toArray, List.set_cons_zero, List.set_cons_succ]
                          refine reg_take (i := 3) (v := ?_) rfl (by kernel_rfl) (by kernel_rfl) (by kernel_rfl) (fun _ _ _ h => h) (Or.inl ⟨by kernel_rfl, ?_⟩) hS ?_
                          rotate_left
                          · (intro w' hSw; obtain ⟨t0, t1, t2⟩ := HC.out w' hSw; go_simp <;> with_reducible rfl)
                          try simp only [List.getElem_toArray, List.getElem_cons_succ, List.getElem_cons_zero, Act.put, List.setIfInBounds_toArray, List.set_cons_zero, List.set_cons_succ]
                          refine reg_take (i := 4) (v := ?_) rfl (by kernel_rfl) (by kernel_rfl) (by kernel_rfl) (fun _ _ _ h => h) (Or.inl ⟨by kernel_rfl, ?_⟩) hS ?_
                          rotate_left
                          · (intro w' hSw; obtain ⟨t0, t1, t2⟩ := HC.out w' hSw; go_simp <;> with_reducible rfl)
                          try simp only [List.getElem_toArray, List.getElem_cons_succ, List.getElem_cons_zero, Act.put, List.setIfInBounds_toArray, List.set_cons_zero, List.set_cons_succ]
                          refine reg_take (i := 5) (v := ?_) rfl (by kernel_rfl) (by kernel_rfl) (by kernel_rfl) (fun _ _ _ h => h) (Or.inl ⟨by kernel_rfl, ?_⟩) hS ?_
                          rotate_left
                          · (intro w' hSw; obtain ⟨t0, t1, t2⟩ := HC.out w' hSw; go_simp <;> with_reducible rfl)
                          try simp only [List.getElem_toArray, List.getElem_cons_succ, List.getElem_cons_zero, Act.put, List.setIfInBounds_toArray, List.set_cons_zero, List.set_cons_succ]
                          refine reg_take (i := 6) (v := ?_) rfl (by kernel_rfl) (by kernel_rfl) (by kernel_rfl) (fun _ _ _ h => h) (Or.inl ⟨by kernel_rfl, ?_⟩) hS ?_
                          rotate_left
                          · (intro w' hSw; obtain ⟨t0, t1, t2⟩ := HC.out w' hSw; go_simp <;> with_reducible rfl)
                          try simp only [List.getElem_toArray, List.getElem_cons_succ, List.getElem_cons_zero, Act.put, List.setIfInBounds_toArray, List.set_cons_zero, List.set_cons_succ]
                          refine reg_take (i := 7) (v := ?_) rfl (by kernel_rfl) (by kernel_rfl) (by kernel_rfl) (fun _ _ _ h => h) (Or.inl ⟨by kernel_rfl, ?_⟩) hS ?_
                          rotate_left
                          · (intro w' hSw; obtain ⟨t0, t1, t2⟩ := HC.out w' hSw; go_simp <;> with_reducible rfl)
                          try simp only [List.getElem_toArray, List.getElem_cons_succ, List.getElem_cons_zero, Act.put, List.setIfInBounds_toArray, List.set_cons_zero, List.set_cons_succ]
                          refine reg_take (i := 8) (v := ?_) rfl (by kernel_rfl) (by kernel_rfl) (by kernel_rfl) (fun _ _ _ h => h) (Or.inl ⟨by kernel_rfl, ?_⟩) hS ?_
                          rotate_left
                          · (intro w' hSw; obtain ⟨t0, t1, t2⟩ := HC.out w' hSw; go_simp <;> with_reducible rfl)
                          try simp only [List.getElem_toArray, List.getElem_cons_succ, List.getElem_cons_zero, Act.put, List.setIfInBounds_toArray, List.set_cons_zero, List.set_cons_succ]
                          refine reg_take (i := 9) (v := ?_) rfl (by kernel_rfl) (by kernel_rfl) (by kernel_rfl) (fun _ _ _ h => h) (Or.inl ⟨by kernel_rfl, ?_⟩) hS ?_
                          rotate_left
                          · (intro w' hSw; obtain ⟨t0, t1, t2⟩ := HC.out w' hSw; go_simp <;> with_reducible rfl)
                          try simp only [List.getElem_toArray, List.getElem_cons_succ, List.getElem_cons_zero, Act.put, List.setIfInBounds_toArray, List.set_cons_zero, List.set_cons_succ]
                          refine reg_take (i := 10) (v := ?_) rfl (by kernel_rfl) (by kernel_rfl) (by kernel_rfl) (fun _ _ _ h => h) (Or.inl ⟨by kernel_rfl, ?_⟩) hS ?_
                          rotate_left
                          · (intro w' hSw; obtain ⟨t0, t1, t2⟩ := HC.out w' hSw; go_simp <;> with_reducible rfl)
                          try simp only [List.getElem_toArray, List.getElem_cons_succ, List.getElem_cons_zero, Act.put, List.setIfInBounds_toArray, List.set_cons_zero, List.set_cons_succ]
                          refine reg_take (i := 11) (v := ?_) rfl (by kernel_rfl) (by kernel_rfl) (by kernel_rfl) (fun _ _ _ h => h) (Or.inl ⟨by kernel_rfl, ?_⟩) hS ?_
                          rotate_left
                          · (intro w' hSw; obtain ⟨t0, t1, t2⟩ := HC.out w' hSw; go_simp <;> with_reducible rfl)
                          try simp only [List.getElem_toArray, List.getElem_cons_succ, List.getElem_cons_zero, Act.put, List.setIfInBounds_toArray, List.set_cons_zero, List.set_cons_succ]
                          refine reg_take (i := 12) (v := ?_) rfl (by kernel_rfl) (by kernel_rfl) (by kernel_rfl) (fun _ _ _ h => h) (Or.inl ⟨by kernel_rfl, ?_⟩) hS ?_
                          rotate_left
                          · (intro w' hSw; obtain ⟨t0, t1, t2⟩ := HC.out w' hSw; go_simp <;> with_reducible rfl)
                          try simp only [List.getElem_toArray, List.getElem_cons_succ, List.getElem_cons_zero, Act.put, List.setIfInBounds_toArray, List.set_cons_zero, List.set_cons_succ]
                          refine reg_take (i := 13) (v := ?_) rfl (by kernel_rfl) (by kernel_rfl) (by kernel_rfl) (fun _ _ _ h => h) (Or.inl ⟨by kernel_rfl, ?_⟩) hS ?_
                          rotate_left
                          · (intro w' hSw; obtain ⟨t0, t1, t2⟩ := HC.out w' hSw; go_simp <;> with_reducible rfl)
                          try simp only [List.getElem_toArray, List.getElem_cons_succ, List.getElem_cons_zero, Act.put, List.setIfInBounds_toArray, List.set_cons_zero, List.set_cons_succ]
                          refine reg_take (i := 14) (v := ?_) rfl (by kernel_rfl) (by kernel_rfl) (by kernel_rfl) (fun _ _ _ h => h) (Or.inl ⟨by kernel_rfl, ?_⟩) hS ?_
                          rotate_left
                          · (intro w' hSw; obtain ⟨t0, t1, t2⟩ := HC.out w' hSw; go_simp <;> with_reducible rfl)
                          try simp only [List.getElem_toArray, List.getElem_cons_succ, List.getElem_cons_zero, Act.put, List.setIfInBounds_toArray, List.set_cons_zero, List.set_cons_succ]
                          have hp2 := HX.out.1.keeps (S := fun _ => False) ((Keeps.refl _ _).drew) (fun _ _ h => h)
                          generalize World.drew _ = wd at hS hp2 ⊢
                          have hk2 := hS.alloc (.cells #[.int .i64 tv, .int .i64 z, .int .i64 sv] 34)
                          have HD := Lib.hid (And.intro (hp2.keeps (S := fun _ => False) ((Keeps.refl _ wd).alloc (.cells #[.int .i64 tv, .int .i64 z, .int .i64 sv] 34)) (fun _ _ h => h)) (And.intro hk2 (Blk.fresh wd 34 #[.int .i64 tv, .int .i64 z, .int .i64 sv])))
                          clear hp2 hk2
                          refine reg_call (i := 15) rfl (by kernel_rfl) (fun K hK => ?_)
                          have HK := Lib.hid hK
                          clear hK
                          go_simp
                          go_wp2_with fail
                          refine HK.out.to (fun w' => Keeps (fun _ => False) w10 w') (fun _ h => h) (HD.out.2.1) ?_
                          clear HK hS
                          have hS : (fun w' => Keeps (fun _ => False) w10 w') (wd.alloc (.cells #[.int .i64 tv, .int .i64 z, .int .i64 sv] 34)) := HD.out.2.1
                          try simp only [List.getElem_toArray, List.getElem_cons_succ, List.getElem_cons_zero, Act.put, List.setIfInBounds_toArray, List.set_cons_zero, List.set_cons_succ]
                          refine reg_call (i := 16) rfl (by kernel_rfl) (fun K hK => ?_)
                          have HK := Lib.hid hK
                          clear hK
                          refine step_append_pt (p := ⟨tv, z, sv⟩) rfl (.tmp 118) (.tmp 133) rfl rfl rfl HD.out.1 HD.out.2.2 (by rw [upP_len]; omega) HD.out.2.1.size ?_
                          intro v5 w5 hr5 hg5
                          have hk5 : Keeps (fun _ => False) w10 w5 := HD.out.2.1.grown hg5 (fun q hq hlt => by have := (HD.out.1.ownBlock_lt q hq).1; omega)
                          have hr5' : PtRow w5 w10.heap.size v5 (upP f (k + 1)) := by
                            rw [upP_succ, HX.out.2.2]
                            exact hr5
                          have H5' := Lib.hid (And.intro hr5' hk5)
                          clear hr5 hr5' hg5 hk5
                          refine HK.out.to (fun w' => Keeps (fun _ => False) w10 w') (fun _ h => h) (H5'.out.2) ?_
                          clear HK hS
                          have hS : (fun w' => Keeps (fun _ => False) w10 w') (w5) := H5'.out.2
                          try simp only [List.getElem_toArray, List.getElem_cons_succ, List.getElem_cons_zero, Act.put, List.setIfInBounds_toArray, List.set_cons_zero, List.set_cons_succ]
                          refine reg_take (i := 17) (v := ?_) rfl (by kernel_rfl) (by kernel_rfl) (by kernel_rfl) (fun _ _ _ h => h) (Or.inl ⟨by kernel_rfl, ?_⟩) hS ?_
                          rotate_left
                          · (intro w' hSw; go_simp <;> with_reducible rfl)
                          try simp only [List.getElem_toArray, List.getElem_cons_succ, List.getElem_cons_zero, Act.put, List.setIfInBounds_toArray, List.set_cons_zero, List.set_cons_succ]
                          refine wpAnyH_done (by kernel_rfl) ?_ _
                          try simp only [List.getElem_toArray, List.getElem_cons_succ, List.getElem_cons_zero]
                          try simp only [List.getElem_toArray, List.getElem_cons_succ, List.getElem_cons_zero, Act.put, List.setIfInBounds_toArray, List.set_cons_zero, List.set_cons_succ]
                          clear hS
                          go_wp2_with fail
                          go_roundw
                          case rel => exact ⟨k + 1, by omega, by go_num, H5'.out.1, H5'.out.2⟩
                          case measure => simp [intOf]; omega
                        · obtain rfl : k = M := by omega
                          have HV := Lib.hid (And.intro (upP_sl hpr) (HR.out.2.2.2.1.trans' hkk))
                          have hsz := hkk.size
                          have HZ := Lib.hid (And.intro hsz hcv)
                          clear hpr hkk hsz hcv
                          go_wp2_with fail
                          refine (rcvalid_any Av k cv f _ _ HV.out.1 (by omega)).mono ?_
                          rintro e w11 ⟨rfl, hb11⟩
                          have k11 := HV.out.2.trans' (Keeps.of_below hb11)
                          have HY := Lib.hid (And.intro k11 (HV.out.1.below hb11))
                          clear hb11 k11
                          cases hv : colV f k with
                          | false =>
                            have HN := Lib.hid (not_valid HG.out.1 (HG.out.2.2.1 (by trivial)) HG.out.2.1 (by rw [← HF.out, ← HI.out.1, ← HU.out.1]; exact hv))
                            clear hv
                            go_wp2_with fail
                            go_ret2
                            exact cdec_no HN.out HY.out.1
                          | true =>
                            have henc := (enc_of_parts (fun x hx => F.mem_byte HS.out.2.2 x hx) HPt.out HG.out.1 (HG.out.2.2.1 (by trivial)) HG.out.2.1 HR.out.2.2.2.2 (openI_byte HS.out.2.2)).1
                            rw [← HF.out, ← HI.out.1, ← HU.out.1] at henc
                            have HE := Lib.hid (show IsEnc b f k from ⟨hv, henc⟩)
                            clear hv henc
                            go_wp2_with fail
                            go_ret2
                            exact ⟨HY.out.1, .inl ⟨Av, k, cv, f, rfl, HZ.out.2, HY.out.2.mono (fun x hx => Nat.le_trans HR.out.2.2.2.1.size hx), HE.out, fun j => by rw [HF.out]; show I64 (IntKind.i64.wrap _); unfold I64; rw [IntKind.wrap_i64]; omega⟩⟩
                    · subst z0
                      subst z1
                      have HN := Lib.hid (not_s (b := b) (by rw [HG.out.2.1]; exact z2))
                      have e2 : (r2 != 0) = true := by simp [z2]
                      go_wp2_with fail
                      go_ret2
                      exact cdec_no HN.out HR.out.2.2.2.1
                  · subst z0
                    have HN := Lib.hid (not_v (HG.out.2.2.2 z1))
                    have e1 : (r1 != 0) = true := by simp [z1]
                    go_wp2_with fail
                    go_ret2
                    exact cdec_no HN.out HR.out.2.2.2.1
                · have HN := Lib.hid (not_t (b := b) (by rw [HG.out.1]; exact z0))
                  have e0 : (r0 != 0) = true := by simp [z0]
                  go_wp2_with fail
                  go_ret2
                  exact cdec_no HN.out HR.out.2.2.2.1
              · have HN := Lib.hid (not_parts (b := b) (fun h => hqz (by rw [HB.out.2.2.2, HI.out.1]; exact h.z)))
                have dz : ((q : Int) != (I.length : Int)) = true := by simp; omega
                go_wp2_with fail
                go_ret2
                exact cdec_no HN.out HR.out.2.2.2.1
        · have HN := Lib.hid (not_parts (b := b) (fun h => hM4 (by rw [HU.out.1, HI.out.1]; exact h.m)))
          have d4 : decide ((4096 : Int) < (M : Int)) = true := by simp; omega
          rw [show ((0 : Nat) : Int) = 0 from rfl]
          go_wp2_with fail
          go_ret2
          exact cdec_no HN.out H5.out.2
      · have HN := Lib.hid (not_parts (b := b) (fun h => hR0 (by rw [HU.out.2.2, HI.out.1]; exact h.v)))
        have d0 : ((R : Int) != 0) = true := by simp; omega
        have d0' : ¬ (R : Int) = 0 := by omega
        go_wp2_with fail
        go_ret2
        exact cdec_no HN.out H5.out.2
    · have HN := Lib.hid (not_parts (b := b) (fun h => hK3 (by rw [HK.out.1]; exact h.k)))
      subst hE0
      have d3 : ((K : Int) != 3) = true := by simp; omega
      have d3' : ¬ (K : Int) = 3 := by omega
      go_wp2_with fail
      go_ret2
      exact cdec_no HN.out HT.out.2
  · have HN := Lib.hid (not_parts (b := b) (fun h => hE0 (by rw [HK.out.2]; exact h.e)))
    have d3 : (E != 0) = true := by simp [hE0]
    go_wp2_with fail
    go_ret2
    exact cdec_no HN.out HT.out.2
end Go.Proofs.YtboecnakndpgfaaDoor
namespace Go.Proofs.YtboecnakndpgfaaDoor
open Go.RowKit
set_option linter.unusedVariables false
set_option linter.unusedSimpArgs false
def SpanPost (b : List Nat) (w : World) (e : Ending) (w' : World) : Prop :=
  Keeps (fun _ => False) w w' ∧ ((∃ (n : Nat) (f : Nat → Pt), IsEnc b f n ∧ (∀ j, I64 (f j).v) ∧ e = .returned (.tuple #[.int .i64 (f 0).t, .int .i64 (f (n - 1)).t, .int .i64 (n : Nat), .int .i64 0])) ∨
    (NotEnc b ∧ e = .returned (.tuple #[.int .i64 0, .int .i64 0, .int .i64 0, .int .i64 24])))
set_option maxRecDepth 100000 in
set_option maxHeartbeats 2000000 in
theorem span_any (w : World) (A : Option Addr) (len c : Nat) (D0 : Nat → Prop) (b : List Nat) (hl : b.length = len) (hsl : Sl w D0 A len (byteC b)) (hb : ∀ j, b.getD j 0 < 256) (hlen : len ≤ 1048576) (hlc : len ≤ c) (hv : V.HErr w) :
    Calls Tryd.prog 10 #[.slice A len c] w (SpanPost b w) := by
  have HS := Lib.hid (And.intro hl (And.intro hsl (And.intro hb hv)))
  clear hl hsl hb hv
  go_enter Tryd.func10, Tryd.ntmps10
  go_wp2_with fail
  refine (cdecode_any _ _ _ _ D0 b HS.out.1 HS.out.2.1 HS.out.2.2.1 hlen hlc HS.out.2.2.2).mono ?_
  rintro e w1 ⟨hk1, ⟨A1, m, c1, f, rfl, hmc, hsl, henc, hi⟩ | ⟨rfl, hne⟩⟩
  · obtain ⟨hm, hm4⟩ := enc_n henc
    obtain ⟨k, hkm⟩ : ∃ k, k = m - 1 := ⟨_, rfl⟩
    have hklt : k < m := by omega
    have e1 : (m : Int) - 1 = (k : Int) := by omega
    have e2 : ((k : Int)).toNat = k := by omega
    have e3 : (0 : Int) ≤ (k : Int) := by omega
    have e4 : (k : Int) < (m : Int) := by omega
    have e5 : IntKind.i64.wrap (k : Int) = (k : Int) := IntWalk.i64_in _ (by omega)
    have e6 : IntKind.i64.wrap ((m : Int) - 1) = (k : Int) := by rw [e1]; exact e5
    have HKM := Lib.hid hkm
    clear hkm
    obtain ⟨bb, off, rfl, -, hc⟩ := hsl (by omega)
    have z0 : w1.cell? ⟨bb, off, none⟩ = some (.int .i64 (f 0).t) := by have := (hc 0 (by omega)).1; simpa using this
    have z1 : w1.cell? ⟨bb, off + k * 3, none⟩ = some (.int .i64 (f k).t) := (hc k (by omega)).1
    have HF := Lib.hid (And.intro henc (And.intro hi hk1))
    generalize ht0 : (f 0).t = t0 at z0
    generalize ht1 : (f k).t = t1 at z1
    have HT := Lib.hid (And.intro ht0 ht1)
    clear hsl henc hi hk1 hc ht0 ht1
    have old : ∀ {a : Addr} {u : Value}, w1.cell? a = some u → ∀ w', Keeps (fun _ => False) w1 w' → w'.cell? a = some u := fun {a u} h w' hb => (World.cell?_of_block (w := w1) (a := a) (hb.block a.block (World.block_lt_of_cell? w1 _ h) (fun h => h))).trans h
    have HC := Lib.hid (show ∀ w', Keeps (fun _ => False) w1 w' → w'.cell? ⟨bb, off, none⟩ = some (.int .i64 t0) ∧ w'.cell? ⟨bb, off + k * 3, none⟩ = some (.int .i64 t1) from fun w' hb => ⟨old z0 w' hb, old z1 w' hb⟩)
    clear old z0 z1
    go_upto_region 4 with (fail)
    have hS : (fun w' => Keeps (fun _ => False) w1 w') (w1.drew) := (Keeps.refl _ w1).drew
    refine reg_start (fun w' => Keeps (fun _ => False) w1 w') (by kernel_rfl) hS ?_
    refine reg_take (i := 0) (v := ?_) rfl (by kernel_rfl) (by kernel_rfl) (by kernel_rfl) (fun _ _ _ h => h) (Or.inl ⟨by kernel_rfl, ?_⟩) hS ?_
    rotate_left
    · (intro w' hSw; obtain ⟨t0, t1⟩ := HC.out w' hSw; go_simp <;> with_reducible rfl)
    try simp only [List.getElem_toArray, List.getElem_cons_succ, List.getElem_cons_zero, Act.put, List.setIfInBounds_toArray, List.set_cons_zero, List.set_cons_succ]
    refine reg_take (i := 1) (v := ?_) rfl (by kernel_rfl) (by kernel_rfl) (by kernel_rfl) (fun _ _ _ h => h) (Or.inl ⟨by kernel_rfl, ?_⟩) hS ?_
    rotate_left
    · (intro w' hSw; obtain ⟨t0, t1⟩ := HC.out w' hSw; go_simp <;> with_reducible rfl)
    try simp only [List.getElem_toArray, List.getElem_cons_succ, List.getElem_cons_zero, Act.put, List.setIfInBounds_toArray, List.set_cons_zero, List.set_cons_succ]
    refine reg_take (i := 2) (v := ?_) rfl (by kernel_rfl) (by kernel_rfl) (by kernel_rfl) (fun _ _ _ h => h) (Or.inl ⟨by kernel_rfl, ?_⟩) hS ?_
    rotate_left
    · (intro w' hSw; obtain ⟨t0, t1⟩ := HC.out w' hSw; go_simp <;> with_reducible rfl)
    try simp only [List.getElem_toArray, List.getElem_cons_succ, List.getElem_cons_zero, Act.put, List.setIfInBounds_toArray, List.set_cons_zero, List.set_cons_succ]
    refine reg_take (i := 3) (v := ?_) rfl (by kernel_rfl) (by kernel_rfl) (by kernel_rfl) (fun _ _ _ h => h) (Or.inl ⟨by kernel_rfl, ?_⟩) hS ?_
    rotate_left
    · (intro w' hSw; obtain ⟨t0, t1⟩ := HC.out w' hSw; go_simp <;> with_reducible rfl)
    try simp only [List.getElem_toArray, List.getElem_cons_succ, List.getElem_cons_zero, Act.put, List.setIfInBounds_toArray, List.set_cons_zero, List.set_cons_succ]
    refine reg_take (i := 4) (v := ?_) rfl (by kernel_rfl) (by kernel_rfl) (by kernel_rfl) (fun _ _ _ h => h) (Or.inl ⟨by kernel_rfl, ?_⟩) hS ?_
    rotate_left
    · (intro w' hSw; obtain ⟨t0, t1⟩ := HC.out w' hSw; go_simp <;> with_reducible rfl)
    try simp only [List.getElem_toArray, List.getElem_cons_succ, List.getElem_cons_zero, Act.put, List.setIfInBounds_toArray, List.set_cons_zero, List.set_cons_succ]
    refine reg_take (i := 5) (v := ?_) rfl (by kernel_rfl) (by kernel_rfl) (by kernel_rfl) (fun _ _ _ h => h) (Or.inl ⟨by kernel_rfl, ?_⟩) hS ?_
    rotate_left
    · (intro w' hSw; obtain ⟨t0, t1⟩ := HC.out w' hSw; go_simp <;> with_reducible rfl)
    try simp only [List.getElem_toArray, List.getElem_cons_succ, List.getElem_cons_zero, Act.put, List.setIfInBounds_toArray, List.set_cons_zero, List.set_cons_succ]
    refine reg_take (i := 6) (v := ?_) rfl (by kernel_rfl) (by kernel_rfl) (by kernel_rfl) (fun _ _ _ h => h) (Or.inl ⟨by kernel_rfl, ?_⟩) hS ?_
    rotate_left
    · (intro w' hSw; obtain ⟨t0, t1⟩ := HC.out w' hSw; go_simp <;> with_reducible rfl)
    try simp only [List.getElem_toArray, List.getElem_cons_succ, List.getElem_cons_zero, Act.put, List.setIfInBounds_toArray, List.set_cons_zero, List.set_cons_succ]
    refine reg_take (i := 7) (v := ?_) rfl (by kernel_rfl) (by kernel_rfl) (by kernel_rfl) (fun _ _ _ h => h) (Or.inl ⟨by kernel_rfl, ?_⟩) hS ?_
    rotate_left
    · (intro w' hSw; obtain ⟨t0, t1⟩ := HC.out w' hSw; go_simp <;> with_reducible rfl)
    try simp only [List.getElem_toArray, List.getElem_cons_succ, List.getElem_cons_zero, Act.put, List.setIfInBounds_toArray, List.set_cons_zero, List.set_cons_succ]
    refine reg_take (i := 8) (v := ?_) rfl (by kernel_rfl) (by kernel_rfl) (by kernel_rfl) (fun _ _ _ h => h) (Or.inl ⟨by kernel_rfl, ?_⟩) hS ?_
    rotate_left
    · (intro w' hSw; obtain ⟨t0, t1⟩ := HC.out w' hSw; go_simp <;> with_reducible rfl)
    try simp only [List.getElem_toArray, List.getElem_cons_succ, List.getElem_cons_zero, Act.put, List.setIfInBounds_toArray, List.set_cons_zero, List.set_cons_succ]
    refine reg_take (i := 9) (v := ?_) rfl (by kernel_rfl) (by kernel_rfl) (by kernel_rfl) (fun _ _ _ h => h) (Or.inl ⟨by kernel_rfl, ?_⟩) hS ?_
    rotate_left
    · (intro w' hSw; obtain ⟨t0, t1⟩ := HC.out w' hSw; go_simp <;> with_reducible rfl)
    try simp only [List.getElem_toArray, List.getElem_cons_succ, List.getElem_cons_zero, Act.put, List.setIfInBounds_toArray, List.set_cons_zero, List.set_cons_succ]
    refine reg_take (i := 10) (v := ?_) rfl (by kernel_rfl) (by kernel_rfl) (by kernel_rfl) (fun _ _ _ h => h) (Or.inl ⟨by kernel_rfl, ?_⟩) hS ?_
    rotate_left
    · (intro w' hSw; obtain ⟨t0, t1⟩ := HC.out w' hSw; go_simp <;> with_reducible rfl)
    try simp only [List.getElem_toArray, List.getElem_cons_succ, List.getElem_cons_zero, Act.put, List.setIfInBounds_toArray, List.set_cons_zero, List.set_cons_succ]
    refine reg_take (i := 11) (v := ?_) rfl (by kernel_rfl) (by kernel_rfl) (by kernel_rfl) (fun _ _ _ h => h) (Or.inl ⟨by kernel_rfl, ?_⟩) hS ?_
    rotate_left
    · (intro w' hSw; obtain ⟨t0, t1⟩ := HC.out w' hSw; go_simp <;> with_reducible rfl)
    try simp only [List.getElem_toArray, List.getElem_cons_succ, List.getElem_cons_zero, Act.put, List.setIfInBounds_toArray, List.set_cons_zero, List.set_cons_succ]
    refine reg_take (i := 12) (v := ?_) rfl (by kernel_rfl) (by kernel_rfl) (by kernel_rfl) (fun _ _ _ h => h) (Or.inl ⟨by kernel_rfl, ?_⟩) hS ?_
    rotate_left
    · (intro w' hSw; obtain ⟨t0, t1⟩ := HC.out w' hSw; go_simp <;> with_reducible rfl)
    try simp only [List.getElem_toArray, List.getElem_cons_succ, List.getElem_cons_zero, Act.put, List.setIfInBounds_toArray, List.set_cons_zero, List.set_cons_succ]
    refine reg_take (i := 13) (v := ?_) rfl (by kernel_rfl) (by kernel_rfl) (by kernel_rfl) (fun _ _ _ h => h) (Or.inl ⟨by kernel_rfl, ?_⟩) hS ?_
    rotate_left
    · (intro w' hSw; obtain ⟨t0, t1⟩ := HC.out w' hSw; go_simp <;> with_reducible rfl)
    try simp only [List.getElem_toArray, List.getElem_cons_succ, List.getElem_cons_zero, Act.put, List.setIfInBounds_toArray, List.set_cons_zero, List.set_cons_succ]
    refine reg_take (i := 14) (v := ?_) rfl (by kernel_rfl) (by kernel_rfl) (by kernel_rfl) (fun _ _ _ h => h) (Or.inl ⟨by kernel_rfl, ?_⟩) hS ?_
    rotate_left
    · (intro w' hSw; obtain ⟨t0, t1⟩ := HC.out w' hSw; go_simp <;> with_reducible rfl)
    try simp only [List.getElem_toArray, List.getElem_cons_succ, List.getElem_cons_zero, Act.put, List.setIfInBounds_toArray, List.set_cons_zero, List.set_cons_succ]
    refine reg_take (i := 15) (v := ?_) rfl (by kernel_rfl) (by kernel_rfl) (by kernel_rfl) (fun _ _ _ h => h) (Or.inl ⟨by kernel_rfl, ?_⟩) hS ?_
    rotate_left
    · (intro w' hSw; obtain ⟨t0, t1⟩ := HC.out w' hSw; go_simp <;> with_reducible rfl)
    try simp only [List.getElem_toArray, List.getElem_cons_succ, List.getElem_cons_zero, Act.put, List.setIfInBounds_toArray, List.set_cons_zero, List.set_cons_succ]
    refine reg_take (i := 16) (v := ?_) rfl (by kernel_rfl) (by kernel_rfl) (by kernel_rfl) (fun _ _ _ h => h) (Or.inl ⟨by kernel_rfl, ?_⟩) hS ?_
    rotate_left
    · (intro w' hSw; obtain ⟨t0, t1⟩ := HC.out w' hSw; go_simp <;> with_reducible rfl)
    try simp only [List.getElem_toArray, List.getElem_cons_succ, List.getElem_cons_zero, Act.put, List.setIfInBounds_toArray, List.set_cons_zero, List.set_cons_succ]
    refine wpAnyH_done (by kernel_rfl) ?_ _
    try simp only [List.getElem_toArray, List.getElem_cons_succ, List.getElem_cons_zero]
    try simp only [List.getElem_toArray, List.getElem_cons_succ, List.getElem_cons_zero, Act.put, List.setIfInBounds_toArray, List.set_cons_zero, List.set_cons_succ]
    have HP := Lib.hid (HF.out.2.2.trans' hS)
    clear hS
    go_wp2_with fail
    exact bodyPost_ret (v := .tuple #[.int .i64 t0, .int .i64 t1, .int .i64 (m : Nat), .int .i64 0]) (by simp [results, Tryd.results10, go_sem]) rfl ⟨HP.out, .inl ⟨m, f, HF.out.1, HF.out.2.1, by rw [HT.out.1, ← HKM.out, HT.out.2]⟩⟩
  · have HF := Lib.hid (And.intro hne hk1)
    clear hne hk1
    go_wp2_with fail
    exact bodyPost_ret (v := .tuple #[.int .i64 0, .int .i64 0, .int .i64 0, .int .i64 24]) (by simp [results, Tryd.results10, go_sem]) rfl ⟨HF.out.2, .inr ⟨HF.out.1, rfl⟩⟩
end Go.Proofs.YtboecnakndpgfaaDoor
namespace Go.Proofs.YtboecnakndpgfaaDoor
open Go.RowKit
set_option linter.unusedVariables false
set_option linter.unusedSimpArgs false
set_option maxRecDepth 100000 in
set_option maxHeartbeats 4000000 in
theorem columnDecodes_walk (a0 : Option Addr) (len0 cap0 : Nat) (z0 : List Int) (w : World) (w0 : IsRow .u8 w a0 len0 cap0 z0) (hv : V.HErr w) :
    Calls Tryd.prog 3 #[.slice a0 len0 cap0] w fun e w' => e = .returned (.bool true) ∧ Below w.heap.size w w' := by
  obtain ⟨n, hn⟩ : ∃ n, n = min len0 3000 := ⟨_, rfl⟩
  obtain ⟨bs, hxl, hxb, hxs⟩ := w0.bytes n (by omega)
  have l0 := w0.le
  clear w0
  obtain ⟨l0a, l0b, -⟩ := l0
  have HF := Lib.hid (And.intro hxl (And.intro hxs (And.intro hxb (And.intro hn hv))))
  have hn3 : n ≤ 3000 := by omega
  have hnc : n ≤ cap0 := by omega
  clear hxl hxb hxs hn hv
  go_enter Tryd.func3, Tryd.ntmps3
  go_upto_if 13 with (fail)
  go_cut [0] (fun s0 wx => s0 = .slice a0 n cap0 ∧ w = wx)
  case first =>
    by_cases h : 3000 < len0
    · obtain ⟨b, off, ha, -, -⟩ := HF.out.2.1 (by have := HF.out.2.2.2.1; omega)
      subst ha
      go_wp2_with fail
      go_meet
      have : n = 3000 := by have := HF.out.2.2.2.1; omega
      subst this
      exact ⟨rfl, rfl⟩
    · go_wp2_with fail
      go_meet
      have : n = len0 := by have := HF.out.2.2.2.1; omega
      subst this
      exact ⟨rfl, rfl⟩
  case rest =>
    obtain ⟨rfl, rfl⟩ := hcut
    go_wp2_with fail
    refine (cdecode_any _ _ _ _ _ bs HF.out.1 HF.out.2.1 HF.out.2.2.1 (by omega) hnc HF.out.2.2.2.2).mono ?_
    rintro e w1 ⟨hk1, ⟨A1, m, c1, f, rfl, hmc, hsl1, henc, hi⟩ | ⟨rfl, hne⟩⟩
    · have hm := enc_n henc
      have H1 := Lib.hid (And.intro hsl1 (And.intro henc (And.intro hi hk1)))
      clear hsl1 hk1 henc hi
      go_wp2_with fail
      refine (rcdecode_any _ _ _ _ _ bs HF.out.1 (HF.out.2.1.keeps H1.out.2.2.2 (fun _ _ h => h)) HF.out.2.2.1 (by omega) hnc).mono ?_
      rintro e w2 ⟨hk2, ⟨A2, m2, c2, f2, rfl, hmc2, hsl2, henc2, hi2⟩ | ⟨rfl, hne⟩⟩
      · obtain ⟨rfl, hfe⟩ := enc_inj H1.out.2.1 henc2 (fun j _ => H1.out.2.2.1 j) (fun j _ => hi2 j)
        have k2 := H1.out.2.2.2.trans' hk2
        have H2 := Lib.hid (And.intro hsl2 (And.intro hfe (And.intro k2 (H1.out.1.keeps hk2))))
        clear hsl2 hk2 henc2 hi2 hfe k2
        go_wp2_with fail
        refine (span_any _ _ _ _ _ bs HF.out.1 (HF.out.2.1.keeps H2.out.2.2.1 (fun _ _ h => h)) HF.out.2.2.1 (by omega) hnc (HF.out.2.2.2.2.below H2.out.2.2.1.to_below)).mono ?_
        rintro e w3 ⟨hk3, ⟨m3, f3, henc3, hi3, rfl⟩ | ⟨hne, rfl⟩⟩
        · obtain ⟨rfl, hfe3⟩ := enc_inj H1.out.2.1 henc3 (fun j _ => H1.out.2.2.1 j) (fun j _ => hi3 j)
          obtain ⟨k, hkm⟩ : ∃ k, k = m - 1 := ⟨_, rfl⟩
          have hklt : k < m := by omega
          rw [← hkm, ← hfe3 0 hm.1, ← hfe3 k hklt]
          have k3 := H2.out.2.2.1.trans' hk3
          have hs2 := H2.out.1.keeps hk3
          have hs := sameL_of (f := f) (g := f2) (n := m) rfl (fun j hj => H2.out.2.1 j hj)
          obtain ⟨bb, off, rfl, -, hc⟩ := hs2 hm.1
          have z0 : w3.cell? ⟨bb, off, none⟩ = some (.int .i64 (f 0).t) := by have := (hc 0 hm.1).1; rw [← H2.out.2.1 0 hm.1] at this; simpa using this
          have z1 : w3.cell? ⟨bb, off + k * 3, none⟩ = some (.int .i64 (f k).t) := by have := (hc k hklt).1; rw [← H2.out.2.1 k hklt] at this; exact this
          have H3 := Lib.hid (And.intro hs2 (And.intro hs (And.intro k3 (H2.out.2.2.2.keeps hk3))))
          generalize (f 0).t = t0 at z0 ⊢
          generalize (f k).t = t1 at z1 ⊢
          have old : ∀ {a : Addr} {u : Value}, w3.cell? a = some u → ∀ w', Below w3.heap.size w3 w' → w'.cell? a = some u := fun {a u} h w' hb => (World.cell?_of_block (w := w3) (a := a) (hb.block a.block (World.block_lt_of_cell? w3 _ h))).trans h
          have HC := Lib.hid (show ∀ w', Below w3.heap.size w3 w' → w'.cell? ⟨bb, off, none⟩ = some (.int .i64 t0) ∧ w'.cell? ⟨bb, off + k * 3, none⟩ = some (.int .i64 t1) from fun w' hb => ⟨old z0 w' hb, old z1 w' hb⟩)
          have e1 : (m : Int) - 1 = (k : Int) := by omega
          have e2 : ((k : Int)).toNat = k := by omega
          have e3 : (0 : Int) ≤ (k : Int) := by omega
          have e4 : (k : Int) < (m : Int) := by omega
          have e5 : IntKind.i64.wrap (k : Int) = (k : Int) := IntWalk.i64_in _ (by omega)
          have e6 : IntKind.i64.wrap ((m : Int) - 1) = (k : Int) := by rw [e1]; exact e5
          clear old z0 z1 hkm hc hs2 hs k3 hk3 henc3 hi3 hfe3
          go_wp2_with fail
          refine (same_any _ _ m m _ _ f f2 _ _ _ H3.out.2.2.2 H3.out.1 (by omega) (by omega)).mono ?_
          rintro e w4 ⟨rfl, hb4⟩
          rw [H3.out.2.1]
          obtain ⟨y0, y1⟩ := HC.out w4 hb4
          have H4 := Lib.hid (H3.out.2.2.1.trans' (Keeps.of_below hb4))
          clear hb4
          go_wp2_with fail
          go_ret
          exact ⟨by simp, H4.out.to_below⟩
        · exact absurd H1.out.2.1 (hne f m)
      · exact absurd H1.out.2.1 (hne f m)
    · have H1 := Lib.hid (And.intro hne hk1)
      clear hk1 hne
      go_wp2_with fail
      refine (rcdecode_any _ _ _ _ _ bs HF.out.1 (HF.out.2.1.keeps H1.out.2 (fun _ _ h => h)) HF.out.2.2.1 (by omega) hnc).mono ?_
      rintro e w2 ⟨hk2, ⟨A2, m2, c2, f2, rfl, hmc2, hsl2, henc2, hi2⟩ | ⟨rfl, hne⟩⟩
      · exact absurd henc2 (H1.out.1 f2 m2)
      · have H2 := Lib.hid (H1.out.2.trans' hk2)
        clear hk2 hne
        go_wp2_with fail
        refine (span_any _ _ _ _ _ bs HF.out.1 (HF.out.2.1.keeps H2.out (fun _ _ h => h)) HF.out.2.2.1 (by omega) hnc (HF.out.2.2.2.2.below H2.out.to_below)).mono ?_
        rintro e w3 ⟨hk3, ⟨m3, f3, henc3, hi3, rfl⟩ | ⟨hne, rfl⟩⟩
        · exact absurd henc3 (H1.out.1 f3 m3)
        · have H3 := Lib.hid (H2.out.trans' hk3)
          clear hk3 hne
          go_wp2_with fail
          refine (same_any none none 0 0 _ _ (fun _ => ⟨0, 0, 0⟩) (fun _ => ⟨0, 0, 0⟩) (fun _ => True) (fun _ => True) _ (SlP.nil _ _ _ _) (SlP.nil _ _ _ _) (by omega) (by omega)).mono ?_
          rintro e w4 ⟨rfl, hb4⟩
          rw [sameL_of rfl (fun j hj => absurd hj (Nat.not_lt_zero j))]
          have H4 := Lib.hid (H3.out.trans' (Keeps.of_below hb4))
          clear hb4
          go_wp2_with fail
          refine (cvalid_any _ 1 1 (fun _ => ⟨1, 0, 0⟩) _ _ (slp_one _ _ ⟨1, 0, 0⟩) (by omega)).mono ?_
          rintro e w5 ⟨rfl, hb5⟩
          rw [one_v]
          have H5 := Lib.hid ((H4.out.alloc _).trans' (Keeps.of_below hb5))
          clear hb5
          go_wp2_with fail
          go_ret
          exact ⟨rfl, H5.out.to_below⟩
end Go.Proofs.YtboecnakndpgfaaDoor
namespace Go.Proofs.YtboecnakndpgfaaDoor.columnDecodes
open Go.ChangeShapes Go.WideShapes Go.ChangeAt Go.RowKit
open Go.ChangeMaps (open_string shut_string)
set_option linter.unusedVariables false

theorem own : ownKnob Tryd.prog.godebug = none := by kernel_rfl
theorem laidOut : laidOutB Tryd.prog = true := by kernel_rfl

theorem errAt : Tryd.prog.globalNamed "errors.errorType" = some 0 := by kernel_rfl
theorem rtAt : (Tryd.prog.cutTypes.find? (·.1 == "internal/reflectlite.rtype")).map (·.2) = some 164 := by kernel_rfl
theorem oneRow : ((List.range Tryd.prog.types.size).filter fun t => Tryd.prog.rowNamed t [101, 114, 114, 111, 114]) = [125] := by kernel_rfl
/-- What the row's list gives: the variable's one cell. -/
theorem herr {W : World} (h : laidMetH Tryd.prog Rows.columnDecodesRow.laid W) : V.HErr W := by
  have h' : laidMet Tryd.prog [] W ∧ handlesMet Tryd.prog Rows.columnDecodesRow.laid W := h
  obtain ⟨name, u, ty, e1, e2, e3, e4, e5⟩ := h'.2 _ (List.mem_singleton.2 rfl)
  have en : name = [101, 114, 114, 111, 114] := (Option.some.inj e1).symm
  subst en
  obtain rfl := Option.some.inj (rtAt.symm.trans e2)
  have hm : ty ∈ (List.range Tryd.prog.types.size).filter fun t => Tryd.prog.rowNamed t [101, 114, 114, 111, 114] := List.mem_filter.2 ⟨List.mem_range.2 e3, e4⟩
  rw [oneRow] at hm
  obtain rfl := List.mem_singleton.1 hm
  have hh : typeHandle Tryd.prog 125 = .pointer (some ⟨1, 125, none⟩) := by kernel_rfl
  rw [hh] at e5
  have := World.var?_cell errAt e5 0
  simpa [V.HErr] using this
/-- A world that meets the condition: the settled one, the variable's cell laid. -/
noncomputable def laidWorld (os : Os) : World :=
  let w0 := World.holding Tryd.prog os ⟨#[], #[], []⟩
  { w0 with heap := w0.heap.modify 0 fun
      | .cells _ t frozen => .cells #[.iface 164 (.agg #[.pointer (some ⟨1, 125, none⟩)])] t frozen
      | o => o }
theorem laid_met (os : Os) (args : Array Value) : laidMetH Tryd.prog Rows.columnDecodesRow.laid ((laidWorld os).forCall (fun _ _ => 0) ⟨#[], args, []⟩).memory :=
  laidMetH_of_parts (laidMet_nil _ _) (by kernel_rfl)
theorem reads (os : Os) {H : Type} (enc : TypeId × Value → H) : ∃ places, DataW.whole enc Tryd.prog ((laidWorld os).forCall (fun _ _ => 0) ⟨#[], #[.slice none 0 0], []⟩).memory Tryd.f3.params.toList Rows.columnDecodesSpec.vars false #[.slice none 0 0].toList 8 = some ([.nil], [], places) :=
  ⟨[], by kernel_rfl⟩

set_option maxRecDepth 100000 in
theorem lifted (os : Os) (started : os.Started) (H : Type) (enc : TypeId × Value → H) (F : Stop.Interp) :
    ReturnsInHanded {} Tryd.checked os 3 .any ((OpenSpec.ofChange Rows.columnDecodesSpec).preRow enc Tryd.prog Tryd.f3 Rows.columnDecodesRow.domain false Rows.columnDecodesRow.laid) (((OpenSpec.ofChange Rows.columnDecodesSpec).at F).post enc Tryd.prog Tryd.f3 false true false false) := by
  obtain ⟨places, hx⟩ := reads os enc
  refine returnsInHanded_of_row (C := Tryd.checked) (s := OpenSpec.ofChange Rows.columnDecodesSpec) own started (by kernel_rfl) Tryd.func3
    (witness_row_at (enc := enc) (C := Tryd.checked) false (laidWorld os) #[.slice none 0 0] rfl (by kernel_rfl) (by kernel_rfl) (by kernel_rfl)
      (OpenSpec.preRow_of_cond 8 hx (by kernel_rfl) (fun k hk => by cases hk) (by kernel_rfl) (laid_met os _))) ?_
  intro W base args ds gs before hval0 hW hcnd _ hsz0 hL _ _
  have hErr := herr hL
  have hval : ∀ (j : Nat) t v, Tryd.f3.params[j]? = some t → args[j]? = some v → Value.okWide Tryd.prog W .any base t v := hval0
  have hW' := hW
  obtain ⟨p, q, hA0, hV, rfl, hfz, hnd⟩ := hW
  have hA : DataW.TrodAll enc Tryd.prog W 0 (fun _ => true) true Tryd.f3.params.toList args.toList ds p := hA0
  rw [Tryd.params3] at hA hval
  obtain ⟨v0, vs0, d0, ds0, p0, q0, hargs, rfl, rfl, h0, r0⟩ := trodAll_cons hA
  obtain ⟨rfl, rfl, rfl⟩ := trodAll_nil r0
  obtain rfl : args = #[v0] := by cases args; simp_all
  obtain ⟨rfl, rfl⟩ := trodVars_none hV
  obtain ⟨a0, len0, cap0, rfl⟩ := okWide_slice Tryd.underlying22 (hval 0 22 v0 rfl rfl)
  have k0 := h0
  have lt0 : ∀ x ∈ p0, x.block < W.heap.size := by obtain ⟨m, hm⟩ := k0; exact DataW.trod_lt m _ _ _ hm
  obtain ⟨z0, w0⟩ : ∃ zs, IsRow .u8 W a0 len0 cap0 zs := by
    obtain ⟨fuel, hf⟩ := h0
    rcases open_ints Tryd.underlying22 Tryd.underlying5 (by kernel_rfl) hf with ⟨hcs, _⟩ | ⟨x, l, c, zs, hcs, _, hl, hm, hz, _, hcell, hwz⟩
    · simp [Value.cells] at hcs
      obtain ⟨rfl, rfl, rfl⟩ := hcs
      exact ⟨[], .inl ⟨rfl, rfl, rfl, rfl⟩⟩
    · simp [Value.cells] at hcs
      obtain ⟨rfl, rfl, rfl⟩ := hcs
      exact ⟨zs, .inr ⟨_, rfl, hl, hm, by simpa using hz, hcell, hwz⟩⟩
  clear hA0 hval0
  refine (columnDecodes_walk a0 len0 cap0 z0 W w0 hErr).mono fun e W' ⟨he, bel⟩ => ?_
  subst he
  exact ⟨_, rfl, _, _, _, [], _, [], hW', trodAll_mk1 (shut_bool Tryd.underlying4 _), (trodAll_cons_mk (Below.trod laidOut (by kernel_rfl) (of_decide_eq_true (by kernel_rfl)) k0 bel lt0) trodAll_mk0), rfl, bel.frame _, fun h => by cases h⟩

theorem said : Rows.ColumnDecodesSaid :=
  OpenClaim.holds_of_cond 3 Tryd.f3 rfl rfl rfl rfl rfl rfl rfl ⟨rfl, rfl, rfl, rfl, rfl⟩ rfl rfl rfl rfl rfl (by kernel_rfl) Tryd.func3 (by kernel_rfl)
    (of_decide_eq_true (by kernel_rfl)) (by unfold Func.isWrapper; first | (rw [if_pos (by decide +kernel)]; kernel_rfl) | (rw [if_neg (by decide +kernel)]; exact ⟨rfl, rfl⟩))
    (fun os started H enc _ F => by rw [OpenClaim.pre_eq_preRow]; exact lifted os started H enc F)

/-- No parameter wants a stand-in; the program's own looks are off: what the card asks. -/
theorem plainArgs (f : FuncId) (fn : Func) (hf : Tryd.pinned.checked.prog.funcNamed "tidemill/tidemilllaw13.ColumnDecodes" = some f) (hfn : Tryd.pinned.checked.prog.funcs[f]? = some fn) :
    true = Tryd.pinned.checked.prog.looks [] ∧ ∀ (j : Nat) t, fn.params[j]? = some t → Tryd.pinned.checked.prog.wantsStandIn t = false := by
  obtain rfl : f = 3 := Option.some.inj ((show Tryd.prog.funcNamed "tidemill/tidemilllaw13.ColumnDecodes" = some 3 by kernel_rfl).symm.trans hf) |>.symm
  obtain rfl : fn = Tryd.f3 := (Option.some.inj (Tryd.func3.symm.trans hfn)).symm
  refine ⟨by kernel_rfl, fun j t ht => ?_⟩
  rw [Tryd.params3] at ht
  have hall : ([22] : List TypeId).all (fun t => Tryd.prog.wantsStandIn t == false) = true := by kernel_rfl
  have hm : t ∈ ([22] : List TypeId) := by simpa using Array.mem_of_getElem? ht
  have hr : Tryd.prog.wantsStandIn t = false := by simpa using List.all_eq_true.1 hall t hm
  exact hr

theorem proved : Rows.ColumnDecodesCardSaid :=
  Claim7.holds_tied_plain_at .later [] _ _ _ _ said (fun _ h => by cases h) (by kernel_rfl) (fun _ h => by cases h) columnDecodes_row_tie rfl ⟨rfl, rfl⟩ (by kernel_rfl) rfl plainArgs (by kernel_rfl)
#print axioms proved
end Go.Proofs.YtboecnakndpgfaaDoor.columnDecodes
