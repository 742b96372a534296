/-
  Points that are a block's, plainly; the contracts of column.Valid and tidemillref13.Valid. (Printed by mk.py.)
-/
import Derived.Test.YtboecnakndpgfaaRows
import Derived.Test.YtboecnakndpgfaaOwn
import Derived.Test.YtboecnakndpgfaaPt
import Derived.Test.YtboecnakndpgfaaReg
import Derived.WalkKit
import Derived.WalkSpells
import Derived.WalkLawsBesides
import Derived.Outline
import Derived.Deep.Cut
import Derived.Deep.QuietTactic
import Derived.BigQuiet
namespace Go.Proofs.Ytboecnakndpgfaa
open Go.RowKit
set_option linter.unusedVariables false
set_option linter.unusedSimpArgs false
/-- The last time ahead of point k. -/
def colT (f : Nat → Pt) : Nat → Int
  | 0 => -1152921504606846977
  | k + 1 => (f k).t
def colOk (f : Nat → Pt) (k : Nat) : Bool := decide (colT f k < (f k).t) && (decide ((f k).t ≤ 1152921504606846976) && (decide (0 ≤ (f k).s) && decide ((f k).s ≤ 1152921504606846976)))
def colAll (f : Nat → Pt) : Nat → Bool
  | 0 => true
  | k + 1 => colAll f k && colOk f k
def colV (f : Nat → Pt) (n : Nat) : Bool := colAll f n && (decide (0 < n) && decide (n ≤ 4096))
theorem colOk_iff (f : Nat → Pt) (k : Nat) : colOk f k = true ↔ colT f k < (f k).t ∧ (f k).t ≤ 1152921504606846976 ∧ 0 ≤ (f k).s ∧ (f k).s ≤ 1152921504606846976 := by
  unfold colOk; simp only [Bool.and_eq_true, decide_eq_true_eq]
theorem colAll_not {f : Nat → Pt} {k : Nat} (h : colOk f k = false) : ∀ n, k < n → colAll f n = false
  | 0, hk => by omega
  | n + 1, hk => by
    show (colAll f n && colOk f n) = false
    rcases Nat.lt_or_ge k n with h1 | h1
    · rw [colAll_not h n h1]; rfl
    · rw [show n = k by omega, h]; simp
theorem colAll_at {f : Nat → Pt} : ∀ n, colAll f n = true → ∀ k, k < n → colOk f k = true
  | 0, _, k, hk => by omega
  | n + 1, h, k, hk => by
    have h' : (colAll f n && colOk f n) = true := h
    rw [Bool.and_eq_true] at h'
    rcases Nat.lt_or_ge k n with h1 | h1
    · exact colAll_at n h'.1 k h1
    · rw [show k = n by omega]; exact h'.2
theorem colAll_congr {f g : Nat → Pt} : ∀ n, (∀ j, j < n → f j = g j) → colAll f n = colAll g n
  | 0, _ => rfl
  | n + 1, h => by
    show (colAll f n && colOk f n) = (colAll g n && colOk g n)
    rw [colAll_congr n (fun j hj => h j (by omega))]
    have e : colOk f n = colOk g n := by
      have e1 : colT f n = colT g n := by
        cases n with
        | zero => rfl
        | succ n => show (f n).t = (g n).t; rw [h n (by omega)]
      unfold colOk; rw [e1, h n (by omega)]
    rw [e]
theorem colV_congr {f g : Nat → Pt} (n : Nat) (h : ∀ j, j < n → f j = g j) : colV f n = colV g n := by unfold colV; rw [colAll_congr n h]
theorem colV_spec {f : Nat → Pt} {n : Nat} (h : colV f n = true) : colAll f n = true ∧ 0 < n ∧ n ≤ 4096 := by
  unfold colV at h
  simp only [Bool.and_eq_true, decide_eq_true_eq] at h
  exact ⟨h.1, h.2.1, h.2.2⟩
def BoolPost (b : Bool) (w : World) (e : Ending) (w' : World) : Prop := e = .returned (.bool b) ∧ Below w.heap.size w w'
set_option maxRecDepth 100000 in
set_option maxHeartbeats 4000000 in
theorem cvalid_any (A : Option Addr) (n c : Nat) (f : Nat → Pt) (D : Nat → Prop) (w : World) (hsl : SlP w D A n f) (hn : n ≤ 9223372036854775807) :
    Calls Try.prog 6 #[.slice A n c] w (BoolPost (colV f n) w) := by
  have HO := Lib.hid hsl
  clear hsl
  go_enter Try.func6, Try.ntmps6
  go_wp2_with fail
  go_loopw [3, 8] (fun s3 i wr => ∃ k : Nat, k ≤ n ∧ i = .int .i64 k ∧ s3 = .int .i64 (colT f k) ∧ colAll f k = true ∧ Own w [] wr) (fun _ i _ => n - (intOf i).toNat)
  case atStart => exact ⟨0, Nat.zero_le _, rfl, rfl, rfl, Own.start w⟩
  case round =>
    obtain ⟨k, hk, rfl, rfl, hall, hS⟩ := hrel
    have HA := Lib.hid hall
    clear hall
    by_cases hlt : k < n
    · obtain ⟨b, off, rfl, -, hc⟩ := (HO.out.below hS.bel) (by omega)
      obtain ⟨k0, k1, k2⟩ := hc k hlt
      clear hc
      have HK := Lib.hid (colOk_iff f k)
      have HN := Lib.hid (fun h => colAll_not (f := f) (k := k) h n hlt)
      have HC : Hid (colT f (k + 1) = (f k).t) := Lib.hid rfl
      have HQ : Hid (colAll f (k + 1) = (colAll f k && colOk f k)) := Lib.hid rfl
      generalize hp : f k = p at k0 k1 k2 HK HC
      generalize hl : colT f k = last at HK ⊢
      have HP := Lib.hid (And.intro hp hl)
      clear hp hl
      obtain ⟨y, hy⟩ : ∃ y, y = wr.heap.size := ⟨_, rfl⟩
      have HY := Lib.hid (And.intro hy (hS.alloc hy 30 #[.int .i64 p.t, .int .i64 p.v, .int .i64 p.s]))
      clear hy hS
      go_upto_region 5 with (fail)
      rw [← HY.out.1]
      have hS := HY.out.2
      clear k0 k1 k2 HY
      refine wp_gen (Own w [(y, 30, #[.int .i64 p.t, .int .i64 p.v, .int .i64 p.s])]) hS ?_
      clear hS
      intro w1 hS
      have z0_0 := hS.cell 0 0 rfl rfl; have z0_1 := hS.cell 0 1 rfl rfl; have z0_2 := hS.cell 0 2 rfl rfl
      have HS := Lib.hid hS
      clear hS
      by_cases h1 : last < p.t
      · have d1 : decide (p.t ≤ last) = false := by simp; omega
        by_cases h2 : p.t ≤ 1152921504606846976
        · have d2 : decide (1152921504606846976 < p.t) = false := by simp; omega
          by_cases h3 : 0 ≤ p.s
          · have d3 : decide (p.s < 0) = false := by simp; omega
            by_cases h4 : p.s ≤ 1152921504606846976
            · have d4 : decide (1152921504606846976 < p.s) = false := by simp; omega
              have HT := Lib.hid (show colAll f (k + 1) = true by rw [HQ.out, HA.out, HK.out.2 ⟨h1, h2, h3, h4⟩]; rfl)
              clear h1 h2 h3 h4
              go_wp2_with fail
              go_roundw
              case rel => exact ⟨k + 1, by omega, by go_num, by rw [HC.out], HT.out, HS.out.take 0⟩
              case measure => simp [intOf]; omega
            · have d4 : decide (1152921504606846976 < p.s) = true := by simp; omega
              have HF := Lib.hid (show colV f n = false by
                unfold colV
                rw [HN.out (by
                  cases h : colOk f k with
                  | false => rfl
                  | true => have := HK.out.1 h; omega)]
                rfl)
              go_wp2_with fail
              go_ret
              exact ⟨by rw [HF.out]; rfl, HS.out.bel⟩
          · have d3 : decide (p.s < 0) = true := by simp; omega
            have HF := Lib.hid (show colV f n = false by
              unfold colV
              rw [HN.out (by
                cases h : colOk f k with
                | false => rfl
                | true => have := HK.out.1 h; omega)]
              rfl)
            go_wp2_with fail
            go_ret
            exact ⟨by rw [HF.out]; rfl, HS.out.bel⟩
        · have d2 : decide (1152921504606846976 < p.t) = true := by simp; omega
          have HF := Lib.hid (show colV f n = false by
            unfold colV
            rw [HN.out (by
              cases h : colOk f k with
              | false => rfl
              | true => have := HK.out.1 h; omega)]
            rfl)
          go_wp2_with fail
          go_ret
          exact ⟨by rw [HF.out]; rfl, HS.out.bel⟩
      · have d1 : decide (p.t ≤ last) = true := by simp; omega
        have HF := Lib.hid (show colV f n = false by
          unfold colV
          rw [HN.out (by
            cases h : colOk f k with
            | false => rfl
            | true => have := HK.out.1 h; omega)]
          rfl)
        go_wp2_with fail
        go_ret
        exact ⟨by rw [HF.out]; rfl, HS.out.bel⟩
    · obtain rfl : k = n := by omega
      have HF := Lib.hid (show colV f k = (decide (0 < k) && decide (k ≤ 4096)) by unfold colV; rw [HA.out]; rfl)
      have HB := Lib.hid hS.bel
      clear hS
      by_cases h0 : 0 < k
      · by_cases h1 : k ≤ 4096
        · have HR := Lib.hid (show colV f k = true by rw [HF.out]; simp [h0, h1])
          have d : decide ((k : Int) ≤ 4096) = true := by simp; omega
          go_wp2_with fail
          go_ret
          exact ⟨by rw [HR.out]; first | rfl | (simp only [Array.getD_eq_getD_getElem?]; simp; omega), HB.out⟩
        · have HR := Lib.hid (show colV f k = false by rw [HF.out]; simp [h1])
          have d : decide ((k : Int) ≤ 4096) = false := by simp; omega
          go_wp2_with fail
          go_ret
          exact ⟨by rw [HR.out]; first | rfl | (simp only [Array.getD_eq_getD_getElem?]; simp; omega), HB.out⟩
      · obtain rfl : k = 0 := by omega
        go_wp2_with fail
        go_ret
        exact ⟨rfl, HB.out⟩
set_option maxRecDepth 100000 in
set_option maxHeartbeats 8000000 in
theorem rcvalid_any (A : Option Addr) (n c : Nat) (f : Nat → Pt) (D : Nat → Prop) (w : World) (hsl : SlP w D A n f) (hn : n ≤ 9223372036854775807) :
    Calls Try.prog 7 #[.slice A n c] w (BoolPost (colV f n) w) := by
  have HO := Lib.hid hsl
  clear hsl
  go_enter Try.func7, Try.ntmps7
  go_wp2_with fail
  go_loopw [3] (fun i wr => ∃ k : Nat, k ≤ n ∧ i = .int .i64 k ∧ colAll f k = true ∧ Own w [] wr) (fun i _ => n - (intOf i).toNat)
  case atStart => exact ⟨0, Nat.zero_le _, rfl, rfl, Own.start w⟩
  case round =>
    obtain ⟨k, hk, rfl, hall, hS⟩ := hrel
    have HA := Lib.hid hall
    clear hall
    by_cases hlt : k < n
    · obtain ⟨b, off, rfl, -, hc⟩ := (HO.out.below hS.bel) (by omega)
      obtain ⟨k0, k1, k2⟩ := hc k hlt
      have HK := Lib.hid (colOk_iff f k)
      have HN := Lib.hid (fun h => colAll_not (f := f) (k := k) h n hlt)
      have HQ : Hid (colAll f (k + 1) = (colAll f k && colOk f k)) := Lib.hid rfl
      have hcp := fun hk0 : 0 < k => (hc (k - 1) (by omega)).1
      have hlo : 0 < k → colT f k = (f (k - 1)).t ∧ -1152921504606846976 ≤ (f (k - 1)).t := fun hk0 => by
        obtain ⟨q, rfl⟩ : ∃ q, k = q + 1 := ⟨k - 1, by omega⟩
        refine ⟨rfl, ?_⟩
        show -1152921504606846976 ≤ (f q).t
        have h1 := (colOk_iff f q).1 (colAll_at _ HA.out q (by omega))
        have : -1152921504606846977 ≤ colT f q := by
          cases q with
          | zero => exact Int.le_refl _
          | succ q =>
            have h2 := (colOk_iff f q).1 (colAll_at _ HA.out q (by omega))
            show -1152921504606846977 ≤ (f q).t
            have h3 : ∀ m, m < q + 2 → -1152921504606846977 ≤ colT f m := by
              intro m
              induction m with
              | zero => intro _; exact Int.le_refl _
              | succ m ih =>
                intro hm
                have h4 := (colOk_iff f m).1 (colAll_at _ HA.out m (by omega))
                have h5 := ih (by omega)
                show -1152921504606846977 ≤ (f m).t
                omega
            have := h3 q (by omega)
            omega
        omega
      have hz : k = 0 → colT f k = -1152921504606846977 := fun h => by rw [h]; rfl
      generalize hp : f k = p at k0 k1 k2 HK
      generalize hq : f (k - 1) = pq at hcp hlo
      generalize hl : colT f k = last at HK hlo hz
      clear hp hl hq hc
      have HB := Lib.hid hS
      clear hS
      have eidx : 0 < k → ((k : Int) - 1) = ((k - 1 : Nat) : Int) := fun h => by omega
      by_cases h1 : p.t < -1152921504606846976
      · have d1 : decide (p.t < -1152921504606846976) = true := by simp; omega
        have h1x : ¬ last < p.t := by
          rcases Nat.eq_zero_or_pos k with h0 | h0
          · have := hz h0; omega
          · have := hlo h0; omega
        have HF := Lib.hid (show colV f n = false by
          unfold colV
          rw [HN.out (by
            cases h : colOk f k with
            | false => rfl
            | true => have := HK.out.1 h; omega)]
          rfl)
        clear hlo hz hcp eidx
        go_wp2_with fail
        go_quiet (fail)
        go_wp2_with fail
        go_ret
        exact ⟨by rw [HF.out]; rfl, (HB.out.drewN _).bel⟩
      · have d1 : decide (p.t < -1152921504606846976) = false := by simp; omega
        by_cases h2 : p.t ≤ 1152921504606846976
        · have d2 : decide (1152921504606846976 < p.t) = false := by simp; omega
          by_cases h3 : 0 ≤ p.s
          · have d3 : decide (p.s < 0) = false := by simp; omega
            by_cases h4 : p.s ≤ 1152921504606846976
            · have d4 : decide (1152921504606846976 < p.s) = false := by simp; omega
              rcases Nat.eq_zero_or_pos k with h0 | h0
              · have HT := Lib.hid (show colAll f (k + 1) = true by rw [HQ.out, HA.out, HK.out.2 ⟨by have := hz h0; omega, h2, h3, h4⟩]; rfl)
                have d0 : decide (0 < (k : Int)) = false := by simp; omega
                have d0' : ¬ 0 < k := by omega
                clear h0 h1 h2 h3 h4 hz hlo hcp eidx
                go_wp2_with fail
                go_quiet (fail)
                go_wp2_with fail
                go_roundw
                case rel => exact ⟨k + 1, by omega, by go_num, HT.out, HB.out.drewN _⟩
                case measure => simp [intOf]; omega
              · have cp := hcp h0
                have e1 := eidx h0
                have hl2 := (hlo h0).1
                obtain ⟨q, hqq⟩ : ∃ q, q = k - 1 := ⟨_, rfl⟩
                rw [← hqq] at cp e1
                have hqn : q < n := by omega
                have hq0 : (0 : Int) ≤ (q : Int) := by omega
                have hkw : IntKind.i64.wrap ((k : Int) - 1) = (q : Int) := by rw [IntKind.wrap_i64]; omega
                clear hqq hz hlo hcp eidx
                by_cases h5 : p.t ≤ pq.t
                · have d5 : decide (p.t ≤ pq.t) = true := by simp; omega
                  have HF := Lib.hid (show colV f n = false by
                    unfold colV
                    rw [HN.out (by
                      cases h : colOk f k with
                      | false => rfl
                      | true => have := HK.out.1 h; omega)]
                    rfl)
                  clear h1 h2 h3 h4 h5 hl2
                  go_wp2_with fail
                  go_quiet (fail)
                  go_wp2_with fail
                  go_ret
                  exact ⟨by rw [HF.out]; rfl, (HB.out.drewN _).bel⟩
                · have d5 : decide (p.t ≤ pq.t) = false := by simp; omega
                  have HT := Lib.hid (show colAll f (k + 1) = true by rw [HQ.out, HA.out, HK.out.2 ⟨by omega, h2, h3, h4⟩]; rfl)
                  clear h1 h2 h3 h4 h5 hl2
                  go_wp2_with fail
                  go_quiet (fail)
                  go_wp2_with fail
                  go_roundw
                  case rel => exact ⟨k + 1, by omega, by go_num, HT.out, HB.out.drewN _⟩
                  case measure => simp [intOf]; omega
            · have d4 : decide (1152921504606846976 < p.s) = true := by simp; omega
              have HF := Lib.hid (show colV f n = false by
                unfold colV
                rw [HN.out (by
                  cases h : colOk f k with
                  | false => rfl
                  | true => have := HK.out.1 h; omega)]
                rfl)
              clear hlo hz hcp eidx
              go_wp2_with fail
              go_quiet (fail)
              go_wp2_with fail
              go_ret
              exact ⟨by rw [HF.out]; rfl, (HB.out.drewN _).bel⟩
          · have d3 : decide (p.s < 0) = true := by simp; omega
            have HF := Lib.hid (show colV f n = false by
              unfold colV
              rw [HN.out (by
                cases h : colOk f k with
                | false => rfl
                | true => have := HK.out.1 h; omega)]
              rfl)
            clear hlo hz hcp eidx
            go_wp2_with fail
            go_quiet (fail)
            go_wp2_with fail
            go_ret
            exact ⟨by rw [HF.out]; rfl, (HB.out.drewN _).bel⟩
        · have d2 : decide (1152921504606846976 < p.t) = true := by simp; omega
          have HF := Lib.hid (show colV f n = false by
            unfold colV
            rw [HN.out (by
              cases h : colOk f k with
              | false => rfl
              | true => have := HK.out.1 h; omega)]
            rfl)
          clear hlo hz hcp eidx
          go_wp2_with fail
          go_quiet (fail)
          go_wp2_with fail
          go_ret
          exact ⟨by rw [HF.out]; rfl, (HB.out.drewN _).bel⟩
    · obtain rfl : k = n := by omega
      have HF := Lib.hid (show colV f k = (decide (0 < k) && decide (k ≤ 4096)) by unfold colV; rw [HA.out]; rfl)
      have HB := Lib.hid hS.bel
      clear hS
      by_cases h0 : 0 < k
      · by_cases h1 : k ≤ 4096
        · have HR := Lib.hid (show colV f k = true by rw [HF.out]; simp [h0, h1])
          have d : decide ((k : Int) ≤ 4096) = true := by simp; omega
          have d0 : decide ((1 : Int) ≤ (k : Int)) = true := by simp; omega
          have d0' : 1 ≤ k := h0
          go_wp2_with fail
          go_ret
          exact ⟨by rw [HR.out]; first | rfl | (simp only [Array.getD_eq_getD_getElem?]; simp; omega), HB.out⟩
        · have HR := Lib.hid (show colV f k = false by rw [HF.out]; simp [h1])
          have d : decide ((k : Int) ≤ 4096) = false := by simp; omega
          have d0' : 1 ≤ k := h0
          go_wp2_with fail
          go_ret
          exact ⟨by rw [HR.out]; first | rfl | (simp only [Array.getD_eq_getD_getElem?]; simp; omega), HB.out⟩
      · obtain rfl : k = 0 := by omega
        go_wp2_with fail
        go_ret
        exact ⟨rfl, HB.out⟩
end Go.Proofs.Ytboecnakndpgfaa
