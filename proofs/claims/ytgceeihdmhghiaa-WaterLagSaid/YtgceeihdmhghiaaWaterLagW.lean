/-
  The walk of the law WaterLag. (Printed by mk.py.)
-/
import Derived.Test.YtgceeihdmhghiaaWaterRisesW
namespace Go.Proofs.Ytgceeihdmhghiaa
open Go.RowKit
set_option linter.unusedVariables false
set_option linter.unusedSimpArgs false
def lastV (f : Nat → Int) : Nat → Int
  | 0 => -1
  | k + 1 => max (lastV f k) (f k)
theorem lastV_mx (f : Nat → Int) (hf : ∀ j, 0 ≤ f j) (k : Nat) : lastV f (k + 1) = mxf f (k + 1) := by
  induction k with
  | zero => show max (-1) (f 0) = max 0 (f 0); have := hf 0; omega
  | succ k ih => show max (lastV f (k + 1)) (f (k + 1)) = max (mxf f (k + 1)) (f (k + 1)); rw [ih]
def lastR (f : Nat → Int) (k : Nat) : Prop := -1 ≤ lastV f k ∧ lastV f k ≤ 65535
theorem lastV_range (f : Nat → Int) (hf : ∀ j, 0 ≤ f j ∧ f j ≤ 65535) (k : Nat) : -1 ≤ lastV f k ∧ lastV f k ≤ 65535 := by
  induction k with
  | zero => exact ⟨by show (-1 : Int) ≤ -1; omega, by show (-1 : Int) ≤ 65535; omega⟩
  | succ k ih => have := hf k; show -1 ≤ max (lastV f k) (f k) ∧ max (lastV f k) (f k) ≤ 65535; omega
theorem row_sl' {w : World} {base : Nat} {A : Option Addr} {n c : Nat} {f : Nat → Int} (h : w.ownsRow base 3 1 (.slice A n c) n ((List.range n).map fun q => Value.int .i64 (f q))) : Sl w (fun k => k < w.heap.size) A n (fun j => .int .i64 (f j)) := by
  refine (Sl.of_own h ?_).mono (fun k hk => (h.lt k hk).2)
  intro q u hu
  rw [List.getElem?_map] at hu
  rcases Nat.lt_or_ge q n with hq | hq
  · rw [List.getElem?_range hq] at hu
    simpa using hu.symm
  · rw [List.getElem?_eq_none (by simpa using hq)] at hu
    cases hu
theorem note_ok {s : Bool} {l g : Int} (w : World) (A : Option Addr) (len c : Nat) (f : Nat → Int) (hsl : Sl w (fun k => k < w.heap.size) A len (fun j => .int .i64 (f j))) (hlen : len ≤ 1048576) (hr : rightB s l g = true) (hf : ∀ j, -1152921504606846976 ≤ f j ∧ f j ≤ 1152921504606846976) :
    Calls Try.prog 14 #[.agg #[.bool s, .int .i64 l, .int .i64 g], .slice A len c] w (MarkPost w (noteS s l f len).1 (noteS s l f len).2 g 0) := by
  refine (note_any s l g w A len c f hsl hlen).mono ?_
  rintro e w' ⟨he, hb⟩
  rw [hr, if_pos (noteOk_true hf len)] at he
  exact ⟨he, hb⟩
/-- Two marks' cells, and a number's. -/
def MS2 (p q : Nat) (L ga gb : Int) (b o : Nat) (v : Int) (w : World) : Prop :=
  (w.cell? ⟨p, 0, none⟩ = some (.bool true) ∧ w.cell? ⟨p, 1, none⟩ = some (.int .i64 L) ∧ w.cell? ⟨p, 2, none⟩ = some (.int .i64 ga)) ∧
  (w.cell? ⟨q, 0, none⟩ = some (.bool true) ∧ w.cell? ⟨q, 1, none⟩ = some (.int .i64 L) ∧ w.cell? ⟨q, 2, none⟩ = some (.int .i64 gb)) ∧ w.cell? ⟨b, o, none⟩ = some (.int .i64 v)
set_option maxRecDepth 100000 in
set_option maxHeartbeats 8000000 in
theorem waterLag_walk (a0 a1 : Int) (a2 : Option Addr) (len2 cap2 : Nat) (z2 : List Int) (w : World) (w0 : (Lit.int .i64 a0).wf = true) (w1 : (Lit.int .i64 a1).wf = true) (w2 : IsRow .i64 w a2 len2 cap2 z2) :
    Calls Try.prog 6 #[.int .i64 a0, .int .i64 a1, .slice a2 len2 cap2] w fun e w' => e = .returned (.bool true) ∧ Below w.heap.size w w' := by
  obtain ⟨n, hn⟩ : ∃ n, n = min len2 100 := ⟨_, rfl⟩
  obtain ⟨xs, hxl, hxb, hxs⟩ := w2.ints n (by omega)
  have l1 := w2.le
  clear w0 w1 w2 hxb hxl
  obtain ⟨l1a, l1b, -⟩ := l1
  obtain ⟨g0, hg0⟩ : ∃ g : Nat, g = (a0 % 4096).toNat := ⟨_, rfl⟩
  obtain ⟨g1, hg1⟩ : ∃ g : Nat, g = (a1 % 4096).toNat := ⟨_, rfl⟩
  have eg0 : bits .and .i64 a0 4095 = (g0 : Int) := by rw [and_4095, hg0]
  have eg1 : bits .and .i64 a1 4095 = (g1 : Int) := by rw [and_4095, hg1]
  have hg05 : g0 < 4096 := by omega
  have hg15 : g1 < 4096 := by omega
  obtain ⟨f, hf⟩ : ∃ f : Nat → Int, f = fun j => ((xs.getD j 0 % 65536).toNat : Int) := ⟨_, rfl⟩
  have hfa : ∀ j, bits .and .i64 (xs.getD j 0) 65535 = f j := fun j => by rw [and_65535, hf]
  have hf0 : ∀ j, 0 ≤ f j ∧ f j ≤ 65535 := fun j => by rw [hf]; show 0 ≤ ((xs.getD j 0 % 65536).toNat : Int) ∧ ((xs.getD j 0 % 65536).toNat : Int) ≤ 65535; omega
  have hn1 : n ≤ 100 := by omega
  have HF := Lib.hid (And.intro hxs (And.intro hfa (And.intro hf0 hn)))
  clear hxs hfa hf0 hf hg0 hg1 hn
  have hmx : ∀ k, 0 ≤ mxf f k ∧ mxf f k ≤ 65535 := fun k => ⟨mxf_nonneg f k, mxf_le f k 65535 (by omega) (fun j _ => (HF.out.2.2.1 j).2)⟩
  have HMX := Lib.hid hmx
  clear hmx
  obtain ⟨ga, hga⟩ : ∃ g, g = min g0 g1 := ⟨_, rfl⟩
  obtain ⟨gb, hgb⟩ : ∃ g, g = max g0 g1 := ⟨_, rfl⟩
  have HG := Lib.hid (And.intro hga hgb)
  have hgab : ga ≤ gb := by omega
  have hga5 : ga < 4096 := by omega
  have hgb5 : gb < 4096 := by omega
  clear hga hgb
  go_enter Try.func6, Try.ntmps6
  go_upto_if 27 with (fail)
  clear eg0 eg1
  go_cut [0, 1] (fun s0 s1 wx => s0 = .int .i64 ga ∧ s1 = .int .i64 gb ∧ w = wx)
  case first =>
    by_cases h : g1 < g0
    · go_wp2_with fail
      go_meet
      have h1 : ga = g1 := by have := HG.out.1; omega
      have h2 : gb = g0 := by have := HG.out.2; omega
      subst h1
      subst h2
      exact ⟨rfl, rfl, rfl⟩
    · go_wp2_with fail
      go_meet
      have h1 : ga = g0 := by have := HG.out.1; omega
      have h2 : gb = g1 := by have := HG.out.2; omega
      subst h1
      subst h2
      exact ⟨rfl, rfl, rfl⟩
  case rest =>
    obtain ⟨rfl, rfl, rfl⟩ := hcut
    go_upto_if 32 with (fail)
    go_cut [2] (fun s2 wx => s2 = .slice a2 n cap2 ∧ w = wx)
    case first =>
      by_cases h : 100 < len2
      · obtain ⟨b, off, ha, -, -⟩ := HF.out.1 (by have := HF.out.2.2.2; omega)
        subst ha
        go_wp2_with fail
        go_meet
        have : n = 100 := by have := HF.out.2.2.2; omega
        subst this
        exact ⟨rfl, rfl⟩
      · go_wp2_with fail
        go_meet
        have : n = len2 := by have := HF.out.2.2.2; omega
        subst this
        exact ⟨rfl, rfl⟩
    case rest =>
      obtain ⟨rfl, rfl⟩ := hcut
      go_wp2_with fail
      go_loopw [7, 8, 9] (fun v la i wr => ∃ j : Nat, j ≤ n ∧ i = .int .i64 j ∧ la = .int .i64 (lastV f j) ∧ wr.ownsRow w.heap.size 3 1 v j ((List.range j).map fun q => Value.int .i64 (f q)) ∧ Below w.heap.size w wr)
        (fun _ _ i _ => n - (intOf i).toNat)
      case atStart => exact ⟨0, Nat.zero_le _, rfl, rfl, ⟨rfl, .inl ⟨rfl, rfl⟩⟩, Below.refl _ _⟩
      case round =>
        obtain ⟨j, hj, rfl, rfl, hor, hbel⟩ := hrel
        by_cases hlt : j < n
        · obtain ⟨b, off, hA, hD, hc⟩ := (HF.out.1.below hbel (fun _ h _ => h)) (by omega)
          have ck : wr.cell? ⟨b, off + j, none⟩ = some (.int .i64 (xs.getD j 0)) := hc j (by omega)
          subst hA
          have hblt : b < w.heap.size := hD
          have eft := HF.out.2.1 j
          obtain ⟨v, hv⟩ : ∃ v, v = xs.getD j 0 := ⟨_, rfl⟩
          obtain ⟨t, ht⟩ : ∃ t, t = f j := ⟨_, rfl⟩
          rw [← hv] at ck eft
          rw [← ht] at eft
          obtain ⟨la, hla⟩ : ∃ la, la = lastV f j := ⟨_, rfl⟩
          rw [← hla]
          have HJ := Lib.hid (And.intro hor (And.intro hbel (And.intro ht (And.intro hla (And.intro ck hblt)))))
          clear hor hbel ht hla hc hv hD hblt
          go_wp2_with (at_builtin; refine wpList_append_sl (f := fun _ => .int .i64 t) (D := fun k => k = wr.heap.size) (base := w.heap.size) (n := j) (xs := (List.range j).map fun q => Value.int .i64 (f q)) intElem rfl (.tmp 41) (.tmp 47) rfl rfl rfl ?hown ?hsl ?h1 ?h63 ?hby ?hbase ?_)
          case hown => exact HJ.out.1.alloc _
          case hsl => exact sl_one _ _ _
          case h1 => intro j _; rfl
          case h63 => unfold maxLen; omega
          case hby => omega
          case hbase => have := HJ.out.2.1.size; simp; omega
          intro v1 w4 hown1 hg1 hat1
          obtain ⟨hor, hbel, ht, hla, ck', hblt⟩ := HJ.out
          have hb1 : Below w.heap.size w w4 := (hbel.alloc hbel.size _).grown hg1 (by have := hbel.size; simp; omega) (fun q hq => (hor.lt q hq).1)
          have ck4 : w4.cell? ⟨b, off + j, none⟩ = some (.int .i64 v) := by
            have h1 : w.cell? ⟨b, off + j, none⟩ = some (.int .i64 v) := (hbel.cell (p := ⟨b, off + j, none⟩) hblt).symm.trans ck'
            exact (hb1.cell (p := ⟨b, off + j, none⟩) hblt).trans h1
          have H8 := Lib.hid (And.intro hown1 (And.intro hb1 (And.intro ht hla)))
          clear hown1 hg1 hat1 hb1 hor hbel ht hla ck ck' hblt
          by_cases hm : la < t
          · go_wp2_with fail
            go_roundw
            case rel =>
              obtain ⟨h1, h4, ht, hla⟩ := H8.out
              refine ⟨j + 1, by omega, by go_num, ?_, ?_, h4⟩
              · have e : lastV f (j + 1) = max la t := by rw [hla, ht]; rfl
                rw [e, show max la t = t by omega]
              · rw [List.range_succ, List.map_append]
                show w4.ownsRow w.heap.size 3 1 v1 (j + 1) (_ ++ [Value.int .i64 (f j)])
                rw [← ht]
                exact h1
            case measure => simp [intOf]; omega
          · go_wp2_with fail
            go_roundw
            case rel =>
              obtain ⟨h1, h4, ht, hla⟩ := H8.out
              refine ⟨j + 1, by omega, by go_num, ?_, ?_, h4⟩
              · have e : lastV f (j + 1) = max la t := by rw [hla, ht]; rfl
                rw [e, show max la t = la by omega]
              · rw [List.range_succ, List.map_append]
                show w4.ownsRow w.heap.size 3 1 v1 (j + 1) (_ ++ [Value.int .i64 (f j)])
                rw [← ht]
                exact h1
            case measure => simp [intOf]; omega
        · obtain rfl : j = n := by omega
          obtain ⟨Ak, ck, hvk, -, -⟩ := own_form hor
          subst hvk
          have hsl := row_sl' hor
          obtain ⟨wl, rfl⟩ : ∃ wl : World, wl = wr := ⟨_, rfl⟩
          have HL := Lib.hid (And.intro hsl hbel)
          clear hor hbel hj hlt hsl
          have hra : rightB false 0 (ga : Int) = true := rightB_mk (by omega) (by omega) (by omega) (by omega) (.inr rfl)
          have hrb : rightB false 0 (gb : Int) = true := rightB_mk (by omega) (by omega) (by omega) (by omega) (.inr rfl)
          have HRR := Lib.hid (And.intro hra hrb)
          clear hra hrb
          have hns : noteS false 0 f j = (decide (0 < j), mxf f j) := noteS_mx f (fun q => (HF.out.2.2.1 q).1) j
          have hft : ∀ q, -1152921504606846976 ≤ f q ∧ f q ≤ 1152921504606846976 := fun q => by have := HF.out.2.2.1 q; omega
          have HNS := Lib.hid (And.intro hns hft)
          clear hns hft
          obtain ⟨sn, hsn⟩ : ∃ s, s = decide (0 < j) := ⟨_, rfl⟩
          obtain ⟨L, hL⟩ : ∃ L, L = mxf f j := ⟨_, rfl⟩
          obtain ⟨la, hla⟩ : ∃ la, la = lastV f j := ⟨_, rfl⟩
          rw [← hla]
          have HSN := Lib.hid (And.intro hsn (And.intro hL hla))
          have hLr : 0 ≤ L ∧ L ≤ 65535 := by rw [hL]; exact HMX.out j
          have hlar : -1 ≤ la ∧ la ≤ 65535 := by rw [hla]; exact lastV_range f (fun q => HF.out.2.2.1 q) j
          clear hsn hL hla
          go_wp2_with fail
          refine (new_ok _ _ HRR.out.1).mono ?_
          rintro e w1 ⟨rfl, hb1⟩
          have H1 := Lib.hid hb1
          clear hb1
          go_wp2_with fail
          refine (new_ok _ _ HRR.out.2).mono ?_
          rintro e w2 ⟨rfl, hb2⟩
          obtain ⟨p, hp⟩ : ∃ p, p = w1.heap.size := ⟨_, rfl⟩
          have bp2 : Blk w2 p 32 #[.bool false, .int .i64 0, .int .i64 ga] := by rw [hp]; exact (Blk.fresh w1 _ _).below hb2 (by simp)
          have bl2 : Below wl.heap.size wl w2 := (H1.out.alloc H1.out.size _).trans (hb2.mono (by have := H1.out.size; simp; omega))
          have hpl : wl.heap.size ≤ p := by have := H1.out.size; omega
          rw [← hp]
          have c0 := bp2.cell 0
          have c1 := bp2.cell 1
          have c2 := bp2.cell 2
          simp at c0 c1 c2
          have hp2 : p < w2.heap.size := bp2.lt
          have H2 := Lib.hid (And.intro bp2 bl2)
          clear hb2 hp bp2 bl2
          go_wp2_with fail
          refine (note_ok _ _ _ _ f ((HL.out.1.below (H2.out.2.alloc H2.out.2.size (.cells #[.bool false, .int .i64 0, .int .i64 gb] 32)) (fun _ h _ => h)).mono (fun k hk => by have := H2.out.2.size; simp; omega)) (by omega) HRR.out.1 HNS.out.2).mono ?_
          rintro e w4 ⟨rfl, hb4⟩
          rw [HNS.out.1]
          obtain ⟨q, hq⟩ : ∃ q, q = w2.heap.size := ⟨_, rfl⟩
          have bp4 : Blk w4 p 32 #[.bool false, .int .i64 0, .int .i64 ga] := (H2.out.1.alloc _).below hb4 (by simp; omega)
          have bq4 : Blk w4 q 32 #[.bool false, .int .i64 0, .int .i64 gb] := by rw [hq]; exact (Blk.fresh w2 _ _).below hb4 (by simp)
          have bl4 : Below wl.heap.size wl w4 := (H2.out.2.alloc H2.out.2.size _).trans (hb4.mono (by have := H2.out.2.size; simp; omega))
          have hpq : p < q := by omega
          rw [← hq]
          have fp := bp4.frozen
          have d0 := bp4.cell 0
          have d1 := bp4.cell 1
          have d2 := bp4.cell 2
          simp at d0 d1 d2
          have H4 := Lib.hid (And.intro bp4 (And.intro bq4 bl4))
          clear hb4 hq bp4 bq4 bl4 c0 c1 c2 hp2
          simp only []
          rw [← HSN.out.1, ← HSN.out.2.1]
          go_upto_region 16 with (fail)
          obtain ⟨bp4, bq4, bl4⟩ := H4.out
          have bp5 := bp4.set3 (.bool sn) (.int .i64 L) (.int .i64 ga)
          have bq5 := ((bq4.far (p := ⟨p, 0, none⟩) (by show q ≠ p; omega) (.bool sn)).far (p := ⟨p, 1, none⟩) (by show q ≠ p; omega) (.int .i64 L)).far (p := ⟨p, 2, none⟩) (by show q ≠ p; omega) (.int .i64 ga)
          have bl5 := below_set3 (g := p) bl4 hpl (.bool sn) (.int .i64 L) (.int .i64 ga)
          generalize (((w4.setCell ⟨p, 0, none⟩ (.bool sn)).setCell ⟨p, 1, none⟩ (.int .i64 L)).setCell ⟨p, 2, none⟩ (.int .i64 ga)) = w5 at bp5 bq5 bl5 ⊢
          have c0 := bq5.cell 0
          have c1 := bq5.cell 1
          have c2 := bq5.cell 2
          simp at c0 c1 c2
          have H5 := Lib.hid (And.intro bp5 (And.intro bq5 bl5))
          clear bp4 bq4 bl4 bp5 bq5 bl5 fp d0 d1 d2
          go_wp2_with fail
          refine (note_ok _ _ _ _ f ((HL.out.1.below H5.out.2.2 (fun _ h _ => h)).mono (fun k hk => by have := H5.out.2.2.size; omega)) (by omega) HRR.out.2 HNS.out.2).mono ?_
          rintro e w6 ⟨rfl, hb6⟩
          rw [HNS.out.1]
          simp only []
          rw [← HSN.out.1, ← HSN.out.2.1]
          have bp6 := mark_blk_far H5.out.1 hb6
          have bq6 := mark_blk_far H5.out.2.1 hb6
          have bl6 := H5.out.2.2.trans (hb6.mono H5.out.2.2.size)
          have fq := bq6.frozen
          have d0 := bq6.cell 0
          have d1 := bq6.cell 1
          have d2 := bq6.cell 2
          simp at d0 d1 d2
          have H6 := Lib.hid (And.intro bp6 (And.intro bq6 bl6))
          clear hb6 bp6 bq6 bl6 c0 c1 c2
          go_upto_region 17 with (fail)
          obtain ⟨bp6, bq6, bl6⟩ := H6.out
          have bq7 := bq6.set3 (.bool sn) (.int .i64 L) (.int .i64 gb)
          have bp7 := ((bp6.far (p := ⟨q, 0, none⟩) (by show p ≠ q; omega) (.bool sn)).far (p := ⟨q, 1, none⟩) (by show p ≠ q; omega) (.int .i64 L)).far (p := ⟨q, 2, none⟩) (by show p ≠ q; omega) (.int .i64 gb)
          have bl7 := below_set3 (g := q) bl6 (by omega) (.bool sn) (.int .i64 L) (.int .i64 gb)
          generalize (((w6.setCell ⟨q, 0, none⟩ (.bool sn)).setCell ⟨q, 1, none⟩ (.int .i64 L)).setCell ⟨q, 2, none⟩ (.int .i64 gb)) = w7 at bp7 bq7 bl7 ⊢
          have c0 := bp7.cell 0
          have c1 := bp7.cell 1
          have c2 := bp7.cell 2
          simp at c0 c1 c2
          have H7 := Lib.hid (And.intro bp7 (And.intro bq7 bl7))
          clear bp6 bq6 bl6 bp7 bq7 bl7 fq d0 d1 d2
          go_wp2_with fail
          refine (at_any _ _ _ _).mono ?_
          rintro e w8 ⟨rfl, hb8⟩
          have bp8 := mark_blk_far H7.out.1 hb8
          have bq8 := mark_blk_far H7.out.2.1 hb8
          have bl8 := H7.out.2.2.trans (hb8.mono H7.out.2.2.size)
          have e0 := bq8.cell 0
          have e1 := bq8.cell 1
          have e2 := bq8.cell 2
          simp at e0 e1 e2
          have H8 := Lib.hid (And.intro bp8 (And.intro bq8 bl8))
          clear hb8 bp8 bq8 bl8 c0 c1 c2
          obtain ⟨vx, hvx⟩ : ∃ v, v = atV sn L ga := ⟨_, rfl⟩
          obtain ⟨ox, hox⟩ : ∃ v, v = atB sn L ga := ⟨_, rfl⟩
          rw [← hvx, ← hox]
          have HVX := Lib.hid (And.intro hvx hox)
          clear hvx hox
          go_wp2_with fail
          refine (at_any _ _ _ _).mono ?_
          rintro e w9 ⟨rfl, hb9⟩
          have bp9 := mark_blk_far H8.out.1 hb9
          have bq9 := mark_blk_far H8.out.2.1 hb9
          have bl9 := H8.out.2.2.trans (hb9.mono H8.out.2.2.size)
          have H9 := Lib.hid (And.intro bp9 (And.intro bq9 bl9))
          clear hb9 bp9 bq9 bl9 e0 e1 e2
          have c0 := H9.out.1.cell 0
          have c1 := H9.out.1.cell 1
          have c2 := H9.out.1.cell 2
          simp at c0 c1 c2
          rcases Nat.eq_zero_or_pos j with hj0 | hj0
          · have hs0 : sn = false := by rw [HSN.out.1, hj0]; rfl
            subst hs0
            have hx1 : vx = 0 := by rw [HVX.out.1, atV_none.1]
            have hx2 : ox = false := by rw [HVX.out.2, atV_none.2]
            subst hx1
            subst hx2
            rw [atV_none.1, atV_none.2]
            subst hj0
            rw [show ((0 : Nat) : Int) = 0 from rfl]
            go_wp2_with fail
            refine (closed_any _ _ _ _ _).mono ?_
            rintro e w10 ⟨rfl, hb10⟩
            rw [atV_none.2, Bool.false_and]
            have bp10 := mark_blk_far H9.out.1 hb10
            have bl10 := H9.out.2.2.trans (hb10.mono H9.out.2.2.size)
            have c0 := bp10.cell 0
            have c1 := bp10.cell 1
            have c2 := bp10.cell 2
            simp at c0 c1 c2
            have H10 := Lib.hid bl10
            clear hb10 bp10 bl10
            go_wp2_with fail
            refine (late_any _ _ _ _ _ _ _ (fun _ => -5) (sl_one' w10 _ _) (by omega)).mono ?_
            rintro e w11 ⟨rfl, hb11⟩
            rw [atV_none.2, late_none]
            have bl11 : Below wl.heap.size wl w11 := (H10.out.alloc H10.out.size _).trans (hb11.mono (by have := H10.out.size; simp; omega))
            have H11 := Lib.hid (HL.out.2.trans (bl11.mono HL.out.2.size))
            clear hb11 bl11
            go_wp2_with fail
            go_ret
            exact ⟨rfl, H11.out⟩
          · have hs1 : sn = true := by rw [HSN.out.1]; simp [hj0]
            subst hs1
            have hata := atV_ok (s := true) (l := L) (g := ga) (rightB_mk (by omega) (by omega) (by omega) (by omega) (.inl rfl)) rfl (by omega)
            have hatb := atV_ok (s := true) (l := L) (g := gb) (rightB_mk (by omega) (by omega) (by omega) (by omega) (.inl rfl)) rfl (by omega)
            have hx1 : vx = L - ga := by rw [HVX.out.1, hata.1]
            have hx2 : ox = true := by rw [HVX.out.2, hata.2]
            subst hx1
            subst hx2
            rw [hatb.1, hatb.2]
            have hlL : la = L := by
              rw [HSN.out.2.1, HSN.out.2.2]
              obtain ⟨m, rfl⟩ : ∃ m, j = m + 1 := ⟨j - 1, by omega⟩
              exact lastV_mx f (fun q => (HF.out.2.2.1 q).1) m
            subst hlL
            have HAT := Lib.hid (And.intro hata hatb)
            clear hata hatb
            have dj : ((j : Int) == 0) = false := by simp; omega
            go_wp2_with fail
            clear dj c0 c1 c2
            go_loopw [20] (fun i wr => ∃ m : Nat, m ≤ j ∧ i = .int .i64 m ∧ Blk wr p 32 #[.bool true, .int .i64 la, .int .i64 ga] ∧ Blk wr q 32 #[.bool true, .int .i64 la, .int .i64 gb] ∧ Below wl.heap.size wl wr)
              (fun i _ => j - (intOf i).toNat)
            case atStart => exact ⟨0, Nat.zero_le _, rfl, H9.out.1, H9.out.2.1, H9.out.2.2⟩
            case round =>
              obtain ⟨m, hm, rfl, hbp, hbq, hbl⟩ := hrel
              by_cases hlt : m < j
              · obtain ⟨b, off, hA, hD, hc⟩ := (HL.out.1.below hbl (fun _ h _ => h)) (by omega)
                have ck : wr.cell? ⟨b, off + m, none⟩ = some (.int .i64 (f m)) := hc m (by omega)
                subst hA
                have hblt : b < wr.heap.size := World.block_lt_of_cell? wr _ ck
                obtain ⟨t, ht⟩ : ∃ t, t = f m := ⟨_, rfl⟩
                rw [← ht] at ck
                have sof : ∀ w', Below wr.heap.size wr w' → MS2 p q la ga gb b (off + m) t w' := by
                  intro w' hb'
                  have b1 := mark_blk_far hbp hb'
                  have b2 := mark_blk_far hbq hb'
                  have c0 := b1.cell 0
                  have c1 := b1.cell 1
                  have c2 := b1.cell 2
                  have d0 := b2.cell 0
                  have d1 := b2.cell 1
                  have d2 := b2.cell 2
                  simp at c0 c1 c2 d0 d1 d2
                  exact ⟨⟨c0, c1, c2⟩, ⟨d0, d1, d2⟩, (hb'.cell (p := ⟨b, off + m, none⟩) hblt).trans ck⟩
                have HS := Lib.hid sof
                have HM := Lib.hid (And.intro hbp (And.intro hbq hbl))
                clear sof hbp hbq hbl hc hD ck hblt ht hm
                have hmj : (m : Int) < (j : Int) := by omega
                have hm0 : (0 : Int) ≤ (m : Int) := by omega
                have hmn : ((m : Int)).toNat = m := by omega
                go_wp2_with fail
                have b0 : Below wr.heap.size wr wr.drew := ⟨rfl, rfl, rfl, Nat.le_refl _, fun _ _ => rfl⟩
                have b1 := b0.alloc (Nat.le_refl _) (.cells #[.int .i64 t] 3)
                have HB0 := Lib.hid (And.intro b0 b1)
                clear b0 b1
                have hS : (MS2 p q la ga gb b (off + m) t) (wr.drew) := HS.out _ HB0.out.1
                refine reg_start (MS2 p q la ga gb b (off + m) t) (by kernel_rfl) hS ?_
                refine reg_take (i := 0) (v := ?_) rfl (by kernel_rfl) (by kernel_rfl) (by kernel_rfl) (fun _ _ _ h => h) (Or.inl ⟨by kernel_rfl, ?_⟩) hS ?_
                rotate_left
                · (intro w' hSw; obtain ⟨⟨x0, x1, x2⟩, ⟨y0, y1, y2⟩, z0⟩ := hSw; go_simp <;> with_reducible rfl)
                try simp only [Act.put, List.setIfInBounds_toArray, List.set_cons_zero, List.set_cons_succ]
                refine reg_take (i := 1) (v := ?_) rfl (by kernel_rfl) (by kernel_rfl) (by kernel_rfl) (fun _ _ _ h => h) (Or.inl ⟨by kernel_rfl, ?_⟩) hS ?_
                rotate_left
                · (intro w' hSw; obtain ⟨⟨x0, x1, x2⟩, ⟨y0, y1, y2⟩, z0⟩ := hSw; go_simp <;> with_reducible rfl)
                try simp only [Act.put, List.setIfInBounds_toArray, List.set_cons_zero, List.set_cons_succ]
                refine reg_take (i := 2) (v := ?_) rfl (by kernel_rfl) (by kernel_rfl) (by kernel_rfl) (fun _ _ _ h => h) (Or.inl ⟨by kernel_rfl, ?_⟩) hS ?_
                rotate_left
                · (intro w' hSw; obtain ⟨⟨x0, x1, x2⟩, ⟨y0, y1, y2⟩, z0⟩ := hSw; go_simp <;> with_reducible rfl)
                try simp only [Act.put, List.setIfInBounds_toArray, List.set_cons_zero, List.set_cons_succ]
                refine reg_take (i := 3) (v := ?_) rfl (by kernel_rfl) (by kernel_rfl) (by kernel_rfl) (fun _ _ _ h => h) (Or.inl ⟨by kernel_rfl, ?_⟩) hS ?_
                rotate_left
                · (intro w' hSw; obtain ⟨⟨x0, x1, x2⟩, ⟨y0, y1, y2⟩, z0⟩ := hSw; go_simp <;> with_reducible rfl)
                try simp only [Act.put, List.setIfInBounds_toArray, List.set_cons_zero, List.set_cons_succ]
                refine reg_take (i := 4) (v := ?_) rfl (by kernel_rfl) (by kernel_rfl) (by kernel_rfl) (fun _ _ _ h => h) (Or.inl ⟨by kernel_rfl, ?_⟩) hS ?_
                rotate_left
                · (intro w' hSw; obtain ⟨⟨x0, x1, x2⟩, ⟨y0, y1, y2⟩, z0⟩ := hSw; go_simp <;> with_reducible rfl)
                try simp only [Act.put, List.setIfInBounds_toArray, List.set_cons_zero, List.set_cons_succ]
                refine reg_call (i := 5) rfl (by kernel_rfl) (fun K hK => ?_)
                have HK := Lib.hid hK
                clear hK
                go_simp
                go_wp2_with fail
                refine HK.out.to (MS2 p q la ga gb b (off + m) t) (fun _ h => h) (HS.out _ HB0.out.2) ?_
                clear HK hS
                have hS : (MS2 p q la ga gb b (off + m) t) (wr.drew.alloc (.cells #[.int .i64 t] 3)) := HS.out _ HB0.out.2
                try simp only [Act.put, List.setIfInBounds_toArray, List.set_cons_zero, List.set_cons_succ]
                refine reg_call (i := 6) rfl (by kernel_rfl) (fun K hK => ?_)
                have HK := Lib.hid hK
                clear hK
                go_simp
                refine (late_any _ _ _ (wr.drew.alloc (.cells #[.int .i64 t] 3)) _ _ _ (fun _ => t) (sl_one' wr.drew _ _) (by omega)).mono ?_
                rintro e wb ⟨rfl, hb⟩
                rw [HAT.out.2.1, HAT.out.2.2, late_one]
                have hbb : Below wr.heap.size wr wb := HB0.out.2.trans (hb.mono (by simp))
                have HW := Lib.hid hbb
                clear hb hbb
                by_cases htv : t < la - gb
                · rw [if_pos htv]
                  go_wp2_with fail
                  refine HK.out.to (MS2 p q la ga gb b (off + m) t) (fun _ h => h) (HS.out _ HW.out) ?_
                  clear HK hS
                  have hS : (MS2 p q la ga gb b (off + m) t) (wb) := HS.out _ HW.out
                  try simp only [Act.put, List.setIfInBounds_toArray, List.set_cons_zero, List.set_cons_succ]
                  refine reg_take (i := 7) (v := ?_) rfl (by kernel_rfl) (by kernel_rfl) (by kernel_rfl) (fun _ _ _ h => h) (Or.inl ⟨by kernel_rfl, ?_⟩) hS ?_
                  rotate_left
                  · (intro w' hSw; obtain ⟨⟨x0, x1, x2⟩, ⟨y0, y1, y2⟩, z0⟩ := hSw; go_simp <;> with_reducible rfl)
                  try simp only [Act.put, List.setIfInBounds_toArray, List.set_cons_zero, List.set_cons_succ]
                  refine reg_take (i := 8) (v := ?_) rfl (by kernel_rfl) (by kernel_rfl) (by kernel_rfl) (fun _ _ _ h => h) (Or.inl ⟨by kernel_rfl, ?_⟩) hS ?_
                  rotate_left
                  · (intro w' hSw; obtain ⟨⟨x0, x1, x2⟩, ⟨y0, y1, y2⟩, z0⟩ := hSw; go_simp <;> with_reducible rfl)
                  try simp only [Act.put, List.setIfInBounds_toArray, List.set_cons_zero, List.set_cons_succ]
                  refine reg_take (i := 9) (v := ?_) rfl (by kernel_rfl) (by kernel_rfl) (by kernel_rfl) (fun _ _ _ h => h) (Or.inl ⟨by kernel_rfl, ?_⟩) hS ?_
                  rotate_left
                  · (intro w' hSw; obtain ⟨⟨x0, x1, x2⟩, ⟨y0, y1, y2⟩, z0⟩ := hSw; go_simp <;> with_reducible rfl)
                  try simp only [Act.put, List.setIfInBounds_toArray, List.set_cons_zero, List.set_cons_succ]
                  refine reg_take (i := 10) (v := ?_) rfl (by kernel_rfl) (by kernel_rfl) (by kernel_rfl) (fun _ _ _ h => h) (Or.inl ⟨by kernel_rfl, ?_⟩) hS ?_
                  rotate_left
                  · (intro w' hSw; obtain ⟨⟨x0, x1, x2⟩, ⟨y0, y1, y2⟩, z0⟩ := hSw; go_simp <;> with_reducible rfl)
                  try simp only [Act.put, List.setIfInBounds_toArray, List.set_cons_zero, List.set_cons_succ]
                  refine reg_take (i := 11) (v := ?_) rfl (by kernel_rfl) (by kernel_rfl) (by kernel_rfl) (fun _ _ _ h => h) (Or.inl ⟨by kernel_rfl, ?_⟩) hS ?_
                  rotate_left
                  · (intro w' hSw; obtain ⟨⟨x0, x1, x2⟩, ⟨y0, y1, y2⟩, z0⟩ := hSw; go_simp <;> with_reducible rfl)
                  try simp only [Act.put, List.setIfInBounds_toArray, List.set_cons_zero, List.set_cons_succ]
                  refine reg_take (i := 12) (v := ?_) rfl (by kernel_rfl) (by kernel_rfl) (by kernel_rfl) (fun _ _ _ h => h) (Or.inl ⟨by kernel_rfl, ?_⟩) hS ?_
                  rotate_left
                  · (intro w' hSw; obtain ⟨⟨x0, x1, x2⟩, ⟨y0, y1, y2⟩, z0⟩ := hSw; go_simp <;> with_reducible rfl)
                  try simp only [Act.put, List.setIfInBounds_toArray, List.set_cons_zero, List.set_cons_succ]
                  refine reg_take (i := 13) (v := ?_) rfl (by kernel_rfl) (by kernel_rfl) (by kernel_rfl) (fun _ _ _ h => h) (Or.inl ⟨by kernel_rfl, ?_⟩) hS ?_
                  rotate_left
                  · (intro w' hSw; obtain ⟨⟨x0, x1, x2⟩, ⟨y0, y1, y2⟩, z0⟩ := hSw; go_simp <;> with_reducible rfl)
                  try simp only [Act.put, List.setIfInBounds_toArray, List.set_cons_zero, List.set_cons_succ]
                  refine reg_call (i := 14) rfl (by kernel_rfl) (fun K hK => ?_)
                  have HK := Lib.hid hK
                  clear hK
                  go_simp
                  go_wp2_with fail
                  refine HK.out.to (MS2 p q la ga gb b (off + m) t) (fun _ h => h) (HS.out _ (HW.out.alloc HW.out.size (.cells #[.int .i64 t] 3))) ?_
                  clear HK hS
                  have hS : (MS2 p q la ga gb b (off + m) t) (wb.alloc (.cells #[.int .i64 t] 3)) := HS.out _ (HW.out.alloc HW.out.size (.cells #[.int .i64 t] 3))
                  try simp only [Act.put, List.setIfInBounds_toArray, List.set_cons_zero, List.set_cons_succ]
                  refine reg_call (i := 15) rfl (by kernel_rfl) (fun K hK => ?_)
                  have HK := Lib.hid hK
                  clear hK
                  go_simp
                  refine (late_any _ _ _ (wb.alloc (.cells #[.int .i64 t] 3)) _ _ _ (fun _ => t) (sl_one' wb _ _) (by omega)).mono ?_
                  rintro e wc ⟨rfl, hb⟩
                  rw [HAT.out.1.1, HAT.out.1.2, late_one, if_pos (by omega)]
                  have hbc : Below wr.heap.size wr wc := (HW.out.alloc HW.out.size _).trans (hb.mono (by have := HW.out.size; simp; omega))
                  have HX := Lib.hid hbc
                  clear hb hbc
                  go_wp2_with fail
                  refine HK.out.to (MS2 p q la ga gb b (off + m) t) (fun _ h => h) (HS.out _ HX.out) ?_
                  clear HK hS
                  have hS : (MS2 p q la ga gb b (off + m) t) (wc) := HS.out _ HX.out
                  try simp only [Act.put, List.setIfInBounds_toArray, List.set_cons_zero, List.set_cons_succ]
                  refine reg_take (i := 16) (v := ?_) rfl (by kernel_rfl) (by kernel_rfl) (by kernel_rfl) (fun _ _ _ h => h) (Or.inl ⟨by kernel_rfl, ?_⟩) hS ?_
                  rotate_left
                  · (intro w' hSw; go_simp <;> with_reducible rfl)
                  try simp only [Act.put, List.setIfInBounds_toArray, List.set_cons_zero, List.set_cons_succ]
                  refine reg_take (i := 17) (v := ?_) rfl (by kernel_rfl) (by kernel_rfl) (by kernel_rfl) (fun _ _ _ h => h) (Or.inl ⟨by kernel_rfl, ?_⟩) hS ?_
                  rotate_left
                  · (intro w' hSw; go_simp <;> with_reducible rfl)
                  try simp only [Act.put, List.setIfInBounds_toArray, List.set_cons_zero, List.set_cons_succ]
                  refine wpAnyH_done (by kernel_rfl) ?_ _
                  try simp only [List.getElem_toArray, List.getElem_cons_succ, List.getElem_cons_zero]
                  try simp only [Act.put, List.setIfInBounds_toArray, List.set_cons_zero, List.set_cons_succ]
                  go_wp2_with fail
                  go_roundw
                  case rel => exact ⟨m + 1, by omega, by go_num, mark_blk_far HM.out.1 HX.out, mark_blk_far HM.out.2.1 HX.out, HM.out.2.2.trans (HX.out.mono HM.out.2.2.size)⟩
                  case measure => simp [intOf]; omega
                · rw [if_neg htv]
                  go_wp2_with fail
                  refine HK.out.to (MS2 p q la ga gb b (off + m) t) (fun _ h => h) (HS.out _ HW.out) ?_
                  clear HK hS
                  have hS : (MS2 p q la ga gb b (off + m) t) (wb) := HS.out _ HW.out
                  try simp only [Act.put, List.setIfInBounds_toArray, List.set_cons_zero, List.set_cons_succ]
                  refine reg_take (i := 7) (v := ?_) rfl (by kernel_rfl) (by kernel_rfl) (by kernel_rfl) (fun _ _ _ h => h) (Or.inl ⟨by kernel_rfl, ?_⟩) hS ?_
                  rotate_left
                  · (intro w' hSw; go_simp <;> with_reducible rfl)
                  try simp only [Act.put, List.setIfInBounds_toArray, List.set_cons_zero, List.set_cons_succ]
                  refine reg_take (i := 8) (v := ?_) rfl (by kernel_rfl) (by kernel_rfl) (by kernel_rfl) (fun _ _ _ h => h) (Or.inl ⟨by kernel_rfl, ?_⟩) hS ?_
                  rotate_left
                  · (intro w' hSw; go_simp <;> with_reducible rfl)
                  try simp only [Act.put, List.setIfInBounds_toArray, List.set_cons_zero, List.set_cons_succ]
                  refine reg_take (i := 9) (v := undef) rfl (by kernel_rfl) (by kernel_rfl) (by kernel_rfl) (fun _ _ _ h => h) (Or.inr ⟨by kernel_rfl, rfl⟩) hS ?_
                  try simp only [Act.put, List.setIfInBounds_toArray, List.set_cons_zero, List.set_cons_succ]
                  refine reg_take (i := 10) (v := undef) rfl (by kernel_rfl) (by kernel_rfl) (by kernel_rfl) (fun _ _ _ h => h) (Or.inr ⟨by kernel_rfl, rfl⟩) hS ?_
                  try simp only [Act.put, List.setIfInBounds_toArray, List.set_cons_zero, List.set_cons_succ]
                  refine reg_take (i := 11) (v := undef) rfl (by kernel_rfl) (by kernel_rfl) (by kernel_rfl) (fun _ _ _ h => h) (Or.inr ⟨by kernel_rfl, rfl⟩) hS ?_
                  try simp only [Act.put, List.setIfInBounds_toArray, List.set_cons_zero, List.set_cons_succ]
                  refine reg_take (i := 12) (v := undef) rfl (by kernel_rfl) (by kernel_rfl) (by kernel_rfl) (fun _ _ _ h => h) (Or.inr ⟨by kernel_rfl, rfl⟩) hS ?_
                  try simp only [Act.put, List.setIfInBounds_toArray, List.set_cons_zero, List.set_cons_succ]
                  refine reg_take (i := 13) (v := undef) rfl (by kernel_rfl) (by kernel_rfl) (by kernel_rfl) (fun _ _ _ h => h) (Or.inr ⟨by kernel_rfl, rfl⟩) hS ?_
                  try simp only [Act.put, List.setIfInBounds_toArray, List.set_cons_zero, List.set_cons_succ]
                  refine reg_take (i := 14) (v := undef) rfl (by kernel_rfl) (by kernel_rfl) (by kernel_rfl) (fun _ _ _ h => h) (Or.inr ⟨by kernel_rfl, rfl⟩) hS ?_
                  try simp only [Act.put, List.setIfInBounds_toArray, List.set_cons_zero, List.set_cons_succ]
                  refine reg_take (i := 15) (v := undef) rfl (by kernel_rfl) (by kernel_rfl) (by kernel_rfl) (fun _ _ _ h => h) (Or.inr ⟨by kernel_rfl, rfl⟩) hS ?_
                  try simp only [Act.put, List.setIfInBounds_toArray, List.set_cons_zero, List.set_cons_succ]
                  refine reg_take (i := 16) (v := undef) rfl (by kernel_rfl) (by kernel_rfl) (by kernel_rfl) (fun _ _ _ h => h) (Or.inr ⟨by kernel_rfl, rfl⟩) hS ?_
                  try simp only [Act.put, List.setIfInBounds_toArray, List.set_cons_zero, List.set_cons_succ]
                  refine reg_take (i := 17) (v := ?_) rfl (by kernel_rfl) (by kernel_rfl) (by kernel_rfl) (fun _ _ _ h => h) (Or.inl ⟨by kernel_rfl, ?_⟩) hS ?_
                  rotate_left
                  · (intro w' hSw; go_simp <;> with_reducible rfl)
                  try simp only [Act.put, List.setIfInBounds_toArray, List.set_cons_zero, List.set_cons_succ]
                  refine wpAnyH_done (by kernel_rfl) ?_ _
                  try simp only [List.getElem_toArray, List.getElem_cons_succ, List.getElem_cons_zero]
                  try simp only [Act.put, List.setIfInBounds_toArray, List.set_cons_zero, List.set_cons_succ]
                  go_wp2_with fail
                  go_roundw
                  case rel => exact ⟨m + 1, by omega, by go_num, mark_blk_far HM.out.1 HW.out, mark_blk_far HM.out.2.1 HW.out, HM.out.2.2.trans (HW.out.mono HM.out.2.2.size)⟩
                  case measure => simp [intOf]; omega
              · obtain rfl : m = j := by omega
                have c0 := hbp.cell 0
                have c1 := hbp.cell 1
                have c2 := hbp.cell 2
                simp at c0 c1 c2
                have HM := Lib.hid (And.intro hbp hbl)
                clear hbp hbq hbl hm hlt
                go_wp2_with fail
                refine (closed_any _ _ _ _ _).mono ?_
                rintro e w10 ⟨rfl, hb10⟩
                rw [HAT.out.1.1, HAT.out.1.2, show (true && decide (la - (ga : Int) ≤ la - (ga : Int))) = true by simp]
                have bp10 := mark_blk_far HM.out.1 hb10
                have bl10 := HM.out.2.trans (hb10.mono HM.out.2.size)
                have c0 := bp10.cell 0
                have c1 := bp10.cell 1
                have c2 := bp10.cell 2
                simp at c0 c1 c2
                have H10 := Lib.hid (And.intro bp10 bl10)
                clear hb10 bp10 bl10
                go_wp2_with fail
                refine (closed_any _ _ _ _ _).mono ?_
                rintro e w11 ⟨rfl, hb11⟩
                rw [HAT.out.1.1, HAT.out.1.2, show (true && decide (la - (ga : Int) + 1 ≤ la - (ga : Int))) = false by simp; omega]
                have bp11 := mark_blk_far H10.out.1 hb11
                have bl11 := H10.out.2.trans (hb11.mono H10.out.2.size)
                have c0 := bp11.cell 0
                have c1 := bp11.cell 1
                have c2 := bp11.cell 2
                simp at c0 c1 c2
                have H11 := Lib.hid (And.intro bp11 bl11)
                clear hb11 bp11 bl11
                go_wp2_with fail
                refine (late_any _ _ _ _ _ _ _ (fun _ => la - (ga : Int)) (sl_one' w11 _ _) (by omega)).mono ?_
                rintro e w12 ⟨rfl, hb12⟩
                rw [HAT.out.1.1, HAT.out.1.2, late_one, if_neg (by omega)]
                have hb12' : Below w11.heap.size w11 w12 := ((Below.refl _ w11).alloc (Nat.le_refl _) _).trans (hb12.mono (by simp))
                have bp12 := mark_blk_far H11.out.1 hb12'
                have bl12 := H11.out.2.trans (hb12'.mono H11.out.2.size)
                have c0 := bp12.cell 0
                have c1 := bp12.cell 1
                have c2 := bp12.cell 2
                simp at c0 c1 c2
                have H12 := Lib.hid (And.intro bp12 bl12)
                clear hb12 hb12' bp12 bl12
                go_wp2_with fail
                refine (late_any _ _ _ _ _ _ _ (fun _ => la - (ga : Int) - 1) (sl_one' w12 _ _) (by omega)).mono ?_
                rintro e w13 ⟨rfl, hb13⟩
                rw [HAT.out.1.1, HAT.out.1.2, late_one, if_pos (by omega)]
                have hb13' : Below w12.heap.size w12 w13 := ((Below.refl _ w12).alloc (Nat.le_refl _) _).trans (hb13.mono (by simp))
                have bl13 := H12.out.2.trans (hb13'.mono H12.out.2.size)
                have H13 := Lib.hid (HL.out.2.trans (bl13.mono HL.out.2.size))
                clear hb13 hb13' bl13
                go_wp2_with fail
                go_ret
                exact ⟨rfl, H13.out⟩
end Go.Proofs.Ytgceeihdmhghiaa
