/-
  Contracts of package water: isTime, right, New, At.
-/
import Derived.Test.YtgceeihdmhghiaaDoorRows
import Derived.Test.YtgceeihdmhghiaaDoorArgs
import Derived.WalkKit
import Derived.WalkSpells
import Derived.WalkLawsBesides
import Derived.Outline
import Derived.Lib.Hide
namespace Go.Proofs.YtgceeihdmhghiaaDoor
open Go.RowKit
set_option linter.unusedVariables false
set_option linter.unusedSimpArgs false
def isTimeB (t : Int) : Bool := decide (-1152921504606846976 ≤ t) && decide (t ≤ 1152921504606846976)
def rightB (s : Bool) (l g : Int) : Bool := decide (0 ≤ g) && (isTimeB g && (isTimeB l && (s || decide (l = 0))))
set_option maxHeartbeats 400000 in
theorem isTime_any (t : Int) (w : World) : Calls Tryd.prog 29 #[.int .i64 t] w fun e w' => e = .returned (.bool (isTimeB t)) ∧ w = w' := by
  by_cases h1 : -1152921504606846976 ≤ t
  · by_cases h2 : t ≤ 1152921504606846976
    · have e : isTimeB t = true := by unfold isTimeB; simp [h1, h2]
      rw [e]
      clear e
      go_enter Tryd.func29, Tryd.ntmps29
      go_wp2
      go_ret
      exact ⟨rfl, rfl⟩
    · have e : isTimeB t = false := by unfold isTimeB; simp [h2]
      rw [e]
      clear e
      go_enter Tryd.func29, Tryd.ntmps29
      go_wp2
      go_ret
      exact ⟨rfl, rfl⟩
  · have e : isTimeB t = false := by unfold isTimeB; simp [h1]
    rw [e]
    clear e
    go_enter Tryd.func29, Tryd.ntmps29
    go_wp2
    go_ret
    exact ⟨rfl, rfl⟩
set_option maxRecDepth 100000 in
set_option maxHeartbeats 800000 in
theorem right_any (s : Bool) (l g : Int) (w : World) : Calls Tryd.prog 23 #[.agg #[.bool s, .int .i64 l, .int .i64 g]] w fun e w' => e = .returned (.bool (rightB s l g)) ∧ Below w.heap.size w w' := by
  have bel := (((Below.refl w.heap.size w).alloc (Nat.le_refl _) (.cells #[.bool s, .int .i64 l, .int .i64 g] 37)).alloc (by simp) (.cells #[.bool false, .int .i64 0, .int .i64 g] 37))
  have HB := Lib.hid bel
  clear bel
  by_cases hg : 0 ≤ g
  · obtain ⟨b1, h1⟩ : ∃ b, b = isTimeB g := ⟨_, rfl⟩
    obtain ⟨b2, h2⟩ : ∃ b, b = isTimeB l := ⟨_, rfl⟩
    have hr : rightB s l g = (b1 && (b2 && (s || decide (l = 0)))) := by unfold rightB; rw [← h1, ← h2]; simp [hg]
    rw [hr]
    have H1 := Lib.hid h1
    have H2 := Lib.hid h2
    clear hr h1 h2
    go_enter Tryd.func23, Tryd.ntmps23
    go_wp2_with fail
    refine (isTime_any _ _).mono ?_
    rintro e w1 ⟨rfl, rfl⟩
    rw [← H1.out]
    cases b1
    · go_wp2_with fail
      go_ret
      exact ⟨rfl, HB.out⟩
    · go_wp2_with fail
      refine (isTime_any _ _).mono ?_
      rintro e w1 ⟨rfl, rfl⟩
      rw [← H2.out]
      cases b2
      · go_wp2_with fail
        go_ret
        exact ⟨rfl, HB.out⟩
      · cases s
        · by_cases h0 : l = 0
          · subst h0
            go_wp2_with fail
            go_ret
            exact ⟨rfl, HB.out⟩
          · have e : (l == 0) = false := by simp [h0]
            have e2 : decide (l = 0) = false := by simp [h0]
            clear h0
            go_wp2_with fail
            go_ret
            exact ⟨by rw [e2]; rfl, HB.out⟩
        · go_wp2_with fail
          go_ret
          exact ⟨rfl, HB.out⟩
  · have hr : rightB s l g = false := by unfold rightB; simp [hg]
    rw [hr]
    clear hr
    go_enter Tryd.func23, Tryd.ntmps23
    go_wp2_with fail
    go_ret
    exact ⟨rfl, HB.out⟩
/-- What a call does to the memory: all that was is as it was. -/
theorem bcell {W w1 : World} (hb : Below W.heap.size W w1) : (∀ b o, b < W.heap.size → w1.cell? ⟨b, o, none⟩ = W.cell? ⟨b, o, none⟩) ∧ (∀ b o, b < W.heap.size → w1.frozen? ⟨b, o, none⟩ = W.frozen? ⟨b, o, none⟩) :=
  ⟨fun b o h => hb.cell (p := ⟨b, o, none⟩) h, fun b o h => hb.frozen (p := ⟨b, o, none⟩) h⟩
def MarkPost (w : World) (s : Bool) (l g : Int) (er : Int) (e : Ending) (w' : World) : Prop :=
  e = .returned (.tuple #[.agg #[.bool s, .int .i64 l, .int .i64 g], .int .i64 er]) ∧ Below w.heap.size w w'
theorem Blk.set3 {w : World} {g : Nat} {t : TypeId} {a b c : Value} (h : Blk w g t #[a, b, c]) (x y z : Value) : Blk (((w.setCell ⟨g, 0, none⟩ x).setCell ⟨g, 1, none⟩ y).setCell ⟨g, 2, none⟩ z) g t #[x, y, z] := by
  simpa using ((h.set 0 x).set 1 y).set 2 z
theorem below_set3 {B : Nat} {w w' : World} {g : Nat} (h : Below B w w') (hg : B ≤ g) (x y z : Value) : Below B w (((w'.setCell ⟨g, 0, none⟩ x).setCell ⟨g, 1, none⟩ y).setCell ⟨g, 2, none⟩ z) :=
  ((h.setCell (by simpa using hg) _).setCell (by simpa using hg) _).setCell (by simpa using hg) _
set_option maxRecDepth 100000 in
set_option maxHeartbeats 800000 in
theorem new_ok (g : Int) (w : World) (h : rightB false 0 g = true) : Calls Tryd.prog 15 #[.int .i64 g] w (MarkPost w false 0 g 0) := by
  have HR := Lib.hid h
  clear h
  obtain ⟨x, hx⟩ : ∃ x, x = w.heap.size := ⟨_, rfl⟩
  have HX := Lib.hid hx
  go_enter Tryd.func15, Tryd.ntmps15
  go_wp2_with fail
  refine (right_any _ _ _ _).mono ?_
  rintro e w1 ⟨rfl, hb⟩
  rw [HR.out]
  have b0 : Blk w1 x 37 #[.bool false, .int .i64 0, .int .i64 0] := by
    rw [hx]; exact ((Blk.fresh w _ _).alloc _).below hb (by simp; omega)
  have b1 : Blk w1 (x + 1) 37 #[.bool false, .int .i64 0, .int .i64 g] := by
    rw [hx]
    have h := Blk.fresh (w.alloc (.cells #[.bool false, .int .i64 0, .int .i64 0] 37)) 37 #[.bool false, .int .i64 0, .int .i64 g]
    have h' := h.below hb (by simp)
    simpa using h'
  have bel : Below w.heap.size w w1 := (((Below.refl w.heap.size w).alloc (Nat.le_refl _) _).alloc (by simp) _).trans (hb.mono (by simp; omega))
  have f0 := b0.frozen
  have p0 := b0.cell 0
  have p1 := b0.cell 1
  have p2 := b0.cell 2
  have q0 := b1.cell 0
  have q1 := b1.cell 1
  have q2 := b1.cell 2
  simp at p0 p1 p2 q0 q1 q2
  rw [← hx]
  have HB := Lib.hid (And.intro b0 (And.intro bel hx))
  clear hb b0 b1 bel hx
  go_wp2_with fail
  have b2 := HB.out.1.set3 (.bool false) (.int .i64 0) (.int .i64 g)
  have bel2 := below_set3 (g := x) HB.out.2.1 (by have := HB.out.2.2; omega) (.bool false) (.int .i64 0) (.int .i64 g)
  generalize (((w1.setCell ⟨x, 0, none⟩ (.bool false)).setCell ⟨x, 1, none⟩ (.int .i64 0)).setCell ⟨x, 2, none⟩ (.int .i64 g)) = w2 at b2 bel2 ⊢
  have r0 := b2.cell 0
  have r1 := b2.cell 1
  have r2 := b2.cell 2
  simp at r0 r1 r2
  exact bodyPost_ret (v := .tuple #[.agg #[.bool false, .int .i64 0, .int .i64 g], .int .i64 0]) (by simp [results, Tryd.results15, go_sem, r0, r1, r2]) rfl ⟨rfl, bel2⟩
theorem rightB_spec {s : Bool} {l g : Int} (h : rightB s l g = true) : 0 ≤ g ∧ g ≤ 1152921504606846976 ∧ -1152921504606846976 ≤ l ∧ l ≤ 1152921504606846976 ∧ (s = true ∨ l = 0) := by
  unfold rightB isTimeB at h
  simp only [Bool.and_eq_true, Bool.or_eq_true, decide_eq_true_eq] at h
  obtain ⟨h1, ⟨h2, h3⟩, ⟨h4, h5⟩, h6⟩ := h
  exact ⟨h1, h3, h4, h5, h6⟩
theorem rightB_mk {s : Bool} {l g : Int} (h1 : 0 ≤ g) (h3 : g ≤ 1152921504606846976) (h4 : -1152921504606846976 ≤ l) (h5 : l ≤ 1152921504606846976) (h6 : s = true ∨ l = 0) : rightB s l g = true := by
  unfold rightB isTimeB
  simp only [Bool.and_eq_true, Bool.or_eq_true, decide_eq_true_eq]
  exact ⟨h1, ⟨by omega, h3⟩, ⟨h4, h5⟩, h6⟩
/-- The watermark, and whether there is one. -/
def atV (s : Bool) (l g : Int) : Int := if (rightB s l g && s) = true then max (l - g) (-1152921504606846976) else 0
def atB (s : Bool) (l g : Int) : Bool := rightB s l g && s
def AtPost (w : World) (s : Bool) (l g : Int) (e : Ending) (w' : World) : Prop :=
  e = .returned (.tuple #[.int .i64 (atV s l g), .bool (atB s l g)]) ∧ Below w.heap.size w w'
theorem box_below {w w1 : World} {t : TypeId} {cs : Array Value} (hb : Below (w.alloc (.cells cs t)).heap.size (w.alloc (.cells cs t)) w1) : Blk w1 w.heap.size t cs ∧ Below w.heap.size w w1 :=
  ⟨(Blk.fresh w t cs).below hb (by simp), ((Below.refl w.heap.size w).alloc (Nat.le_refl _) _).trans (hb.mono (by simp))⟩
/-- The first of m times from k on that is late. -/
def lateR (ok : Bool) (wm : Int) (f : Nat → Int) : Nat → Nat → Int
  | 0, _ => -1
  | m + 1, k => if (ok && decide (f k < wm)) = true then (k : Int) else lateR ok wm f m (k + 1)
def LatePost (w : World) (r : Int) (e : Ending) (w' : World) : Prop := e = .returned (.int .i64 r) ∧ Below w.heap.size w w'
/-- Seen and last behind the first k times. -/
def noteS (s : Bool) (l : Int) (f : Nat → Int) : Nat → Bool × Int
  | 0 => (s, l)
  | k + 1 => if (!(noteS s l f k).1 || decide ((noteS s l f k).2 < f k)) = true then (true, f k) else noteS s l f k
def noteOk (ok : Bool) (f : Nat → Int) : Nat → Bool
  | 0 => ok
  | k + 1 => noteOk ok f k && isTimeB (f k)
def NotePost (w : World) (s : Bool) (l g : Int) (f : Nat → Int) (n : Nat) (e : Ending) (w' : World) : Prop :=
  (if noteOk (rightB s l g) f n = true then e = .returned (.tuple #[.agg #[.bool (noteS s l f n).1, .int .i64 (noteS s l f n).2, .int .i64 g], .int .i64 0])
    else e = .returned (.tuple #[.agg #[.bool false, .int .i64 0, .int .i64 0], .int .i64 2])) ∧ Below w.heap.size w w'
set_option maxRecDepth 100000 in
set_option maxHeartbeats 1600000 in
theorem note_any (s : Bool) (l g : Int) (w : World) (A : Option Addr) (len c : Nat) (f : Nat → Int) (hsl : Sl w (fun k => k < w.heap.size) A len (fun j => .int .i64 (f j))) (hlen : len ≤ 1048576) :
    Calls Tryd.prog 18 #[.agg #[.bool s, .int .i64 l, .int .i64 g], .slice A len c] w (NotePost w s l g f len) := by
  have HS := Lib.hid hsl
  clear hsl
  obtain ⟨x, hx⟩ : ∃ x, x = w.heap.size := ⟨_, rfl⟩
  have HX := Lib.hid hx
  go_enter Tryd.func18, Tryd.ntmps18
  go_wp2_with fail
  refine (right_any _ _ _ _).mono ?_
  rintro e w1 ⟨rfl, hb⟩
  have b0 : Blk w1 x 37 #[.bool s, .int .i64 l, .int .i64 g] := by
    rw [hx]; exact ((Blk.fresh w _ _).alloc _).below hb (by simp; omega)
  have b1 : Blk w1 (x + 1) 37 #[.bool false, .int .i64 0, .int .i64 0] := by
    rw [hx]
    have h := Blk.fresh (w.alloc (.cells #[.bool s, .int .i64 l, .int .i64 g] 37)) 37 #[.bool false, .int .i64 0, .int .i64 0]
    have h' := h.below hb (by simp)
    simpa using h'
  have bel : Below w.heap.size w w1 := (((Below.refl w.heap.size w).alloc (Nat.le_refl _) _).alloc (by simp) _).trans (hb.mono (by simp; omega))
  rw [← hx]
  obtain ⟨ok, hok⟩ : ∃ b, b = rightB s l g := ⟨_, rfl⟩
  rw [← hok]
  have HB := Lib.hid (And.intro b0 (And.intro b1 (And.intro bel (And.intro hx hok))))
  clear hb b0 b1 bel hx hok
  go_wp2_with fail
  go_loopw [6, 13] (fun o i wr => ∃ k : Nat, k ≤ len ∧ i = .int .i64 k ∧ o = .bool (noteOk ok f k) ∧ Blk wr x 37 #[.bool (noteS s l f k).1, .int .i64 (noteS s l f k).2, .int .i64 g] ∧ Blk wr (x + 1) 37 #[.bool false, .int .i64 0, .int .i64 0] ∧ Below w.heap.size w wr) (fun _ i _ => len - (intOf i).toNat)
  case atStart => exact ⟨0, Nat.zero_le _, rfl, rfl, HB.out.1, HB.out.2.1, HB.out.2.2.1⟩
  case round =>
    obtain ⟨k, hk, rfl, rfl, hb0, hb1, hbel⟩ := hrel
    have ho : noteOk ok f (k + 1) = (noteOk ok f k && isTimeB (f k)) := rfl
    have hn : noteS s l f (k + 1) = if (!(noteS s l f k).1 || decide ((noteS s l f k).2 < f k)) = true then (true, f k) else noteS s l f k := rfl
    obtain ⟨o, hoo⟩ : ∃ b, b = noteOk ok f k := ⟨_, rfl⟩
    obtain ⟨st, hst⟩ : ∃ b, b = noteS s l f k := ⟨_, rfl⟩
    obtain ⟨s', l'⟩ := st
    rw [← hst] at hn hb0
    rw [← hoo] at ho
    rw [← hoo]
    simp only [] at hn hb0
    by_cases hlt : k < len
    · obtain ⟨b, off, hA, -, hc⟩ := (HS.out.below hbel (fun _ h _ => h)) (by omega)
      have ck : wr.cell? ⟨b, off + k, none⟩ = some (.int .i64 (f k)) := hc k hlt
      subst hA
      obtain ⟨t, ht⟩ : ∃ t, t = f k := ⟨_, rfl⟩
      rw [← ht] at ck ho hn
      obtain ⟨it, hit⟩ : ∃ t', t' = isTimeB t := ⟨_, rfl⟩
      rw [← hit] at ho
      have f0 := hb0.frozen
      have p0 := hb0.cell 0
      have p1 := hb0.cell 1
      simp at p0 p1
      have HR := Lib.hid (And.intro hb0 (And.intro hb1 (And.intro hbel (And.intro ho (And.intro hn hit)))))
      clear hb0 hb1 hbel ho hn hit hc ht hst hoo
      have fin1 : ∀ wz o' st', noteOk ok f (k + 1) = o' → noteS s l f (k + 1) = st' → Blk wz x 37 #[.bool st'.1, .int .i64 st'.2, .int .i64 g] → Blk wz (x + 1) 37 #[.bool false, .int .i64 0, .int .i64 0] → Below w.heap.size w wz →
          ∃ j : Nat, j ≤ len ∧ Value.int .i64 ((k : Int) + 1) = .int .i64 j ∧ Value.bool o' = .bool (noteOk ok f j) ∧ Blk wz x 37 #[.bool (noteS s l f j).1, .int .i64 (noteS s l f j).2, .int .i64 g] ∧ Blk wz (x + 1) 37 #[.bool false, .int .i64 0, .int .i64 0] ∧ Below w.heap.size w wz := by
        intro wz o' st' e1 e2 h1 h2 h3
        exact ⟨k + 1, by omega, by go_num, by rw [e1], by rw [e2]; exact h1, h2, h3⟩
      have F1 := Lib.hid fin1
      clear fin1
      have belset : Below w.heap.size w ((wr.setCell ⟨x, 0, none⟩ (.bool true)).setCell ⟨x, 1, none⟩ (.int .i64 t)) := (HR.out.2.2.1.setCell (by have := HX.out; show _ ≤ x; omega) _).setCell (by have := HX.out; show _ ≤ x; omega) _
      have b0set : Blk ((wr.setCell ⟨x, 0, none⟩ (.bool true)).setCell ⟨x, 1, none⟩ (.int .i64 t)) x 37 #[.bool true, .int .i64 t, .int .i64 g] := by simpa using (HR.out.1.set 0 (.bool true)).set 1 (.int .i64 t)
      have b1set : Blk ((wr.setCell ⟨x, 0, none⟩ (.bool true)).setCell ⟨x, 1, none⟩ (.int .i64 t)) (x + 1) 37 #[.bool false, .int .i64 0, .int .i64 0] := (HR.out.2.1.far (by show x + 1 ≠ x; omega) _).far (by show x + 1 ≠ x; omega) _
      have HW := Lib.hid (And.intro belset (And.intro b0set b1set))
      clear belset b0set b1set
      cases o with
      | false =>
        cases s' with
        | false =>
          go_wp2_with fail
          go_roundw
          case rel => exact F1.out _ false (true, t) (by rw [HR.out.2.2.2.1]; rfl) (by rw [HR.out.2.2.2.2.1]; rfl) HW.out.2.1 HW.out.2.2 HW.out.1
          case measure => simp [intOf]; omega
        | true =>
          by_cases hgt : l' < t
          · have d : decide (l' < t) = true := by simp [hgt]
            go_wp2_with fail
            go_roundw
            case rel => exact F1.out _ false (true, t) (by rw [HR.out.2.2.2.1]; rfl) (by rw [HR.out.2.2.2.2.1, d]; rfl) HW.out.2.1 HW.out.2.2 HW.out.1
            case measure => simp [intOf]; omega
          · have d : decide (l' < t) = false := by simp; omega
            go_wp2_with fail
            go_roundw
            case rel => exact F1.out _ false (true, l') (by rw [HR.out.2.2.2.1]; rfl) (by rw [HR.out.2.2.2.2.1, d]; rfl) HR.out.1 HR.out.2.1 HR.out.2.2.1
            case measure => simp [intOf]; omega
      | true =>
        go_wp2_with fail
        refine (isTime_any _ _).mono ?_
        rintro e w2 ⟨rfl, rfl⟩
        rw [← HR.out.2.2.2.2.2]
        cases s' with
        | false =>
          go_wp2_with fail
          go_roundw
          case rel => exact F1.out _ it (true, t) (by rw [HR.out.2.2.2.1]; rfl) (by rw [HR.out.2.2.2.2.1]; rfl) HW.out.2.1 HW.out.2.2 HW.out.1
          case measure => simp [intOf]; omega
        | true =>
          by_cases hgt : l' < t
          · have d : decide (l' < t) = true := by simp [hgt]
            go_wp2_with fail
            go_roundw
            case rel => exact F1.out _ it (true, t) (by rw [HR.out.2.2.2.1]; rfl) (by rw [HR.out.2.2.2.2.1, d]; rfl) HW.out.2.1 HW.out.2.2 HW.out.1
            case measure => simp [intOf]; omega
          · have d : decide (l' < t) = false := by simp; omega
            go_wp2_with fail
            go_roundw
            case rel => exact F1.out _ it (true, l') (by rw [HR.out.2.2.2.1]; rfl) (by rw [HR.out.2.2.2.2.1, d]; rfl) HR.out.1 HR.out.2.1 HR.out.2.2.1
            case measure => simp [intOf]; omega
    · obtain rfl : k = len := by omega
      have p0 := hb0.cell 0
      have p1 := hb0.cell 1
      have p2 := hb0.cell 2
      have q0 := hb1.cell 0
      have q1 := hb1.cell 1
      have q2 := hb1.cell 2
      have f1 := hb1.frozen
      simp at p0 p1 p2 q0 q1 q2
      have HR := Lib.hid (And.intro hb1 (And.intro hbel (And.intro hoo hst)))
      clear hb0 hb1 hbel ho hn hoo hst
      cases o with
      | false =>
        go_wp2_with fail
        have b2 := HR.out.1.set3 (.bool false) (.int .i64 0) (.int .i64 0)
        have bel2 := below_set3 (g := x + 1) HR.out.2.1 (by have := HX.out; omega) (.bool false) (.int .i64 0) (.int .i64 0)
        generalize (((wr.setCell ⟨x + 1, 0, none⟩ (.bool false)).setCell ⟨x + 1, 1, none⟩ (.int .i64 0)).setCell ⟨x + 1, 2, none⟩ (.int .i64 0)) = w2 at b2 bel2 ⊢
        have r0 := b2.cell 0
        have r1 := b2.cell 1
        have r2 := b2.cell 2
        simp at r0 r1 r2
        refine bodyPost_ret (v := .tuple #[.agg #[.bool false, .int .i64 0, .int .i64 0], .int .i64 2]) (by simp [results, Tryd.results18, go_sem, r0, r1, r2]) rfl ⟨?_, bel2⟩
        rw [← HB.out.2.2.2.2, ← HR.out.2.2.1, if_neg (by simp)]
      | true =>
        go_wp2_with fail
        have b2 := HR.out.1.set3 (.bool s') (.int .i64 l') (.int .i64 g)
        have bel2 := below_set3 (g := x + 1) HR.out.2.1 (by have := HX.out; omega) (.bool s') (.int .i64 l') (.int .i64 g)
        generalize (((wr.setCell ⟨x + 1, 0, none⟩ (.bool s')).setCell ⟨x + 1, 1, none⟩ (.int .i64 l')).setCell ⟨x + 1, 2, none⟩ (.int .i64 g)) = w2 at b2 bel2 ⊢
        have r0 := b2.cell 0
        have r1 := b2.cell 1
        have r2 := b2.cell 2
        simp at r0 r1 r2
        refine bodyPost_ret (v := .tuple #[.agg #[.bool s', .int .i64 l', .int .i64 g], .int .i64 0]) (by simp [results, Tryd.results18, go_sem, r0, r1, r2]) rfl ⟨?_, bel2⟩
        rw [← HB.out.2.2.2.2, ← HR.out.2.2.1, ← HR.out.2.2.2, if_pos rfl]
end Go.Proofs.YtgceeihdmhghiaaDoor
