/-
  The bits that xorval tells values by; the state of its writer and its window.
-/
import Derived.Test.YtboecnakndpgfaaXorWin
import Derived.Test.YtboecnakndpgfaaBitsFit
import Derived.Test.YtboecnakndpgfaaBitsBy
namespace Go.Proofs.Ytboecnakndpgfaa.X
open Go.RowKit
set_option linter.unusedVariables false
set_option linter.unusedSimpArgs false
/-- Whether a window, if there is one, has what is other in it. -/
def fits (o : Option (Nat × Nat)) (x : Nat) : Bool := match o with
  | none => false
  | some p => decide (p.1 ≤ lead x) && decide (p.2 ≤ trail x)
def nextW (o : Option (Nat × Nat)) (x : Nat) : Option (Nat × Nat) := if x = 0 then o else if fits o x = true then o else some (lead x, trail x)
def winOf (o : Option (Nat × Nat)) : Nat × Nat := o.getD (0, 0)
def headB (o : Option (Nat × Nat)) (x : Nat) : List Nat :=
  if fits o x = true then bitsTo 2 2 2 else (bitsTo 3 2 2 ++ bitsTo (lead x) 6 6) ++ bitsTo (64 - lead x - trail x - 1) 6 6
def tailB (p : Nat × Nat) (x : Nat) : List Nat := bitsTo (x / 2 ^ p.2) (64 - p.1 - p.2) (64 - p.1 - p.2)
def xbits (o : Option (Nat × Nat)) (x : Nat) : List Nat := if x = 0 then bitsTo 0 1 1 else headB o x ++ tailB (winOf (nextW o x)) x
def xwin (f : Nat → Nat) : Nat → Option (Nat × Nat)
  | 0 => none
  | 1 => none
  | k + 2 => nextW (xwin f (k + 1)) (f (k + 1) ^^^ f k)
def xencTo (f : Nat → Nat) : Nat → List Nat
  | 0 => []
  | 1 => bitsTo (f 0) 64 64
  | k + 2 => xencTo f (k + 1) ++ xbits (xwin f (k + 1)) (f (k + 1) ^^^ f k)
theorem xbits_le (o : Option (Nat × Nat)) (x : Nat) : (xbits o x).length ≤ 78 := by
  unfold xbits headB tailB
  split
  · rw [bitsTo_length]; omega
  · rw [List.length_append, bitsTo_length]; split
    · rw [bitsTo_length]; omega
    · rw [List.length_append, List.length_append, bitsTo_length, bitsTo_length, bitsTo_length]; omega
theorem xbits_bit (o : Option (Nat × Nat)) (x : Nat) : ∀ j, (xbits o x).getD j 0 < 2 := by
  unfold xbits headB tailB
  split
  · exact bitsTo_bit _ _ _
  · refine bits_append ?_ (bitsTo_bit _ _ _)
    split
    · exact bitsTo_bit _ _ _
    · exact bits_append (bits_append (bitsTo_bit _ _ _) (bitsTo_bit _ _ _)) (bitsTo_bit _ _ _)
theorem xencTo_len (f : Nat → Nat) (k : Nat) : (xencTo f k).length ≤ 64 + 78 * k := by
  induction k with
  | zero => simp [xencTo]
  | succ k ih =>
    match k with
    | 0 => unfold xencTo; rw [bitsTo_length]; omega
    | k + 1 => unfold xencTo; rw [List.length_append]; have := xbits_le (xwin f (k + 1)) (f (k + 1) ^^^ f k); omega
theorem xencTo_bit (f : Nat → Nat) (k : Nat) : ∀ j, (xencTo f k).getD j 0 < 2 := by
  induction k with
  | zero => intro j; simp [xencTo]
  | succ k ih =>
    match k with
    | 0 => unfold xencTo; exact bitsTo_bit _ _ _
    | k + 1 => unfold xencTo; exact bits_append ih (xbits_bit _ _)
theorem xor_lt {a b : Nat} (ha : a < 18446744073709551616) (hb : b < 18446744073709551616) : a ^^^ b < 18446744073709551616 := Nat.xor_lt_two_pow (n := 64) ha hb
/-- A window that came of values: not wider than 63 bits left out. -/
def WinOk (o : Option (Nat × Nat)) : Prop := ∀ p, o = some p → p.1 + p.2 ≤ 63
theorem nextW_ok {o : Option (Nat × Nat)} {x : Nat} (h : WinOk o) (hx : x < 18446744073709551616) : WinOk (nextW o x) := by
  intro p hp
  unfold nextW at hp
  split at hp
  · exact h p hp
  · split at hp
    · exact h p hp
    · injection hp with hp; subst hp; exact window_le (by omega) hx
theorem xwin_ok {f : Nat → Nat} (hf : ∀ j, f j < 18446744073709551616) (k : Nat) : WinOk (xwin f k) := by
  induction k with
  | zero => intro p hp; cases hp
  | succ k ih =>
    match k with
    | 0 => intro p hp; cases hp
    | k + 1 => exact nextW_ok ih (xor_lt (hf _) (hf _))
/-- The window's cells. -/
def winC (o : Option (Nat × Nat)) : Array Value := match o with
  | none => #[.int .i64 (-1), .int .i64 (-1)]
  | some p => #[.int .i64 (p.1 : Nat), .int .i64 (p.2 : Nat)]
/-- The writer, and the window. -/
structure ES (w : World) (x y : Nat) (g : Option Nat) (L : List Nat) (o : Option (Nat × Nat)) (wr : World) : Prop where
  out : Wr wr x g L
  win : Blk wr y 52 (winC o)
  keeps : Keeps (fun _ => False) w wr
  own : ∀ q, g = some q → w.heap.size ≤ q
  hx : w.heap.size ≤ x
  hy : w.heap.size ≤ y
def EPutPost (w : World) (x y : Nat) (L : List Nat) (o : Option (Nat × Nat)) (e : Ending) (w' : World) : Prop :=
  e = .returned (.int .i64 0) ∧ ∃ g, ES w x y g L o w'
theorem put_es {w wr : World} {x y : Nat} {g : Option Nat} {L : List Nat} {o : Option (Nat × Nat)} (h : ES w x y g L o wr) (v n : Int) (h0 : 0 ≤ v) (hv : v < 18446744073709551616) (n0 : 0 ≤ n) (n64 : n ≤ 64) (hl : (L.length : Int) + 64 ≤ 8388608) :
    Calls Try.prog 19 #[.pointer (some ⟨x, 0, none⟩), .int .u64 v, .int .i64 n] wr (EPutPost w x y (L ++ bitsTo v.toNat n.toNat n.toNat) o) := by
  refine (put_fit _ _ _ _ v n h.out h0 hv n0 n64 hl).mono ?_
  rintro e w2 ⟨rfl, g2, hx2, hk2, hm2⟩
  obtain ⟨n1, n2⟩ := h.out.ne h.win (by decide) (by decide)
  exact ⟨rfl, g2, hx2, h.win.keeps hk2 (fun e => by rcases e with e | e; exact n1 e; exact n2 e), keeps_new h.keeps hk2 h.hx h.own, moved_new (w0 := w) hm2 h.keeps.size h.own, h.hx, h.hy⟩
theorem ES.below {w wr w' : World} {x y : Nat} {g : Option Nat} {L : List Nat} {o : Option (Nat × Nat)} (h : ES w x y g L o wr) (hb : Below wr.heap.size wr w') : ES w x y g L o w' := by
  have hk : Keeps (fun _ => False) wr w' := Keeps.of_below hb
  exact ⟨h.out.keeps hk (fun e => e) (fun _ _ e => e), h.win.below hb h.win.lt, h.keeps.trans' hk, h.own, h.hx, h.hy⟩
theorem winC_two (o : Option (Nat × Nat)) : ∃ l t : Int, winC o = #[.int .i64 l, .int .i64 t] := by
  cases o with
  | none => exact ⟨-1, -1, rfl⟩
  | some p => exact ⟨p.1, p.2, rfl⟩
theorem has_es (o : Option (Nat × Nat)) (q : Nat) (l t : Int) (hc : winC o = #[.int .i64 l, .int .i64 t]) (w : World) :
    Calls Try.prog 26 #[.agg #[.int .i64 l, .int .i64 t], .agg #[.int .i64 (lead q : Nat), .int .i64 (trail q : Nat)]] w fun e w' => e = .returned (.bool (fits o q)) ∧ Below w.heap.size w w' := by
  cases o with
  | none =>
    simp [winC] at hc
    obtain ⟨rfl, rfl⟩ := hc
    exact has_none _ _ w
  | some p =>
    simp [winC] at hc
    obtain ⟨rfl, rfl⟩ := hc
    have h := has_win p.1 p.2 (lead q : Nat) (trail q : Nat) w
    have e : fits (some p) q = (decide ((p.1 : Int) ≤ (lead q : Nat)) && decide ((p.2 : Int) ≤ (trail q : Nat))) := by simp [fits]
    rw [e]
    exact h
/-- Another window. -/
theorem ES.set {w wr : World} {x y : Nat} {g : Option Nat} {L : List Nat} {o : Option (Nat × Nat)} (h : ES w x y g L o wr) (l t : Nat) :
    ES w x y g L (some (l, t)) ((wr.setCell ⟨y, 0, none⟩ (.int .i64 (l : Nat))).setCell ⟨y, 1, none⟩ (.int .i64 (t : Nat))) := by
  obtain ⟨n1, n2⟩ := h.out.ne h.win (by decide) (by decide)
  obtain ⟨a, b, hc⟩ := winC_two o
  have hw := h.win
  rw [hc] at hw
  have hk : Keeps (fun k => k = y) wr ((wr.setCell ⟨y, 0, none⟩ (.int .i64 (l : Nat))).setCell ⟨y, 1, none⟩ (.int .i64 (t : Nat))) := ((Keeps.refl (fun k => k = y) wr).setCell (p := ⟨y, 0, none⟩) (fun _ => rfl) _).setCell (p := ⟨y, 1, none⟩) (fun _ => rfl) _
  refine ⟨h.out.keeps hk (fun e => n1 e.symm) (fun k hk e => n2 (by rw [hk, e])), hw.set2 _ _, h.keeps.trans hk (fun k hk e => by have := h.hy; omega), h.own, h.hx, h.hy⟩
theorem es_c0 {w wr : World} {x y : Nat} {g : Option Nat} {L : List Nat} {l t : Nat} (h : ES w x y g L (some (l, t)) wr) : wr.cell? ⟨y, 0, none⟩ = some (.int .i64 (l : Nat)) := by
  have := h.win.cell 0
  simpa [winC] using this
theorem es_c1 {w wr : World} {x y : Nat} {g : Option Nat} {L : List Nat} {l t : Nat} (h : ES w x y g L (some (l, t)) wr) : wr.cell? ⟨y, 1, none⟩ = some (.int .i64 (t : Nat)) := by
  have := h.win.cell 1
  simpa [winC] using this
theorem ES.drew {w wr : World} {x y : Nat} {g : Option Nat} {L : List Nat} {o : Option (Nat × Nat)} (h : ES w x y g L o wr) : ES w x y g L o wr.drew :=
  ⟨h.out.drewN 1, h.win.drew, h.keeps.drew, h.own, h.hx, h.hy⟩
theorem xbits_new {o : Option (Nat × Nat)} {q : Nat} (h0 : q ≠ 0) (hf : fits o q = false) :
    xbits o q = ((bitsTo 3 2 2 ++ bitsTo (lead q) 6 6) ++ bitsTo (64 - lead q - trail q - 1) 6 6) ++ bitsTo (q / 2 ^ trail q) (64 - lead q - trail q) (64 - lead q - trail q) ∧ nextW o q = some (lead q, trail q) := by
  have hn : nextW o q = some (lead q, trail q) := by unfold nextW; rw [if_neg h0, hf, if_neg (by simp)]
  refine ⟨?_, hn⟩
  unfold xbits headB
  rw [if_neg h0, hn, hf, if_neg (by simp)]
  rfl
theorem xbits_old {l t q : Nat} (h0 : q ≠ 0) (hf : fits (some (l, t)) q = true) :
    xbits (some (l, t)) q = bitsTo 2 2 2 ++ bitsTo (q / 2 ^ t) (64 - l - t) (64 - l - t) ∧ nextW (some (l, t)) q = some (l, t) := by
  have hn : nextW (some (l, t)) q = some (l, t) := by unfold nextW; rw [if_neg h0, hf, if_pos rfl]
  refine ⟨?_, hn⟩
  unfold xbits headB
  rw [if_neg h0, hn, hf, if_pos rfl]
  rfl
end Go.Proofs.Ytboecnakndpgfaa.X
