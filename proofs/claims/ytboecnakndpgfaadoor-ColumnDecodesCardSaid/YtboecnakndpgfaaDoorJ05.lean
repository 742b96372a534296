/-
  Texts of this proof, joined: XorEn, XorE, XorRE, ErA, ErB, ErC, ErD, ErE, RvA.
-/
import Derived.Test.YtboecnakndpgfaaDoorJ04
import Derived.Test.YtboecnakndpgfaaDoorJ02
import Derived.WalkMore
import Derived.Test.YtboecnakndpgfaaDoorRows
import Derived.Test.YtboecnakndpgfaaDoorJ01
import Derived.WalkKit
import Derived.WalkSpells
import Derived.WalkLawsBesides
import Derived.Outline
import Derived.Deep.Cut
import Derived.LaidEql
import Derived.Stop.Asserts
import Derived.RowKitTokens
import Derived.Lib.IfaceEq
import Derived.Deep.DeepCutAuto
import Derived.Laws.BitsAllLaws
import Derived.Test.YtboecnakndpgfaaDoorJ03
import Derived.Deep.CutBlock
namespace Go.Proofs.YtboecnakndpgfaaDoor.X
set_option maxRecDepth 100000
open Go.RowKit
set_option linter.unusedVariables false
set_option linter.unusedSimpArgs false
/-- Whether a window, if there is one, has what is other in it. -/
def fits (o : Option (Nat × Nat)) (x : Nat) : Bool := match o with
  | none => false
  | some p => decide (p.1 ≤ lead x) && decide (p.2 ≤ trail x)
def nextW (o : Option (Nat × Nat)) (x : Nat) : Option (Nat × Nat) := if x = 0 then o else if fits o x = true then o else some (lead x, trail x)
def winOf (o : Option (Nat × Nat)) : Nat × Nat := o.getD (0, 0)
def headB (o : Option (Nat × Nat)) (x : Nat) : List Nat :=
  if fits o x = true then bitsTo 2 2 2 else (bitsTo 3 2 2 ++ bitsTo (lead x) 6 6) ++ bitsTo (64 - lead x - trail x - 1) 6 6
def tailB (p : Nat × Nat) (x : Nat) : List Nat := bitsTo (x / 2 ^ p.2) (64 - p.1 - p.2) (64 - p.1 - p.2)
def xbits (o : Option (Nat × Nat)) (x : Nat) : List Nat := if x = 0 then bitsTo 0 1 1 else headB o x ++ tailB (winOf (nextW o x)) x
def xwin (f : Nat → Nat) : Nat → Option (Nat × Nat)
  | 0 => none
  | 1 => none
  | k + 2 => nextW (xwin f (k + 1)) (f (k + 1) ^^^ f k)
def xencTo (f : Nat → Nat) : Nat → List Nat
  | 0 => []
  | 1 => bitsTo (f 0) 64 64
  | k + 2 => xencTo f (k + 1) ++ xbits (xwin f (k + 1)) (f (k + 1) ^^^ f k)
theorem xbits_le (o : Option (Nat × Nat)) (x : Nat) : (xbits o x).length ≤ 78 := by
  unfold xbits headB tailB
  split
  · rw [bitsTo_length]; omega
  · rw [List.length_append, bitsTo_length]; split
    · rw [bitsTo_length]; omega
    · rw [List.length_append, List.length_append, bitsTo_length, bitsTo_length, bitsTo_length]; omega
theorem xbits_bit (o : Option (Nat × Nat)) (x : Nat) : ∀ j, (xbits o x).getD j 0 < 2 := by
  unfold xbits headB tailB
  split
  · exact bitsTo_bit _ _ _
  · refine bits_append ?_ (bitsTo_bit _ _ _)
    split
    · exact bitsTo_bit _ _ _
    · exact bits_append (bits_append (bitsTo_bit _ _ _) (bitsTo_bit _ _ _)) (bitsTo_bit _ _ _)
theorem xencTo_len (f : Nat → Nat) (k : Nat) : (xencTo f k).length ≤ 64 + 78 * k := by
  induction k with
  | zero => simp [xencTo]
  | succ k ih =>
    match k with
    | 0 => unfold xencTo; rw [bitsTo_length]; omega
    | k + 1 => unfold xencTo; rw [List.length_append]; have := xbits_le (xwin f (k + 1)) (f (k + 1) ^^^ f k); omega
theorem xencTo_bit (f : Nat → Nat) (k : Nat) : ∀ j, (xencTo f k).getD j 0 < 2 := by
  induction k with
  | zero => intro j; simp [xencTo]
  | succ k ih =>
    match k with
    | 0 => unfold xencTo; exact bitsTo_bit _ _ _
    | k + 1 => unfold xencTo; exact bits_append ih (xbits_bit _ _)
theorem xor_lt {a b : Nat} (ha : a < 18446744073709551616) (hb : b < 18446744073709551616) : a ^^^ b < 18446744073709551616 := Nat.xor_lt_two_pow (n := 64) ha hb
/-- A window that came of values: not wider than 63 bits left out. -/
def WinOk (o : Option (Nat × Nat)) : Prop := ∀ p, o = some p → p.1 + p.2 ≤ 63
theorem nextW_ok {o : Option (Nat × Nat)} {x : Nat} (h : WinOk o) (hx : x < 18446744073709551616) : WinOk (nextW o x) := by
  intro p hp
  unfold nextW at hp
  split at hp
  · exact h p hp
  · split at hp
    · exact h p hp
    · injection hp with hp; subst hp; exact window_le (by omega) hx
theorem xwin_ok {f : Nat → Nat} (hf : ∀ j, f j < 18446744073709551616) (k : Nat) : WinOk (xwin f k) := by
  induction k with
  | zero => intro p hp; cases hp
  | succ k ih =>
    match k with
    | 0 => intro p hp; cases hp
    | k + 1 => exact nextW_ok ih (xor_lt (hf _) (hf _))
/-- The window's cells. -/
def winC (o : Option (Nat × Nat)) : Array Value := match o with
  | none => #[.int .i64 (-1), .int .i64 (-1)]
  | some p => #[.int .i64 (p.1 : Nat), .int .i64 (p.2 : Nat)]
/-- The writer, and the window. -/
structure ES (w : World) (x y : Nat) (g : Option Nat) (L : List Nat) (o : Option (Nat × Nat)) (wr : World) : Prop where
  out : Wr wr x g L
  win : Blk wr y 90 (winC o)
  keeps : Keeps (fun _ => False) w wr
  own : ∀ q, g = some q → w.heap.size ≤ q
  hx : w.heap.size ≤ x
  hy : w.heap.size ≤ y
def EPutPost (w : World) (x y : Nat) (L : List Nat) (o : Option (Nat × Nat)) (e : Ending) (w' : World) : Prop :=
  e = .returned (.int .i64 0) ∧ ∃ g, ES w x y g L o w'
theorem put_es {w wr : World} {x y : Nat} {g : Option Nat} {L : List Nat} {o : Option (Nat × Nat)} (h : ES w x y g L o wr) (v n : Int) (h0 : 0 ≤ v) (hv : v < 18446744073709551616) (n0 : 0 ≤ n) (n64 : n ≤ 64) (hl : (L.length : Int) + 64 ≤ 8388608) :
    Calls Tryd.prog 52 #[.pointer (some ⟨x, 0, none⟩), .int .u64 v, .int .i64 n] wr (EPutPost w x y (L ++ bitsTo v.toNat n.toNat n.toNat) o) := by
  refine (put_fit _ _ _ _ v n h.out h0 hv n0 n64 hl).mono ?_
  rintro e w2 ⟨rfl, g2, hx2, hk2, hm2⟩
  obtain ⟨n1, n2⟩ := h.out.ne h.win (by decide) (by decide)
  exact ⟨rfl, g2, hx2, h.win.keeps hk2 (fun e => by rcases e with e | e; exact n1 e; exact n2 e), keeps_new h.keeps hk2 h.hx h.own, moved_new (w0 := w) hm2 h.keeps.size h.own, h.hx, h.hy⟩
theorem ES.below {w wr w' : World} {x y : Nat} {g : Option Nat} {L : List Nat} {o : Option (Nat × Nat)} (h : ES w x y g L o wr) (hb : Below wr.heap.size wr w') : ES w x y g L o w' := by
  have hk : Keeps (fun _ => False) wr w' := Keeps.of_below hb
  exact ⟨h.out.keeps hk (fun e => e) (fun _ _ e => e), h.win.below hb h.win.lt, h.keeps.trans' hk, h.own, h.hx, h.hy⟩
theorem winC_two (o : Option (Nat × Nat)) : ∃ l t : Int, winC o = #[.int .i64 l, .int .i64 t] := by
  cases o with
  | none => exact ⟨-1, -1, rfl⟩
  | some p => exact ⟨p.1, p.2, rfl⟩
theorem has_es (o : Option (Nat × Nat)) (q : Nat) (l t : Int) (hc : winC o = #[.int .i64 l, .int .i64 t]) (w : World) :
    Calls Tryd.prog 58 #[.agg #[.int .i64 l, .int .i64 t], .agg #[.int .i64 (lead q : Nat), .int .i64 (trail q : Nat)]] w fun e w' => e = .returned (.bool (fits o q)) ∧ Below w.heap.size w w' := by
  cases o with
  | none =>
    simp [winC] at hc
    obtain ⟨rfl, rfl⟩ := hc
    exact has_none _ _ w
  | some p =>
    simp [winC] at hc
    obtain ⟨rfl, rfl⟩ := hc
    have h := has_win p.1 p.2 (lead q : Nat) (trail q : Nat) w
    have e : fits (some p) q = (decide ((p.1 : Int) ≤ (lead q : Nat)) && decide ((p.2 : Int) ≤ (trail q : Nat))) := by simp [fits]
    rw [e]
    exact h
/-- Another window. -/
theorem ES.set {w wr : World} {x y : Nat} {g : Option Nat} {L : List Nat} {o : Option (Nat × Nat)} (h : ES w x y g L o wr) (l t : Nat) :
    ES w x y g L (some (l, t)) ((wr.setCell ⟨y, 0, none⟩ (.int .i64 (l : Nat))).setCell ⟨y, 1, none⟩ (.int .i64 (t : Nat))) := by
  obtain ⟨n1, n2⟩ := h.out.ne h.win (by decide) (by decide)
  obtain ⟨a, b, hc⟩ := winC_two o
  have hw := h.win
  rw [hc] at hw
  have hk : Keeps (fun k => k = y) wr ((wr.setCell ⟨y, 0, none⟩ (.int .i64 (l : Nat))).setCell ⟨y, 1, none⟩ (.int .i64 (t : Nat))) := ((Keeps.refl (fun k => k = y) wr).setCell (p := ⟨y, 0, none⟩) (fun _ => rfl) _).setCell (p := ⟨y, 1, none⟩) (fun _ => rfl) _
  refine ⟨h.out.keeps hk (fun e => n1 e.symm) (fun k hk e => n2 (by rw [hk, e])), hw.set2 _ _, h.keeps.trans hk (fun k hk e => by have := h.hy; omega), h.own, h.hx, h.hy⟩
theorem es_c0 {w wr : World} {x y : Nat} {g : Option Nat} {L : List Nat} {l t : Nat} (h : ES w x y g L (some (l, t)) wr) : wr.cell? ⟨y, 0, none⟩ = some (.int .i64 (l : Nat)) := by
  have := h.win.cell 0
  simpa [winC] using this
theorem es_c1 {w wr : World} {x y : Nat} {g : Option Nat} {L : List Nat} {l t : Nat} (h : ES w x y g L (some (l, t)) wr) : wr.cell? ⟨y, 1, none⟩ = some (.int .i64 (t : Nat)) := by
  have := h.win.cell 1
  simpa [winC] using this
theorem ES.drew {w wr : World} {x y : Nat} {g : Option Nat} {L : List Nat} {o : Option (Nat × Nat)} (h : ES w x y g L o wr) : ES w x y g L o wr.drew :=
  ⟨h.out.drewN 1, h.win.drew, h.keeps.drew, h.own, h.hx, h.hy⟩
theorem xbits_new {o : Option (Nat × Nat)} {q : Nat} (h0 : q ≠ 0) (hf : fits o q = false) :
    xbits o q = ((bitsTo 3 2 2 ++ bitsTo (lead q) 6 6) ++ bitsTo (64 - lead q - trail q - 1) 6 6) ++ bitsTo (q / 2 ^ trail q) (64 - lead q - trail q) (64 - lead q - trail q) ∧ nextW o q = some (lead q, trail q) := by
  have hn : nextW o q = some (lead q, trail q) := by unfold nextW; rw [if_neg h0, hf, if_neg (by simp)]
  refine ⟨?_, hn⟩
  unfold xbits headB
  rw [if_neg h0, hn, hf, if_neg (by simp)]
  rfl
theorem xbits_old {l t q : Nat} (h0 : q ≠ 0) (hf : fits (some (l, t)) q = true) :
    xbits (some (l, t)) q = bitsTo 2 2 2 ++ bitsTo (q / 2 ^ t) (64 - l - t) (64 - l - t) ∧ nextW (some (l, t)) q = some (l, t) := by
  have hn : nextW (some (l, t)) q = some (l, t) := by unfold nextW; rw [if_neg h0, hf, if_pos rfl]
  refine ⟨?_, hn⟩
  unfold xbits headB
  rw [if_neg h0, hn, hf, if_pos rfl]
  rfl
end Go.Proofs.YtboecnakndpgfaaDoor.X
namespace Go.Proofs.YtboecnakndpgfaaDoor.X
set_option maxRecDepth 100000
open Go.RowKit
set_option linter.unusedVariables false
set_option linter.unusedSimpArgs false
def XEncPost (w : World) (bs : List Nat) (e : Ending) (w' : World) : Prop :=
  ∃ A c, e = .returned (.tuple #[.slice A bs.length c, .int .i64 0]) ∧ w'.ownsRow w.heap.size 5 1 (.slice A bs.length c) bs.length (bs.map byteV) ∧ Keeps (fun _ => False) w w'
set_option maxRecDepth 100000 in
set_option maxHeartbeats 1600000 in
theorem xencode_any (w : World) (A : Option Addr) (len c : Nat) (D : Nat → Prop) (f : Nat → Nat) (hsl : Sl w D A len (fun j => .int .u64 (f j : Nat))) (hf : ∀ j, f j < 18446744073709551616) (hlen : len ≤ 4096) :
    Calls Tryd.prog 26 #[.slice A len c] w (XEncPost w (pack (xencTo f len))) := by
  have HS := Lib.hid (And.intro hsl hf)
  clear hsl hf
  have d0 : decide ((4096 : Int) < len) = false := by simp; omega
  go_enter Tryd.func26, Tryd.ntmps26
  go_wp2_with fail
  go_step3
  go_wp2_with fail
  refine (newWriter_any _).mono ?_
  rintro e w1 ⟨rfl, hx1, hk1⟩
  obtain ⟨x, hx⟩ : ∃ x, x = w.heap.size := ⟨_, rfl⟩
  rw [← hx] at hx1
  rw [← hx]
  have H1 := Lib.hid (And.intro hx1 (And.intro hk1 hx))
  clear hx1 hk1 hx d0
  go_wp2_with fail
  refine (none_any _).mono ?_
  rintro e w2 ⟨rfl, hb2⟩
  obtain ⟨y, hy⟩ : ∃ y, y = w2.heap.size := ⟨_, rfl⟩
  have H2 := Lib.hid (And.intro hb2 hy)
  clear hb2 hy
  go_wp2_with fail
  rw [← H2.out.2]
  go_step3
  go_wp2_with fail
  go_loopw [17] (fun i wr => ∃ (k : Nat) (g : Option Nat), k ≤ len ∧ i = .int .i64 k ∧ ES w x y g (xencTo f k) (xwin f k) wr)
    (fun i _ => len - (intOf i).toNat)
  case atStart =>
    obtain ⟨hx1, hk1, hx⟩ := H1.out
    obtain ⟨hb2, hy⟩ := H2.out
    have hk2 : Keeps (fun _ => False) w1 (w2.alloc (.cells #[.int .i64 (-1), .int .i64 (-1)] 90)) := (Keeps.of_below hb2).alloc _
    refine ⟨0, none, Nat.zero_le _, rfl, hx1.keeps hk2 (fun h => h) (fun _ _ h => h), ?_, hk1.trans' hk2, (fun _ h => by cases h), by omega, ?_⟩
    · rw [hy]; exact Blk.fresh _ _ _
    · rw [hy]; exact Nat.le_trans hk1.size hb2.size
  case round =>
    obtain ⟨k, g, hk, rfl, hes⟩ := hrel
    by_cases hlt : k < len
    · obtain ⟨b, off, hA, hD, hcell⟩ := (HS.out.1.keep (w' := wr) (fun q _ hq => hes.keeps.block q hq (fun h => h))) (by omega)
      have ck : wr.cell? ⟨b, off + k, none⟩ = some (.int .u64 (f k : Nat)) := hcell k hlt
      have hcp : 1 ≤ k → wr.cell? ⟨b, off + (k - 1), none⟩ = some (.int .u64 (f (k - 1) : Nat)) := fun h => hcell (k - 1) (by omega)
      subst hA
      have HE := Lib.hid hes
      clear hes hcell
      have hlk := xencTo_len f k
      rcases Nat.eq_zero_or_pos k with hk0 | hk0
      · subst hk0
        clear hcp hlk
        have hu := HS.out.2 0
        obtain ⟨u, hu'⟩ : ∃ u, u = f 0 := ⟨_, rfl⟩
        rw [← hu'] at ck hu
        have HU := Lib.hid (And.intro hu hu')
        clear hu hu'
        rw [show ((0 : Nat) : Int) = 0 from rfl]
        rw [Nat.add_zero] at ck
        go_wp2_with fail
        refine (put_es HE.out (u : Nat) 64 (by omega) (by have := HU.out.1; omega) (by omega) (by omega) (by simp [xencTo])).mono ?_
        rintro e w3 ⟨rfl, g3, hes3⟩
        have H3 := Lib.hid hes3
        clear hes3 ck
        go_wp2_with fail
        go_roundw
        case rel =>
          refine ⟨1, g3, by omega, rfl, ?_⟩
          have := H3.out
          rw [show ((u : Int)).toNat = u from rfl, show (64 : Int).toNat = 64 from rfl, HU.out.2] at this
          exact this
        case measure => simp [intOf]; omega
      · obtain ⟨j, rfl⟩ : ∃ j, k = j + 1 := ⟨k - 1, by omega⟩
        have cp := hcp (by omega)
        rw [show j + 1 - 1 = j by omega] at cp
        obtain ⟨a, ha⟩ : ∃ a, a = f (j + 1) := ⟨_, rfl⟩
        obtain ⟨p, hp⟩ : ∃ p, p = f j := ⟨_, rfl⟩
        obtain ⟨q, hq⟩ : ∃ q, q = a ^^^ p := ⟨_, rfl⟩
        have r1 := HS.out.2 (j + 1)
        have r2 := HS.out.2 j
        rw [← ha] at ck r1
        rw [← hp] at cp r2
        have hqx : bits .xor .u64 (a : Int) (p : Int) = (q : Int) := by rw [u64_xor_nat _ _ r1 r2, hq]
        have hql : q < 18446744073709551616 := by rw [hq]; exact xor_lt r1 r2
        obtain ⟨L, hL⟩ : ∃ L, L = xencTo f (j + 1) := ⟨_, rfl⟩
        obtain ⟨o, ho⟩ : ∃ o, o = xwin f (j + 1) := ⟨_, rfl⟩
        have hok : WinOk o := by rw [ho]; exact xwin_ok HS.out.2 _
        have hes := HE.out
        rw [← hL, ← ho] at hes
        rw [← hL] at hlk
        have hfin : ∀ k', k' = j + 2 → xencTo f k' = L ++ xbits o q ∧ xwin f k' = nextW o q := by
          rintro k' rfl; rw [hL, ho, hq, ha, hp]; exact ⟨rfl, rfl⟩
        clear HE
        have HE := Lib.hid (And.intro hes (And.intro hql (And.intro hok hfin)))
        clear hes hql hok hfin hL ho hq ha hp r1 r2 hcp hk0
        rw [show ((j + 1 : Nat) : Int) = (j : Int) + 1 from rfl]
        by_cases h0 : q = 0
        · subst h0
          rw [show ((0 : Nat) : Int) = 0 from rfl] at hqx
          go_wp2_with fail
          refine (put_es HE.out.1 0 1 (by omega) (by omega) (by omega) (by omega) (by omega)).mono ?_
          rintro e w3 ⟨rfl, g3, hes3⟩
          have H3 := Lib.hid hes3
          clear hes3 ck cp hqx
          go_wp2_with fail
          go_roundw
          case rel =>
            obtain ⟨e1, e2⟩ := HE.out.2.2.2 (j + 2) rfl
            refine ⟨j + 2, g3, by omega, by go_num, ?_⟩
            rw [e1, e2]
            exact H3.out
          case measure => simp [intOf]; omega
        · have dq : ((q : Int) == 0) = false := by simp [h0]
          have HQ := Lib.hid h0
          clear h0
          go_wp2_with fail
          refine (of_any q HE.out.2.1 _).mono ?_
          rintro e w3 ⟨rfl, hb3⟩
          obtain ⟨l, t, hc⟩ := winC_two o
          have hes3 := HE.out.1.below (hb3.alloc hb3.size (.cells #[.int .i64 (lead q : Nat), .int .i64 (trail q : Nat)] 90))
          have hbz := Blk.fresh w3 90 #[.int .i64 (lead q : Nat), .int .i64 (trail q : Nat)]
          have hw3 := hes3.win
          rw [hc] at hw3
          have p0 := hw3.cell 0
          have p1 := hw3.cell 1
          simp at p0 p1
          have H3 := Lib.hid (And.intro hes3 (And.intro hbz hc))
          clear hes3 hbz hw3 hc hb3 ck cp hqx dq
          go_wp2_with fail
          clear p0 p1
          refine (has_es o q l t H3.out.2.2 _).mono ?_
          rintro e w4 ⟨rfl, hb4⟩
          have hes4 := H3.out.1.below hb4
          have hbz4 := H3.out.2.1.below hb4 H3.out.2.1.lt
          obtain ⟨z, hz⟩ : ∃ z, z = w3.heap.size := ⟨_, rfl⟩
          rw [← hz] at hbz4
          rw [← hz]
          have H4 := Lib.hid (And.intro hes4 hbz4)
          clear hes4 hbz4 hb4 H3 hz
          cases hfit : fits o q
          · have HF := Lib.hid hfit
            clear hfit
            have hwl := window_le (u := q) (by have := HQ.out; omega) HE.out.2.1
            have hb := H4.out.1.win
            obtain ⟨l', t', hc'⟩ := winC_two o
            rw [hc'] at hb
            have f0 := hb.frozen
            have y0 := hb.cell 0
            have y1 := hb.cell 1
            have z0 := H4.out.2.cell 0
            have z1 := H4.out.2.cell 1
            simp at y0 y1 z0 z1
            obtain ⟨m, hm⟩ : ∃ m, m = lead q := ⟨_, rfl⟩
            obtain ⟨n, hn⟩ : ∃ n, n = trail q := ⟨_, rfl⟩
            have hset := H4.out.1.set (lead q) (trail q)
            rw [← hm] at z0
            rw [← hn] at z1
            rw [← hm, ← hn] at hwl hset
            rw [← hm, ← hn]
            have HM := Lib.hid (And.intro hm (And.intro hn hset))
            clear hm hn hset hb hc'
            go_wp2_with fail
            refine (put_es HM.out.2.2 3 2 (by omega) (by omega) (by omega) (by omega) (by omega)).mono ?_
            rintro e w5 ⟨rfl, g5, hes5⟩
            have H5 := Lib.hid hes5
            have y0 := es_c0 hes5
            have y1 := es_c1 hes5
            clear hes5 f0 z0 z1
            have ew : IntKind.u64.wrap (m : Int) = (m : Int) := by rw [IntKind.wrap_u64]; omega
            go_wp2_with fail
            refine (put_es H5.out (m : Nat) 6 (by omega) (by omega) (by omega) (by omega) (by simp only [List.length_append, bitsTo_length]; omega)).mono ?_
            rintro e w6 ⟨rfl, g6, hes6⟩
            clear y0 y1 ew
            have y0 := es_c0 hes6
            have y1 := es_c1 hes6
            have H6 := Lib.hid hes6
            clear hes6
            go_wp2_with fail
            refine (inside_any m n (by omega) _).mono ?_
            rintro e w7 ⟨rfl, hb7⟩
            have hes7 := H6.out.below hb7
            have H7 := Lib.hid hes7
            clear hb7 hes7 y0 y1
            obtain ⟨s, hs⟩ : ∃ s, s = 64 - m - n := ⟨_, rfl⟩
            rw [← hs]
            have hs1 : 1 ≤ s := by omega
            have hs64 : s ≤ 64 := by omega
            have HSS := Lib.hid hs
            clear hs
            have ew : IntKind.u64.wrap ((s : Int) - 1) = ((s - 1 : Nat) : Int) := by rw [IntKind.wrap_u64]; omega
            go_wp2_with fail
            refine (put_es H7.out ((s - 1 : Nat) : Int) 6 (by omega) (by omega) (by omega) (by omega) (by simp only [List.length_append, bitsTo_length]; omega)).mono ?_
            rintro e W8 ⟨rfl, g8, hes8⟩
            have HY := Lib.hid hes8
            clear hes8 ew
            go_wp2_with fail
            obtain ⟨v, hv⟩ : ∃ v, v = q / 2 ^ n := ⟨_, rfl⟩
            have hvi : (q : Int) / 2 ^ n = (v : Int) := by rw [hv, div_cast]
            have hvl : v < 18446744073709551616 := by rw [hv]; exact Nat.lt_of_le_of_lt (Nat.div_le_self _ _) HE.out.2.1
            have HV := Lib.hid (And.intro hv hvl)
            clear hv hvl
            have hn63 : n ≤ 63 := by omega
            have hn64 : n < 64 := by omega
            have hS : (fun w' : World => w'.cell? ⟨y, 0, none⟩ = some (.int .i64 (m : Nat)) ∧ w'.cell? ⟨y, 1, none⟩ = some (.int .i64 (n : Nat))) (W8.drew) := ⟨es_c0 HY.out.drew, es_c1 HY.out.drew⟩
            refine reg_start (fun w' : World => w'.cell? ⟨y, 0, none⟩ = some (.int .i64 (m : Nat)) ∧ w'.cell? ⟨y, 1, none⟩ = some (.int .i64 (n : Nat))) (by kernel_rfl) hS ?_
            refine reg_take (i := 0) (v := ?_) rfl (by kernel_rfl) (by kernel_rfl) (by kernel_rfl) (fun _ _ _ h => h) (Or.inl ⟨by kernel_rfl, ?_⟩) hS ?_
            rotate_left
            · (intro w' hSw; go_simp <;> with_reducible rfl)
            try simp only [List.getElem_toArray, List.getElem_cons_succ, List.getElem_cons_zero, Act.put, List.setIfInBounds_toArray, List.set_cons_zero, List.set_cons_succ]
            refine reg_take (i := 1) (v := ?_) rfl (by kernel_rfl) (by kernel_rfl) (by kernel_rfl) (fun _ _ _ h => h) (Or.inl ⟨by kernel_rfl, ?_⟩) hS ?_
            rotate_left
            · (intro w' hSw; go_simp <;> with_reducible rfl)
            try simp only [List.getElem_toArray, List.getElem_cons_succ, List.getElem_cons_zero, Act.put, List.setIfInBounds_toArray, List.set_cons_zero, List.set_cons_succ]
            refine reg_take (i := 2) (v := ?_) rfl (by kernel_rfl) (by kernel_rfl) (by kernel_rfl) (fun _ _ _ h => h) (Or.inl ⟨by kernel_rfl, ?_⟩) hS ?_
            rotate_left
            · (intro w' hSw; obtain ⟨p0, p1⟩ := hSw; go_simp <;> with_reducible rfl)
            try simp only [List.getElem_toArray, List.getElem_cons_succ, List.getElem_cons_zero, Act.put, List.setIfInBounds_toArray, List.set_cons_zero, List.set_cons_succ]
            refine reg_take (i := 3) (v := ?_) rfl (by kernel_rfl) (by kernel_rfl) (by kernel_rfl) (fun _ _ _ h => h) (Or.inl ⟨by kernel_rfl, ?_⟩) hS ?_
            rotate_left
            · (intro w' hSw; obtain ⟨p0, p1⟩ := hSw; go_simp <;> with_reducible rfl)
            try simp only [List.getElem_toArray, List.getElem_cons_succ, List.getElem_cons_zero, Act.put, List.setIfInBounds_toArray, List.set_cons_zero, List.set_cons_succ]
            refine reg_take (i := 4) (v := ?_) rfl (by kernel_rfl) (by kernel_rfl) (by kernel_rfl) (fun _ _ _ h => h) (Or.inl ⟨by kernel_rfl, ?_⟩) hS ?_
            rotate_left
            · (intro w' hSw; obtain ⟨p0, p1⟩ := hSw; go_simp <;> with_reducible rfl)
            try simp only [List.getElem_toArray, List.getElem_cons_succ, List.getElem_cons_zero, Act.put, List.setIfInBounds_toArray, List.set_cons_zero, List.set_cons_succ]
            refine reg_take (i := 5) (v := ?_) rfl (by kernel_rfl) (by kernel_rfl) (by kernel_rfl) (fun _ _ _ h => h) (Or.inl ⟨by kernel_rfl, ?_⟩) hS ?_
            rotate_left
            · (intro w' hSw; obtain ⟨p0, p1⟩ := hSw; go_simp <;> with_reducible rfl)
            try simp only [List.getElem_toArray, List.getElem_cons_succ, List.getElem_cons_zero, Act.put, List.setIfInBounds_toArray, List.set_cons_zero, List.set_cons_succ]
            refine reg_call (i := 6) rfl (by kernel_rfl) (fun K hK => ?_)
            have HK := Lib.hid hK
            clear hK
            go_simp
            refine (inside_any m n (by omega) W8.drew).mono ?_
            rintro e w9 ⟨rfl, hb9⟩
            have hes9 := HY.out.drew.below hb9
            have H9 := Lib.hid hes9
            clear hb9 hes9
            go_wp2_with fail
            refine HK.out.to (fun w' : World => w'.cell? ⟨y, 0, none⟩ = some (.int .i64 (m : Nat)) ∧ w'.cell? ⟨y, 1, none⟩ = some (.int .i64 (n : Nat))) (fun _ h => h) (⟨es_c0 H9.out, es_c1 H9.out⟩) ?_
            clear HK hS
            have hS : (fun w' : World => w'.cell? ⟨y, 0, none⟩ = some (.int .i64 (m : Nat)) ∧ w'.cell? ⟨y, 1, none⟩ = some (.int .i64 (n : Nat))) (w9) := ⟨es_c0 H9.out, es_c1 H9.out⟩
            try simp only [List.getElem_toArray, List.getElem_cons_succ, List.getElem_cons_zero, Act.put, List.setIfInBounds_toArray, List.set_cons_zero, List.set_cons_succ]
            refine reg_call (i := 7) rfl (by kernel_rfl) (fun K hK => ?_)
            have HK := Lib.hid hK
            clear hK
            go_simp
            refine (put_es H9.out (v : Nat) ((64 - m - n : Nat) : Int) (by omega) (by have := HV.out.2; omega) (by omega) (by omega) (by simp only [List.length_append, bitsTo_length]; omega)).mono ?_
            rintro e w10 ⟨rfl, g10, hes10⟩
            have H10 := Lib.hid hes10
            clear hes10
            go_wp2_with fail
            refine HK.out.to (fun w' : World => w'.cell? ⟨y, 0, none⟩ = some (.int .i64 (m : Nat)) ∧ w'.cell? ⟨y, 1, none⟩ = some (.int .i64 (n : Nat))) (fun _ h => h) (⟨es_c0 H10.out, es_c1 H10.out⟩) ?_
            clear HK hS
            have hS : (fun w' : World => w'.cell? ⟨y, 0, none⟩ = some (.int .i64 (m : Nat)) ∧ w'.cell? ⟨y, 1, none⟩ = some (.int .i64 (n : Nat))) (w10) := ⟨es_c0 H10.out, es_c1 H10.out⟩
            try simp only [List.getElem_toArray, List.getElem_cons_succ, List.getElem_cons_zero, Act.put, List.setIfInBounds_toArray, List.set_cons_zero, List.set_cons_succ]
            refine wpAnyH_done (by kernel_rfl) ?_ _
            try simp only [List.getElem_toArray, List.getElem_cons_succ, List.getElem_cons_zero]
            try simp only [List.getElem_toArray, List.getElem_cons_succ, List.getElem_cons_zero, Act.put, List.setIfInBounds_toArray, List.set_cons_zero, List.set_cons_succ]
            go_wp2_with fail
            go_roundw
            case rel =>
              obtain ⟨e1, e2⟩ := HE.out.2.2.2 (j + 2) rfl
              obtain ⟨e3, e4⟩ := xbits_new HQ.out HF.out
              refine ⟨j + 2, g10, by omega, by go_num, ?_⟩
              rw [e1, e2, e3, e4, ← List.append_assoc, ← List.append_assoc, ← List.append_assoc, ← HM.out.1, ← HM.out.2.1]
              have := H10.out
              rw [HSS.out, HV.out.1] at this
              exact this
            case measure => simp [intOf]; omega
          · obtain ⟨m, n, rfl⟩ : ∃ m n, o = some (m, n) := by
              cases o with
              | none => simp [fits] at hfit
              | some p => exact ⟨p.1, p.2, rfl⟩
            have HF := Lib.hid hfit
            clear hfit
            have hwl : m + n ≤ 63 := HE.out.2.2.1 (m, n) rfl
            go_wp2_with fail
            refine (put_es H4.out.1 2 2 (by omega) (by omega) (by omega) (by omega) (by omega)).mono ?_
            rintro e W8 ⟨rfl, g8, hes8⟩
            have HY := Lib.hid hes8
            clear hes8
            go_wp2_with fail
            obtain ⟨v, hv⟩ : ∃ v, v = q / 2 ^ n := ⟨_, rfl⟩
            have hvi : (q : Int) / 2 ^ n = (v : Int) := by rw [hv, div_cast]
            have hvl : v < 18446744073709551616 := by rw [hv]; exact Nat.lt_of_le_of_lt (Nat.div_le_self _ _) HE.out.2.1
            have HV := Lib.hid (And.intro hv hvl)
            clear hv hvl
            have hn63 : n ≤ 63 := by omega
            have hn64 : n < 64 := by omega
            have hS : (fun w' : World => w'.cell? ⟨y, 0, none⟩ = some (.int .i64 (m : Nat)) ∧ w'.cell? ⟨y, 1, none⟩ = some (.int .i64 (n : Nat))) (W8.drew) := ⟨es_c0 HY.out.drew, es_c1 HY.out.drew⟩
            refine reg_start (fun w' : World => w'.cell? ⟨y, 0, none⟩ = some (.int .i64 (m : Nat)) ∧ w'.cell? ⟨y, 1, none⟩ = some (.int .i64 (n : Nat))) (by kernel_rfl) hS ?_
            refine reg_take (i := 0) (v := ?_) rfl (by kernel_rfl) (by kernel_rfl) (by kernel_rfl) (fun _ _ _ h => h) (Or.inl ⟨by kernel_rfl, ?_⟩) hS ?_
            rotate_left
            · (intro w' hSw; go_simp <;> with_reducible rfl)
            try simp only [List.getElem_toArray, List.getElem_cons_succ, List.getElem_cons_zero, Act.put, List.setIfInBounds_toArray, List.set_cons_zero, List.set_cons_succ]
            refine reg_take (i := 1) (v := ?_) rfl (by kernel_rfl) (by kernel_rfl) (by kernel_rfl) (fun _ _ _ h => h) (Or.inl ⟨by kernel_rfl, ?_⟩) hS ?_
            rotate_left
            · (intro w' hSw; go_simp <;> with_reducible rfl)
            try simp only [List.getElem_toArray, List.getElem_cons_succ, List.getElem_cons_zero, Act.put, List.setIfInBounds_toArray, List.set_cons_zero, List.set_cons_succ]
            refine reg_take (i := 2) (v := ?_) rfl (by kernel_rfl) (by kernel_rfl) (by kernel_rfl) (fun _ _ _ h => h) (Or.inl ⟨by kernel_rfl, ?_⟩) hS ?_
            rotate_left
            · (intro w' hSw; obtain ⟨p0, p1⟩ := hSw; go_simp <;> with_reducible rfl)
            try simp only [List.getElem_toArray, List.getElem_cons_succ, List.getElem_cons_zero, Act.put, List.setIfInBounds_toArray, List.set_cons_zero, List.set_cons_succ]
            refine reg_take (i := 3) (v := ?_) rfl (by kernel_rfl) (by kernel_rfl) (by kernel_rfl) (fun _ _ _ h => h) (Or.inl ⟨by kernel_rfl, ?_⟩) hS ?_
            rotate_left
            · (intro w' hSw; obtain ⟨p0, p1⟩ := hSw; go_simp <;> with_reducible rfl)
            try simp only [List.getElem_toArray, List.getElem_cons_succ, List.getElem_cons_zero, Act.put, List.setIfInBounds_toArray, List.set_cons_zero, List.set_cons_succ]
            refine reg_take (i := 4) (v := ?_) rfl (by kernel_rfl) (by kernel_rfl) (by kernel_rfl) (fun _ _ _ h => h) (Or.inl ⟨by kernel_rfl, ?_⟩) hS ?_
            rotate_left
            · (intro w' hSw; obtain ⟨p0, p1⟩ := hSw; go_simp <;> with_reducible rfl)
            try simp only [List.getElem_toArray, List.getElem_cons_succ, List.getElem_cons_zero, Act.put, List.setIfInBounds_toArray, List.set_cons_zero, List.set_cons_succ]
            refine reg_take (i := 5) (v := ?_) rfl (by kernel_rfl) (by kernel_rfl) (by kernel_rfl) (fun _ _ _ h => h) (Or.inl ⟨by kernel_rfl, ?_⟩) hS ?_
            rotate_left
            · (intro w' hSw; obtain ⟨p0, p1⟩ := hSw; go_simp <;> with_reducible rfl)
            try simp only [List.getElem_toArray, List.getElem_cons_succ, List.getElem_cons_zero, Act.put, List.setIfInBounds_toArray, List.set_cons_zero, List.set_cons_succ]
            refine reg_call (i := 6) rfl (by kernel_rfl) (fun K hK => ?_)
            have HK := Lib.hid hK
            clear hK
            go_simp
            refine (inside_any m n (by omega) W8.drew).mono ?_
            rintro e w9 ⟨rfl, hb9⟩
            have hes9 := HY.out.drew.below hb9
            have H9 := Lib.hid hes9
            clear hb9 hes9
            go_wp2_with fail
            refine HK.out.to (fun w' : World => w'.cell? ⟨y, 0, none⟩ = some (.int .i64 (m : Nat)) ∧ w'.cell? ⟨y, 1, none⟩ = some (.int .i64 (n : Nat))) (fun _ h => h) (⟨es_c0 H9.out, es_c1 H9.out⟩) ?_
            clear HK hS
            have hS : (fun w' : World => w'.cell? ⟨y, 0, none⟩ = some (.int .i64 (m : Nat)) ∧ w'.cell? ⟨y, 1, none⟩ = some (.int .i64 (n : Nat))) (w9) := ⟨es_c0 H9.out, es_c1 H9.out⟩
            try simp only [List.getElem_toArray, List.getElem_cons_succ, List.getElem_cons_zero, Act.put, List.setIfInBounds_toArray, List.set_cons_zero, List.set_cons_succ]
            refine reg_call (i := 7) rfl (by kernel_rfl) (fun K hK => ?_)
            have HK := Lib.hid hK
            clear hK
            go_simp
            refine (put_es H9.out (v : Nat) ((64 - m - n : Nat) : Int) (by omega) (by have := HV.out.2; omega) (by omega) (by omega) (by simp only [List.length_append, bitsTo_length]; omega)).mono ?_
            rintro e w10 ⟨rfl, g10, hes10⟩
            have H10 := Lib.hid hes10
            clear hes10
            go_wp2_with fail
            refine HK.out.to (fun w' : World => w'.cell? ⟨y, 0, none⟩ = some (.int .i64 (m : Nat)) ∧ w'.cell? ⟨y, 1, none⟩ = some (.int .i64 (n : Nat))) (fun _ h => h) (⟨es_c0 H10.out, es_c1 H10.out⟩) ?_
            clear HK hS
            have hS : (fun w' : World => w'.cell? ⟨y, 0, none⟩ = some (.int .i64 (m : Nat)) ∧ w'.cell? ⟨y, 1, none⟩ = some (.int .i64 (n : Nat))) (w10) := ⟨es_c0 H10.out, es_c1 H10.out⟩
            try simp only [List.getElem_toArray, List.getElem_cons_succ, List.getElem_cons_zero, Act.put, List.setIfInBounds_toArray, List.set_cons_zero, List.set_cons_succ]
            refine wpAnyH_done (by kernel_rfl) ?_ _
            try simp only [List.getElem_toArray, List.getElem_cons_succ, List.getElem_cons_zero]
            try simp only [List.getElem_toArray, List.getElem_cons_succ, List.getElem_cons_zero, Act.put, List.setIfInBounds_toArray, List.set_cons_zero, List.set_cons_succ]
            go_wp2_with fail
            go_roundw
            case rel =>
              obtain ⟨e1, e2⟩ := HE.out.2.2.2 (j + 2) rfl
              obtain ⟨e3, e4⟩ := xbits_old HQ.out HF.out
              refine ⟨j + 2, g10, by omega, by go_num, ?_⟩
              rw [e1, e2, e3, e4, ← List.append_assoc]
              have := H10.out
              rw [HV.out.1] at this
              exact this
            case measure => simp [intOf]; omega
    · obtain rfl : k = len := by omega
      have HR := Lib.hid (And.intro hes.out hes.keeps)
      clear hes
      go_wp2_with fail
      refine (bytes_wr _ _ _ _ HR.out.1).mono ?_
      rintro e w3 ⟨A2, c2, rfl, ho2, hk2⟩
      have H3 := Lib.hid (And.intro (own_base ho2 HR.out.2.size) (HR.out.2.trans' hk2))
      clear ho2 hk2
      go_wp2_with fail
      go_ret2
      exact ⟨A2, c2, rfl, H3.out.1, H3.out.2⟩
end Go.Proofs.YtboecnakndpgfaaDoor.X
namespace Go.Proofs.YtboecnakndpgfaaDoor.X
set_option maxRecDepth 100000
open Go.RowKit
set_option linter.unusedVariables false
set_option linter.unusedSimpArgs false
/-- The window in two variables. -/
def rwl (o : Option (Nat × Nat)) : Int := match o with
  | none => -1
  | some p => (p.1 : Nat)
def rwt (o : Option (Nat × Nat)) : Int := match o with
  | none => 0
  | some p => (p.2 : Nat)
end Go.Proofs.YtboecnakndpgfaaDoor.X
namespace Go.Proofs.YtboecnakndpgfaaDoor.V
open Go.RowKit Go.Extern.Stop Go.Stop Go.Extern
set_option linter.unusedVariables false
set_option linter.unusedSimpArgs false
theorem erTypeOf (v : Value) (w : World) : (Extern.ReflectliteType.typeOf #[.iface 24 v]).run Tryd.prog w = .ok (.iface 164 (.agg #[.pointer (some ⟨1, 24, none⟩)])) w := by kernel_rfl
theorem erComparable (w : World) : ((Extern.ReflectliteType.method fun t => do Rtype.noPackHeld "Comparable" t; (fun a => Value.bool a.comparable) <$> typeInfo t) #[.agg #[.pointer (some ⟨1, 24, none⟩)]]).run Tryd.prog w = .ok (.bool true) w := by kernel_rfl
theorem erIsE (v : Value) (xT : TypeId) (w : World) : (Instr.typeAssert (.iface 24 v) xT 166 true).run Tryd.prog w = .ok (.tuple #[.nilIface, .bool false]) w := run_typeAssert_lacksB Tryd.underlying166 (by kernel_rfl) (by kernel_rfl) v xT w
theorem erUnwrapE (v : Value) (xT : TypeId) (w : World) : (Instr.typeAssert (.iface 24 v) xT 169 true).run Tryd.prog w = .ok (.tuple #[.nilIface, .bool false]) w := run_typeAssert_lacksB Tryd.underlying169 (by kernel_rfl) (by kernel_rfl) v xT w
theorem erUnwrapsE (v : Value) (xT : TypeId) (w : World) : (Instr.typeAssert (.iface 24 v) xT 171 true).run Tryd.prog w = .ok (.tuple #[.nilIface, .bool false]) w := run_typeAssert_lacksB Tryd.underlying171 (by kernel_rfl) (by kernel_rfl) v xT w
theorem erIsF (v : Value) (xT : TypeId) (w : World) : (Instr.typeAssert (.iface 141 v) xT 166 true).run Tryd.prog w = .ok (.tuple #[.nilIface, .bool false]) w := run_typeAssert_lacksB Tryd.underlying166 (by kernel_rfl) (by kernel_rfl) v xT w
theorem erUnwrapF (v : Value) (xT : TypeId) (w : World) : (Instr.typeAssert (.iface 141 v) xT 169 true).run Tryd.prog w = .ok (.tuple #[.iface 141 v, .bool true]) w := run_typeAssert_hasB Tryd.underlying169 (by kernel_rfl) v xT w
theorem erMComp (v : Value) (w : World) : (Go.method 307 164 v "Comparable").run Tryd.prog w = .ok (118, v) w := by kernel_rfl
theorem erMUnwrap (v : Value) (w : World) : (Go.method 307 141 v "Unwrap").run Tryd.prog w = .ok (112, v) w := by kernel_rfl
theorem er_nil (v : Value) (w : World) :
    Calls Tryd.prog 80 #[.nilIface, .iface 24 v] w fun e w' => e = .returned (.bool false) ∧ w = w' := by
  have hn := run_eql_iface_nil_left (P := Tryd.prog) w 24 v Tryd.underlying125
  go_enter Tryd.func80, Tryd.ntmps80
  go_wp2
  go_ret
  exact ⟨rfl, rfl⟩
theorem fault_unwrap (i k : Int) (w : World) :
    Calls Tryd.prog 112 #[.agg #[.int .i64 i, .int .i64 k]] w fun e w' => e = .returned (.iface 24 (.int .i64 k)) ∧ w' = w.alloc (.cells #[.int .i64 i, .int .i64 k] 141) := by
  go_enter Tryd.func112, Tryd.ntmps112
  go_wp2
  go_ret
  exact ⟨rfl, rfl⟩
set_option maxRecDepth 100000 in
set_option maxHeartbeats 1000000 in
theorem er_fault (i k : Int) (w : World) :
    Calls Tryd.prog 80 #[.iface 141 (.agg #[.int .i64 i, .int .i64 k]), .iface 24 (.int .i64 10)] w fun e w' => e = .returned (.bool (k == 10)) ∧ Below w.heap.size w w' := by
  have h8 := @run_callFunc_extern Tryd.prog 84 _ Extern.ReflectliteType.typeOf Tryd.func84 (by kernel_rfl) (by kernel_rfl) (by kernel_rfl) (by kernel_rfl)
  have h32 := @run_callFunc_extern Tryd.prog 118 _ (Extern.ReflectliteType.method fun t => do Rtype.noPackHeld "Comparable" t; pure (.bool (← typeInfo t).comparable)) Tryd.func118 (by kernel_rfl) (by kernel_rfl) (by kernel_rfl) (by kernel_rfl)
  have tT := erTypeOf
  have cT := erComparable
  have nE := erIsE
  have uE := erUnwrapE
  have vE := erUnwrapsE
  have nF := erIsF
  have uF := erUnwrapF
  have mC := erMComp
  have mU := erMUnwrap
  have heq := fun w => Lib.run_eql_iface_int (P := Tryd.prog) w (k := .i64) (t := 125) (tx := 24) k 10 Tryd.underlying125 (by kernel_rfl) Tryd.underlying24
  have hty := fun w => run_eql_iface_types (P := Tryd.prog) 141 24 (.agg #[.int .i64 i, .int .i64 k]) (.int .i64 10) Tryd.underlying125 (by decide) w
  go_enter Tryd.func80, Tryd.ntmps80
  go_wp2
  refine wp_loop_rounds 2 ?_
  rw [rounds_succ]
  go_wp2
  by_cases hk : k = 10
  · subst hk
    rw [rounds_succ]
    go_wp2
    go_ret
    exact ⟨rfl, (Below.refl _ _).alloc (Nat.le_refl _) _⟩
  · rw [rounds_succ]
    go_wp2
    go_ret
    exact ⟨by rw [show (k == 10) = false by simp [hk]]; rfl, (Below.refl _ _).alloc (Nat.le_refl _) _⟩
end Go.Proofs.YtboecnakndpgfaaDoor.V
namespace Go.Proofs.YtboecnakndpgfaaDoor.V
open Go.RowKit Go.Extern.Stop Go.Stop Go.Extern
set_option linter.unusedVariables false
set_option linter.unusedSimpArgs false
theorem as_nil (t : Value) (w : World) :
    Calls Tryd.prog 81 #[.nilIface, t] w fun e w' => e = .returned (.bool false) ∧ w = w' := by
  go_enter Tryd.func81, Tryd.ntmps81
  go_wp2
  go_ret
  exact ⟨rfl, rfl⟩
theorem asValueOfP (t : Addr) (w : World) : (ReflectliteValue.unpack (.iface 144 (.pointer (some t)))).run Tryd.prog w
    = .ok (.agg #[.pointer (some ⟨1, 144, none⟩), .pointer (some ⟨w.heap.size, 0, none⟩), .int .u64 150]) (w.alloc (.cells #[.pointer (some t)] 144)) := by kernel_rfl
theorem asTypeP (a : Addr) (w : World) : (ReflectliteValue.methodAny (ReflectliteValue.valueError "reflectlite.Value.Type" 0) (fun t _ _ _ => ReflectliteType.toType t) #[.agg #[.pointer (some ⟨1, 144, none⟩), .pointer (some a), .int .u64 150]]).run Tryd.prog w
    = .ok (.iface 164 (.agg #[.pointer (some ⟨1, 144, none⟩)])) w := by kernel_rfl
theorem asMKind (h : Value) (w : World) : (Go.method 307 164 (.agg #[h]) "Kind").run Tryd.prog w = .ok (106, h) w := by kernel_rfl
theorem asKindP (w : World) : ((ReflectliteType.abiMethod fun t => (fun a : Nat => Value.int IntKind.u8 (a : Int)) <$> Rtype.kind t) #[.pointer (some ⟨1, 144, none⟩)]).run Tryd.prog w = .ok (.int .u8 22) w := by kernel_rfl
theorem asKindF (w : World) : ((ReflectliteType.abiMethod fun t => (fun a : Nat => Value.int IntKind.u8 (a : Int)) <$> Rtype.kind t) #[.pointer (some ⟨1, 141, none⟩)]).run Tryd.prog w = .ok (.int .u8 25) w := by kernel_rfl
theorem rlm (z : Sem Value) (f : TypeId → Addr → Nat → Nat → Sem Value) (v : Value) :
    ReflectliteValue.method z f #[v] = (do match ← ReflectliteValue.parts v with | none => z | some (t, a, fl) => f t a fl (fl % 32)) := rfl
theorem asPartsP (a : Addr) (w : World) : (ReflectliteValue.parts (.agg #[.pointer (some ⟨1, 144, none⟩), .pointer (some a), .int .u64 150])).run Tryd.prog w = .ok (some (144, a, 150)) w := by kernel_rfl
theorem asIsNilP (a p : Addr) (W : World) (ha : W.cell? a = some (.pointer (some p))) :
    (ReflectliteValue.method (ReflectliteValue.valueError "reflectlite.Value.IsNil" 0) ReflectliteValue.isNil #[.agg #[.pointer (some ⟨1, 144, none⟩), .pointer (some a), .int .u64 150]]).run Tryd.prog W = .ok (.bool false) W := by
  rw [rlm]
  simp only [Sem.run_bind, asPartsP, Result.andThen]
  simp [ReflectliteValue.isNil, loadVar, isAgg, underlying, Tryd.underlying144, ha, Result.andThen]
theorem asMElem (h : Value) (w : World) : (Go.method 307 164 (.agg #[h]) "Elem").run Tryd.prog w = .ok (119, .agg #[h]) w := by kernel_rfl
theorem asMImpl (h : Value) (w : World) : (Go.method 307 164 (.agg #[h]) "Implements").run Tryd.prog w = .ok (120, .agg #[h]) w := by kernel_rfl
theorem asMAss (h : Value) (w : World) : (Go.method 307 164 (.agg #[h]) "AssignableTo").run Tryd.prog w = .ok (117, .agg #[h]) w := by kernel_rfl
theorem asElemP (w : World) : (ReflectliteType.method ReflectliteType.elem #[.agg #[.pointer (some ⟨1, 144, none⟩)]]).run Tryd.prog w = .ok (.iface 164 (.agg #[.pointer (some ⟨1, 141, none⟩)])) w := by kernel_rfl
theorem asImplF (w : World) : (ReflectliteType.relation "Implements" ReflectliteType.implements_ #[.agg #[.pointer (some ⟨1, 141, none⟩)], .iface 164 (.agg #[.pointer (some ⟨1, 125, none⟩)])]).run Tryd.prog w = .ok (.bool true) w := by kernel_rfl
theorem asTypeOfF (v : Value) (w : World) : (ReflectliteType.typeOf #[.iface 141 v]).run Tryd.prog w = .ok (.iface 164 (.agg #[.pointer (some ⟨1, 141, none⟩)])) w := by kernel_rfl
theorem asAssF (w : World) : (ReflectliteType.relation "AssignableTo" ReflectliteType.assignableTo #[.agg #[.pointer (some ⟨1, 141, none⟩)], .iface 164 (.agg #[.pointer (some ⟨1, 141, none⟩)])]).run Tryd.prog w = .ok (.bool true) w := by kernel_rfl
theorem asValueOfF (i k : Int) (w : World) : (ReflectliteValue.unpack (.iface 141 (.agg #[.int .i64 i, .int .i64 k]))).run Tryd.prog w
    = .ok (.agg #[.pointer (some ⟨1, 141, none⟩), .pointer (some ⟨w.heap.size, 0, none⟩), .int .u64 153]) (w.alloc (.cells #[.int .i64 i, .int .i64 k] 141)) := by kernel_rfl
theorem asElemOfP (w : World) : (Rtype.elem? 144).run Tryd.prog w = .ok (some 141) w := by kernel_rfl
theorem asMkF (p : Addr) (w : World) : (ReflectliteValue.mk 141 p ReflectliteValue.flagAddr).run Tryd.prog w = .ok (.agg #[.pointer (some ⟨1, 141, none⟩), .pointer (some p), .int .u64 409]) w := by kernel_rfl
theorem asElemVP (a p : Addr) (W : World) (ha : W.cell? a = some (.pointer (some p))) :
    (ReflectliteValue.method (ReflectliteValue.valueError "reflectlite.Value.Elem" 0) ReflectliteValue.elem #[.agg #[.pointer (some ⟨1, 144, none⟩), .pointer (some a), .int .u64 150]]).run Tryd.prog W
      = .ok (.agg #[.pointer (some ⟨1, 141, none⟩), .pointer (some p), .int .u64 409]) W := by
  rw [rlm]
  simp only [Sem.run_bind, asPartsP, Result.andThen]
  simp [ReflectliteValue.elem, loadVar, isAgg, underlying, Tryd.underlying144, ha, Result.andThen, asElemOfP, asMkF]
theorem rls (v x : Value) : ReflectliteValue.set #[v, x] = (do
    let (some (dst, a, fl), some (src, b, _)) := (← ReflectliteValue.parts v, ← ReflectliteValue.parts x)
      | unsupported (.noEntry "extern/(internal/reflectlite.Value).Set.zeroValue")
    if fl / ReflectliteValue.flagAddr % 2 == 0 then unsupported (.noEntry "extern/(internal/reflectlite.Value).Set.unaddressable")
    let val ← loadVar src b
    if ← Rtype.directlyAssignable dst src then storeVar dst a val
    else if ← Rtype.implements dst src then
      if (← Rtype.kind src) == 20 then
        match val with
        | .nilIface => unsupported (.noEntry "extern/reflectlite: a nil value of one interface type handed on as a value of another")
        | _ => storeVar dst a val
      else storeVar dst a (.iface src val)
    else panicString ("reflectlite.Set: value of type " ++ (← Rtype.spelt src) ++ " is not assignable to type " ++ (← Rtype.spelt dst))
    pure (.tuple #[])) := rfl
theorem asPartsFa (a : Addr) (w : World) : (ReflectliteValue.parts (.agg #[.pointer (some ⟨1, 141, none⟩), .pointer (some a), .int .u64 409])).run Tryd.prog w = .ok (some (141, a, 409)) w := by kernel_rfl
theorem asPartsF (a : Addr) (w : World) : (ReflectliteValue.parts (.agg #[.pointer (some ⟨1, 141, none⟩), .pointer (some a), .int .u64 153])).run Tryd.prog w = .ok (some (141, a, 153)) w := by kernel_rfl
theorem asDirectF (w : World) : (Rtype.directlyAssignable 141 141).run Tryd.prog w = .ok true w := by kernel_rfl
theorem asSizeF (w : World) : (sizeOf 141).run Tryd.prog w = .ok 2 w := by kernel_rfl
/-- (Value).Set: the fault variable at block g gets what the Value's own variable, block b, holds. -/
theorem asSetF (g b : Nat) (i k : Int) (o1 o2 : Value) (W : World) (hb : Blk W b 141 #[.int .i64 i, .int .i64 k]) (hg : Blk W g 141 #[o1, o2]) :
    (ReflectliteValue.set #[.agg #[.pointer (some ⟨1, 141, none⟩), .pointer (some ⟨g, 0, none⟩), .int .u64 409], .agg #[.pointer (some ⟨1, 141, none⟩), .pointer (some ⟨b, 0, none⟩), .int .u64 153]]).run Tryd.prog W
      = .ok (.tuple #[]) ((W.setCell ⟨g, 0, none⟩ (.int .i64 i)).setCell ⟨g, 1, none⟩ (.int .i64 k)) := by
  rw [rls]
  simp only [Sem.run_bind, asPartsFa, asPartsF, Result.andThen]
  have c0 : W.cell? ⟨b, 0, none⟩ = some (.int .i64 i) := by rw [hb.cell 0]; rfl
  have c1 : W.cell? ⟨b, 1, none⟩ = some (.int .i64 k) := by rw [hb.cell 1]; rfl
  have d0 : W.cell? ⟨g, 0, none⟩ = some o1 := by rw [hg.cell 0]; rfl
  have hg2 := hg.set 0 (.int .i64 i)
  have d1 : (W.setCell ⟨g, 0, none⟩ (.int .i64 i)).cell? ⟨g, 1, none⟩ = some o2 := by rw [hg2.cell 1]; rfl
  have f0 := hg.frozen 0
  have f1 := hg2.frozen 1
  have hl : (loadCells ⟨b, 0, none⟩ 2).run Tryd.prog W = .ok #[.int .i64 i, .int .i64 k] W := by
    simp [loadCells, loadCellsFrom, Addr.add, c0, c1, Result.andThen]
  have e1 : (store ⟨g, 0, none⟩ (.int .i64 i)).run Tryd.prog W = .ok () (W.setCell ⟨g, 0, none⟩ (.int .i64 i)) := by
    rw [run_store _ _ _ _ _ (by rfl), d0]; simp [f0]
  have e2 : (store ⟨g, 1, none⟩ (.int .i64 k)).run Tryd.prog (W.setCell ⟨g, 0, none⟩ (.int .i64 i)) = .ok () ((W.setCell ⟨g, 0, none⟩ (.int .i64 i)).setCell ⟨g, 1, none⟩ (.int .i64 k)) := by
    rw [run_store _ _ _ _ _ (by rfl), d1]; simp [f1]
  have hs : (storeCells ⟨g, 0, none⟩ [.int .i64 i, .int .i64 k]).run Tryd.prog W = .ok () ((W.setCell ⟨g, 0, none⟩ (.int .i64 i)).setCell ⟨g, 1, none⟩ (.int .i64 k)) := by
    unfold storeCells
    rw [Sem.run_bind, show (⟨g, 0, none⟩ : Addr).add 0 = ⟨g, 0, none⟩ by rfl, e1]
    show (storeCells ⟨g, 0, none⟩ [.int .i64 k] (0 + 1)).run Tryd.prog _ = _
    unfold storeCells
    rw [Sem.run_bind, show (⟨g, 0, none⟩ : Addr).add (0 + 1) = ⟨g, 1, none⟩ by rfl, e2]
    rfl
  simp [ReflectliteValue.flagAddr, loadVar, isAgg, underlying, Tryd.underlying141, hl, Result.andThen, asDirectF, storeVar, Value.cells, hs]
def AsPost (g : Nat) (i k : Int) (w : World) (e : Ending) (w' : World) : Prop :=
  e = .returned (.bool true) ∧ Keeps (fun x => x = g) w w' ∧ Blk w' g 141 #[.int .i64 i, .int .i64 k]
set_option maxRecDepth 100000 in
set_option maxHeartbeats 4000000 in
theorem as_fault (g : Nat) (i k : Int) (o1 o2 : Value) (w : World) (hv : w.cell? ⟨0, 0, none⟩ = some (.iface 164 (.agg #[.pointer (some ⟨1, 125, none⟩)]))) (hg : Blk w g 141 #[o1, o2]) :
    Calls Tryd.prog 81 #[.iface 141 (.agg #[.int .i64 i, .int .i64 k]), .iface 144 (.pointer (some ⟨g, 0, none⟩))] w (AsPost g i k w) := by
  have hE1 := @run_callFunc_extern Tryd.prog 86 _ (fun args => ReflectliteValue.unpack (args.getD 0 (.tuple #[]))) Tryd.func86 (by kernel_rfl) (by kernel_rfl) (by kernel_rfl) (by kernel_rfl)
  have hE2 := @run_callFunc_extern Tryd.prog 87 _ (ReflectliteValue.methodAny (ReflectliteValue.valueError "reflectlite.Value.Type" 0) (fun t _ _ _ => ReflectliteType.toType t)) Tryd.func87 (by kernel_rfl) (by kernel_rfl) (by kernel_rfl) (by kernel_rfl)
  have hE3 := @run_callFunc_extern Tryd.prog 88 _ (ReflectliteValue.method (ReflectliteValue.valueError "reflectlite.Value.IsNil" 0) ReflectliteValue.isNil) Tryd.func88 (by kernel_rfl) (by kernel_rfl) (by kernel_rfl) (by kernel_rfl)
  have hE4 := @run_callFunc_extern Tryd.prog 106 _ (ReflectliteType.abiMethod fun t => do pure (.int .u8 (← Rtype.kind t))) Tryd.func106 (by kernel_rfl) (by kernel_rfl) (by kernel_rfl) (by kernel_rfl)
  have hE5 := @run_callFunc_extern Tryd.prog 119 _ (ReflectliteType.method ReflectliteType.elem) Tryd.func119 (by kernel_rfl) (by kernel_rfl) (by kernel_rfl) (by kernel_rfl)
  have hE6 := @run_callFunc_extern Tryd.prog 120 _ (ReflectliteType.relation "Implements" ReflectliteType.implements_) Tryd.func120 (by kernel_rfl) (by kernel_rfl) (by kernel_rfl) (by kernel_rfl)
  have hE7 := @run_callFunc_extern Tryd.prog 84 _ ReflectliteType.typeOf Tryd.func84 (by kernel_rfl) (by kernel_rfl) (by kernel_rfl) (by kernel_rfl)
  have hE8 := @run_callFunc_extern Tryd.prog 117 _ (ReflectliteType.relation "AssignableTo" ReflectliteType.assignableTo) Tryd.func117 (by kernel_rfl) (by kernel_rfl) (by kernel_rfl) (by kernel_rfl)
  have hE9 := @run_callFunc_extern Tryd.prog 90 _ (ReflectliteValue.method (ReflectliteValue.valueError "reflectlite.Value.Elem" 0) ReflectliteValue.elem) Tryd.func90 (by kernel_rfl) (by kernel_rfl) (by kernel_rfl) (by kernel_rfl)
  have hE10 := @run_callFunc_extern Tryd.prog 91 _ ReflectliteValue.set Tryd.func91 (by kernel_rfl) (by kernel_rfl) (by kernel_rfl) (by kernel_rfl)
  have q1 := asValueOfP
  have q2 := asTypeP
  have q3 := asMKind
  have q4 := asKindP
  have q5 := asKindF
  have q6 := asMElem
  have q7 := asMImpl
  have q8 := asMAss
  have q9 := asElemP
  have q10 := asImplF
  have q11 := asTypeOfF
  have q12 := asAssF
  have q13 := asValueOfF i k
  obtain ⟨x, hx⟩ : ∃ x, x = w.heap.size := ⟨_, rfl⟩
  have hlt : g < x := by rw [hx]; exact hg.lt
  have o1' := (Own.own1 w hx 144 #[.pointer (some ⟨g, 0, none⟩)])
  have o2' := o1'.alloc (show x + 1 = _ by simp [hx]) 156 #[.pointer (some ⟨1, 144, none⟩), .pointer (some ⟨x, 0, none⟩), .int .u64 150]
  have o3' := o2'.alloc (show x + 1 + 1 = _ by simp [hx]) 156 #[.pointer (some ⟨1, 144, none⟩), .pointer (some ⟨x, 0, none⟩), .int .u64 150]
  have o4' := o3'.alloc (show x + 1 + 1 + 1 = _ by simp [hx]) 141 #[.int .i64 i, .int .i64 k]
  have n8 := asIsNilP ⟨x, 0, none⟩ ⟨g, 0, none⟩ _ (o2'.cell 0 0 rfl rfl)
  have el := asElemVP ⟨x, 0, none⟩ ⟨g, 0, none⟩ _ (o3'.cell 0 0 rfl rfl)
  have bb := o4'.get 3 rfl
  have bg := hg.below o4'.bel (by rw [← hx]; exact hlt)
  have st := asSetF g (x + 1 + 1 + 1) i k o1 o2 _ bb bg
  have hv2 := (World.cell?_of_block (w := w) (a := ⟨0, 0, none⟩) (o2'.bel.block 0 (World.block_lt_of_cell? w _ hv))).trans hv
  rw [hx] at n8 el st hv2
  have HB := Lib.hid (And.intro bg (And.intro o4'.keeps (And.intro hx hlt)))
  clear o1' o2' o3' o4' bb bg hx hlt hv
  go_enter Tryd.func81, Tryd.ntmps81
  go_wp2
  refine wp_loop_rounds 1 ?_
  rw [rounds_succ]
  go_wp2
  go_ret
  have hB := HB.out
  rw [← hB.2.2.1]
  have b1 := hB.1.set 0 (.int .i64 i)
  have b2 := b1.set 1 (.int .i64 k)
  have k1 : Keeps (fun x => x = g) w _ := hB.2.1.mono (T := fun x => x = g) (fun _ _ h => h.elim)
  have k2 : Keeps (fun x => x = g) w _ := k1.setCell (p := ⟨g, 0, none⟩) (fun _ => rfl) (.int .i64 i)
  have k3 : Keeps (fun x => x = g) w _ := k2.setCell (p := ⟨g, 1, none⟩) (fun _ => rfl) (.int .i64 k)
  exact ⟨rfl, k3, b2⟩
end Go.Proofs.YtboecnakndpgfaaDoor.V
namespace Go.Proofs.YtboecnakndpgfaaDoor.V
open Go.RowKit
set_option linter.unusedVariables false
set_option linter.unusedSimpArgs false
/-- The variable of package errors, as its text lays it. -/
def HErr (w : World) : Prop := w.cell? ⟨0, 0, none⟩ = some (.iface 164 (.agg #[.pointer (some ⟨1, 125, none⟩)]))
theorem HErr.keeps {S : Nat → Prop} {w w' : World} (h : HErr w) (hk : Keeps S w w') (hS : ¬ S 0) : HErr w' := by
  unfold HErr at h ⊢
  rw [← h]
  exact World.cell?_of_block (w := w) (a := ⟨0, 0, none⟩) (hk.block _ (World.block_lt_of_cell? w _ h) hS)
theorem HErr.below {w w' : World} (h : HErr w) (hb : Below w.heap.size w w') : HErr w' := h.keeps (S := fun _ => False) (Keeps.of_below hb) (fun h => h)
theorem HErr.lt {w : World} (h : HErr w) : 0 < w.heap.size := World.block_lt_of_cell? w _ h
set_option maxHeartbeats 1000000 in
theorem number_nil (w : World) : Calls Tryd.prog 65 #[.nilIface] w fun e w' => e = .returned (.int .i64 0) ∧ Below w.heap.size w w' := by
  have o := (Own.own1 w rfl 141 #[.int .i64 0, .int .i64 0]).bel
  have HO := Lib.hid o
  clear o
  go_enter Tryd.func65, Tryd.ntmps65
  go_wp2_with fail
  refine (er_nil _ _).mono ?_
  rintro e w' ⟨rfl, rfl⟩
  go_wp2_with fail
  refine (as_nil _ _).mono ?_
  rintro e w' ⟨rfl, rfl⟩
  go_wp2_with fail
  go_ret
  exact ⟨rfl, HO.out⟩
set_option maxHeartbeats 1000000 in
theorem number_fault (i k : Int) (w : World) (hv : HErr w) : Calls Tryd.prog 65 #[.iface 141 (.agg #[.int .i64 i, .int .i64 k])] w fun e w' => e = .returned (.int .i64 k) ∧ Below w.heap.size w w' := by
  obtain ⟨x, hx⟩ : ∃ x, x = w.heap.size := ⟨_, rfl⟩
  have o := Own.own1 w hx 141 #[.int .i64 0, .int .i64 0]
  have hv2 := hv.below o.bel
  have hlt := hv.lt
  have HO := Lib.hid (And.intro hx (And.intro o (And.intro hv2 hlt)))
  clear hx o hv hv2 hlt
  go_enter Tryd.func65, Tryd.ntmps65
  go_wp2_with fail
  rw [← HO.out.1]
  refine (er_fault i k _).mono ?_
  rintro e w1 ⟨rfl, hb⟩
  have o := HO.out.2.1.call hb
  by_cases hk : k = 10
  · subst hk
    have HP := Lib.hid o
    clear o hb
    go_wp2_with fail
    go_ret
    exact ⟨rfl, HP.out.bel⟩
  · have d0 : (k == 10) = false := by simp [hk]
    rw [d0]
    have hv3 := HO.out.2.2.1.below hb
    have HP := Lib.hid (And.intro o hv3)
    clear d0 hk hv3 o hb
    go_wp2_with fail
    refine (as_fault x i k (.int .i64 0) (.int .i64 0) _ HP.out.2 (HP.out.1.get 0 rfl)).mono ?_
    rintro e w2 ⟨rfl, hk2, hblk⟩
    have c1 := hblk.cell 1
    have HQ := Lib.hid hk2
    clear hk2 hblk
    go_wp2_with fail
    go_ret
    refine ⟨rfl, ?_⟩
    have h1 : Keeps (fun q => q = x) w w2 := (HP.out.1.keeps.mono (fun _ _ h => h.elim)).trans' HQ.out
    exact h1.below (Nat.le_refl _) (fun q hq e => by have := HO.out.1; omega)
end Go.Proofs.YtboecnakndpgfaaDoor.V
namespace Go.Proofs.YtboecnakndpgfaaDoor.V
open Go.RowKit
set_option linter.unusedVariables false
set_option linter.unusedSimpArgs false
def ScanPost (l : List Nat) (w : World) (e : Ending) (w' : World) : Prop :=
  ∃ er : Value, e = .returned (.tuple #[.int .u64 ((vget l).1 : Nat), .int .i64 ((vget l).2.1 : Nat), er]) ∧ (((vget l).2.2 = 0 ∧ er = .nilIface) ∨ ∃ i : Int, er = .iface 141 (.agg #[.int .i64 i, .int .i64 ((vget l).2.2 : Nat)])) ∧ w = w'
theorem acc_eq (x v k : Nat) (hx : x < 128 ^ k) (hk : k ≤ 9) (hv : v < 256) :
    ∃ y : Nat, bits .or .u64 (x : Int) (IntKind.u64.wrap (IntKind.u64.wrap (bits .and .u8 (v : Int) 127) * 2 ^ (7 * k))) = (y : Int) ∧ y < 18446744073709551616 ∧ (k ≤ 8 ∨ v ≤ 1 → y = x + 128 ^ k * (v % 128)) := by
  have e1 : bits .and .u8 (v : Int) 127 = ((v % 128 : Nat) : Int) := by
    rw [show (127 : Int) = ((127 : Nat) : Int) from rfl, u8_and_nat _ _ hv (by omega), show v &&& 127 = v % 128 from Nat.and_two_pow_sub_one_eq_mod v 7]
  have p9 : (128 : Nat) ^ k ≤ 128 ^ 9 := Nat.pow_le_pow_right (by omega) hk
  have ep : (2 : Nat) ^ (7 * k) = 128 ^ k := by rw [Nat.pow_mul]
  have e2 : (IntKind.u64.wrap ((v % 128 : Nat) : Int)) * 2 ^ (7 * k) = ((128 ^ k * (v % 128) : Nat) : Int) := by
    rw [show IntKind.u64.wrap ((v % 128 : Nat) : Int) = ((v % 128 : Nat) : Int) by rw [IntKind.wrap_u64]; omega, ← ep, Nat.mul_comm (2 ^ (7 * k))]
    simp
  have e3 : IntKind.u64.wrap (((128 ^ k * (v % 128) : Nat) : Int)) = ((128 ^ k * (v % 128) % 18446744073709551616 : Nat) : Int) := by
    rw [IntKind.wrap_u64]; rfl
  rw [e1, e2, e3, u64_or_nat _ _ (by omega) (Nat.mod_lt _ (by omega))]
  refine ⟨_, rfl, ?_, ?_⟩
  · exact Nat.or_lt_two_pow (n := 64) (by omega) (Nat.mod_lt _ (by omega))
  · intro h
    have hlt : 128 ^ k * (v % 128) < 18446744073709551616 := by
      rcases h with h | h
      · have p8 : (128 : Nat) ^ k ≤ 128 ^ 8 := Nat.pow_le_pow_right (by omega) h
        have : 128 ^ k * (v % 128) ≤ 128 ^ 8 * 127 := Nat.mul_le_mul p8 (by omega)
        omega
      · have : 128 ^ k * (v % 128) ≤ 128 ^ 9 * 1 := Nat.mul_le_mul p9 (by omega)
        omega
    rw [Nat.mod_eq_of_lt hlt, Nat.or_comm, Nat.mul_comm, ← ep, ← Nat.shiftLeft_eq, ← Nat.shiftLeft_add_eq_or_of_lt (by rw [ep]; exact hx)]
    omega
set_option maxRecDepth 100000 in
set_option maxHeartbeats 4000000 in
theorem scan_any (w : World) (D : Nat → Prop) (A : Option Addr) (len c : Nat) (l : List Nat) (hl : l.length = len) (hb : ∀ j, l.getD j 0 < 256) (hsl : Sl w D A len (byteC l)) (hm : len ≤ 9223372036854775807) :
    Calls Tryd.prog 64 #[.slice A len c] w (ScanPost l w) := by
  have HS := Lib.hid (And.intro hl (And.intro hb hsl))
  clear hl hb hsl
  go_enter Tryd.func64, Tryd.ntmps64
  go_wp2_with fail
  go_loop [2, 9] (fun s2 s9 => ∃ k x : Nat, k ≤ len ∧ k ≤ 10 ∧ s9 = .int .i64 (k : Nat) ∧ s2 = .int .u64 (x : Nat) ∧ (k ≤ 9 → x = vval (l.take k)) ∧ ∀ j, j < k → 128 ≤ l.getD j 0) (fun _ s9 => len - (intOf s9).toNat)
  case atStart => exact ⟨0, 0, by omega, by omega, rfl, rfl, fun _ => by simp [vval], fun j hj => by omega⟩
  case round =>
    obtain ⟨k, x, hk, hk10, rfl, rfl, hx, hj⟩ := hrel
    have HJ := Lib.hid hj
    have HX := Lib.hid hx
    clear hj hx
    by_cases hlt : k < len
    · obtain ⟨b, off, rfl, -, hc⟩ := HS.out.2.2 (by omega)
      have ck := hc k hlt
      unfold byteC at ck
      have hc256 := HS.out.2.1 k
      obtain ⟨v, hv⟩ : ∃ v, v = l.getD k 0 := ⟨_, rfl⟩
      rw [← hv] at ck hc256
      have HV := Lib.hid hv
      clear hv hc
      by_cases h10 : k = 10
      · subst h10
        have HG := Lib.hid (vget_long (lead_eq (l := l) (k := 10) (by omega) (by have := HS.out.1; omega) HJ.out (fun h => by omega)))
        go_wp2_with fail
        go_ret3
        exact ⟨_, by rw [HG.out]; rfl, .inr ⟨10, by rw [HG.out]; rfl⟩, rfl⟩
      · have hk9 : k ≤ 9 := by omega
        have hxl : x < 128 ^ k := by rw [HX.out hk9]; exact vval_take_lt l k
        obtain ⟨y, ey, hy, hy2⟩ := acc_eq x v k hxl hk9 hc256
        have hy3 : k ≤ 8 ∨ v ≤ 1 → y = vval (l.take (k + 1)) := fun h => by
          rw [hy2 h, vval_step (by have := HS.out.1; omega), HX.out hk9, HV.out]
        have HY := Lib.hid hy3
        have d10 : ((k : Int) == 10) = false := by simp; omega
        clear hxl hy2 hy3 h10
        by_cases hbig : 128 ≤ v
        · go_wp2_with fail
          go_round
          case rel => exact ⟨k + 1, y, by omega, by omega, by go_num, rfl, fun h => HY.out (.inl (by omega)), fun j hj => by
            rcases Nat.lt_or_ge j k with h | h
            · exact HJ.out j h
            · rw [show j = k by omega, ← HV.out]; exact hbig⟩
          case measure => simp [intOf]; omega
        · have hlead : lead l = k := lead_eq (by omega) (by have := HS.out.1; omega) HJ.out (fun _ _ => by rw [← HV.out]; omega)
          have hkl : k < l.length := by have := HS.out.1; omega
          have dbig : decide ((128 : Int) ≤ (v : Int)) = false := by simp; omega
          by_cases hform : (k = 9 ∧ 1 < v) ∨ (0 < k ∧ v = 0)
          · have HG := Lib.hid (vget_form (l := l) (by omega) (by omega) (by
              rw [hlead, ← HV.out]
              rcases hform with ⟨h1, h2⟩ | h
              · refine .inl ⟨h1, ?_⟩
                rw [← h1, ← HV.out]; exact h2
              · exact .inr h))
            clear hlead hkl
            rcases hform with ⟨rfl, h2⟩ | ⟨h1, rfl⟩
            · have d1 : decide ((1 : Int) < (v : Int)) = true := by simp; omega
              go_wp2_with fail
              go_ret3
              exact ⟨_, by rw [HG.out]; rfl, .inr ⟨_, by rw [HG.out]; rfl⟩, rfl⟩
            · have d1 : decide ((0 : Int) < (k : Int)) = true := by simp; omega
              by_cases hk9 : k = 9
              · subst hk9
                go_wp2_with fail
                go_ret3
                exact ⟨_, by rw [HG.out]; rfl, .inr ⟨_, by rw [HG.out]; rfl⟩, rfl⟩
              · have d9 : ((k : Int) == 9) = false := by simp; omega
                go_wp2_with fail
                go_ret3
                exact ⟨_, by rw [HG.out]; rfl, .inr ⟨_, by rw [HG.out]; rfl⟩, rfl⟩
          · have hG := vget_ok (l := l) (by omega) (by omega) (by
              rw [hlead, ← HV.out]
              rintro (⟨h1, h2⟩ | h)
              · exact hform (.inl ⟨h1, by rw [← h1, ← HV.out] at h2; exact h2⟩)
              · exact hform (.inr h))
            rw [hlead, ← HY.out (by omega)] at hG
            have HG := Lib.hid hG
            clear hlead hkl hG
            have hfin : ScanPost l w (.returned (.tuple #[.int .u64 (y : Nat), .int .i64 ((k : Int) + 1), .nilIface])) w := ⟨_, by rw [HG.out]; rfl, .inl ⟨by rw [HG.out], rfl⟩, rfl⟩
            have HFN := Lib.hid hfin
            clear hfin
            have hcase : (k = 9 ∧ ¬ 1 < v ∧ ¬ v = 0) ∨ (¬ k = 9 ∧ k = 0 ∧ v = 0) ∨ (¬ k = 9 ∧ ¬ v = 0) := by omega
            rcases hcase with ⟨h1, h2, h3⟩ | ⟨h1, h2, h3⟩ | ⟨h1, h3⟩
            · have d1 : decide ((1 : Int) < (v : Int)) = false := by simp; omega
              have d9 : ((k : Int) == 9) = true := by simp; omega
              have hv0 : ((v : Int) == 0) = false := by simp; omega
              clear h1 h2 h3 hform
              go_wp2_with fail
              go_ret3
              exact HFN.out
            · have d9 : ((k : Int) == 9) = false := by simp; omega
              have d0 : ((v : Int) == 0) = true := by simp; omega
              have dk : ¬ 0 < k := by omega
              have dk2 : decide (0 < k) = false := by simp; omega
              clear h1 h2 h3 hform
              go_wp2_with fail
              go_ret3
              exact HFN.out
            · have d9 : ((k : Int) == 9) = false := by simp; omega
              have d0 : ((v : Int) == 0) = false := by simp; omega
              clear h1 h3 hform
              go_wp2_with fail
              go_ret3
              exact HFN.out
    · obtain rfl : k = len := by omega
      have hlead : lead l = k := lead_eq (by omega) (by have := HS.out.1; omega) HJ.out (fun _ h => by have := HS.out.1; omega)
      by_cases h10 : k = 10
      · subst h10
        have HG := Lib.hid (vget_long hlead)
        clear hlead
        go_wp2_with fail
        go_ret3
        exact ⟨_, by rw [HG.out]; rfl, .inr ⟨10, by rw [HG.out]; rfl⟩, rfl⟩
      · have HG := Lib.hid (vget_end (l := l) (by rw [hlead, HS.out.1]) (by have := HS.out.1; omega))
        have d10 : decide ((10 : Int) ≤ (k : Int)) = false := by simp; omega
        clear hlead h10
        go_wp2_with fail
        go_ret3
        exact ⟨_, by rw [HG.out]; rfl, .inr ⟨_, by rw [HG.out]; rfl⟩, rfl⟩
def VReadPost (l : List Nat) (w : World) (e : Ending) (w' : World) : Prop :=
  e = .returned (.tuple #[.int .u64 ((vget l).1 : Nat), .int .i64 ((vget l).2.1 : Nat), .int .i64 ((vget l).2.2 : Nat)]) ∧ Below w.heap.size w w'
set_option maxRecDepth 100000 in
set_option maxHeartbeats 1000000 in
theorem vread_any (w : World) (D : Nat → Prop) (A : Option Addr) (len c : Nat) (l : List Nat) (hl : l.length = len) (hb : ∀ j, l.getD j 0 < 256) (hsl : Sl w D A len (byteC l)) (hm : len ≤ 9223372036854775807) (hv : HErr w) :
    Calls Tryd.prog 31 #[.slice A len c] w (VReadPost l w) := by
  have HS := Lib.hid (And.intro hl (And.intro hb (And.intro hsl (And.intro hm hv))))
  clear hl hb hsl hm hv
  go_enter Tryd.func31, Tryd.ntmps31
  go_wp2_with fail
  refine (scan_any w D A len c l HS.out.1 HS.out.2.1 HS.out.2.2.1 HS.out.2.2.2.1).mono ?_
  rintro e w1 ⟨er, rfl, her, rfl⟩
  obtain ⟨u, hu⟩ : ∃ u, u = (vget l).1 := ⟨_, rfl⟩
  obtain ⟨n, hn⟩ : ∃ n, n = (vget l).2.1 := ⟨_, rfl⟩
  obtain ⟨k, hk⟩ : ∃ k, k = (vget l).2.2 := ⟨_, rfl⟩
  rw [← hk] at her
  rw [← hu, ← hn]
  have HU := Lib.hid (And.intro hu (And.intro hn hk))
  clear hu hn hk
  rcases her with ⟨h0, rfl⟩ | ⟨i, rfl⟩
  · have H0 := Lib.hid h0
    clear h0
    go_wp2_with fail
    refine (number_nil _).mono ?_
    rintro e w2 ⟨rfl, hb⟩
    have HB := Lib.hid hb
    clear hb
    go_wp2_with fail
    go_ret3
    exact ⟨by rw [← HU.out.1, ← HU.out.2.1, ← HU.out.2.2, H0.out]; rfl, HB.out⟩
  · go_wp2_with fail
    refine (number_fault i k _ HS.out.2.2.2.2).mono ?_
    rintro e w2 ⟨rfl, hb⟩
    have HB := Lib.hid hb
    clear hb
    go_wp2_with fail
    go_ret3
    exact ⟨by rw [← HU.out.1, ← HU.out.2.1, ← HU.out.2.2]; rfl, HB.out⟩
end Go.Proofs.YtboecnakndpgfaaDoor.V
namespace Go.Proofs.YtboecnakndpgfaaDoor.V
open Go.RowKit
set_option linter.unusedVariables false
set_option linter.unusedSimpArgs false
def VIntPost (l : List Nat) (w : World) (e : Ending) (w' : World) : Prop :=
  e = .returned (.tuple #[.int .i64 (zag (vget l).1), .int .i64 ((vget l).2.1 : Nat), .int .i64 ((vget l).2.2 : Nat)]) ∧ Below w.heap.size w w'
/-- A text of bytes: it, how many bytes it has with its number, what is wrong. -/
def vtext (l : List Nat) (most : Int) : List Nat × Nat × Nat :=
  if (vget l).2.2 ≠ 0 then ([], 0, (vget l).2.2)
  else if most < 0 ∨ most < (vget l).1 then ([], 0, 3)
  else if l.length - (vget l).2.1 < (vget l).1 then ([], 0, 10)
  else ((l.drop (vget l).2.1).take (vget l).1, (vget l).2.1 + (vget l).1, 0)
theorem vtext_eq (l : List Nat) (most : Int) : vtext l most = (if (vget l).2.2 ≠ 0 then ([], 0, (vget l).2.2)
  else if most < 0 ∨ most < (vget l).1 then ([], 0, 3)
  else if l.length - (vget l).2.1 < (vget l).1 then ([], 0, 10)
  else ((l.drop (vget l).2.1).take (vget l).1, (vget l).2.1 + (vget l).1, 0)) := rfl
def VTextPost (l : List Nat) (most : Int) (w : World) (e : Ending) (w' : World) : Prop :=
  e = .returned (.tuple #[.string (strB (vtext l most).1), .int .i64 ((vtext l most).2.1 : Nat), .int .i64 ((vtext l most).2.2 : Nat)]) ∧ Below w.heap.size w w'
set_option maxRecDepth 100000 in
set_option maxHeartbeats 4000000 in
theorem vreadText_any (w : World) (A : Option Addr) (len c : Nat) (l : List Nat) (most : Int) (hl : l.length = len) (hb : ∀ j, l.getD j 0 < 256) (hsl : Sl w (fun q => q < w.heap.size) A len (byteC l)) (hlc : len ≤ c) (hcm : c ≤ 9223372036854775807) (hv : HErr w)
    (hm0 : -9223372036854775808 ≤ most) (hm1 : most ≤ 9223372036854775807) :
    Calls Tryd.prog 32 #[.slice A len c, .int .i64 most] w (VTextPost l most w) := by
  have HS := Lib.hid (And.intro hl (And.intro hb (And.intro hsl hv)))
  clear hl hb hsl hv
  go_enter Tryd.func32, Tryd.ntmps32
  go_wp2_with fail
  refine (vread_any w _ A len c l HS.out.1 HS.out.2.1 HS.out.2.2.1 (by omega) HS.out.2.2.2).mono ?_
  rintro e w1 ⟨rfl, hb⟩
  have hvl := vget_lt l
  have hve := vget_e l
  have hvt := vtext_eq l most
  have hlen := HS.out.1
  have hvo : (vget l).2.2 = 0 → 1 ≤ (vget l).2.1 := fun h => (vget_put HS.out.2.1 h).1
  obtain ⟨u, hu⟩ : ∃ u, u = (vget l).1 := ⟨_, rfl⟩
  obtain ⟨n, hn⟩ : ∃ n, n = (vget l).2.1 := ⟨_, rfl⟩
  obtain ⟨k, hk⟩ : ∃ k, k = (vget l).2.2 := ⟨_, rfl⟩
  rw [← hu, ← hn, ← hk] at hve hvt
  rw [← hu, ← hn] at hvl
  rw [← hk, ← hn] at hvo
  rw [← hu, ← hn, ← hk]
  rw [hlen] at hvl hvt
  have HB := Lib.hid hb
  clear hb hu hn hk hlen
  by_cases h0 : k = 0
  · have h1 := hvo h0
    subst h0
    rw [if_neg (by omega)] at hvt
    obtain ⟨hu64, hn10, hnl⟩ := hvl
    clear hve hvo
    by_cases c2 : most < 0
    · rw [if_pos (.inl c2)] at hvt
      have HT := Lib.hid hvt
      clear hvt
      go_wp2_with fail
      go_ret3
      exact ⟨by rw [HT.out]; rfl, HB.out⟩
    · have d2 : decide (most < 0) = false := by simp; omega
      have k2 : IntKind.u64.wrap most = most := by rw [IntKind.wrap_u64]; omega
      by_cases c3 : most < u
      · rw [if_pos (.inr c3)] at hvt
        have HT := Lib.hid hvt
        clear hvt
        go_wp2_with fail
        go_ret3
        exact ⟨by rw [HT.out]; rfl, HB.out⟩
      · rw [if_neg (by omega)] at hvt
        have d3 : decide (most < (u : Int)) = false := by simp; omega
        have k3 : IntKind.u64.wrap ((len : Int) - (n : Int)) = (len : Int) - (n : Int) := by rw [IntKind.wrap_u64]; omega
        have k4 : IntKind.i64.wrap (u : Int) = (u : Int) := by rw [IntKind.wrap_i64]; omega
        by_cases c4 : len - n < u
        · rw [if_pos c4] at hvt
          have HT := Lib.hid hvt
          have d4 : decide ((len : Int) - (n : Int) < (u : Int)) = true := by simp; omega
          clear hvt
          go_wp2_with fail
          go_ret3
          exact ⟨by rw [HT.out]; rfl, HB.out⟩
        · rw [if_neg c4] at hvt
          have HT := Lib.hid hvt
          have d4 : decide ((len : Int) - (n : Int) < (u : Int)) = false := by simp; omega
          obtain ⟨b, off, rfl, -, -⟩ := HS.out.2.2.1 (by omega)
          clear hvt
          have hun : u ≤ len - n := by omega
          clear c4
          by_cases hnc : n = c
          · have hu0 : u = 0 := by omega
            have hnl2 : len = n := by omega
            subst hu0 hnl2 hnc
            have hc := fun (A : Option Addr) (q : Nat) => conv_sl (P := Tryd.prog) (w := w1) (D := fun _ => True) (A := A) (len := 0) (c := q) (bs := []) 22 5 9 Tryd.underlying22 Tryd.underlying5 Tryd.underlying9 rfl (Sl.nil _ _ _ _)
            have HT2 := Lib.hid (show vtext l most = ([], len, 0) by rw [HT.out]; simp)
            clear HT
            go_wp2_with fail
            go_ret3
            exact ⟨by rw [HT2.out]; rfl, HB.out⟩
          · have hs := sl_take_list (sl_drop_list (sl_later HS.out.2.2.1 HB.out) hnl) hun
            have hc := conv_sl (P := Tryd.prog) (c := c - n) 22 5 9 Tryd.underlying22 Tryd.underlying5 Tryd.underlying9 (by rw [List.length_take, List.length_drop]; have := HS.out.1; omega) hs
            obtain ⟨P, hP⟩ : ∃ P, P = (l.drop n).take u := ⟨_, rfl⟩
            rw [← hP] at hc HT
            clear hs hP
            go_wp2_with fail
            go_ret3
            exact ⟨by rw [HT.out]; rfl, HB.out⟩
  · rw [if_pos h0] at hvt
    have d0 : ((k : Int) != 0) = true := by simp; omega
    have HT := Lib.hid hvt
    clear hvt hvo hve h0
    go_wp2_with fail
    go_ret3
    exact ⟨by rw [HT.out]; rfl, HB.out⟩
end Go.Proofs.YtboecnakndpgfaaDoor.V
namespace Go.Proofs.YtboecnakndpgfaaDoor.V
open Go.RowKit
set_option linter.unusedVariables false
set_option linter.unusedSimpArgs false
theorem fold_step {l : List Nat} {u r V : Nat} (hr : r < l.length) (h : u * 128 ^ (r + 1) + vval (l.take (r + 1)) = V) : (u * 128 + l.getD r 0 % 128) * 128 ^ r + vval (l.take r) = V := by
  rw [vval_step hr] at h
  rw [← h, Nat.pow_succ, Nat.add_mul, Nat.mul_comm (128 ^ r) (l.getD r 0 % 128), Nat.mul_assoc, Nat.mul_comm 128 (128 ^ r)]
  omega
set_option maxRecDepth 100000 in
set_option maxHeartbeats 4000000 in
theorem rvread_any (w : World) (D : Nat → Prop) (A : Option Addr) (len c : Nat) (l : List Nat) (hl : l.length = len) (hb : ∀ j, l.getD j 0 < 256) (hsl : Sl w D A len (byteC l)) (hm : len ≤ 9223372036854775807) :
    Calls Tryd.prog 20 #[.slice A len c] w (VReadPost l w) := by
  have HS := Lib.hid (And.intro hl (And.intro hb hsl))
  clear hl hb hsl
  go_enter Tryd.func20, Tryd.ntmps20
  go_upto_block 0 with (fail)
  go_cut [5] (fun s5 wx => s5 = .int .i64 (lead l : Nat) ∧ w = wx)
  case first =>
    go_wp2_with fail
    go_loop [5] (fun s5 => ∃ k : Nat, k ≤ len ∧ k ≤ 10 ∧ s5 = .int .i64 (k : Nat) ∧ ∀ j, j < k → 128 ≤ l.getD j 0) (fun s5 => len - (intOf s5).toNat)
    case atStart => exact ⟨0, by omega, by omega, rfl, fun j hj => by omega⟩
    case round =>
      obtain ⟨k, hk, hk10, rfl, hj⟩ := hrel
      have HJ := Lib.hid hj
      clear hj
      have hend : (k < 10 → k < len → l.getD k 0 < 128) → lead l = k := fun h => lead_eq hk10 (by rw [HS.out.1]; exact hk) HJ.out (by rw [HS.out.1]; exact h)
      have HE := Lib.hid hend
      clear hend
      by_cases hlt : k < len
      · by_cases h10 : k < 10
        · obtain ⟨b, off, rfl, -, hc⟩ := HS.out.2.2 (by omega)
          have ck := hc k hlt
          unfold byteC at ck
          obtain ⟨v, hv⟩ : ∃ v, v = l.getD k 0 := ⟨_, rfl⟩
          rw [← hv] at ck
          have HV := Lib.hid hv
          clear hv hc
          by_cases hbig : 128 ≤ v
          · have d : decide ((128 : Int) ≤ (v : Int)) = true := by simp; omega
            go_wp2_with fail
            go_round
            case rel => exact ⟨k + 1, by omega, by omega, by go_num, fun j hj => by
              rcases Nat.lt_or_ge j k with h | h
              · exact HJ.out j h
              · rw [show j = k by omega, ← HV.out]; exact hbig⟩
            case measure => simp [intOf]; omega
          · have d : decide ((128 : Int) ≤ (v : Int)) = false := by simp; omega
            have HQ := Lib.hid (HE.out (fun _ _ => by rw [← HV.out]; omega))
            go_wp2_with fail
            go_meet
            exact ⟨by rw [HQ.out], rfl⟩
        · have HQ := Lib.hid (HE.out (fun h => by omega))
          have d : decide ((k : Int) < 10) = false := by simp; omega
          go_wp2_with fail
          go_meet
          exact ⟨by rw [HQ.out], rfl⟩
      · have HQ := Lib.hid (HE.out (fun _ h => by omega))
        go_wp2_with fail
        go_meet
        exact ⟨by rw [HQ.out], rfl⟩
  case rest =>
    obtain ⟨rfl, rfl⟩ := hcut
    obtain ⟨p1, p2, p3, p4⟩ := lead_spec l
    have hG1 := @vget_long l
    have hG2 := @vget_end l
    have hG3 := @vget_form l
    have hG4 := @vget_ok l
    have hV := @vval_lt64 l (lead l)
    obtain ⟨q, hq⟩ : ∃ q, q = lead l := ⟨_, rfl⟩
    rw [← hq] at p1 p2 p3 p4 hG1 hG2 hG3 hG4 hV ⊢
    rw [HS.out.1] at p2 p4 hG2 hG3 hG4
    have HG := Lib.hid (And.intro hG1 (And.intro hG2 (And.intro hG3 (And.intro hG4 (And.intro p3 hV)))))
    clear hG1 hG2 hG3 hG4 p3 hV hq
    by_cases h10 : q = 10
    · have HQ := Lib.hid (HG.out.1 h10)
      have d : ((q : Int) == 10) = true := by simp; omega
      clear h10 p4
      go_wp2_with fail
      go_ret3
      exact ⟨by rw [HQ.out]; rfl, Below.refl _ _⟩
    have d10 : ((q : Int) == 10) = false := by simp; omega
    by_cases he : q = len
    · have HQ := Lib.hid (HG.out.2.1 he (by omega))
      have d : ((q : Int) == (len : Int)) = true := by simp; omega
      have d' : (q == len) = true := by simp; omega
      clear h10 he p4
      go_wp2_with fail
      go_ret3
      exact ⟨by rw [HQ.out]; rfl, Below.refl _ _⟩
    have dl : ((q : Int) == (len : Int)) = false := by simp; omega
    have dl' : (q == len) = false := by simp; omega
    have hqlt : q < len := by omega
    have hq10 : q < 10 := by omega
    have hv128 := p4 hq10 hqlt
    clear h10 he p4 p1 p2
    obtain ⟨b, off, rfl, -, hc⟩ := HS.out.2.2 (by omega)
    have ck := hc q hqlt
    unfold byteC at ck
    obtain ⟨v, hv⟩ : ∃ v, v = l.getD q 0 := ⟨_, rfl⟩
    rw [← hv] at ck hv128
    have HC := Lib.hid hc
    clear hc
    have HV := Lib.hid hv
    clear hv
    by_cases hform : (q = 9 ∧ 1 < v) ∨ (0 < q ∧ v = 0)
    · have HQ := Lib.hid (HG.out.2.2.1 hq10 hqlt (by
        rcases hform with ⟨h1, h2⟩ | ⟨h1, h2⟩
        · exact .inl ⟨h1, by rw [← h1, ← HV.out]; exact h2⟩
        · exact .inr ⟨h1, by rw [← HV.out]; exact h2⟩))
      have hcase : (q = 9 ∧ 1 < v) ∨ (q = 9 ∧ ¬ 1 < v ∧ v = 0) ∨ (¬ q = 9 ∧ 0 < q ∧ v = 0) := by omega
      clear hform hv128
      rcases hcase with ⟨rfl, h2⟩ | ⟨rfl, h2, rfl⟩ | ⟨h1, h2, rfl⟩
      · have d1 : decide ((1 : Int) < (v : Int)) = true := by simp; omega
        go_wp2_with fail
        go_ret3
        exact ⟨by rw [HQ.out]; rfl, Below.refl _ _⟩
      · go_wp2_with fail
        go_ret3
        exact ⟨by rw [HQ.out]; rfl, Below.refl _ _⟩
      · have d9 : ((q : Int) == 9) = false := by simp; omega
        clear h1
        go_wp2_with fail
        go_ret3
        exact ⟨by rw [HQ.out]; rfl, Below.refl _ _⟩
    · have hQ := HG.out.2.2.2.1 hq10 hqlt (by
        rw [← HV.out]
        rintro (⟨h1, h2⟩ | h)
        · exact hform (.inl ⟨h1, by rw [← h1, ← HV.out] at h2; exact h2⟩)
        · exact hform (.inr h))
      have hV64 := HG.out.2.2.2.2.2 hq10 (by rw [HS.out.1]; exact hqlt) (fun h9 => by rw [← h9, ← HV.out]; omega)
      obtain ⟨V, hVV⟩ : ∃ V, V = vval (l.take (q + 1)) := ⟨_, rfl⟩
      rw [← hVV] at hQ hV64
      have HQ := Lib.hid (And.intro hQ hVV)
      clear hQ hVV
      have hcase : (q = 9 ∧ ¬ 1 < v ∧ ¬ v = 0) ∨ (¬ q = 9 ∧ q = 0) ∨ (¬ q = 9 ∧ 0 < q ∧ ¬ v = 0) := by omega
      clear hform hv128
      rcases hcase with ⟨h1, h2, h3⟩ | ⟨h1, h2⟩ | ⟨h1, h2, h3⟩
      · have d1 : decide ((1 : Int) < (v : Int)) = false := by simp; omega
        have d9 : ((q : Int) == 9) = true := by simp; omega
        have d0 : ((v : Int) == 0) = false := by simp; omega
        have c9 : World.cell? w ⟨b, off + 9, none⟩ = some (.int .u8 (v : Int)) := by rw [← h1]; exact ck
        have h9l : 9 < len := by omega
        have h0q : 0 < q := by omega
        clear h1 h2 h3
        go_wp2_with fail

        go_loop [6, 7] (fun s6 s7 => ∃ r u : Nat, r ≤ q + 1 ∧ s7 = .int .i64 ((r : Int) - 1) ∧ s6 = .int .u64 (u : Nat) ∧ u * 128 ^ r + vval (l.take r) = V) (fun _ s7 => ((intOf s7) + 1).toNat)
        case atStart => exact ⟨q + 1, 0, Nat.le_refl _, by simp, rfl, by rw [Nat.zero_mul, Nat.zero_add]; exact HQ.out.2.symm⟩
        case round =>
          obtain ⟨r, u, hr, rfl, rfl, hu⟩ := hrel
          rcases Nat.eq_zero_or_pos r with hr0 | hr0
          · subst hr0
            have hu2 : u = V := by rw [← hu]; simp [vval]
            subst hu2
            have dneg : ¬ (0 : Int) ≤ (((0 : Nat) : Int) - 1) := by omega
            have HZ := Lib.hid HQ.out.1
            clear hu
            go_wp2_with fail
            go_ret3
            exact ⟨by rw [HZ.out]; rfl, Below.refl _ _⟩
          · obtain ⟨p, rfl⟩ : ∃ p, r = p + 1 := ⟨r - 1, by omega⟩
            have hstep := fold_step (l := l) (by rw [HS.out.1]; omega) hu
            have cp := HC.out p (by omega)
            unfold byteC at cp
            obtain ⟨x, hx⟩ : ∃ x, x = l.getD p 0 := ⟨_, rfl⟩
            have hx256 := HS.out.2.1 p
            rw [← hx] at cp hstep hx256
            have hle : u * 128 + x % 128 ≤ V := by
              rw [← hstep]
              exact Nat.le_trans (Nat.le_mul_of_pos_right _ (Nat.pow_pos (by omega))) (Nat.le_add_right _ _)
            have ep : (((p + 1 : Nat) : Int) - 1) = (p : Int) := by omega
            rw [ep]
            have HP := Lib.hid (And.intro hstep ep)
            clear hstep hx hu ep
            have hm1 : IntKind.u64.wrap ((u : Int) * 128) = (u : Int) * 128 := by rw [IntKind.wrap_u64]; omega
            have hm2 : IntKind.u64.wrap ((u : Int) * 128 + (x : Int) % 128) = (u : Int) * 128 + (x : Int) % 128 := by rw [IntKind.wrap_u64]; omega
            have hm3 : IntKind.u64.wrap ((x : Int) % 128) = (x : Int) % 128 := by rw [IntKind.wrap_u64]; omega
            go_wp2_with fail
            go_round
            case rel => exact ⟨p, u * 128 + x % 128, by omega, by go_num, by simp, HP.out.1⟩
            case measure => first | (simp [intOf]; omega) | simp [intOf]
      · have d9 : ((q : Int) == 9) = false := by simp; omega
        have dk : ¬ 0 < q := by omega
        have dk2 : decide (0 < q) = false := by simp; omega
        clear h1 h2
        go_wp2_with fail
        go_loop [6, 7] (fun s6 s7 => ∃ r u : Nat, r ≤ q + 1 ∧ s7 = .int .i64 ((r : Int) - 1) ∧ s6 = .int .u64 (u : Nat) ∧ u * 128 ^ r + vval (l.take r) = V) (fun _ s7 => ((intOf s7) + 1).toNat)
        case atStart => exact ⟨q + 1, 0, Nat.le_refl _, by simp, rfl, by rw [Nat.zero_mul, Nat.zero_add]; exact HQ.out.2.symm⟩
        case round =>
          obtain ⟨r, u, hr, rfl, rfl, hu⟩ := hrel
          rcases Nat.eq_zero_or_pos r with hr0 | hr0
          · subst hr0
            have hu2 : u = V := by rw [← hu]; simp [vval]
            subst hu2
            have dneg : ¬ (0 : Int) ≤ (((0 : Nat) : Int) - 1) := by omega
            have HZ := Lib.hid HQ.out.1
            clear hu
            go_wp2_with fail
            go_ret3
            exact ⟨by rw [HZ.out]; rfl, Below.refl _ _⟩
          · obtain ⟨p, rfl⟩ : ∃ p, r = p + 1 := ⟨r - 1, by omega⟩
            have hstep := fold_step (l := l) (by rw [HS.out.1]; omega) hu
            have cp := HC.out p (by omega)
            unfold byteC at cp
            obtain ⟨x, hx⟩ : ∃ x, x = l.getD p 0 := ⟨_, rfl⟩
            have hx256 := HS.out.2.1 p
            rw [← hx] at cp hstep hx256
            have hle : u * 128 + x % 128 ≤ V := by
              rw [← hstep]
              exact Nat.le_trans (Nat.le_mul_of_pos_right _ (Nat.pow_pos (by omega))) (Nat.le_add_right _ _)
            have ep : (((p + 1 : Nat) : Int) - 1) = (p : Int) := by omega
            rw [ep]
            have HP := Lib.hid (And.intro hstep ep)
            clear hstep hx hu ep
            have hm1 : IntKind.u64.wrap ((u : Int) * 128) = (u : Int) * 128 := by rw [IntKind.wrap_u64]; omega
            have hm2 : IntKind.u64.wrap ((u : Int) * 128 + (x : Int) % 128) = (u : Int) * 128 + (x : Int) % 128 := by rw [IntKind.wrap_u64]; omega
            have hm3 : IntKind.u64.wrap ((x : Int) % 128) = (x : Int) % 128 := by rw [IntKind.wrap_u64]; omega
            go_wp2_with fail
            go_round
            case rel => exact ⟨p, u * 128 + x % 128, by omega, by go_num, by simp, HP.out.1⟩
            case measure => first | (simp [intOf]; omega) | simp [intOf]
      · have d9 : ((q : Int) == 9) = false := by simp; omega
        have d0 : ((v : Int) == 0) = false := by simp; omega
        clear h1 h3
        go_wp2_with fail
        go_loop [6, 7] (fun s6 s7 => ∃ r u : Nat, r ≤ q + 1 ∧ s7 = .int .i64 ((r : Int) - 1) ∧ s6 = .int .u64 (u : Nat) ∧ u * 128 ^ r + vval (l.take r) = V) (fun _ s7 => ((intOf s7) + 1).toNat)
        case atStart => exact ⟨q + 1, 0, Nat.le_refl _, by simp, rfl, by rw [Nat.zero_mul, Nat.zero_add]; exact HQ.out.2.symm⟩
        case round =>
          obtain ⟨r, u, hr, rfl, rfl, hu⟩ := hrel
          rcases Nat.eq_zero_or_pos r with hr0 | hr0
          · subst hr0
            have hu2 : u = V := by rw [← hu]; simp [vval]
            subst hu2
            have dneg : ¬ (0 : Int) ≤ (((0 : Nat) : Int) - 1) := by omega
            have HZ := Lib.hid HQ.out.1
            clear hu
            go_wp2_with fail
            go_ret3
            exact ⟨by rw [HZ.out]; rfl, Below.refl _ _⟩
          · obtain ⟨p, rfl⟩ : ∃ p, r = p + 1 := ⟨r - 1, by omega⟩
            have hstep := fold_step (l := l) (by rw [HS.out.1]; omega) hu
            have cp := HC.out p (by omega)
            unfold byteC at cp
            obtain ⟨x, hx⟩ : ∃ x, x = l.getD p 0 := ⟨_, rfl⟩
            have hx256 := HS.out.2.1 p
            rw [← hx] at cp hstep hx256
            have hle : u * 128 + x % 128 ≤ V := by
              rw [← hstep]
              exact Nat.le_trans (Nat.le_mul_of_pos_right _ (Nat.pow_pos (by omega))) (Nat.le_add_right _ _)
            have ep : (((p + 1 : Nat) : Int) - 1) = (p : Int) := by omega
            rw [ep]
            have HP := Lib.hid (And.intro hstep ep)
            clear hstep hx hu ep
            have hm1 : IntKind.u64.wrap ((u : Int) * 128) = (u : Int) * 128 := by rw [IntKind.wrap_u64]; omega
            have hm2 : IntKind.u64.wrap ((u : Int) * 128 + (x : Int) % 128) = (u : Int) * 128 + (x : Int) % 128 := by rw [IntKind.wrap_u64]; omega
            have hm3 : IntKind.u64.wrap ((x : Int) % 128) = (x : Int) % 128 := by rw [IntKind.wrap_u64]; omega
            go_wp2_with fail
            go_round
            case rel => exact ⟨p, u * 128 + x % 128, by omega, by go_num, by simp, HP.out.1⟩
            case measure => first | (simp [intOf]; omega) | simp [intOf]
end Go.Proofs.YtboecnakndpgfaaDoor.V
