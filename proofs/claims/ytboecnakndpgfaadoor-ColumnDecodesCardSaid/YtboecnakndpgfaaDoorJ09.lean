/-
  Texts of this proof, joined: XorDec, XorDPl, XorWs, XorvalOneW, ColA.
-/
import Derived.Test.YtboecnakndpgfaaDoorJ08
import Derived.Test.YtboecnakndpgfaaDoorJ02
import Derived.Test.YtboecnakndpgfaaDoorJ07
import Derived.Test.YtboecnakndpgfaaDoorJ01
import Derived.Test.YtboecnakndpgfaaDoorRows
import Derived.WalkKit
import Derived.WalkSpells
import Derived.WalkLawsBesides
import Derived.Outline
import Derived.Deep.Cut
import Derived.Deep.QuietTactic
import Derived.BigQuiet
namespace Go.Proofs.YtboecnakndpgfaaDoor.X
set_option maxRecDepth 100000
open Go.RowKit
set_option linter.unusedVariables false
set_option linter.unusedSimpArgs false
def u64V (x : Nat) : Value := .int .u64 (x : Nat)
/-- One value more. -/
def stepX (bs : List Nat) (en : Nat) (out : List Nat) (o : Option (Nat × Nat)) (p : Nat) : Option (Nat × Option (Nat × Nat) × Nat) :=
  if out.length = 0 then (if p + 64 ≤ en then some (gets bs p 64, o, p + 64) else none)
  else match nextX bs en o p with
    | none => none
    | some q => some (out.getD (out.length - 1) 0 ^^^ q.1, q.2)
def decX (bs : List Nat) (en : Nat) : Nat → List Nat → Option (Nat × Nat) → Nat → Option (List Nat × Nat)
  | 0, out, _, p => some (out, p)
  | n + 1, out, o, p => match stepX bs en out o p with
    | none => none
    | some q => decX bs en n (out ++ [q.1]) q.2.1 q.2.2
def endX (bs : List Nat) (en p : Nat) : Prop := en - p < 8 ∧ gets bs p (en - p) = 0
instance (bs : List Nat) (en p : Nat) : Decidable (endX bs en p) := inferInstanceAs (Decidable (_ ∧ _))
def decXL (bs : List Nat) (n : Nat) : Option (List Nat) := match decX bs (8 * bs.length) n [] none 0 with
  | none => none
  | some q => if endX bs (8 * bs.length) q.2 then some q.1 else none
def XDecPost (w : World) (N : Option (List Nat)) (e : Ending) (w' : World) : Prop :=
  ∃ (l : List Nat) (er : Int) (A : Option Addr) (c : Nat), e = .returned (.tuple #[.slice A l.length c, .int .i64 er]) ∧ w'.ownsRow w.heap.size 51 1 (.slice A l.length c) l.length (l.map u64V) ∧ Keeps (fun _ => False) w w' ∧
    (∀ j, l.getD j 0 < 18446744073709551616) ∧ ((er = 0 ∧ N = some l) ∨ ((er ≠ 0 ∧ l = []) ∧ N = none))
theorem getD_u {l : List Nat} {x : Nat} (h : ∀ j, l.getD j 0 < 18446744073709551616) (hx : x < 18446744073709551616) : ∀ j, (l ++ [x]).getD j 0 < 18446744073709551616 := by
  intro j
  rw [List.getD_eq_getElem?_getD]
  rcases Nat.lt_trichotomy j l.length with hj | hj | hj
  · rw [List.getElem?_append_left hj, ← List.getD_eq_getElem?_getD]; exact h j
  · subst hj; simpa using hx
  · rw [List.getElem?_eq_none (by simp; omega)]; show 0 < _; omega
theorem decX_ok_win {bs : List Nat} {en : Nat} {o o' : Option (Nat × Nat)} {p x p' : Nat} (h : WinOk o) (hn : nextX bs en o p = some (x, o', p')) : WinOk o' := by
  unfold nextX at hn
  split at hn
  · split at hn
    · injection hn with hn; injection hn with _ hn; injection hn with hn _; rw [← hn]; exact h
    · split at hn
      · split at hn
        · unfold oldX at hn
          split at hn
          · cases hn
          · split at hn
            · split at hn
              · cases hn
              · injection hn with hn; injection hn with _ hn; injection hn with hn _; rw [← hn]; exact h
            · cases hn
        · unfold newX at hn
          split at hn
          · split at hn
            · unfold newY at hn
              split at hn
              · split at hn
                · split at hn
                  · injection hn with hn; injection hn with _ hn; injection hn with hn _
                    rw [← hn]
                    intro q hq
                    injection hq with hq
                    subst hq
                    show _ + (64 - _ - _) ≤ 63
                    omega
                  · cases hn
                · cases hn
              · cases hn
            · cases hn
          · cases hn
      · cases hn
  · cases hn
theorem Tk.app {w wr w' : World} {t r : Nat} {D : Nat → Prop} {bs : List Nat} {en : Nat} {o : Option (Nat × Nat)} {e : Int} {p : Nat} {S : Nat → Prop} (h : Tk w wr t r D bs en o e p) (hk : Keeps S wr w') (hS : ∀ g, S g → t + 1 ≤ g) (hr : r < t) (hD : ∀ k, D k → k < t) (hw : w.heap.size ≤ t + 1) : Tk w w' t r D bs en o e p :=
  ⟨h.rd.keeps hk (fun h => by have := hS _ h; omega) (fun k hk h => by have := hS _ h; have := hD k hk; omega), h.blk.keeps hk (fun h => by have := hS _ h; omega), h.keep.trans hk (fun k hk h => by have := hS _ h; omega), h.ne, h.nd⟩
set_option maxHeartbeats 400000 in
theorem xdecode_arg (w : World) (A : Option Addr) (len c : Nat) (n : Int) (hn : n < 0) :
    Calls Tryd.prog 16 #[.slice A len c, .int .i64 n] w fun e w' => e = .returned (.tuple #[.slice none 0 0, .int .i64 2]) ∧ w = w' := by
  go_enter Tryd.func16, Tryd.ntmps16
  go_wp2
  go_ret2
  exact ⟨rfl, rfl⟩
set_option maxHeartbeats 400000 in
theorem xdecode_big (w : World) (A : Option Addr) (len c : Nat) (n : Int) (hn : 4096 < n) :
    Calls Tryd.prog 16 #[.slice A len c, .int .i64 n] w fun e w' => e = .returned (.tuple #[.slice none 0 0, .int .i64 3]) ∧ w = w' := by
  have h0 : ¬ n < 0 := by omega
  go_enter Tryd.func16, Tryd.ntmps16
  go_wp2
  go_ret2
  exact ⟨rfl, rfl⟩
/-- What the loop of Decode holds. -/
structure XSt (w w2 wr : World) (t r : Nat) (D : Nat → Prop) (bs : List Nat) (en : Nat) (out : List Nat) (o : Option (Nat × Nat)) (p : Nat) (v : Value) : Prop where
  tk : Tk w2 wr t r D bs en o 0 p
  row : wr.ownsRow (t + 1) 51 1 v out.length (out.map u64V)
  u64 : ∀ j, out.getD j 0 < 18446744073709551616
  win : WinOk o
theorem row_at {w : World} {base c n : Nat} {A : Option Addr} {l : List Nat} (ho : w.ownsRow base 51 1 (.slice A n c) n (l.map u64V)) (hl : l.length = n) : Sl w (fun k => (Value.slice A n c).ownBlock = some k) A n (fun j => u64V (l.getD j 0)) := by
  refine Sl.of_own ho ?_
  intro j u hu
  rw [List.getElem?_map] at hu
  cases hj : l[j]? with
  | none => rw [hj] at hu; cases hu
  | some x => rw [hj] at hu; injection hu with hu; rw [List.getD_eq_getElem?_getD, hj]; exact hu.symm
set_option maxRecDepth 100000 in
set_option maxHeartbeats 20000000 in
theorem xdecode_ok (w : World) (A : Option Addr) (len c : Nat) (D0 : Nat → Prop) (bs : List Nat) (n : Nat) (hl : bs.length = len) (hsl : Sl w D0 A len (byteC bs)) (hbyte : ∀ j, bs.getD j 0 < 256) (hsm : len ≤ 1048576) (hn : n ≤ 4096) :
    Calls Tryd.prog 16 #[.slice A len c, .int .i64 n] w (XDecPost w (decXL bs n)) := by
  have HS := Lib.hid (And.intro hsl (And.intro hbyte hl))
  clear hsl hbyte hl
  have d1 : decide ((n : Int) < 0) = false := by simp
  have d2 : decide ((4096 : Int) < n) = false := by simp; omega
  go_enter Tryd.func16, Tryd.ntmps16
  go_wp2_with fail
  refine (newReader_fit _ _ _ _ _ bs _ HS.out.2.2 HS.out.1 HS.out.2.1 (by omega) (by omega) (by omega)).mono ?_
  rintro e w1 ⟨r, rfl, hlr, hr1, hk1⟩
  clear d1 d2
  obtain ⟨en, hen⟩ : ∃ en, en = (8 * (len : Int)).toNat := ⟨_, rfl⟩
  rw [← hen] at hr1
  have hen8 : en = 8 * bs.length := by have := HS.out.2.2; omega
  have hrlt : r < w1.heap.size := by obtain ⟨A', c', hb, -⟩ := hr1.blk; exact hb.lt
  have H1 := Lib.hid (And.intro hr1 (And.intro hk1 (And.intro hlr (And.intro hrlt hen8))))
  clear hr1 hk1 hlr hrlt hen hen8
  go_wp2_with fail
  refine (none_any _).mono ?_
  rintro e w1' ⟨rfl, hb1⟩
  obtain ⟨t, ht⟩ : ∃ t, t = w1'.heap.size := ⟨_, rfl⟩
  obtain ⟨D, hD⟩ : ∃ D : Nat → Prop, D = fun k => w.heap.size ≤ k ∧ k < r := ⟨_, rfl⟩
  obtain ⟨w2, hw2⟩ : ∃ w2, w2 = w1'.alloc (.cells #[.pointer (some ⟨r, 0, none⟩), .int .i64 (-1), .int .i64 (-1), .int .i64 0] 93) := ⟨_, rfl⟩
  have hrt : r < t := by have := hb1.size; have := H1.out.2.2.2.1; omega
  have htk : Tk w2 w2 t r D bs en none 0 0 := by
    obtain ⟨hr1, hk1, hlr, hrlt, hen⟩ := H1.out
    refine ⟨?_, ?_, Keeps.refl _ _, by omega, by rw [hD]; omega⟩
    · rw [hD, hw2]
      exact (hr1.below hb1).below ((Below.refl _ _).alloc (Nat.le_refl _) _)
    · rw [hw2, ht]
      exact Blk.fresh _ _ _
  have hk2 : Keeps (fun _ => False) w w2 := by
    obtain ⟨hr1, hk1, hlr, hrlt, hen⟩ := H1.out
    rw [hw2]
    exact (hk1.trans' (Keeps.of_below hb1)).alloc _
  have hs2 : w2.heap.size = t + 1 := by rw [hw2, ht]; simp
  have hDt : ∀ k, D k → k < t := by rw [hD]; intro k hk; omega
  have hwr : w.heap.size ≤ r := H1.out.2.2.1
  have HT := Lib.hid (And.intro htk (And.intro hk2 (And.intro hs2 (And.intro hDt (And.intro hrt hwr)))))
  clear htk hk2 hs2 hDt hrt hD hb1 hwr
  go_wp2_with fail
  rw [← hw2, ← ht]
  clear hw2 ht
  have hlow : ∀ w', Keeps (fun k => k = r ∨ k = t) w2 w' → Keeps (fun _ => False) w w' := fun w' hk => HT.out.2.1.trans hk (fun k hk e => by have := HT.out.2.2.2.2; omega)
  have HL := Lib.hid hlow
  clear hlow
  go_loopw [9, 31] (fun v i wr => ∃ (k : Nat) (out : List Nat) (o : Option (Nat × Nat)) (p : Nat), k ≤ n ∧ i = .int .i64 k ∧ XSt w w2 wr t r D bs en out o p v ∧ out.length = k ∧ decX bs en n [] none 0 = decX bs en (n - k) out o p)
    (fun _ i _ => n - (intOf i).toNat)
  case atStart => exact ⟨0, [], none, 0, Nat.zero_le _, rfl, ⟨HT.out.1, ⟨rfl, .inl ⟨rfl, rfl⟩⟩, fun j => by simp, fun q hq => by cases hq⟩, rfl, rfl⟩
  case round =>
    obtain ⟨k, out, o, p, hk, rfl, hst, hlen, hdec⟩ := hrel
    by_cases hlt : k < n
    · obtain ⟨f, hf⟩ : ∃ f, n - k = f + 1 := ⟨n - k - 1, by omega⟩
      rw [hf] at hdec
      have HR := Lib.hid (And.intro hst (And.intro hlen (And.intro hdec hf)))
      clear hst hlen hdec hf
      rcases Nat.eq_zero_or_pos k with hk0 | hk0
      · subst hk0
        go_wp2_with fail
        refine (tget_any HR.out.1.tk.re 64 (by omega)).mono ?_
        rintro e w3 ⟨rfl, h3⟩
        obtain ⟨z, er, p5, hg3, hz64, hstep⟩ : ∃ (z : Nat) (er : Int) (p5 : Nat), tget bs en 0 p 64 = (z, er, p5) ∧ z < 18446744073709551616 ∧ ((er = 0 ∧ stepX bs en out o p = some (z, o, p5)) ∨ ((er = 10 ∨ er = 11) ∧ stepX bs en out o p = none)) := by
          have h0 : out.length = 0 := HR.out.2.1
          unfold stepX
          rw [if_pos h0]
          by_cases q : p + 64 ≤ en
          · rw [if_pos q]
            exact ⟨_, _, _, tget_ok q, gets_u64 _ _ _ (by omega), .inl ⟨rfl, rfl⟩⟩
          · rw [if_neg q]
            exact ⟨_, _, _, tget_end q, by omega, .inr ⟨.inl rfl, rfl⟩⟩
        rw [hg3] at h3
        rw [hg3]
        simp only [] at h3
        obtain ⟨hrt, hDt⟩ : r < t ∧ ∀ k, D k → k < t := ⟨HT.out.2.2.2.2.1, HT.out.2.2.2.1⟩
        have hrow3 := own_keeps HR.out.1.row h3.keep (fun g hg e => by have := (HR.out.1.row.lt g hg).1; omega)
        have htk3 := HR.out.1.tk.on h3
        have ht3 : t < w3.heap.size := h3.blk.lt
        have H3 := Lib.hid (And.intro hrow3 (And.intro htk3 (And.intro hstep ht3)))
        have HZ := Lib.hid hz64
        have HW5 := Lib.hid (show er = 0 → WinOk o from fun _ => HR.out.1.win)
        clear hrow3 htk3 h3 hg3 hstep hz64 hrt hDt ht3
        obtain ⟨A3, c3, hv3, -, -⟩ := own_form HR.out.1.row
        have HV3 := Lib.hid hv3
        clear hv3
        go_wp2_with (at_builtin; refine wpList_append_sl (f := fun _ => .int .u64 (z : Nat)) (D := fun k => k = w3.heap.size) (base := t + 1) (n := out.length) (xs := out.map u64V) u64Elem rfl (.tmp 36) (.tmp 39) rfl rfl rfl ?hown ?hsl ?h1 ?h63 ?hby ?hbase ?_)
        case hown => exact H3.out.1.alloc _
        case hsl => exact sl_one _ _ _
        case h1 => intro j _; rfl
        case h63 => unfold maxLen; have := HR.out.2.1; omega
        case hby => have := HR.out.2.1; omega
        case hbase => have := H3.out.2.2.2; simp; omega
        intro v5 w5 ho5 hg5 hat5
        have htk5 := H3.out.2.1.app (((Keeps.refl _ w3).alloc _).grown hg5 (fun q hq _ => hq)) (fun g hg => (H3.out.1.lt g hg).1) HT.out.2.2.2.2.1 HT.out.2.2.2.1 (by rw [HT.out.2.2.1]; exact Nat.le_refl _)
        have hstep := H3.out.2.2.1
        clear hg5 hat5 H3
        have H5 := Lib.hid (And.intro htk5 (And.intro ho5 hstep))
        have d3 := htk5.c3
        clear htk5 ho5 hstep
        rcases H5.out.2.2 with ⟨rfl, hs5⟩ | ⟨her, hs5⟩
        · have HSX := Lib.hid hs5
          clear hs5
          go_wp2_with fail
          go_roundw
          case rel =>
            refine ⟨0 + 1, out ++ [z], o, p5, by omega, by go_num, ⟨H5.out.1, ?_, getD_u HR.out.1.u64 HZ.out, HW5.out rfl⟩, by simp [HR.out.2.1], ?_⟩
            · rw [List.length_append, List.map_append]
              exact H5.out.2.1
            · rw [HR.out.2.2.1, show n - (0 + 1) = f by have := HR.out.2.2.2; omega]
              show (match stepX bs en out o p with | none => none | some q => decX bs en f (out ++ [q.1]) q.2.1 q.2.2) = _
              rw [HSX.out]
          case measure => simp [intOf]; omega
        · have hne : ¬ er = 0 := by omega
          have hfin : XDecPost w (decXL bs n) (.returned (.tuple #[.slice none 0 0, .int .i64 er])) w5.drew := by
            refine ⟨[], er, none, 0, rfl, ⟨rfl, .inl ⟨rfl, rfl⟩⟩, (HL.out _ H5.out.1.keep).drew, fun j => by simp, .inr ⟨⟨hne, rfl⟩, ?_⟩⟩
            have hd : decX bs en n [] none 0 = none := by
              rw [HR.out.2.2.1]
              show (match stepX bs en out o p with | none => none | some q => decX bs en f (out ++ [q.1]) q.2.1 q.2.2) = _
              rw [hs5]
            unfold decXL
            rw [← H1.out.2.2.2.2, hd]
          have HF := Lib.hid hfin
          clear hfin hs5 her
          go_wp2_with fail
          have hdd : w5.drew.cell? ⟨t, 3, none⟩ = some (.int .i64 er) := d3
          clear d3
          have hS : (fun w' : World => w'.cell? ⟨t, 3, none⟩ = some (.int .i64 er)) (w5.drew) := hdd
          refine reg_start (fun w' : World => w'.cell? ⟨t, 3, none⟩ = some (.int .i64 er)) (by kernel_rfl) hS ?_
          refine reg_take (i := 0) (v := ?_) rfl (by kernel_rfl) (by kernel_rfl) (by kernel_rfl) (fun _ _ _ h => h) (Or.inl ⟨by kernel_rfl, ?_⟩) hS ?_
          rotate_left
          · (intro w' hSw; go_simp <;> with_reducible rfl)
          try simp only [List.getElem_toArray, List.getElem_cons_succ, List.getElem_cons_zero, Act.put, List.setIfInBounds_toArray, List.set_cons_zero, List.set_cons_succ]
          refine reg_take (i := 1) (v := ?_) rfl (by kernel_rfl) (by kernel_rfl) (by kernel_rfl) (fun _ _ _ h => h) (Or.inl ⟨by kernel_rfl, ?_⟩) hS ?_
          rotate_left
          · (intro w' hSw; go_simp <;> with_reducible rfl)
          try simp only [List.getElem_toArray, List.getElem_cons_succ, List.getElem_cons_zero, Act.put, List.setIfInBounds_toArray, List.set_cons_zero, List.set_cons_succ]
          refine reg_take (i := 2) (v := ?_) rfl (by kernel_rfl) (by kernel_rfl) (by kernel_rfl) (fun _ _ _ h => h) (Or.inl ⟨by kernel_rfl, ?_⟩) hS ?_
          rotate_left
          · (intro w' hSw; go_simp <;> with_reducible rfl)
          try simp only [List.getElem_toArray, List.getElem_cons_succ, List.getElem_cons_zero, Act.put, List.setIfInBounds_toArray, List.set_cons_zero, List.set_cons_succ]
          refine reg_take (i := 3) (v := ?_) rfl (by kernel_rfl) (by kernel_rfl) (by kernel_rfl) (fun _ _ _ h => h) (Or.inl ⟨by kernel_rfl, ?_⟩) hS ?_
          rotate_left
          · (intro w' hSw; go_simp <;> with_reducible rfl)
          try simp only [List.getElem_toArray, List.getElem_cons_succ, List.getElem_cons_zero, Act.put, List.setIfInBounds_toArray, List.set_cons_zero, List.set_cons_succ]
          refine reg_take (i := 4) (v := ?_) rfl (by kernel_rfl) (by kernel_rfl) (by kernel_rfl) (fun _ _ _ h => h) (Or.inl ⟨by kernel_rfl, ?_⟩) hS ?_
          rotate_left
          · (intro w' hSw; go_simp <;> with_reducible rfl)
          try simp only [List.getElem_toArray, List.getElem_cons_succ, List.getElem_cons_zero, Act.put, List.setIfInBounds_toArray, List.set_cons_zero, List.set_cons_succ]
          refine reg_take (i := 5) (v := ?_) rfl (by kernel_rfl) (by kernel_rfl) (by kernel_rfl) (fun _ _ _ h => h) (Or.inl ⟨by kernel_rfl, ?_⟩) hS ?_
          rotate_left
          · (intro w' hSw; go_simp <;> with_reducible rfl)
          try simp only [List.getElem_toArray, List.getElem_cons_succ, List.getElem_cons_zero, Act.put, List.setIfInBounds_toArray, List.set_cons_zero, List.set_cons_succ]
          refine wpAnyH_done (by kernel_rfl) ?_ _
          try simp only [List.getElem_toArray, List.getElem_cons_succ, List.getElem_cons_zero]
          try simp only [List.getElem_toArray, List.getElem_cons_succ, List.getElem_cons_zero, Act.put, List.setIfInBounds_toArray, List.set_cons_zero, List.set_cons_succ]
          go_wp2_with fail
          go_ret2
          exact HF.out
      · obtain ⟨j, rfl⟩ : ∃ j, k = j + 1 := ⟨k - 1, by omega⟩
        obtain ⟨A3, c3, hv3, hc3, hA3⟩ := own_form HR.out.1.row
        obtain ⟨g, hA, hg1, hg2⟩ := hA3 (by have := HR.out.2.1; omega)
        subst hA
        have hrow := HR.out.1.row
        rw [hv3] at hrow
        have hlj : out.length = j + 1 := HR.out.2.1
        rw [hlj] at hrow hv3
        obtain ⟨b, off, hbe, -, hcells⟩ := row_at hrow hlj (by omega)
        obtain ⟨rfl, rfl⟩ : g = b ∧ 0 = off := by simpa using hbe
        obtain ⟨last, hlast⟩ : ∃ last, last = out.getD j 0 := ⟨_, rfl⟩
        have hcl : wr.cell? ⟨g, j, none⟩ = some (.int .u64 (last : Nat)) := by
          have h : wr.cell? ⟨g, 0 + j, none⟩ = some (u64V (out.getD j 0)) := hcells j (by omega)
          rw [Nat.zero_add, ← hlast] at h
          exact h
        have hl64 : last < 18446744073709551616 := by rw [hlast]; exact HR.out.1.u64 j
        have hgr : g ≠ r ∧ g ≠ t := by have := HT.out.2.2.2.2.1; omega
        rw [hv3]
        have HG := Lib.hid (And.intro hrow (And.intro hcl (And.intro hl64 (And.intro hlast (And.intro hgr (And.intro hg1 hlj))))))
        clear hrow hcells hbe hcl hl64 hlast hgr hg1 hg2 hlj hA3 hc3 hk0
        have HV3 := Lib.hid hv3
        clear hv3
        have ejw : IntKind.i64.wrap ((j : Int) + 1 - 1) = (j : Int) := by rw [IntWalk.i64_in _ (by omega)]; omega
        have ejw2 : (j : Int) + 1 - 1 = (j : Int) := by omega
        have hj2 : (0 : Int) ≤ (j : Int) := by omega
        have ejw3 : IntKind.i64.wrap (j : Int) = (j : Int) := IntWalk.i64_in _ (by omega)
        have hjl : (j : Int) < (j : Int) + 1 := by omega
        have ejw4 : ((j : Int)).toNat = j := by omega
        have hj0 : ¬ ((j : Int) + 1 = 0) := by omega
        have hjn : (j : Int) + 1 < (n : Int) := by omega
        rw [show ((j + 1 : Nat) : Int) = (j : Int) + 1 from rfl]
        go_wp2_with fail
        have hS : (fun w' : World => w'.cell? ⟨g, j, none⟩ = some (.int .u64 (last : Nat))) (wr.drew) := HG.out.2.1
        refine reg_start (fun w' : World => w'.cell? ⟨g, j, none⟩ = some (.int .u64 (last : Nat))) (by kernel_rfl) hS ?_
        refine reg_take (i := 0) (v := ?_) rfl (by kernel_rfl) (by kernel_rfl) (by kernel_rfl) (fun _ _ _ h => h) (Or.inl ⟨by kernel_rfl, ?_⟩) hS ?_
        rotate_left
        · (intro w' hSw; go_simp <;> with_reducible rfl)
        try simp only [List.getElem_toArray, List.getElem_cons_succ, List.getElem_cons_zero, Act.put, List.setIfInBounds_toArray, List.set_cons_zero, List.set_cons_succ]
        refine reg_take (i := 1) (v := ?_) rfl (by kernel_rfl) (by kernel_rfl) (by kernel_rfl) (fun _ _ _ h => h) (Or.inl ⟨by kernel_rfl, ?_⟩) hS ?_
        rotate_left
        · (intro w' hSw; go_simp <;> with_reducible rfl)
        try simp only [List.getElem_toArray, List.getElem_cons_succ, List.getElem_cons_zero, Act.put, List.setIfInBounds_toArray, List.set_cons_zero, List.set_cons_succ]
        refine reg_take (i := 2) (v := ?_) rfl (by kernel_rfl) (by kernel_rfl) (by kernel_rfl) (fun _ _ _ h => h) (Or.inl ⟨by kernel_rfl, ?_⟩) hS ?_
        rotate_left
        · (intro w' hSw; go_simp <;> with_reducible rfl)
        try simp only [List.getElem_toArray, List.getElem_cons_succ, List.getElem_cons_zero, Act.put, List.setIfInBounds_toArray, List.set_cons_zero, List.set_cons_succ]
        refine reg_take (i := 3) (v := ?_) rfl (by kernel_rfl) (by kernel_rfl) (by kernel_rfl) (fun _ _ _ h => h) (Or.inl ⟨by kernel_rfl, ?_⟩) hS ?_
        rotate_left
        · (intro w' hSw; go_simp <;> with_reducible rfl)
        try simp only [List.getElem_toArray, List.getElem_cons_succ, List.getElem_cons_zero, Act.put, List.setIfInBounds_toArray, List.set_cons_zero, List.set_cons_succ]
        refine reg_take (i := 4) (v := ?_) rfl (by kernel_rfl) (by kernel_rfl) (by kernel_rfl) (fun _ _ _ h => h) (Or.inl ⟨by kernel_rfl, ?_⟩) hS ?_
        rotate_left
        · (intro w' hSw; go_simp <;> with_reducible rfl)
        try simp only [List.getElem_toArray, List.getElem_cons_succ, List.getElem_cons_zero, Act.put, List.setIfInBounds_toArray, List.set_cons_zero, List.set_cons_succ]
        refine reg_take (i := 5) (v := ?_) rfl (by kernel_rfl) (by kernel_rfl) (by kernel_rfl) (fun _ _ _ h => h) (Or.inl ⟨by kernel_rfl, ?_⟩) hS ?_
        rotate_left
        · (intro w' hSw; go_simp <;> with_reducible rfl)
        try simp only [List.getElem_toArray, List.getElem_cons_succ, List.getElem_cons_zero, Act.put, List.setIfInBounds_toArray, List.set_cons_zero, List.set_cons_succ]
        refine reg_take (i := 6) (v := ?_) rfl (by kernel_rfl) (by kernel_rfl) (by kernel_rfl) (fun _ _ _ h => h) (Or.inl ⟨by kernel_rfl, ?_⟩) hS ?_
        rotate_left
        · (intro w' hSw; go_simp <;> with_reducible rfl)
        try simp only [List.getElem_toArray, List.getElem_cons_succ, List.getElem_cons_zero, Act.put, List.setIfInBounds_toArray, List.set_cons_zero, List.set_cons_succ]
        refine reg_call (i := 7) rfl (by kernel_rfl) (fun K hK => ?_)
        have HK := Lib.hid hK
        clear hK
        go_simp
        refine (tnext_any HR.out.1.tk.drew.re HR.out.1.win).mono ?_
        rintro e w3 ⟨x, o5, er, p5, rfl, hxl, h3, hc3⟩
        obtain ⟨z, hz⟩ : ∃ z, z = last ^^^ x := ⟨_, rfl⟩
        have hzx : bits .xor .u64 (last : Int) (x : Int) = (z : Int) := by rw [u64_xor_nat _ _ HG.out.2.2.1 hxl, hz]
        have hz64 : z < 18446744073709551616 := by rw [hz]; exact xor_lt HG.out.2.2.1 hxl
        have hstep : (er = 0 ∧ stepX bs en out o p = some (z, o5, p5)) ∨ ((er = 10 ∨ er = 11) ∧ stepX bs en out o p = none) := by
          have hlj := HG.out.2.2.2.2.2.2
          unfold stepX
          rw [if_neg (by omega)]
          rcases hc3 with ⟨h1, h2⟩ | ⟨h1, h2⟩
          · refine .inl ⟨h1, ?_⟩
            rw [h2]
            show some (out.getD (out.length - 1) 0 ^^^ x, o5, p5) = _
            rw [hlj, show j + 1 - 1 = j by omega, ← HG.out.2.2.2.1, ← hz]
          · refine .inr ⟨h1, ?_⟩
            rw [h2]
        have HW5 := Lib.hid (show er = 0 → WinOk o5 from fun h => by
          rcases hc3 with ⟨h1, h2⟩ | ⟨h1, h2⟩
          · exact decX_ok_win HR.out.1.win h2
          · omega)
        have hrow3 := own_keeps HG.out.1 ((Keeps.refl _ wr).drew.trans' h3.keep) (fun q hq e => by
          have := HG.out.2.2.2.2.1
          have hq' : g = q := by simpa [Value.ownBlock] using hq
          omega)
        have htk3 := HR.out.1.tk.drew.on h3
        have ht3 : t < w3.heap.size := h3.blk.lt
        have hcl3 : w3.cell? ⟨g, j, none⟩ = some (.int .u64 (last : Nat)) := (World.cell?_of_block (w := wr.drew) (a := ⟨g, j, none⟩) (h3.keep.block g (World.block_lt_of_cell? wr _ HG.out.2.1) (fun e => by have := HG.out.2.2.2.2.1; omega))).trans HG.out.2.1
        have HZ := Lib.hid hz64
        have H3 := Lib.hid (And.intro hrow3 (And.intro htk3 (And.intro hstep (And.intro ht3 hcl3))))
        clear hz hz64 hstep hrow3 htk3 ht3 hcl3 h3 hc3 hxl
        go_wp2_with fail
        refine HK.out.to (fun w' : World => w'.cell? ⟨g, j, none⟩ = some (.int .u64 (last : Nat))) (fun _ h => h) (H3.out.2.2.2.2) ?_
        clear HK hS
        have hS : (fun w' : World => w'.cell? ⟨g, j, none⟩ = some (.int .u64 (last : Nat))) (w3) := H3.out.2.2.2.2
        try simp only [List.getElem_toArray, List.getElem_cons_succ, List.getElem_cons_zero, Act.put, List.setIfInBounds_toArray, List.set_cons_zero, List.set_cons_succ]
        refine reg_take (i := 8) (v := ?_) rfl (by kernel_rfl) (by kernel_rfl) (by kernel_rfl) (fun _ _ _ h => h) (Or.inl ⟨by kernel_rfl, ?_⟩) hS ?_
        rotate_left
        · (intro w' hSw; go_simp <;> with_reducible rfl)
        try simp only [List.getElem_toArray, List.getElem_cons_succ, List.getElem_cons_zero, Act.put, List.setIfInBounds_toArray, List.set_cons_zero, List.set_cons_succ]
        have HA := Lib.hid (show (w3.alloc (.cells #[.int .u64 (z : Nat)] 51)).cell? ⟨g, j, none⟩ = some (.int .u64 (last : Nat)) from (World.cell?_of_block (w := w3) (a := ⟨g, j, none⟩) (Below.heap_alloc _ _ _ (World.block_lt_of_cell? w3 _ H3.out.2.2.2.2))).trans H3.out.2.2.2.2)
        refine reg_call (i := 9) rfl (by kernel_rfl) (fun K hK => ?_)
        have HK := Lib.hid hK
        clear hK
        go_simp
        go_wp2_with fail
        refine HK.out.to (fun w' : World => w'.cell? ⟨g, j, none⟩ = some (.int .u64 (last : Nat))) (fun _ h => h) (HA.out) ?_
        clear HK hS
        have hS : (fun w' : World => w'.cell? ⟨g, j, none⟩ = some (.int .u64 (last : Nat))) (w3.alloc (.cells #[.int .u64 (z : Nat)] 51)) := HA.out
        try simp only [List.getElem_toArray, List.getElem_cons_succ, List.getElem_cons_zero, Act.put, List.setIfInBounds_toArray, List.set_cons_zero, List.set_cons_succ]
        refine reg_call (i := 10) rfl (by kernel_rfl) (fun K hK => ?_)
        have HK := Lib.hid hK
        clear hK
        refine step_append_kept (f := fun _ => .int .u64 (z : Nat)) (D := fun k => k = w3.heap.size) (base := t + 1) (n := j + 1) (m := 1) (g := g) (xs := out.map u64V) u64Elem rfl (.tmp 41) (.tmp 50) rfl rfl rfl ?hown ?hsl ?h1 ?h63 ?hby ?hbase ?_
        case hown => exact H3.out.1.alloc _
        case hsl => exact sl_one _ _ _
        case h1 => intro j _; rfl
        case h63 => unfold maxLen; omega
        case hby => omega
        case hbase => have := H3.out.2.2.2.1; simp; omega
        intro v5 w5 ho5 hg5 hat5 hkp5
        have htk5 := H3.out.2.1.app (((Keeps.refl _ w3).alloc _).grown hg5 (fun q hq _ => hq)) (fun g hg => (H3.out.1.lt g hg).1) HT.out.2.2.2.2.1 HT.out.2.2.2.1 (by rw [HT.out.2.2.1]; exact Nat.le_refl _)
        have hstep := H3.out.2.2.1
        have hcl5 : w5.cell? ⟨g, j, none⟩ = some (.int .u64 (last : Nat)) := by
          refine hkp5 j _ ?_
          have hlj := HG.out.2.2.2.2.2.2
          rw [List.getElem?_map, HG.out.2.2.2.1, List.getD_eq_getElem?_getD, List.getElem?_eq_getElem (by omega)]
          rfl
        have HC5 := Lib.hid hcl5
        clear hg5 hat5 H3 HA hkp5 hcl5
        obtain ⟨A5, c5, hv5, -, -⟩ := own_form ho5
        subst hv5
        refine HK.out.to (fun w' : World => w'.cell? ⟨g, j, none⟩ = some (.int .u64 (last : Nat))) (fun _ h => h) (HC5.out) ?_
        clear HK hS
        have hS : (fun w' : World => w'.cell? ⟨g, j, none⟩ = some (.int .u64 (last : Nat))) (w5) := HC5.out
        try simp only [List.getElem_toArray, List.getElem_cons_succ, List.getElem_cons_zero, Act.put, List.setIfInBounds_toArray, List.set_cons_zero, List.set_cons_succ]
        refine reg_take (i := 11) (v := ?_) rfl (by kernel_rfl) (by kernel_rfl) (by kernel_rfl) (fun _ _ _ h => h) (Or.inl ⟨by kernel_rfl, ?_⟩) hS ?_
        rotate_left
        · (intro w' hSw; go_simp <;> with_reducible rfl)
        try simp only [List.getElem_toArray, List.getElem_cons_succ, List.getElem_cons_zero, Act.put, List.setIfInBounds_toArray, List.set_cons_zero, List.set_cons_succ]
        refine wpAnyH_done (by kernel_rfl) ?_ _
        try simp only [List.getElem_toArray, List.getElem_cons_succ, List.getElem_cons_zero]
        try simp only [List.getElem_toArray, List.getElem_cons_succ, List.getElem_cons_zero, Act.put, List.setIfInBounds_toArray, List.set_cons_zero, List.set_cons_succ]
        have H5 := Lib.hid (And.intro htk5 (And.intro ho5 hstep))
        have d3 := htk5.c3
        clear htk5 ho5 hstep
        rcases H5.out.2.2 with ⟨rfl, hs5⟩ | ⟨her, hs5⟩
        · have HSX := Lib.hid hs5
          clear hs5
          go_wp2_with fail
          go_roundw
          case rel =>
            refine ⟨j + 1 + 1, out ++ [z], o5, p5, by omega, by go_num, ⟨H5.out.1, ?_, getD_u HR.out.1.u64 HZ.out, HW5.out rfl⟩, by simp [HR.out.2.1], ?_⟩
            · rw [List.length_append, List.map_append, HG.out.2.2.2.2.2.2]
              exact H5.out.2.1
            · rw [HR.out.2.2.1, show n - (j + 1 + 1) = f by have := HR.out.2.2.2; omega]
              show (match stepX bs en out o p with | none => none | some q => decX bs en f (out ++ [q.1]) q.2.1 q.2.2) = _
              rw [HSX.out]
          case measure => simp [intOf]; omega
        · have hne : ¬ er = 0 := by omega
          have hfin : XDecPost w (decXL bs n) (.returned (.tuple #[.slice none 0 0, .int .i64 er])) w5.drew := by
            refine ⟨[], er, none, 0, rfl, ⟨rfl, .inl ⟨rfl, rfl⟩⟩, (HL.out _ H5.out.1.keep).drew, fun j => by simp, .inr ⟨⟨hne, rfl⟩, ?_⟩⟩
            have hd : decX bs en n [] none 0 = none := by
              rw [HR.out.2.2.1]
              show (match stepX bs en out o p with | none => none | some q => decX bs en f (out ++ [q.1]) q.2.1 q.2.2) = _
              rw [hs5]
            unfold decXL
            rw [← H1.out.2.2.2.2, hd]
          have HF := Lib.hid hfin
          clear hfin hs5 her
          go_wp2_with fail
          have hdd : w5.drew.cell? ⟨t, 3, none⟩ = some (.int .i64 er) := d3
          clear d3
          have hS : (fun w' : World => w'.cell? ⟨t, 3, none⟩ = some (.int .i64 er)) (w5.drew) := hdd
          refine reg_start (fun w' : World => w'.cell? ⟨t, 3, none⟩ = some (.int .i64 er)) (by kernel_rfl) hS ?_
          refine reg_take (i := 0) (v := ?_) rfl (by kernel_rfl) (by kernel_rfl) (by kernel_rfl) (fun _ _ _ h => h) (Or.inl ⟨by kernel_rfl, ?_⟩) hS ?_
          rotate_left
          · (intro w' hSw; go_simp <;> with_reducible rfl)
          try simp only [List.getElem_toArray, List.getElem_cons_succ, List.getElem_cons_zero, Act.put, List.setIfInBounds_toArray, List.set_cons_zero, List.set_cons_succ]
          refine reg_take (i := 1) (v := ?_) rfl (by kernel_rfl) (by kernel_rfl) (by kernel_rfl) (fun _ _ _ h => h) (Or.inl ⟨by kernel_rfl, ?_⟩) hS ?_
          rotate_left
          · (intro w' hSw; go_simp <;> with_reducible rfl)
          try simp only [List.getElem_toArray, List.getElem_cons_succ, List.getElem_cons_zero, Act.put, List.setIfInBounds_toArray, List.set_cons_zero, List.set_cons_succ]
          refine reg_take (i := 2) (v := ?_) rfl (by kernel_rfl) (by kernel_rfl) (by kernel_rfl) (fun _ _ _ h => h) (Or.inl ⟨by kernel_rfl, ?_⟩) hS ?_
          rotate_left
          · (intro w' hSw; go_simp <;> with_reducible rfl)
          try simp only [List.getElem_toArray, List.getElem_cons_succ, List.getElem_cons_zero, Act.put, List.setIfInBounds_toArray, List.set_cons_zero, List.set_cons_succ]
          refine reg_take (i := 3) (v := ?_) rfl (by kernel_rfl) (by kernel_rfl) (by kernel_rfl) (fun _ _ _ h => h) (Or.inl ⟨by kernel_rfl, ?_⟩) hS ?_
          rotate_left
          · (intro w' hSw; go_simp <;> with_reducible rfl)
          try simp only [List.getElem_toArray, List.getElem_cons_succ, List.getElem_cons_zero, Act.put, List.setIfInBounds_toArray, List.set_cons_zero, List.set_cons_succ]
          refine reg_take (i := 4) (v := ?_) rfl (by kernel_rfl) (by kernel_rfl) (by kernel_rfl) (fun _ _ _ h => h) (Or.inl ⟨by kernel_rfl, ?_⟩) hS ?_
          rotate_left
          · (intro w' hSw; go_simp <;> with_reducible rfl)
          try simp only [List.getElem_toArray, List.getElem_cons_succ, List.getElem_cons_zero, Act.put, List.setIfInBounds_toArray, List.set_cons_zero, List.set_cons_succ]
          refine reg_take (i := 5) (v := ?_) rfl (by kernel_rfl) (by kernel_rfl) (by kernel_rfl) (fun _ _ _ h => h) (Or.inl ⟨by kernel_rfl, ?_⟩) hS ?_
          rotate_left
          · (intro w' hSw; go_simp <;> with_reducible rfl)
          try simp only [List.getElem_toArray, List.getElem_cons_succ, List.getElem_cons_zero, Act.put, List.setIfInBounds_toArray, List.set_cons_zero, List.set_cons_succ]
          refine wpAnyH_done (by kernel_rfl) ?_ _
          try simp only [List.getElem_toArray, List.getElem_cons_succ, List.getElem_cons_zero]
          try simp only [List.getElem_toArray, List.getElem_cons_succ, List.getElem_cons_zero, Act.put, List.setIfInBounds_toArray, List.set_cons_zero, List.set_cons_succ]
          go_wp2_with fail
          go_ret2
          exact HF.out
    · obtain rfl : k = n := by omega
      have HR := Lib.hid (And.intro hst (And.intro hlen (hdec.trans (show decX bs en (k - k) out o p = some (out, p) by rw [Nat.sub_self]; rfl))))
      clear hst hlen hdec
      have hle := HR.out.1.tk.rd.le
      have hsm8 := HR.out.1.tk.rd.small
      have hen8 := HR.out.1.tk.rd.en_le
      obtain ⟨lf, hlf⟩ : ∃ lf : Nat, lf = en - p := ⟨_, rfl⟩
      have hni : (en : Int) - p = (lf : Int) := by omega
      have hl8 : lf ≤ 8796093022208 := by omega
      have HN := Lib.hid (And.intro hlf hle)
      clear hlf hle hsm8 hen8
      go_wp2_with fail
      refine (left_any _ _ _ _ _ _ HR.out.1.tk.rd).mono ?_
      rintro e w3 ⟨rfl, k1, rfl⟩
      rw [hni]
      clear hni
      have H3 := Lib.hid (HR.out.1.tk.re.drewN k1)
      by_cases h8 : lf < 8
      · have hmi : min (lf : Int) 64 = (lf : Int) := by omega
        have hd : decide ((64 : Int) < (lf : Int)) = false := by simp; omega
        have hd2 : decide ((lf : Int) < 64) = true := by simp; omega
        have hd3 : decide ((8 : Int) ≤ (lf : Int)) = false := by simp; omega
        have hd4 : ¬ ((8 : Int) ≤ (lf : Int)) := by omega
        go_wp2_with fail
        refine (tget_any H3.out lf (by omega)).mono ?_
        rintro e w4 ⟨rfl, h4⟩
        have hok : tget bs en 0 p lf = (gets bs p lf, 0, p + lf) := tget_ok (by have := HN.out; omega)
        rw [hok] at h4
        rw [hok]
        simp only [] at h4
        obtain ⟨z, hz⟩ : ∃ z, z = gets bs p lf := ⟨_, rfl⟩
        have hz64 : z < 18446744073709551616 := by rw [hz]; exact gets_u64 _ _ _ (by omega)
        rw [← hz]
        have H4 := Lib.hid (And.intro h4 hz)
        clear h4 hz hok hmi hd hd2
        by_cases h0 : z = 0
        · subst h0
          rw [show ((0 : Nat) : Int) = 0 from rfl]
          go_wp2_with fail
          refine (twrong_any H4.out.1 false).mono ?_
          rintro e w5 ⟨rfl, h5⟩
          rw [if_neg (by simp)] at h5
          obtain ⟨A3, c3, hv3, -, -⟩ := own_form HR.out.1.row
          have hrow5 := own_keeps HR.out.1.row h5.keep (fun q hq e => by
            have := (HR.out.1.row.lt q hq).1
            have := HT.out.2.2.2.2.1
            omega)
          have hk5 := HR.out.1.tk.on h5
          have hfin : XDecPost w (decXL bs k) (.returned (.tuple #[.slice A3 out.length c3, .int .i64 0])) w5 := by
            refine ⟨out, 0, A3, c3, rfl, own_base (hv3 ▸ hrow5) (by have := HT.out.2.2.2.2; omega), HL.out _ hk5.keep, HR.out.1.u64, .inl ⟨rfl, ?_⟩⟩
            unfold decXL
            rw [← H1.out.2.2.2.2, HR.out.2.2]
            show (if endX bs en p then some out else none) = some out
            rw [if_pos ⟨by rw [← HN.out.1]; exact h8, by rw [← HN.out.1]; exact H4.out.2.symm⟩]
          have HF := Lib.hid (And.intro hfin hv3)
          have d3 := h5.c3
          clear hfin hv3 h5 hk5 hrow5
          go_wp2_with fail
          go_ret2
          rw [HF.out.2]
          exact HF.out.1
        · have d : ((z : Int) != 0) = true := by simp; omega
          go_wp2_with fail
          try rw [d]
          refine (twrong_any H4.out.1 true).mono ?_
          rintro e w5 ⟨rfl, h5⟩
          rw [if_pos ⟨rfl, rfl⟩] at h5
          have H5 := Lib.hid h5
          clear h5
          have hfin : XDecPost w (decXL bs k) (.returned (.tuple #[.slice none 0 0, .int .i64 11])) w5.drew := by
            refine ⟨[], 11, none, 0, rfl, ⟨rfl, .inl ⟨rfl, rfl⟩⟩, (HL.out _ (HR.out.1.tk.on H5.out).keep).drew, fun j => by simp, .inr ⟨⟨by decide, rfl⟩, ?_⟩⟩
            unfold decXL
            rw [← H1.out.2.2.2.2, HR.out.2.2]
            show (if endX bs en p then some out else none) = none
            rw [if_neg (fun h => h0 (by have h2 := h.2; rw [← HN.out.1, ← H4.out.2] at h2; exact h2))]
          have HF := Lib.hid hfin
          have d3 := H5.out.c3
          clear hfin
          go_wp2_with fail
          have hdd : w5.drew.cell? ⟨t, 3, none⟩ = some (.int .i64 11) := d3
          clear d3
          have hS : (fun w' : World => w'.cell? ⟨t, 3, none⟩ = some (.int .i64 11)) (w5.drew) := hdd
          refine reg_start (fun w' : World => w'.cell? ⟨t, 3, none⟩ = some (.int .i64 11)) (by kernel_rfl) hS ?_
          refine reg_take (i := 0) (v := ?_) rfl (by kernel_rfl) (by kernel_rfl) (by kernel_rfl) (fun _ _ _ h => h) (Or.inl ⟨by kernel_rfl, ?_⟩) hS ?_
          rotate_left
          · (intro w' hSw; go_simp <;> with_reducible rfl)
          try simp only [List.getElem_toArray, List.getElem_cons_succ, List.getElem_cons_zero, Act.put, List.setIfInBounds_toArray, List.set_cons_zero, List.set_cons_succ]
          refine reg_take (i := 1) (v := ?_) rfl (by kernel_rfl) (by kernel_rfl) (by kernel_rfl) (fun _ _ _ h => h) (Or.inl ⟨by kernel_rfl, ?_⟩) hS ?_
          rotate_left
          · (intro w' hSw; go_simp <;> with_reducible rfl)
          try simp only [List.getElem_toArray, List.getElem_cons_succ, List.getElem_cons_zero, Act.put, List.setIfInBounds_toArray, List.set_cons_zero, List.set_cons_succ]
          refine reg_take (i := 2) (v := ?_) rfl (by kernel_rfl) (by kernel_rfl) (by kernel_rfl) (fun _ _ _ h => h) (Or.inl ⟨by kernel_rfl, ?_⟩) hS ?_
          rotate_left
          · (intro w' hSw; go_simp <;> with_reducible rfl)
          try simp only [List.getElem_toArray, List.getElem_cons_succ, List.getElem_cons_zero, Act.put, List.setIfInBounds_toArray, List.set_cons_zero, List.set_cons_succ]
          refine reg_take (i := 3) (v := ?_) rfl (by kernel_rfl) (by kernel_rfl) (by kernel_rfl) (fun _ _ _ h => h) (Or.inl ⟨by kernel_rfl, ?_⟩) hS ?_
          rotate_left
          · (intro w' hSw; go_simp <;> with_reducible rfl)
          try simp only [List.getElem_toArray, List.getElem_cons_succ, List.getElem_cons_zero, Act.put, List.setIfInBounds_toArray, List.set_cons_zero, List.set_cons_succ]
          refine reg_take (i := 4) (v := ?_) rfl (by kernel_rfl) (by kernel_rfl) (by kernel_rfl) (fun _ _ _ h => h) (Or.inl ⟨by kernel_rfl, ?_⟩) hS ?_
          rotate_left
          · (intro w' hSw; go_simp <;> with_reducible rfl)
          try simp only [List.getElem_toArray, List.getElem_cons_succ, List.getElem_cons_zero, Act.put, List.setIfInBounds_toArray, List.set_cons_zero, List.set_cons_succ]
          refine reg_take (i := 5) (v := ?_) rfl (by kernel_rfl) (by kernel_rfl) (by kernel_rfl) (fun _ _ _ h => h) (Or.inl ⟨by kernel_rfl, ?_⟩) hS ?_
          rotate_left
          · (intro w' hSw; go_simp <;> with_reducible rfl)
          try simp only [List.getElem_toArray, List.getElem_cons_succ, List.getElem_cons_zero, Act.put, List.setIfInBounds_toArray, List.set_cons_zero, List.set_cons_succ]
          refine wpAnyH_done (by kernel_rfl) ?_ _
          try simp only [List.getElem_toArray, List.getElem_cons_succ, List.getElem_cons_zero]
          try simp only [List.getElem_toArray, List.getElem_cons_succ, List.getElem_cons_zero, Act.put, List.setIfInBounds_toArray, List.set_cons_zero, List.set_cons_succ]
          go_wp2_with fail
          go_ret2
          exact HF.out
      · have hd3 : decide ((8 : Int) ≤ (lf : Int)) = true := by simp; omega
        have hd4 : (8 : Int) ≤ (lf : Int) := by omega
        go_wp2_with fail
        refine (twrong_any H3.out true).mono ?_
        rintro e w5 ⟨rfl, h5⟩
        rw [if_pos ⟨rfl, rfl⟩] at h5
        have H5 := Lib.hid h5
        clear h5
        have hfin : XDecPost w (decXL bs k) (.returned (.tuple #[.slice none 0 0, .int .i64 11])) w5.drew := by
          refine ⟨[], 11, none, 0, rfl, ⟨rfl, .inl ⟨rfl, rfl⟩⟩, (HL.out _ (HR.out.1.tk.on H5.out).keep).drew, fun j => by simp, .inr ⟨⟨by decide, rfl⟩, ?_⟩⟩
          unfold decXL
          rw [← H1.out.2.2.2.2, HR.out.2.2]
          show (if endX bs en p then some out else none) = none
          rw [if_neg (fun h => h8 (by have h1 := h.1; rw [← HN.out.1] at h1; exact h1))]
        have HF := Lib.hid hfin
        have d3 := H5.out.c3
        clear hfin
        go_wp2_with fail
        have hdd : w5.drew.cell? ⟨t, 3, none⟩ = some (.int .i64 11) := d3
        clear d3
        have hS : (fun w' : World => w'.cell? ⟨t, 3, none⟩ = some (.int .i64 11)) (w5.drew) := hdd
        refine reg_start (fun w' : World => w'.cell? ⟨t, 3, none⟩ = some (.int .i64 11)) (by kernel_rfl) hS ?_
        refine reg_take (i := 0) (v := ?_) rfl (by kernel_rfl) (by kernel_rfl) (by kernel_rfl) (fun _ _ _ h => h) (Or.inl ⟨by kernel_rfl, ?_⟩) hS ?_
        rotate_left
        · (intro w' hSw; go_simp <;> with_reducible rfl)
        try simp only [List.getElem_toArray, List.getElem_cons_succ, List.getElem_cons_zero, Act.put, List.setIfInBounds_toArray, List.set_cons_zero, List.set_cons_succ]
        refine reg_take (i := 1) (v := ?_) rfl (by kernel_rfl) (by kernel_rfl) (by kernel_rfl) (fun _ _ _ h => h) (Or.inl ⟨by kernel_rfl, ?_⟩) hS ?_
        rotate_left
        · (intro w' hSw; go_simp <;> with_reducible rfl)
        try simp only [List.getElem_toArray, List.getElem_cons_succ, List.getElem_cons_zero, Act.put, List.setIfInBounds_toArray, List.set_cons_zero, List.set_cons_succ]
        refine reg_take (i := 2) (v := ?_) rfl (by kernel_rfl) (by kernel_rfl) (by kernel_rfl) (fun _ _ _ h => h) (Or.inl ⟨by kernel_rfl, ?_⟩) hS ?_
        rotate_left
        · (intro w' hSw; go_simp <;> with_reducible rfl)
        try simp only [List.getElem_toArray, List.getElem_cons_succ, List.getElem_cons_zero, Act.put, List.setIfInBounds_toArray, List.set_cons_zero, List.set_cons_succ]
        refine reg_take (i := 3) (v := ?_) rfl (by kernel_rfl) (by kernel_rfl) (by kernel_rfl) (fun _ _ _ h => h) (Or.inl ⟨by kernel_rfl, ?_⟩) hS ?_
        rotate_left
        · (intro w' hSw; go_simp <;> with_reducible rfl)
        try simp only [List.getElem_toArray, List.getElem_cons_succ, List.getElem_cons_zero, Act.put, List.setIfInBounds_toArray, List.set_cons_zero, List.set_cons_succ]
        refine reg_take (i := 4) (v := ?_) rfl (by kernel_rfl) (by kernel_rfl) (by kernel_rfl) (fun _ _ _ h => h) (Or.inl ⟨by kernel_rfl, ?_⟩) hS ?_
        rotate_left
        · (intro w' hSw; go_simp <;> with_reducible rfl)
        try simp only [List.getElem_toArray, List.getElem_cons_succ, List.getElem_cons_zero, Act.put, List.setIfInBounds_toArray, List.set_cons_zero, List.set_cons_succ]
        refine reg_take (i := 5) (v := ?_) rfl (by kernel_rfl) (by kernel_rfl) (by kernel_rfl) (fun _ _ _ h => h) (Or.inl ⟨by kernel_rfl, ?_⟩) hS ?_
        rotate_left
        · (intro w' hSw; go_simp <;> with_reducible rfl)
        try simp only [List.getElem_toArray, List.getElem_cons_succ, List.getElem_cons_zero, Act.put, List.setIfInBounds_toArray, List.set_cons_zero, List.set_cons_succ]
        refine wpAnyH_done (by kernel_rfl) ?_ _
        try simp only [List.getElem_toArray, List.getElem_cons_succ, List.getElem_cons_zero]
        try simp only [List.getElem_toArray, List.getElem_cons_succ, List.getElem_cons_zero, Act.put, List.setIfInBounds_toArray, List.set_cons_zero, List.set_cons_succ]
        go_wp2_with fail
        go_ret2
        exact HF.out
end Go.Proofs.YtboecnakndpgfaaDoor.X
namespace Go.Proofs.YtboecnakndpgfaaDoor.X
set_option maxRecDepth 100000
theorem gets_one (bs : List Nat) (p : Nat) : gets bs p 1 = bitOf bs p := by show 2 * 0 + bitOf bs (p + 0) = _; simp
theorem gets_two (bs : List Nat) (p : Nat) : gets bs p 2 = 2 * gets bs p 1 + gets bs (p + 1) 1 := by
  rw [gets_one, gets_one]
  show 2 * gets bs p 1 + bitOf bs (p + 1) = _
  rw [gets_one]
theorem gets_one_lt (bs : List Nat) (p : Nat) : gets bs p 1 < 2 := gets_lt bs p 1
/-- A number in a window: its leading and trailing bits are the window's, or more. -/
theorem win_spec {v l t : Nat} (hlt : l + t ≤ 63) (h0 : v ≠ 0) (hv : v < 2 ^ (64 - l - t)) : v * 2 ^ t < 18446744073709551616 ∧ v * 2 ^ t ≠ 0 ∧ l ≤ lead (v * 2 ^ t) ∧ t ≤ trail (v * 2 ^ t) ∧ v * 2 ^ t / 2 ^ t = v := by
  have hp : 0 < 2 ^ t := Nat.two_pow_pos t
  have hx : v * 2 ^ t < 18446744073709551616 := shift_lt hv (by omega)
  have hx0 : 0 < v * 2 ^ t := Nat.mul_pos (by omega) hp
  have hxl : v * 2 ^ t < 2 ^ (64 - l) := by
    rw [show 64 - l = (64 - l - t) + t by omega, Nat.pow_add]
    exact Nat.mul_lt_mul_of_pos_right hv hp
  refine ⟨hx, by omega, ?_, ?_, Nat.mul_div_cancel _ hp⟩
  · obtain ⟨h1, h2, h3⟩ := lead_spec hx0 hx
    rcases Nat.lt_or_ge (lead (v * 2 ^ t)) l with hlt' | hge
    · have : 2 ^ (64 - l) ≤ 2 ^ (63 - lead (v * 2 ^ t)) := Nat.pow_le_pow_right (by omega) (by omega)
      omega
    · exact hge
  · have hv64 : v < 18446744073709551616 := Nat.lt_of_lt_of_le hv (Nat.le_trans (Nat.pow_le_pow_right (by omega) (show 64 - l - t ≤ 64 by omega)) (by decide))
    obtain ⟨-, m, hm⟩ := trail_spec (by omega) hv64
    have : trail (v * 2 ^ t) = trail v + t := by
      refine trail_uniq (m := m) hx ?_
      rw [Nat.pow_add, Nat.mul_assoc, Nat.mul_comm (2 ^ t), ← Nat.mul_assoc, ← hm]
    omega
/-- .. and a number whose leading and trailing bits are so lies in the window. -/
theorem win_back {x l t : Nat} (hx : x < 18446744073709551616) (h0 : x ≠ 0) (hl : l ≤ lead x) (ht : t ≤ trail x) : x / 2 ^ t < 2 ^ (64 - l - t) ∧ x / 2 ^ t ≠ 0 ∧ x / 2 ^ t * 2 ^ t = x ∧ l + t ≤ 63 := by
  have hp : 0 < 2 ^ t := Nat.two_pow_pos t
  have hw := window_le (by omega) hx
  obtain ⟨h1, h2, h3⟩ := lead_spec (u := x) (by omega) hx
  obtain ⟨h4, m, hm⟩ := trail_spec (u := x) (by omega) hx
  have hd : x / 2 ^ t * 2 ^ t = x := by
    refine Nat.div_mul_cancel ?_
    refine ⟨2 ^ (trail x - t) * (2 * m + 1), ?_⟩
    rw [← Nat.mul_assoc, ← Nat.pow_add, show t + (trail x - t) = trail x by omega]
    exact hm
  refine ⟨?_, ?_, hd, by omega⟩
  · refine Nat.div_lt_of_lt_mul ?_
    rw [← Nat.pow_add]
    refine Nat.lt_of_lt_of_le h3 (Nat.pow_le_pow_right (by omega) (by omega))
  · intro he
    rw [he] at hd
    omega
theorem mark2 {bs L : List Nat} (h : Begins bs L) (hr : L.length + 1 + 1 ≤ 8 * bs.length) (h1 : ¬ gets bs L.length 1 = 0) {b : Nat} (h2 : gets bs (L.length + 1) 1 = b) : Begins bs (L ++ bitsTo (2 + b) 2 2) := by
  refine h.put (by omega) ?_
  rw [gets_two, h2]
  have := gets_one_lt bs L.length
  omega
theorem nextX_bwd {bs L : List Nat} {o o' : Option (Nat × Nat)} {x p' : Nat} (ho : WinOk o) (hb : Begins bs L) (h : nextX bs (8 * bs.length) o L.length = some (x, o', p')) :
    Begins bs (L ++ xbits o x) ∧ o' = nextW o x ∧ p' = (L ++ xbits o x).length ∧ x < 18446744073709551616 := by
  unfold nextX at h
  split at h
  · rename_i hr1
    split at h
    · rename_i hz
      injection h with h
      injection h with hx h
      injection h with h2 h3
      subst hx
      subst h2
      have e : xbits o 0 = bitsTo 0 1 1 := by unfold xbits; rw [if_pos rfl]
      rw [e]
      refine ⟨hb.put hr1 hz, by unfold nextW; rw [if_pos rfl], ?_, by omega⟩
      rw [List.length_append, bitsTo_length, h3]
    · rename_i hnz
      split at h
      · rename_i hr2
        split at h
        · rename_i hz2
          have hm := mark2 hb hr2 hnz hz2
          unfold oldX at h
          split at h
          · cases h
          · rename_i l t
            split at h
            · rename_i hr3
              split at h
              · cases h
              · rename_i hv0
                injection h with h
                injection h with hx h
                injection h with h2 h3
                have hlt : l + t ≤ 63 := ho _ rfl
                obtain ⟨w1, w2, w3, w4, w5⟩ := win_spec hlt hv0 (gets_lt bs (L.length + 1 + 1) (64 - l - t))
                rw [hx] at w1 w2 w3 w4 w5
                have hf : fits (some (l, t)) x = true := by
                  unfold fits
                  simp [w3, w4]
                obtain ⟨e1, e2⟩ := xbits_old w2 hf
                have hml : (L ++ bitsTo (2 + 0) 2 2).length = L.length + 1 + 1 := by rw [List.length_append, bitsTo_length]
                have hB := hm.put (n := 64 - l - t) (v := x / 2 ^ t) (by rw [hml]; exact hr3) (by rw [hml, w5])
                rw [e1, e2, ← List.append_assoc]
                refine ⟨hB, h2.symm, ?_, w1⟩
                rw [List.length_append, hml, bitsTo_length, h3]
            · cases h
        · rename_i hz2
          have hz3 : gets bs (L.length + 1) 1 = 1 := by have := gets_one_lt bs (L.length + 1); omega
          have hm := mark2 hb hr2 hnz hz3
          have hml : (L ++ bitsTo (2 + 1) 2 2).length = L.length + 1 + 1 := by rw [List.length_append, bitsTo_length]
          unfold newX at h
          split at h
          · rename_i hr4
            split at h
            · rename_i hr5
              unfold newY at h
              split at h
              · rename_i hlm
                split at h
                · rename_i hr6
                  split at h
                  · rename_i hc
                    injection h with h
                    injection h with hx h
                    injection h with h2 h3
                    rw [hx] at hc
                    obtain ⟨c1, c2, c3, c4⟩ := hc
                    obtain ⟨e1, e2⟩ := xbits_new c1 c4
                    have hB1 := hm.put (n := 6) (v := lead x) (by rw [hml]; exact hr4) (by rw [hml]; exact c2.symm)
                    have hl1 : (L ++ bitsTo (2 + 1) 2 2 ++ bitsTo (lead x) 6 6).length = L.length + 1 + 1 + 6 := by rw [List.length_append, hml, bitsTo_length]
                    have hB2 := hB1.put (n := 6) (v := 64 - lead x - trail x - 1) (by rw [hl1]; exact hr5) (by rw [hl1, c3]; omega)
                    have hl2 : (L ++ bitsTo (2 + 1) 2 2 ++ bitsTo (lead x) 6 6 ++ bitsTo (64 - lead x - trail x - 1) 6 6).length = L.length + 1 + 1 + 6 + 6 := by rw [List.length_append, hl1, bitsTo_length]
                    have hmm : 64 - lead x - trail x = gets bs (L.length + 1 + 1 + 6) 6 + 1 := by omega
                    have hxt : x / 2 ^ trail x = gets bs (L.length + 1 + 1 + 6 + 6) (64 - lead x - trail x) := by
                      rw [hmm, c3, ← hx, Nat.mul_div_cancel _ (Nat.two_pow_pos _)]
                    have hB3 := hB2.put (n := 64 - lead x - trail x) (v := x / 2 ^ trail x) (by rw [hl2, hmm]; exact hr6) (by rw [hl2]; exact hxt.symm)
                    have h64 : x < 18446744073709551616 := by
                      rw [← hx]
                      exact shift_lt (gets_lt _ _ _) (by omega)
                    have ee : L ++ xbits o x = L ++ bitsTo (2 + 1) 2 2 ++ bitsTo (lead x) 6 6 ++ bitsTo (64 - lead x - trail x - 1) 6 6 ++ bitsTo (x / 2 ^ trail x) (64 - lead x - trail x) (64 - lead x - trail x) := by
                      rw [e1]; simp only [List.append_assoc]
                    rw [ee, e2]
                    refine ⟨hB3, ?_, ?_, h64⟩
                    · rw [← h2, c2, c3]
                    · rw [List.length_append, hl2, bitsTo_length, hmm, h3]
                  · cases h
                · cases h
              · cases h
            · cases h
          · cases h
      · cases h
  · cases h
theorem nextX_fwd {bs L : List Nat} {o : Option (Nat × Nat)} {x : Nat} (ho : WinOk o) (hx : x < 18446744073709551616) (h : Begins bs (L ++ xbits o x)) :
    nextX bs (8 * bs.length) o L.length = some (x, nextW o x, (L ++ xbits o x).length) := by
  have hroom := h.room
  by_cases h0 : x = 0
  · subst h0
    have e : xbits o 0 = bitsTo 0 1 1 := by unfold xbits; rw [if_pos rfl]
    rw [e] at h hroom ⊢
    rw [bitsTo_length] at hroom
    unfold nextX
    rw [if_pos hroom, if_pos (h.get (by decide)), List.length_append, bitsTo_length]
    unfold nextW
    rw [if_pos rfl]
  · cases hf : fits o x with
    | true =>
      match o, ho, hf, h, hroom with
      | none, _, hf, _, _ => cases hf
      | some (l, t), ho, hf, h, hroom =>
        obtain ⟨e1, e2⟩ := xbits_old h0 hf
        have hf' := hf
        unfold fits at hf'
        simp only [Bool.and_eq_true, decide_eq_true_eq] at hf'
        obtain ⟨b1, b2, b3, b4⟩ := win_back hx h0 hf'.1 hf'.2
        rw [e1, ← List.append_assoc] at h
        rw [e1, List.length_append, bitsTo_length, bitsTo_length] at hroom
        have hm := h.pre.get (by decide)
        rw [gets_two] at hm
        have g1 := gets_one_lt bs L.length
        have g2 := gets_one_lt bs (L.length + 1)
        have hml : (L ++ bitsTo 2 2 2).length = L.length + 1 + 1 := by rw [List.length_append, bitsTo_length]
        have hg := h.get b1
        rw [hml] at hg
        unfold nextX
        rw [if_pos (by omega), if_neg (by omega), if_pos (by omega), if_pos (by omega)]
        unfold oldX
        show (if L.length + 1 + 1 + (64 - l - t) ≤ 8 * bs.length then _ else _) = _
        rw [if_pos (by omega), hg, if_neg b2, b3, e2, e1, ← List.append_assoc, List.length_append, hml, bitsTo_length]
    | false =>
      obtain ⟨e1, e2⟩ := xbits_new h0 hf
      have hw := window_le (u := x) (by omega) hx
      obtain ⟨b1, b2, b3, -⟩ := win_back hx h0 (Nat.le_refl _) (Nat.le_refl _)
      have ee : L ++ xbits o x = L ++ bitsTo 3 2 2 ++ bitsTo (lead x) 6 6 ++ bitsTo (64 - lead x - trail x - 1) 6 6 ++ bitsTo (x / 2 ^ trail x) (64 - lead x - trail x) (64 - lead x - trail x) := by
        rw [e1]; simp only [List.append_assoc]
      rw [ee] at h ⊢
      have hml : (L ++ bitsTo 3 2 2).length = L.length + 1 + 1 := by rw [List.length_append, bitsTo_length]
      have hl1 : (L ++ bitsTo 3 2 2 ++ bitsTo (lead x) 6 6).length = L.length + 1 + 1 + 6 := by rw [List.length_append, hml, bitsTo_length]
      have hl2 : (L ++ bitsTo 3 2 2 ++ bitsTo (lead x) 6 6 ++ bitsTo (64 - lead x - trail x - 1) 6 6).length = L.length + 1 + 1 + 6 + 6 := by rw [List.length_append, hl1, bitsTo_length]
      have hr := h.room
      rw [hl2, bitsTo_length] at hr
      have hm := h.pre.pre.pre.get (by decide)
      rw [gets_two] at hm
      have q1 := h.pre.pre.get (by show lead x < 64; omega)
      have q2 := h.pre.get (by show 64 - lead x - trail x - 1 < 64; omega)
      have q3 := h.get b1
      rw [hml] at q1
      rw [hl1] at q2
      rw [hl2] at q3
      have g1 := gets_one_lt bs L.length
      have g2 := gets_one_lt bs (L.length + 1)
      unfold nextX
      rw [if_pos (by omega), if_neg (by omega), if_pos (by omega), if_neg (by omega)]
      unfold newX
      rw [if_pos (by omega), if_pos (by omega), q1, q2, show 64 - lead x - trail x - 1 + 1 = 64 - lead x - trail x by omega]
      unfold newY
      rw [if_pos (by omega), if_pos (by omega), show 64 - lead x - (64 - lead x - trail x) = trail x by omega, q3, b3, if_pos ⟨h0, rfl, rfl, hf⟩, e2, List.length_append, hl2, bitsTo_length]
theorem xencTo_congr {f g : Nat → Nat} : ∀ k, (∀ j, j < k → f j = g j) → xencTo f k = xencTo g k ∧ xwin f k = xwin g k
  | 0, _ => ⟨rfl, rfl⟩
  | 1, h => ⟨by show bitsTo (f 0) 64 64 = bitsTo (g 0) 64 64; rw [h 0 (by omega)], rfl⟩
  | k + 2, h => by
    obtain ⟨h1, h2⟩ := xencTo_congr (k + 1) (fun j hj => h j (by omega))
    refine ⟨?_, ?_⟩
    · show xencTo f (k + 1) ++ xbits (xwin f (k + 1)) (f (k + 1) ^^^ f k) = xencTo g (k + 1) ++ xbits (xwin g (k + 1)) (g (k + 1) ^^^ g k)
      rw [h1, h2, h k (by omega), h (k + 1) (by omega)]
    · show nextW (xwin f (k + 1)) (f (k + 1) ^^^ f k) = nextW (xwin g (k + 1)) (g (k + 1) ^^^ g k)
      rw [h2, h k (by omega), h (k + 1) (by omega)]
theorem xencTo_pre (f : Nat → Nat) (k : Nat) : ∀ n, k ≤ n → ∃ M, xencTo f n = xencTo f k ++ M := by
  intro n
  induction n with
  | zero => intro h; obtain rfl : k = 0 := by omega
            exact ⟨[], by simp⟩
  | succ n ih =>
    intro h
    by_cases he : k = n + 1
    · subst he; exact ⟨[], by simp⟩
    · obtain ⟨M, hM⟩ := ih (by omega)
      match n, hM with
      | 0, hM => obtain rfl : k = 0 := by omega
                 exact ⟨xencTo f 1, rfl⟩
      | n + 1, hM =>
        refine ⟨M ++ xbits (xwin f (n + 1)) (f (n + 1) ^^^ f n), ?_⟩
        show xencTo f (n + 1) ++ _ = _
        rw [hM, List.append_assoc]
/-- The first k numbers. -/
def upToN (f : Nat → Nat) (k : Nat) : List Nat := (List.range k).map f
theorem upToN_length (f : Nat → Nat) (k : Nat) : (upToN f k).length = k := by simp [upToN]
theorem upToN_succ (f : Nat → Nat) (k : Nat) : upToN f (k + 1) = upToN f k ++ [f k] := by simp [upToN, List.range_succ]
theorem upToN_getD (f : Nat → Nat) (k j : Nat) (h : j < k) : (upToN f k).getD j 0 = f j := by
  unfold upToN
  rw [List.getD_eq_getElem?_getD, List.getElem?_map, List.getElem?_range h]; rfl
theorem xor_back (a b : Nat) : a ^^^ (b ^^^ a) = b := by
  rw [Nat.xor_comm b a, ← Nat.xor_assoc, Nat.xor_self, Nat.zero_xor]
theorem xor_back' (a b : Nat) : (a ^^^ b) ^^^ a = b := by
  rw [Nat.xor_comm (a ^^^ b) a, ← Nat.xor_assoc, Nat.xor_self, Nat.zero_xor]
theorem stepX_fwd {bs : List Nat} {f : Nat → Nat} {k : Nat} (hf : ∀ j, f j < 18446744073709551616) (h : Begins bs (xencTo f (k + 1))) :
    stepX bs (8 * bs.length) (upToN f k) (xwin f k) (xencTo f k).length = some (f k, xwin f (k + 1), (xencTo f (k + 1)).length) := by
  match k with
  | 0 =>
    have h' : Begins bs ([] ++ bitsTo (f 0) 64 64) := h
    have hg : gets bs 0 64 = f 0 := h'.get (hf 0)
    have hroom : 0 + 64 ≤ 8 * bs.length := by have := h'.room; rw [bitsTo_length] at this; exact this
    unfold stepX
    rw [upToN_length, if_pos rfl]
    show (if 0 + 64 ≤ 8 * bs.length then some (gets bs 0 64, none, 0 + 64) else none) = some (f 0, none, (bitsTo (f 0) 64 64).length)
    rw [if_pos hroom, hg, bitsTo_length]
  | k + 1 =>
    have h' : Begins bs (xencTo f (k + 1) ++ xbits (xwin f (k + 1)) (f (k + 1) ^^^ f k)) := h
    have ht := nextX_fwd (xwin_ok hf (k + 1)) (xor_lt (hf _) (hf _)) h'
    unfold stepX
    rw [upToN_length, if_neg (by omega), ht]
    show some ((upToN f (k + 1)).getD (k + 1 - 1) 0 ^^^ (f (k + 1) ^^^ f k), _, _) = _
    rw [show k + 1 - 1 = k by omega, upToN_getD f (k + 1) k (by omega), xor_back]
    rfl
theorem decX_fwd {bs : List Nat} {f : Nat → Nat} {n : Nat} (hf : ∀ j, f j < 18446744073709551616) (h : Begins bs (xencTo f n)) : ∀ m k, m + k = n → decX bs (8 * bs.length) m (upToN f k) (xwin f k) (xencTo f k).length = some (upToN f n, (xencTo f n).length)
  | 0, k, hk => by
    obtain rfl : k = n := by omega
    rfl
  | m + 1, k, hk => by
    obtain ⟨M, hM⟩ := xencTo_pre f (k + 1) n (by omega)
    have hb : Begins bs (xencTo f (k + 1)) := by rw [hM] at h; exact h.pre
    unfold decX
    rw [stepX_fwd hf hb]
    show decX bs (8 * bs.length) m (upToN f k ++ [f k]) (xwin f (k + 1)) (xencTo f (k + 1)).length = _
    rw [← upToN_succ]
    exact decX_fwd hf h m (k + 1) (by omega)
theorem xdec_back {f : Nat → Nat} (hf : ∀ j, f j < 18446744073709551616) (n : Nat) : decXL (pack (xencTo f n)) n = some (upToN f n) := by
  have hb := xencTo_bit f n
  have h : decX (pack (xencTo f n)) (8 * (pack (xencTo f n)).length) n [] none 0 = some (upToN f n, (xencTo f n).length) := decX_fwd hf (Begins.pack hb) n 0 (by omega)
  unfold decXL
  rw [h]
  show (if endX _ _ (xencTo f n).length then some (upToN f n) else none) = _
  rw [if_pos]
  unfold endX
  rw [gets_pack_end hb, pack_length]
  refine ⟨?_, rfl⟩
  omega
theorem stepX_bwd {bs out : List Nat} {t p' : Nat} {o' : Option (Nat × Nat)} (hu : ∀ j, out.getD j 0 < 18446744073709551616) (hb : Begins bs (xencTo (fun j => out.getD j 0) out.length))
    (h : stepX bs (8 * bs.length) out (xwin (fun j => out.getD j 0) out.length) (xencTo (fun j => out.getD j 0) out.length).length = some (t, o', p')) :
    Begins bs (xencTo (fun j => (out ++ [t]).getD j 0) (out.length + 1)) ∧ o' = xwin (fun j => (out ++ [t]).getD j 0) (out.length + 1) ∧ p' = (xencTo (fun j => (out ++ [t]).getD j 0) (out.length + 1)).length ∧ t < 18446744073709551616 := by
  have hg : ∀ j, j < out.length → out.getD j 0 = (out ++ [t]).getD j 0 := fun j hj => by
    rw [List.getD_eq_getElem?_getD, List.getD_eq_getElem?_getD, List.getElem?_append_left hj]
  have hlast : (out ++ [t]).getD out.length 0 = t := by
    rw [List.getD_eq_getElem?_getD]; simp
  obtain ⟨c1, c2⟩ := xencTo_congr out.length hg
  unfold stepX at h
  cases hl : out.length with
  | zero =>
    have ho : out = [] := List.eq_nil_of_length_eq_zero hl
    subst ho
    rw [if_pos (show ([] : List Nat).length = 0 from rfl)] at h
    have h' : (if 0 + 64 ≤ 8 * bs.length then some (gets bs 0 64, (none : Option (Nat × Nat)), 0 + 64) else none) = some (t, o', p') := h
    split at h'
    · rename_i hfit
      injection h' with h'
      injection h' with h1 h2
      injection h2 with h2 h3
      have hz := gets_u64 bs 0 64 (by omega)
      have hB := (Begins.nil bs).put (n := 64) (v := gets bs 0 64) hfit rfl
      have e : xencTo (fun j => ([] ++ [t]).getD j 0) (0 + 1) = [] ++ bitsTo (gets bs 0 64) 64 64 := by
        show bitsTo t 64 64 = _
        rw [← h1]
        rfl
      rw [e]
      refine ⟨hB, h2.symm, ?_, by rw [← h1]; exact hz⟩
      rw [← h3, List.nil_append, bitsTo_length]
    · cases h'
  | succ k =>
    rw [if_neg (by omega)] at h
    rw [hl] at hb h c1 c2
    cases htk : nextX bs (8 * bs.length) (xwin (fun j => out.getD j 0) (k + 1)) (xencTo (fun j => out.getD j 0) (k + 1)).length with
    | none => rw [htk] at h; cases h
    | some q =>
      obtain ⟨x, o2, p2⟩ := q
      rw [htk] at h
      injection h with h
      injection h with h1 h2
      injection h2 with h2 h3
      simp only [] at h1 h2 h3
      obtain ⟨hB, hq, hd, hx⟩ := nextX_bwd (xwin_ok hu (k + 1)) hb htk
      rw [show k + 1 - 1 = k by omega] at h1
      have e1 : (out ++ [t]).getD (k + 1) 0 = t := by rw [← hl]; exact hlast
      have e2 : (out ++ [t]).getD k 0 = out.getD k 0 := (hg k (by omega)).symm
      have e3 : t ^^^ out.getD k 0 = x := by rw [← h1, xor_back']
      have e : xencTo (fun j => (out ++ [t]).getD j 0) (k + 1 + 1) = xencTo (fun j => out.getD j 0) (k + 1) ++ xbits (xwin (fun j => out.getD j 0) (k + 1)) x := by
        show xencTo (fun j => (out ++ [t]).getD j 0) (k + 1) ++ xbits (xwin (fun j => (out ++ [t]).getD j 0) (k + 1)) ((out ++ [t]).getD (k + 1) 0 ^^^ (out ++ [t]).getD k 0) = _
        rw [← c1, ← c2, e1, e2, e3]
      rw [e]
      refine ⟨hB, ?_, by rw [← h3, hd], by rw [← h1]; exact xor_lt (hu k) hx⟩
      show o' = nextW (xwin (fun j => (out ++ [t]).getD j 0) (k + 1)) ((out ++ [t]).getD (k + 1) 0 ^^^ (out ++ [t]).getD k 0)
      rw [← c2, e1, e2, e3, ← hq, h2]
theorem decX_bwd {bs : List Nat} {l : List Nat} {q : Nat} : ∀ m (out : List Nat), (∀ j, out.getD j 0 < 18446744073709551616) → Begins bs (xencTo (fun j => out.getD j 0) out.length) →
    decX bs (8 * bs.length) m out (xwin (fun j => out.getD j 0) out.length) (xencTo (fun j => out.getD j 0) out.length).length = some (l, q) →
    l.length = out.length + m ∧ Begins bs (xencTo (fun j => l.getD j 0) l.length) ∧ q = (xencTo (fun j => l.getD j 0) l.length).length
  | 0, out, _, hb, h => by
    injection h with h
    injection h with h1 h2
    subst h1
    exact ⟨rfl, hb, h2.symm⟩
  | m + 1, out, hu, hb, h => by
    unfold decX at h
    cases hn : stepX bs (8 * bs.length) out (xwin (fun j => out.getD j 0) out.length) (xencTo (fun j => out.getD j 0) out.length).length with
    | none => rw [hn] at h; cases h
    | some r =>
      obtain ⟨t, o', p'⟩ := r
      rw [hn] at h
      have h' : decX bs (8 * bs.length) m (out ++ [t]) o' p' = some (l, q) := h
      obtain ⟨h1, h2, h3, h4⟩ := stepX_bwd hu hb hn
      have hl : (out ++ [t]).length = out.length + 1 := by simp
      rw [h2, h3] at h'
      have := decX_bwd m (out ++ [t]) (getD_u hu h4) (by rw [hl]; exact h1) (by rw [hl]; exact h')
      rw [hl] at this
      exact ⟨by omega, this.2⟩
theorem xdec_one {bs : List Nat} (hbyte : ∀ j, bs.getD j 0 < 256) {n : Nat} {l : List Nat} (h : decXL bs n = some l) : l.length = n ∧ pack (xencTo (fun j => l.getD j 0) n) = bs := by
  unfold decXL at h
  cases hd : decX bs (8 * bs.length) n [] none 0 with
  | none => rw [hd] at h; cases h
  | some r =>
    obtain ⟨o, q⟩ := r
    rw [hd] at h
    have h' : (if endX bs (8 * bs.length) q then some o else none) = some l := h
    split at h'
    · rename_i hend
      injection h' with h1
      subst h1
      obtain ⟨g1, g2, g3⟩ := decX_bwd n [] (fun j => by simp) (Begins.nil bs) hd
      have hl : o.length = n := by simpa using g1
      refine ⟨hl, ?_⟩
      rw [hl] at g2 g3
      obtain ⟨e1, e2⟩ := hend
      rw [g3] at e1 e2
      have := g2.le
      exact (g2.all hbyte (xencTo_bit _ _) (by omega) e2).symm
    · cases h'
end Go.Proofs.YtboecnakndpgfaaDoor.X
namespace Go.Proofs.YtboecnakndpgfaaDoor.X
set_option maxRecDepth 100000
open Go.RowKit
set_option linter.unusedVariables false
set_option linter.unusedSimpArgs false
theorem row_bytes {w : World} {base : Nat} {A : Option Addr} {n c : Nat} {bs : List Nat} (hn : bs.length = n) (h : w.ownsRow base 5 1 (.slice A n c) n (bs.map byteV)) : Sl w (fun k => (Value.slice A n c).ownBlock = some k) A n (byteC bs) := by
  refine Sl.of_own h ?_
  intro j u hu
  rw [List.getElem?_map] at hu
  cases hj : bs[j]? with
  | none => rw [hj] at hu; cases hu
  | some x => rw [hj] at hu; injection hu with hu; unfold byteC; rw [List.getD_eq_getElem?_getD, hj]; exact hu.symm
theorem pack_byte (L : List Nat) (h : ∀ j, L.getD j 0 < 2) (j : Nat) : (pack L).getD j 0 < 256 := by rw [pack_getD]; exact byteAt_lt h j
end Go.Proofs.YtboecnakndpgfaaDoor.X
namespace Go.Proofs.YtboecnakndpgfaaDoor.X
set_option maxRecDepth 100000
open Go.RowKit
set_option linter.unusedVariables false
set_option linter.unusedSimpArgs false
def decXA (bs : List Nat) (n : Int) : Option (List Nat) := if n < 0 then none else if 4096 < n then none else decXL bs n.toNat
theorem xdecode_any (w : World) (A : Option Addr) (len c : Nat) (D0 : Nat → Prop) (bs : List Nat) (n : Int) (hl : bs.length = len) (hsl : Sl w D0 A len (byteC bs)) (hbyte : ∀ j, bs.getD j 0 < 256) (hsm : len ≤ 1048576) :
    Calls Tryd.prog 16 #[.slice A len c, .int .i64 n] w (XDecPost w (decXA bs n)) := by
  unfold decXA
  by_cases h1 : n < 0
  · rw [if_pos h1]
    refine (xdecode_arg w A len c n h1).mono ?_
    rintro e w' ⟨rfl, rfl⟩
    exact ⟨[], 2, none, 0, rfl, ⟨rfl, .inl ⟨rfl, rfl⟩⟩, Keeps.refl _ _, fun j => by simp, .inr ⟨⟨by decide, rfl⟩, rfl⟩⟩
  · rw [if_neg h1]
    by_cases h2 : 4096 < n
    · rw [if_pos h2]
      refine (xdecode_big w A len c n h2).mono ?_
      rintro e w' ⟨rfl, rfl⟩
      exact ⟨[], 3, none, 0, rfl, ⟨rfl, .inl ⟨rfl, rfl⟩⟩, Keeps.refl _ _, fun j => by simp, .inr ⟨⟨by decide, rfl⟩, rfl⟩⟩
    · rw [if_neg h2]
      obtain ⟨m, rfl⟩ := Int.eq_ofNat_of_zero_le (show 0 ≤ n by omega)
      exact xdecode_ok w A len c D0 bs m hl hsl hbyte hsm (by omega)
theorem decXA_ok {bs : List Nat} (hb : ∀ j, bs.getD j 0 < 256) {n : Int} {l : List Nat} (h : decXA bs n = some l) : (l.length : Int) = n ∧ l.length ≤ 4096 ∧ pack (xencTo (fun j => l.getD j 0) l.length) = bs := by
  unfold decXA at h
  by_cases h1 : n < 0
  · rw [if_pos h1] at h; cases h
  · rw [if_neg h1] at h
    by_cases h2 : 4096 < n
    · rw [if_pos h2] at h; cases h
    · rw [if_neg h2] at h
      obtain ⟨g1, g2⟩ := xdec_one hb h
      rw [← g1] at g2
      exact ⟨by omega, by omega, g2⟩
theorem sl_two (w : World) (t : TypeId) (u v : Value) : Sl (w.alloc (.cells #[u, v] t)) (fun k => k = w.heap.size) (some ⟨w.heap.size, 0, none⟩) 2 (fun j => if j = 0 then u else v) := fun _ =>
  ⟨_, _, rfl, rfl, fun j hj => by
    rw [(Blk.fresh w t #[u, v]).cell (0 + j)]
    rcases (show j = 0 ∨ j = 1 by omega) with rfl | rfl <;> rfl⟩
theorem xenc_two_len : (pack (xencTo (fun _ => 9) 2)).length = 9 := by
  rw [pack_length]
  show ((bitsTo 9 64 64 ++ xbits none (9 ^^^ 9)).length + 7) / 8 = 9
  rw [List.length_append, bitsTo_length, Nat.xor_self]
  rfl
end Go.Proofs.YtboecnakndpgfaaDoor.X
namespace Go.Proofs.YtboecnakndpgfaaDoor
open Go.RowKit
set_option linter.unusedVariables false
set_option linter.unusedSimpArgs false
/-- The last time ahead of point k. -/
def colT (f : Nat → Pt) : Nat → Int
  | 0 => -1152921504606846977
  | k + 1 => (f k).t
def colOk (f : Nat → Pt) (k : Nat) : Bool := decide (colT f k < (f k).t) && (decide ((f k).t ≤ 1152921504606846976) && (decide (0 ≤ (f k).s) && decide ((f k).s ≤ 1152921504606846976)))
def colAll (f : Nat → Pt) : Nat → Bool
  | 0 => true
  | k + 1 => colAll f k && colOk f k
def colV (f : Nat → Pt) (n : Nat) : Bool := colAll f n && (decide (0 < n) && decide (n ≤ 4096))
theorem colOk_iff (f : Nat → Pt) (k : Nat) : colOk f k = true ↔ colT f k < (f k).t ∧ (f k).t ≤ 1152921504606846976 ∧ 0 ≤ (f k).s ∧ (f k).s ≤ 1152921504606846976 := by
  unfold colOk; simp only [Bool.and_eq_true, decide_eq_true_eq]
theorem colAll_not {f : Nat → Pt} {k : Nat} (h : colOk f k = false) : ∀ n, k < n → colAll f n = false
  | 0, hk => by omega
  | n + 1, hk => by
    show (colAll f n && colOk f n) = false
    rcases Nat.lt_or_ge k n with h1 | h1
    · rw [colAll_not h n h1]; rfl
    · rw [show n = k by omega, h]; simp
theorem colAll_at {f : Nat → Pt} : ∀ n, colAll f n = true → ∀ k, k < n → colOk f k = true
  | 0, _, k, hk => by omega
  | n + 1, h, k, hk => by
    have h' : (colAll f n && colOk f n) = true := h
    rw [Bool.and_eq_true] at h'
    rcases Nat.lt_or_ge k n with h1 | h1
    · exact colAll_at n h'.1 k h1
    · rw [show k = n by omega]; exact h'.2
theorem colAll_congr {f g : Nat → Pt} : ∀ n, (∀ j, j < n → f j = g j) → colAll f n = colAll g n
  | 0, _ => rfl
  | n + 1, h => by
    show (colAll f n && colOk f n) = (colAll g n && colOk g n)
    rw [colAll_congr n (fun j hj => h j (by omega))]
    have e : colOk f n = colOk g n := by
      have e1 : colT f n = colT g n := by
        cases n with
        | zero => rfl
        | succ n => show (f n).t = (g n).t; rw [h n (by omega)]
      unfold colOk; rw [e1, h n (by omega)]
    rw [e]
theorem colV_congr {f g : Nat → Pt} (n : Nat) (h : ∀ j, j < n → f j = g j) : colV f n = colV g n := by unfold colV; rw [colAll_congr n h]
theorem colV_spec {f : Nat → Pt} {n : Nat} (h : colV f n = true) : colAll f n = true ∧ 0 < n ∧ n ≤ 4096 := by
  unfold colV at h
  simp only [Bool.and_eq_true, decide_eq_true_eq] at h
  exact ⟨h.1, h.2.1, h.2.2⟩
def BoolPost (b : Bool) (w : World) (e : Ending) (w' : World) : Prop := e = .returned (.bool b) ∧ Below w.heap.size w w'
set_option maxRecDepth 100000 in
set_option maxHeartbeats 4000000 in
theorem cvalid_any (A : Option Addr) (n c : Nat) (f : Nat → Pt) (D : Nat → Prop) (w : World) (hsl : SlP w D A n f) (hn : n ≤ 9223372036854775807) :
    Calls Tryd.prog 12 #[.slice A n c] w (BoolPost (colV f n) w) := by
  have HO := Lib.hid hsl
  clear hsl
  go_enter Tryd.func12, Tryd.ntmps12
  go_wp2_with fail
  go_loopw [3, 8] (fun s3 i wr => ∃ k : Nat, k ≤ n ∧ i = .int .i64 k ∧ s3 = .int .i64 (colT f k) ∧ colAll f k = true ∧ Own w [] wr) (fun _ i _ => n - (intOf i).toNat)
  case atStart => exact ⟨0, Nat.zero_le _, rfl, rfl, rfl, Own.start w⟩
  case round =>
    obtain ⟨k, hk, rfl, rfl, hall, hS⟩ := hrel
    have HA := Lib.hid hall
    clear hall
    by_cases hlt : k < n
    · obtain ⟨b, off, rfl, -, hc⟩ := (HO.out.below hS.bel) (by omega)
      obtain ⟨k0, k1, k2⟩ := hc k hlt
      clear hc
      have HK := Lib.hid (colOk_iff f k)
      have HN := Lib.hid (fun h => colAll_not (f := f) (k := k) h n hlt)
      have HC : Hid (colT f (k + 1) = (f k).t) := Lib.hid rfl
      have HQ : Hid (colAll f (k + 1) = (colAll f k && colOk f k)) := Lib.hid rfl
      generalize hp : f k = p at k0 k1 k2 HK HC
      generalize hl : colT f k = last at HK ⊢
      have HP := Lib.hid (And.intro hp hl)
      clear hp hl
      obtain ⟨y, hy⟩ : ∃ y, y = wr.heap.size := ⟨_, rfl⟩
      have HY := Lib.hid (And.intro hy (hS.alloc hy 34 #[.int .i64 p.t, .int .i64 p.v, .int .i64 p.s]))
      clear hy hS
      go_upto_region 5 with (fail)
      rw [← HY.out.1]
      have hS := HY.out.2
      clear k0 k1 k2 HY
      refine wp_gen (Own w [(y, 34, #[.int .i64 p.t, .int .i64 p.v, .int .i64 p.s])]) hS ?_
      clear hS
      intro w1 hS
      have z0_0 := hS.cell 0 0 rfl rfl; have z0_1 := hS.cell 0 1 rfl rfl; have z0_2 := hS.cell 0 2 rfl rfl
      have HS := Lib.hid hS
      clear hS
      by_cases h1 : last < p.t
      · have d1 : decide (p.t ≤ last) = false := by simp; omega
        by_cases h2 : p.t ≤ 1152921504606846976
        · have d2 : decide (1152921504606846976 < p.t) = false := by simp; omega
          by_cases h3 : 0 ≤ p.s
          · have d3 : decide (p.s < 0) = false := by simp; omega
            by_cases h4 : p.s ≤ 1152921504606846976
            · have d4 : decide (1152921504606846976 < p.s) = false := by simp; omega
              have HT := Lib.hid (show colAll f (k + 1) = true by rw [HQ.out, HA.out, HK.out.2 ⟨h1, h2, h3, h4⟩]; rfl)
              clear h1 h2 h3 h4
              go_wp2_with fail
              go_roundw
              case rel => exact ⟨k + 1, by omega, by go_num, by rw [HC.out], HT.out, HS.out.take 0⟩
              case measure => simp [intOf]; omega
            · have d4 : decide (1152921504606846976 < p.s) = true := by simp; omega
              have HF := Lib.hid (show colV f n = false by
                unfold colV
                rw [HN.out (by
                  cases h : colOk f k with
                  | false => rfl
                  | true => have := HK.out.1 h; omega)]
                rfl)
              go_wp2_with fail
              go_ret
              exact ⟨by rw [HF.out]; rfl, HS.out.bel⟩
          · have d3 : decide (p.s < 0) = true := by simp; omega
            have HF := Lib.hid (show colV f n = false by
              unfold colV
              rw [HN.out (by
                cases h : colOk f k with
                | false => rfl
                | true => have := HK.out.1 h; omega)]
              rfl)
            go_wp2_with fail
            go_ret
            exact ⟨by rw [HF.out]; rfl, HS.out.bel⟩
        · have d2 : decide (1152921504606846976 < p.t) = true := by simp; omega
          have HF := Lib.hid (show colV f n = false by
            unfold colV
            rw [HN.out (by
              cases h : colOk f k with
              | false => rfl
              | true => have := HK.out.1 h; omega)]
            rfl)
          go_wp2_with fail
          go_ret
          exact ⟨by rw [HF.out]; rfl, HS.out.bel⟩
      · have d1 : decide (p.t ≤ last) = true := by simp; omega
        have HF := Lib.hid (show colV f n = false by
          unfold colV
          rw [HN.out (by
            cases h : colOk f k with
            | false => rfl
            | true => have := HK.out.1 h; omega)]
          rfl)
        go_wp2_with fail
        go_ret
        exact ⟨by rw [HF.out]; rfl, HS.out.bel⟩
    · obtain rfl : k = n := by omega
      have HF := Lib.hid (show colV f k = (decide (0 < k) && decide (k ≤ 4096)) by unfold colV; rw [HA.out]; rfl)
      have HB := Lib.hid hS.bel
      clear hS
      by_cases h0 : 0 < k
      · by_cases h1 : k ≤ 4096
        · have HR := Lib.hid (show colV f k = true by rw [HF.out]; simp [h0, h1])
          have d : decide ((k : Int) ≤ 4096) = true := by simp; omega
          go_wp2_with fail
          go_ret
          exact ⟨by rw [HR.out]; first | rfl | (simp only [Array.getD_eq_getD_getElem?]; simp; omega), HB.out⟩
        · have HR := Lib.hid (show colV f k = false by rw [HF.out]; simp [h1])
          have d : decide ((k : Int) ≤ 4096) = false := by simp; omega
          go_wp2_with fail
          go_ret
          exact ⟨by rw [HR.out]; first | rfl | (simp only [Array.getD_eq_getD_getElem?]; simp; omega), HB.out⟩
      · obtain rfl : k = 0 := by omega
        go_wp2_with fail
        go_ret
        exact ⟨rfl, HB.out⟩
set_option maxRecDepth 100000 in
set_option maxHeartbeats 8000000 in
theorem rcvalid_any (A : Option Addr) (n c : Nat) (f : Nat → Pt) (D : Nat → Prop) (w : World) (hsl : SlP w D A n f) (hn : n ≤ 9223372036854775807) :
    Calls Tryd.prog 24 #[.slice A n c] w (BoolPost (colV f n) w) := by
  have HO := Lib.hid hsl
  clear hsl
  go_enter Tryd.func24, Tryd.ntmps24
  go_wp2_with fail
  go_loopw [3] (fun i wr => ∃ k : Nat, k ≤ n ∧ i = .int .i64 k ∧ colAll f k = true ∧ Own w [] wr) (fun i _ => n - (intOf i).toNat)
  case atStart => exact ⟨0, Nat.zero_le _, rfl, rfl, Own.start w⟩
  case round =>
    obtain ⟨k, hk, rfl, hall, hS⟩ := hrel
    have HA := Lib.hid hall
    clear hall
    by_cases hlt : k < n
    · obtain ⟨b, off, rfl, -, hc⟩ := (HO.out.below hS.bel) (by omega)
      obtain ⟨k0, k1, k2⟩ := hc k hlt
      have HK := Lib.hid (colOk_iff f k)
      have HN := Lib.hid (fun h => colAll_not (f := f) (k := k) h n hlt)
      have HQ : Hid (colAll f (k + 1) = (colAll f k && colOk f k)) := Lib.hid rfl
      have hcp := fun hk0 : 0 < k => (hc (k - 1) (by omega)).1
      have hlo : 0 < k → colT f k = (f (k - 1)).t ∧ -1152921504606846976 ≤ (f (k - 1)).t := fun hk0 => by
        obtain ⟨q, rfl⟩ : ∃ q, k = q + 1 := ⟨k - 1, by omega⟩
        refine ⟨rfl, ?_⟩
        show -1152921504606846976 ≤ (f q).t
        have h1 := (colOk_iff f q).1 (colAll_at _ HA.out q (by omega))
        have : -1152921504606846977 ≤ colT f q := by
          cases q with
          | zero => exact Int.le_refl _
          | succ q =>
            have h2 := (colOk_iff f q).1 (colAll_at _ HA.out q (by omega))
            show -1152921504606846977 ≤ (f q).t
            have h3 : ∀ m, m < q + 2 → -1152921504606846977 ≤ colT f m := by
              intro m
              induction m with
              | zero => intro _; exact Int.le_refl _
              | succ m ih =>
                intro hm
                have h4 := (colOk_iff f m).1 (colAll_at _ HA.out m (by omega))
                have h5 := ih (by omega)
                show -1152921504606846977 ≤ (f m).t
                omega
            have := h3 q (by omega)
            omega
        omega
      have hz : k = 0 → colT f k = -1152921504606846977 := fun h => by rw [h]; rfl
      generalize hp : f k = p at k0 k1 k2 HK
      generalize hq : f (k - 1) = pq at hcp hlo
      generalize hl : colT f k = last at HK hlo hz
      clear hp hl hq hc
      have HB := Lib.hid hS
      clear hS
      have eidx : 0 < k → ((k : Int) - 1) = ((k - 1 : Nat) : Int) := fun h => by omega
      by_cases h1 : p.t < -1152921504606846976
      · have d1 : decide (p.t < -1152921504606846976) = true := by simp; omega
        have h1x : ¬ last < p.t := by
          rcases Nat.eq_zero_or_pos k with h0 | h0
          · have := hz h0; omega
          · have := hlo h0; omega
        have HF := Lib.hid (show colV f n = false by
          unfold colV
          rw [HN.out (by
            cases h : colOk f k with
            | false => rfl
            | true => have := HK.out.1 h; omega)]
          rfl)
        clear hlo hz hcp eidx
        go_wp2_with fail
        go_quiet (fail)
        go_wp2_with fail
        go_ret
        exact ⟨by rw [HF.out]; rfl, (HB.out.drewN _).bel⟩
      · have d1 : decide (p.t < -1152921504606846976) = false := by simp; omega
        by_cases h2 : p.t ≤ 1152921504606846976
        · have d2 : decide (1152921504606846976 < p.t) = false := by simp; omega
          by_cases h3 : 0 ≤ p.s
          · have d3 : decide (p.s < 0) = false := by simp; omega
            by_cases h4 : p.s ≤ 1152921504606846976
            · have d4 : decide (1152921504606846976 < p.s) = false := by simp; omega
              rcases Nat.eq_zero_or_pos k with h0 | h0
              · have HT := Lib.hid (show colAll f (k + 1) = true by rw [HQ.out, HA.out, HK.out.2 ⟨by have := hz h0; omega, h2, h3, h4⟩]; rfl)
                have d0 : decide (0 < (k : Int)) = false := by simp; omega
                have d0' : ¬ 0 < k := by omega
                clear h0 h1 h2 h3 h4 hz hlo hcp eidx
                go_wp2_with fail
                go_quiet (fail)
                go_wp2_with fail
                go_roundw
                case rel => exact ⟨k + 1, by omega, by go_num, HT.out, HB.out.drewN _⟩
                case measure => simp [intOf]; omega
              · have cp := hcp h0
                have e1 := eidx h0
                have hl2 := (hlo h0).1
                obtain ⟨q, hqq⟩ : ∃ q, q = k - 1 := ⟨_, rfl⟩
                rw [← hqq] at cp e1
                have hqn : q < n := by omega
                have hq0 : (0 : Int) ≤ (q : Int) := by omega
                have hkw : IntKind.i64.wrap ((k : Int) - 1) = (q : Int) := by rw [IntKind.wrap_i64]; omega
                clear hqq hz hlo hcp eidx
                by_cases h5 : p.t ≤ pq.t
                · have d5 : decide (p.t ≤ pq.t) = true := by simp; omega
                  have HF := Lib.hid (show colV f n = false by
                    unfold colV
                    rw [HN.out (by
                      cases h : colOk f k with
                      | false => rfl
                      | true => have := HK.out.1 h; omega)]
                    rfl)
                  clear h1 h2 h3 h4 h5 hl2
                  go_wp2_with fail
                  go_quiet (fail)
                  go_wp2_with fail
                  go_ret
                  exact ⟨by rw [HF.out]; rfl, (HB.out.drewN _).bel⟩
                · have d5 : decide (p.t ≤ pq.t) = false := by simp; omega
                  have HT := Lib.hid (show colAll f (k + 1) = true by rw [HQ.out, HA.out, HK.out.2 ⟨by omega, h2, h3, h4⟩]; rfl)
                  clear h1 h2 h3 h4 h5 hl2
                  go_wp2_with fail
                  go_quiet (fail)
                  go_wp2_with fail
                  go_roundw
                  case rel => exact ⟨k + 1, by omega, by go_num, HT.out, HB.out.drewN _⟩
                  case measure => simp [intOf]; omega
            · have d4 : decide (1152921504606846976 < p.s) = true := by simp; omega
              have HF := Lib.hid (show colV f n = false by
                unfold colV
                rw [HN.out (by
                  cases h : colOk f k with
                  | false => rfl
                  | true => have := HK.out.1 h; omega)]
                rfl)
              clear hlo hz hcp eidx
              go_wp2_with fail
              go_quiet (fail)
              go_wp2_with fail
              go_ret
              exact ⟨by rw [HF.out]; rfl, (HB.out.drewN _).bel⟩
          · have d3 : decide (p.s < 0) = true := by simp; omega
            have HF := Lib.hid (show colV f n = false by
              unfold colV
              rw [HN.out (by
                cases h : colOk f k with
                | false => rfl
                | true => have := HK.out.1 h; omega)]
              rfl)
            clear hlo hz hcp eidx
            go_wp2_with fail
            go_quiet (fail)
            go_wp2_with fail
            go_ret
            exact ⟨by rw [HF.out]; rfl, (HB.out.drewN _).bel⟩
        · have d2 : decide (1152921504606846976 < p.t) = true := by simp; omega
          have HF := Lib.hid (show colV f n = false by
            unfold colV
            rw [HN.out (by
              cases h : colOk f k with
              | false => rfl
              | true => have := HK.out.1 h; omega)]
            rfl)
          clear hlo hz hcp eidx
          go_wp2_with fail
          go_quiet (fail)
          go_wp2_with fail
          go_ret
          exact ⟨by rw [HF.out]; rfl, (HB.out.drewN _).bel⟩
    · obtain rfl : k = n := by omega
      have HF := Lib.hid (show colV f k = (decide (0 < k) && decide (k ≤ 4096)) by unfold colV; rw [HA.out]; rfl)
      have HB := Lib.hid hS.bel
      clear hS
      by_cases h0 : 0 < k
      · by_cases h1 : k ≤ 4096
        · have HR := Lib.hid (show colV f k = true by rw [HF.out]; simp [h0, h1])
          have d : decide ((k : Int) ≤ 4096) = true := by simp; omega
          have d0 : decide ((1 : Int) ≤ (k : Int)) = true := by simp; omega
          have d0' : 1 ≤ k := h0
          go_wp2_with fail
          go_ret
          exact ⟨by rw [HR.out]; first | rfl | (simp only [Array.getD_eq_getD_getElem?]; simp; omega), HB.out⟩
        · have HR := Lib.hid (show colV f k = false by rw [HF.out]; simp [h1])
          have d : decide ((k : Int) ≤ 4096) = false := by simp; omega
          have d0' : 1 ≤ k := h0
          go_wp2_with fail
          go_ret
          exact ⟨by rw [HR.out]; first | rfl | (simp only [Array.getD_eq_getD_getElem?]; simp; omega), HB.out⟩
      · obtain rfl : k = 0 := by omega
        go_wp2_with fail
        go_ret
        exact ⟨rfl, HB.out⟩
end Go.Proofs.YtboecnakndpgfaaDoor
