/-
  Texts of this proof, joined: XorDec, XorDPl, XorWs, XorvalOneW, ColK.
-/
import Derived.Test.YtopbbicjbjmdnaaGreatDoorJ10
import Derived.Test.YtopbbicjbjmdnaaGreatDoorJ09
import Derived.Test.YtopbbicjbjmdnaaGreatDoorJ02
import Derived.Test.YtopbbicjbjmdnaaGreatDoorJ05
import Derived.Test.YtopbbicjbjmdnaaGreatDoorJ08
namespace Go.Proofs.YtopbbicjbjmdnaaGreatDoor.X
set_option maxRecDepth 100000
open Go.RowKit
set_option linter.unusedVariables false
set_option linter.unusedSimpArgs false
def u64V (x : Nat) : Value := .int .u64 (x : Nat)
/-- One value more. -/
def stepX (bs : List Nat) (en : Nat) (out : List Nat) (o : Option (Nat × Nat)) (p : Nat) : Option (Nat × Option (Nat × Nat) × Nat) :=
  if out.length = 0 then (if p + 64 ≤ en then some (gets bs p 64, o, p + 64) else none)
  else match nextX bs en o p with
    | none => none
    | some q => some (out.getD (out.length - 1) 0 ^^^ q.1, q.2)
def decX (bs : List Nat) (en : Nat) : Nat → List Nat → Option (Nat × Nat) → Nat → Option (List Nat × Nat)
  | 0, out, _, p => some (out, p)
  | n + 1, out, o, p => match stepX bs en out o p with
    | none => none
    | some q => decX bs en n (out ++ [q.1]) q.2.1 q.2.2
def endX (bs : List Nat) (en p : Nat) : Prop := en - p < 8 ∧ gets bs p (en - p) = 0
instance (bs : List Nat) (en p : Nat) : Decidable (endX bs en p) := inferInstanceAs (Decidable (_ ∧ _))
def decXL (bs : List Nat) (n : Nat) : Option (List Nat) := match decX bs (8 * bs.length) n [] none 0 with
  | none => none
  | some q => if endX bs (8 * bs.length) q.2 then some q.1 else none
def XDecPost (w : World) (N : Option (List Nat)) (e : Ending) (w' : World) : Prop :=
  ∃ (l : List Nat) (er : Int) (A : Option Addr) (c : Nat), e = .returned (.tuple #[.slice A l.length c, .int .i64 er]) ∧ w'.ownsRow w.heap.size 54 1 (.slice A l.length c) l.length (l.map u64V) ∧ Keeps (fun _ => False) w w' ∧
    (∀ j, l.getD j 0 < 18446744073709551616) ∧ ((er = 0 ∧ N = some l) ∨ ((er ≠ 0 ∧ l = []) ∧ N = none))
theorem getD_u {l : List Nat} {x : Nat} (h : ∀ j, l.getD j 0 < 18446744073709551616) (hx : x < 18446744073709551616) : ∀ j, (l ++ [x]).getD j 0 < 18446744073709551616 := by
  intro j
  rw [List.getD_eq_getElem?_getD]
  rcases Nat.lt_trichotomy j l.length with hj | hj | hj
  · rw [List.getElem?_append_left hj, ← List.getD_eq_getElem?_getD]; exact h j
  · subst hj; simpa using hx
  · rw [List.getElem?_eq_none (by simp; omega)]; show 0 < _; omega
theorem decX_ok_win {bs : List Nat} {en : Nat} {o o' : Option (Nat × Nat)} {p x p' : Nat} (h : WinOk o) (hn : nextX bs en o p = some (x, o', p')) : WinOk o' := by
  unfold nextX at hn
  split at hn
  · split at hn
    · injection hn with hn; injection hn with _ hn; injection hn with hn _; rw [← hn]; exact h
    · split at hn
      · split at hn
        · unfold oldX at hn
          split at hn
          · cases hn
          · split at hn
            · split at hn
              · cases hn
              · injection hn with hn; injection hn with _ hn; injection hn with hn _; rw [← hn]; exact h
            · cases hn
        · unfold newX at hn
          split at hn
          · split at hn
            · unfold newY at hn
              split at hn
              · split at hn
                · split at hn
                  · injection hn with hn; injection hn with _ hn; injection hn with hn _
                    rw [← hn]
                    intro q hq
                    injection hq with hq
                    subst hq
                    show _ + (64 - _ - _) ≤ 63
                    omega
                  · cases hn
                · cases hn
              · cases hn
            · cases hn
          · cases hn
      · cases hn
  · cases hn
theorem Tk.app {w wr w' : World} {t r : Nat} {D : Nat → Prop} {bs : List Nat} {en : Nat} {o : Option (Nat × Nat)} {e : Int} {p : Nat} {S : Nat → Prop} (h : Tk w wr t r D bs en o e p) (hk : Keeps S wr w') (hS : ∀ g, S g → t + 1 ≤ g) (hr : r < t) (hD : ∀ k, D k → k < t) (hw : w.heap.size ≤ t + 1) : Tk w w' t r D bs en o e p :=
  ⟨h.rd.keeps hk (fun h => by have := hS _ h; omega) (fun k hk h => by have := hS _ h; have := hD k hk; omega), h.blk.keeps hk (fun h => by have := hS _ h; omega), h.keep.trans hk (fun k hk h => by have := hS _ h; omega), h.ne, h.nd⟩
set_option maxHeartbeats 400000 in
theorem xdecode_arg (w : World) (A : Option Addr) (len c : Nat) (n : Int) (hn : n < 0) :
    Calls Tryz.prog 69 #[.slice A len c, .int .i64 n] w fun e w' => e = .returned (.tuple #[.slice none 0 0, .int .i64 2]) ∧ w = w' := by
  go_enter Tryz.func69, Tryz.ntmps69
  go_wp2
  go_ret2
  exact ⟨rfl, rfl⟩
set_option maxHeartbeats 400000 in
theorem xdecode_big (w : World) (A : Option Addr) (len c : Nat) (n : Int) (hn : 4096 < n) :
    Calls Tryz.prog 69 #[.slice A len c, .int .i64 n] w fun e w' => e = .returned (.tuple #[.slice none 0 0, .int .i64 3]) ∧ w = w' := by
  have h0 : ¬ n < 0 := by omega
  go_enter Tryz.func69, Tryz.ntmps69
  go_wp2
  go_ret2
  exact ⟨rfl, rfl⟩
/-- What the loop of Decode holds. -/
structure XSt (w w2 wr : World) (t r : Nat) (D : Nat → Prop) (bs : List Nat) (en : Nat) (out : List Nat) (o : Option (Nat × Nat)) (p : Nat) (v : Value) : Prop where
  tk : Tk w2 wr t r D bs en o 0 p
  row : wr.ownsRow (t + 1) 54 1 v out.length (out.map u64V)
  u64 : ∀ j, out.getD j 0 < 18446744073709551616
  win : WinOk o
theorem row_at {w : World} {base c n : Nat} {A : Option Addr} {l : List Nat} (ho : w.ownsRow base 54 1 (.slice A n c) n (l.map u64V)) (hl : l.length = n) : Sl w (fun k => (Value.slice A n c).ownBlock = some k) A n (fun j => u64V (l.getD j 0)) := by
  refine Sl.of_own ho ?_
  intro j u hu
  rw [List.getElem?_map] at hu
  cases hj : l[j]? with
  | none => rw [hj] at hu; cases hu
  | some x => rw [hj] at hu; injection hu with hu; rw [List.getD_eq_getElem?_getD, hj]; exact hu.symm
set_option maxRecDepth 100000 in
set_option maxHeartbeats 20000000 in
theorem xdecode_ok (w : World) (A : Option Addr) (len c : Nat) (D0 : Nat → Prop) (bs : List Nat) (n : Nat) (hl : bs.length = len) (hsl : Sl w D0 A len (byteC bs)) (hbyte : ∀ j, bs.getD j 0 < 256) (hsm : len ≤ 1048576) (hn : n ≤ 4096) :
    Calls Tryz.prog 69 #[.slice A len c, .int .i64 n] w (XDecPost w (decXL bs n)) := by
  have HS := Lib.hid (And.intro hsl (And.intro hbyte hl))
  clear hsl hbyte hl
  have d1 : decide ((n : Int) < 0) = false := by simp
  have d2 : decide ((4096 : Int) < n) = false := by simp; omega
  go_enter Tryz.func69, Tryz.ntmps69
  go_wp2_with fail
  refine (newReader_fit _ _ _ _ _ bs _ HS.out.2.2 HS.out.1 HS.out.2.1 (by omega) (by omega) (by omega)).mono ?_
  rintro e w1 ⟨r, rfl, hlr, hr1, hk1⟩
  clear d1 d2
  obtain ⟨en, hen⟩ : ∃ en, en = (8 * (len : Int)).toNat := ⟨_, rfl⟩
  rw [← hen] at hr1
  have hen8 : en = 8 * bs.length := by have := HS.out.2.2; omega
  have hrlt : r < w1.heap.size := by obtain ⟨A', c', hb, -⟩ := hr1.blk; exact hb.lt
  have H1 := Lib.hid (And.intro hr1 (And.intro hk1 (And.intro hlr (And.intro hrlt hen8))))
  clear hr1 hk1 hlr hrlt hen hen8
  go_wp2_with fail
  refine (none_any _).mono ?_
  rintro e w1' ⟨rfl, hb1⟩
  obtain ⟨t, ht⟩ : ∃ t, t = w1'.heap.size := ⟨_, rfl⟩
  obtain ⟨D, hD⟩ : ∃ D : Nat → Prop, D = fun k => w.heap.size ≤ k ∧ k < r := ⟨_, rfl⟩
  obtain ⟨w2, hw2⟩ : ∃ w2, w2 = w1'.alloc (.cells #[.pointer (some ⟨r, 0, none⟩), .int .i64 (-1), .int .i64 (-1), .int .i64 0] 173) := ⟨_, rfl⟩
  have hrt : r < t := by have := hb1.size; have := H1.out.2.2.2.1; omega
  have htk : Tk w2 w2 t r D bs en none 0 0 := by
    obtain ⟨hr1, hk1, hlr, hrlt, hen⟩ := H1.out
    refine ⟨?_, ?_, Keeps.refl _ _, by omega, by rw [hD]; omega⟩
    · rw [hD, hw2]
      exact (hr1.below hb1).below ((Below.refl _ _).alloc (Nat.le_refl _) _)
    · rw [hw2, ht]
      exact Blk.fresh _ _ _
  have hk2 : Keeps (fun _ => False) w w2 := by
    obtain ⟨hr1, hk1, hlr, hrlt, hen⟩ := H1.out
    rw [hw2]
    exact (hk1.trans' (Keeps.of_below hb1)).alloc _
  have hs2 : w2.heap.size = t + 1 := by rw [hw2, ht]; simp
  have hDt : ∀ k, D k → k < t := by rw [hD]; intro k hk; omega
  have hwr : w.heap.size ≤ r := H1.out.2.2.1
  have HT := Lib.hid (And.intro htk (And.intro hk2 (And.intro hs2 (And.intro hDt (And.intro hrt hwr)))))
  clear htk hk2 hs2 hDt hrt hD hb1 hwr
  go_wp2_with fail
  rw [← hw2, ← ht]
  clear hw2 ht
  have hlow : ∀ w', Keeps (fun k => k = r ∨ k = t) w2 w' → Keeps (fun _ => False) w w' := fun w' hk => HT.out.2.1.trans hk (fun k hk e => by have := HT.out.2.2.2.2; omega)
  have HL := Lib.hid hlow
  clear hlow
  go_loopw [9, 31] (fun v i wr => ∃ (k : Nat) (out : List Nat) (o : Option (Nat × Nat)) (p : Nat), k ≤ n ∧ i = .int .i64 k ∧ XSt w w2 wr t r D bs en out o p v ∧ out.length = k ∧ decX bs en n [] none 0 = decX bs en (n - k) out o p)
    (fun _ i _ => n - (intOf i).toNat)
  case atStart => exact ⟨0, [], none, 0, Nat.zero_le _, rfl, ⟨HT.out.1, ⟨rfl, .inl ⟨rfl, rfl⟩⟩, fun j => by simp, fun q hq => by cases hq⟩, rfl, rfl⟩
  case round =>
    obtain ⟨k, out, o, p, hk, rfl, hst, hlen, hdec⟩ := hrel
    by_cases hlt : k < n
    · obtain ⟨f, hf⟩ : ∃ f, n - k = f + 1 := ⟨n - k - 1, by omega⟩
      rw [hf] at hdec
      have HR := Lib.hid (And.intro hst (And.intro hlen (And.intro hdec hf)))
      clear hst hlen hdec hf
      rcases Nat.eq_zero_or_pos k with hk0 | hk0
      · subst hk0
        go_wp2_with fail
        refine (tget_any HR.out.1.tk.re 64 (by omega)).mono ?_
        rintro e w3 ⟨rfl, h3⟩
        obtain ⟨z, er, p5, hg3, hz64, hstep⟩ : ∃ (z : Nat) (er : Int) (p5 : Nat), tget bs en 0 p 64 = (z, er, p5) ∧ z < 18446744073709551616 ∧ ((er = 0 ∧ stepX bs en out o p = some (z, o, p5)) ∨ ((er = 10 ∨ er = 11) ∧ stepX bs en out o p = none)) := by
          have h0 : out.length = 0 := HR.out.2.1
          unfold stepX
          rw [if_pos h0]
          by_cases q : p + 64 ≤ en
          · rw [if_pos q]
            exact ⟨_, _, _, tget_ok q, gets_u64 _ _ _ (by omega), .inl ⟨rfl, rfl⟩⟩
          · rw [if_neg q]
            exact ⟨_, _, _, tget_end q, by omega, .inr ⟨.inl rfl, rfl⟩⟩
        rw [hg3] at h3
        rw [hg3]
        simp only [] at h3
        obtain ⟨hrt, hDt⟩ : r < t ∧ ∀ k, D k → k < t := ⟨HT.out.2.2.2.2.1, HT.out.2.2.2.1⟩
        have hrow3 := own_keeps HR.out.1.row h3.keep (fun g hg e => by have := (HR.out.1.row.lt g hg).1; omega)
        have htk3 := HR.out.1.tk.on h3
        have ht3 : t < w3.heap.size := h3.blk.lt
        have H3 := Lib.hid (And.intro hrow3 (And.intro htk3 (And.intro hstep ht3)))
        have HZ := Lib.hid hz64
        have HW5 := Lib.hid (show er = 0 → WinOk o from fun _ => HR.out.1.win)
        clear hrow3 htk3 h3 hg3 hstep hz64 hrt hDt ht3
        obtain ⟨A3, c3, hv3, -, -⟩ := own_form HR.out.1.row
        have HV3 := Lib.hid hv3
        clear hv3
        go_wp2_with (at_builtin; refine wpList_append_sl (f := fun _ => .int .u64 (z : Nat)) (D := fun k => k = w3.heap.size) (base := t + 1) (n := out.length) (xs := out.map u64V) u64Elem rfl (.tmp 36) (.tmp 39) rfl rfl rfl ?hown ?hsl ?h1 ?h63 ?hby ?hbase ?_)
        case hown => exact H3.out.1.alloc _
        case hsl => exact sl_one _ _ _
        case h1 => intro j _; rfl
        case h63 => unfold maxLen; have := HR.out.2.1; omega
        case hby => have := HR.out.2.1; omega
        case hbase => have := H3.out.2.2.2; simp; omega
        intro v5 w5 ho5 hg5 hat5
        have htk5 := H3.out.2.1.app (((Keeps.refl _ w3).alloc _).grown hg5 (fun q hq _ => hq)) (fun g hg => (H3.out.1.lt g hg).1) HT.out.2.2.2.2.1 HT.out.2.2.2.1 (by rw [HT.out.2.2.1]; exact Nat.le_refl _)
        have hstep := H3.out.2.2.1
        clear hg5 hat5 H3
        have H5 := Lib.hid (And.intro htk5 (And.intro ho5 hstep))
        have d3 := htk5.c3
        clear htk5 ho5 hstep
        rcases H5.out.2.2 with ⟨rfl, hs5⟩ | ⟨her, hs5⟩
        · have HSX := Lib.hid hs5
          clear hs5
          go_wp2_with fail
          go_roundw
          case rel =>
            refine ⟨0 + 1, out ++ [z], o, p5, by omega, by go_num, ⟨H5.out.1, ?_, getD_u HR.out.1.u64 HZ.out, HW5.out rfl⟩, by simp [HR.out.2.1], ?_⟩
            · rw [List.length_append, List.map_append]
              exact H5.out.2.1
            · rw [HR.out.2.2.1, show n - (0 + 1) = f by have := HR.out.2.2.2; omega]
              show (match stepX bs en out o p with | none => none | some q => decX bs en f (out ++ [q.1]) q.2.1 q.2.2) = _
              rw [HSX.out]
          case measure => simp [intOf]; omega
        · have hne : ¬ er = 0 := by omega
          have hfin : XDecPost w (decXL bs n) (.returned (.tuple #[.slice none 0 0, .int .i64 er])) w5.drew := by
            refine ⟨[], er, none, 0, rfl, ⟨rfl, .inl ⟨rfl, rfl⟩⟩, (HL.out _ H5.out.1.keep).drew, fun j => by simp, .inr ⟨⟨hne, rfl⟩, ?_⟩⟩
            have hd : decX bs en n [] none 0 = none := by
              rw [HR.out.2.2.1]
              show (match stepX bs en out o p with | none => none | some q => decX bs en f (out ++ [q.1]) q.2.1 q.2.2) = _
              rw [hs5]
            unfold decXL
            rw [← H1.out.2.2.2.2, hd]
          have HF := Lib.hid hfin
          clear hfin hs5 her
          go_wp2_with fail
          have hdd : w5.drew.cell? ⟨t, 3, none⟩ = some (.int .i64 er) := d3
          clear d3
          have hS : (fun w' : World => w'.cell? ⟨t, 3, none⟩ = some (.int .i64 er)) (w5.drew) := hdd
          refine reg_start (fun w' : World => w'.cell? ⟨t, 3, none⟩ = some (.int .i64 er)) (by kernel_rfl) hS ?_
          refine reg_take (i := 0) (v := ?_) rfl (by kernel_rfl) (by kernel_rfl) (by kernel_rfl) (fun _ _ _ h => h) (Or.inl ⟨by kernel_rfl, ?_⟩) hS ?_
          rotate_left
          · (intro w' hSw; go_simp <;> with_reducible rfl)
          try simp only [List.getElem_toArray, List.getElem_cons_succ, List.getElem_cons_zero, Act.put, List.setIfInBounds_toArray, List.set_cons_zero, List.set_cons_succ]
          refine reg_take (i := 1) (v := ?_) rfl (by kernel_rfl) (by kernel_rfl) (by kernel_rfl) (fun _ _ _ h => h) (Or.inl ⟨by kernel_rfl, ?_⟩) hS ?_
          rotate_left
          · (intro w' hSw; go_simp <;> with_reducible rfl)
          try simp only [List.getElem_toArray, List.getElem_cons_succ, List.getElem_cons_zero, Act.put, List.setIfInBounds_toArray, List.set_cons_zero, List.set_cons_succ]
          refine reg_take (i := 2) (v := ?_) rfl (by kernel_rfl) (by kernel_rfl) (by kernel_rfl) (fun _ _ _ h => h) (Or.inl ⟨by kernel_rfl, ?_⟩) hS ?_
          rotate_left
          · (intro w' hSw; go_simp <;> with_reducible rfl)
          try simp only [List.getElem_toArray, List.getElem_cons_succ, List.getElem_cons_zero, Act.put, List.setIfInBounds_toArray, List.set_cons_zero, List.set_cons_succ]
          refine reg_take (i := 3) (v := ?_) rfl (by kernel_rfl) (by kernel_rfl) (by kernel_rfl) (fun _ _ _ h => h) (Or.inl ⟨by kernel_rfl, ?_⟩) hS ?_
          rotate_left
          · (intro w' hSw; go_simp <;> with_reducible rfl)
          try simp only [List.getElem_toArray, List.getElem_cons_succ, List.getElem_cons_zero, Act.put, List.setIfInBounds_toArray, List.set_cons_zero, List.set_cons_succ]
          refine reg_take (i := 4) (v := ?_) rfl (by kernel_rfl) (by kernel_rfl) (by kernel_rfl) (fun _ _ _ h => h) (Or.inl ⟨by kernel_rfl, ?_⟩) hS ?_
          rotate_left
          · (intro w' hSw; go_simp <;> with_reducible rfl)
          try simp only [List.getElem_toArray, List.getElem_cons_succ, List.getElem_cons_zero, Act.put, List.setIfInBounds_toArray, List.set_cons_zero, List.set_cons_succ]
          refine reg_take (i := 5) (v := ?_) rfl (by kernel_rfl) (by kernel_rfl) (by kernel_rfl) (fun _ _ _ h => h) (Or.inl ⟨by kernel_rfl, ?_⟩) hS ?_
          rotate_left
          · (intro w' hSw; go_simp <;> with_reducible rfl)
          try simp only [List.getElem_toArray, List.getElem_cons_succ, List.getElem_cons_zero, Act.put, List.setIfInBounds_toArray, List.set_cons_zero, List.set_cons_succ]
          refine wpAnyH_done (by kernel_rfl) ?_ _
          try simp only [List.getElem_toArray, List.getElem_cons_succ, List.getElem_cons_zero]
          try simp only [List.getElem_toArray, List.getElem_cons_succ, List.getElem_cons_zero, Act.put, List.setIfInBounds_toArray, List.set_cons_zero, List.set_cons_succ]
          go_wp2_with fail
          go_ret2
          exact HF.out
      · obtain ⟨j, rfl⟩ : ∃ j, k = j + 1 := ⟨k - 1, by omega⟩
        obtain ⟨A3, c3, hv3, hc3, hA3⟩ := own_form HR.out.1.row
        obtain ⟨g, hA, hg1, hg2⟩ := hA3 (by have := HR.out.2.1; omega)
        subst hA
        have hrow := HR.out.1.row
        rw [hv3] at hrow
        have hlj : out.length = j + 1 := HR.out.2.1
        rw [hlj] at hrow hv3
        obtain ⟨b, off, hbe, -, hcells⟩ := row_at hrow hlj (by omega)
        obtain ⟨rfl, rfl⟩ : g = b ∧ 0 = off := by simpa using hbe
        obtain ⟨last, hlast⟩ : ∃ last, last = out.getD j 0 := ⟨_, rfl⟩
        have hcl : wr.cell? ⟨g, j, none⟩ = some (.int .u64 (last : Nat)) := by
          have h : wr.cell? ⟨g, 0 + j, none⟩ = some (u64V (out.getD j 0)) := hcells j (by omega)
          rw [Nat.zero_add, ← hlast] at h
          exact h
        have hl64 : last < 18446744073709551616 := by rw [hlast]; exact HR.out.1.u64 j
        have hgr : g ≠ r ∧ g ≠ t := by have := HT.out.2.2.2.2.1; omega
        rw [hv3]
        have HG := Lib.hid (And.intro hrow (And.intro hcl (And.intro hl64 (And.intro hlast (And.intro hgr (And.intro hg1 hlj))))))
        clear hrow hcells hbe hcl hl64 hlast hgr hg1 hg2 hlj hA3 hc3 hk0
        have HV3 := Lib.hid hv3
        clear hv3
        have ejw : IntKind.i64.wrap ((j : Int) + 1 - 1) = (j : Int) := by rw [IntWalk.i64_in _ (by omega)]; omega
        have ejw2 : (j : Int) + 1 - 1 = (j : Int) := by omega
        have hj2 : (0 : Int) ≤ (j : Int) := by omega
        have ejw3 : IntKind.i64.wrap (j : Int) = (j : Int) := IntWalk.i64_in _ (by omega)
        have hjl : (j : Int) < (j : Int) + 1 := by omega
        have ejw4 : ((j : Int)).toNat = j := by omega
        have hj0 : ¬ ((j : Int) + 1 = 0) := by omega
        have hjn : (j : Int) + 1 < (n : Int) := by omega
        rw [show ((j + 1 : Nat) : Int) = (j : Int) + 1 from rfl]
        go_wp2_with fail
        have hS : (fun w' : World => w'.cell? ⟨g, j, none⟩ = some (.int .u64 (last : Nat))) (wr.drew) := HG.out.2.1
        refine reg_start (fun w' : World => w'.cell? ⟨g, j, none⟩ = some (.int .u64 (last : Nat))) (by kernel_rfl) hS ?_
        refine reg_take (i := 0) (v := ?_) rfl (by kernel_rfl) (by kernel_rfl) (by kernel_rfl) (fun _ _ _ h => h) (Or.inl ⟨by kernel_rfl, ?_⟩) hS ?_
        rotate_left
        · (intro w' hSw; go_simp <;> with_reducible rfl)
        try simp only [List.getElem_toArray, List.getElem_cons_succ, List.getElem_cons_zero, Act.put, List.setIfInBounds_toArray, List.set_cons_zero, List.set_cons_succ]
        refine reg_take (i := 1) (v := ?_) rfl (by kernel_rfl) (by kernel_rfl) (by kernel_rfl) (fun _ _ _ h => h) (Or.inl ⟨by kernel_rfl, ?_⟩) hS ?_
        rotate_left
        · (intro w' hSw; go_simp <;> with_reducible rfl)
        try simp only [List.getElem_toArray, List.getElem_cons_succ, List.getElem_cons_zero, Act.put, List.setIfInBounds_toArray, List.set_cons_zero, List.set_cons_succ]
        refine reg_take (i := 2) (v := ?_) rfl (by kernel_rfl) (by kernel_rfl) (by kernel_rfl) (fun _ _ _ h => h) (Or.inl ⟨by kernel_rfl, ?_⟩) hS ?_
        rotate_left
        · (intro w' hSw; go_simp <;> with_reducible rfl)
        try simp only [List.getElem_toArray, List.getElem_cons_succ, List.getElem_cons_zero, Act.put, List.setIfInBounds_toArray, List.set_cons_zero, List.set_cons_succ]
        refine reg_take (i := 3) (v := ?_) rfl (by kernel_rfl) (by kernel_rfl) (by kernel_rfl) (fun _ _ _ h => h) (Or.inl ⟨by kernel_rfl, ?_⟩) hS ?_
        rotate_left
        · (intro w' hSw; go_simp <;> with_reducible rfl)
        try simp only [List.getElem_toArray, List.getElem_cons_succ, List.getElem_cons_zero, Act.put, List.setIfInBounds_toArray, List.set_cons_zero, List.set_cons_succ]
        refine reg_take (i := 4) (v := ?_) rfl (by kernel_rfl) (by kernel_rfl) (by kernel_rfl) (fun _ _ _ h => h) (Or.inl ⟨by kernel_rfl, ?_⟩) hS ?_
        rotate_left
        · (intro w' hSw; go_simp <;> with_reducible rfl)
        try simp only [List.getElem_toArray, List.getElem_cons_succ, List.getElem_cons_zero, Act.put, List.setIfInBounds_toArray, List.set_cons_zero, List.set_cons_succ]
        refine reg_take (i := 5) (v := ?_) rfl (by kernel_rfl) (by kernel_rfl) (by kernel_rfl) (fun _ _ _ h => h) (Or.inl ⟨by kernel_rfl, ?_⟩) hS ?_
        rotate_left
        · (intro w' hSw; go_simp <;> with_reducible rfl)
        try simp only [List.getElem_toArray, List.getElem_cons_succ, List.getElem_cons_zero, Act.put, List.setIfInBounds_toArray, List.set_cons_zero, List.set_cons_succ]
        refine reg_take (i := 6) (v := ?_) rfl (by kernel_rfl) (by kernel_rfl) (by kernel_rfl) (fun _ _ _ h => h) (Or.inl ⟨by kernel_rfl, ?_⟩) hS ?_
        rotate_left
        · (intro w' hSw; go_simp <;> with_reducible rfl)
        try simp only [List.getElem_toArray, List.getElem_cons_succ, List.getElem_cons_zero, Act.put, List.setIfInBounds_toArray, List.set_cons_zero, List.set_cons_succ]
        refine reg_call (i := 7) rfl (by kernel_rfl) (fun K hK => ?_)
        have HK := Lib.hid hK
        clear hK
        go_simp
        refine (tnext_any HR.out.1.tk.drew.re HR.out.1.win).mono ?_
        rintro e w3 ⟨x, o5, er, p5, rfl, hxl, h3, hc3⟩
        obtain ⟨z, hz⟩ : ∃ z, z = last ^^^ x := ⟨_, rfl⟩
        have hzx : bits .xor .u64 (last : Int) (x : Int) = (z : Int) := by rw [u64_xor_nat _ _ HG.out.2.2.1 hxl, hz]
        have hz64 : z < 18446744073709551616 := by rw [hz]; exact xor_lt HG.out.2.2.1 hxl
        have hstep : (er = 0 ∧ stepX bs en out o p = some (z, o5, p5)) ∨ ((er = 10 ∨ er = 11) ∧ stepX bs en out o p = none) := by
          have hlj := HG.out.2.2.2.2.2.2
          unfold stepX
          rw [if_neg (by omega)]
          rcases hc3 with ⟨h1, h2⟩ | ⟨h1, h2⟩
          · refine .inl ⟨h1, ?_⟩
            rw [h2]
            show some (out.getD (out.length - 1) 0 ^^^ x, o5, p5) = _
            rw [hlj, show j + 1 - 1 = j by omega, ← HG.out.2.2.2.1, ← hz]
          · refine .inr ⟨h1, ?_⟩
            rw [h2]
        have HW5 := Lib.hid (show er = 0 → WinOk o5 from fun h => by
          rcases hc3 with ⟨h1, h2⟩ | ⟨h1, h2⟩
          · exact decX_ok_win HR.out.1.win h2
          · omega)
        have hrow3 := own_keeps HG.out.1 ((Keeps.refl _ wr).drew.trans' h3.keep) (fun q hq e => by
          have := HG.out.2.2.2.2.1
          have hq' : g = q := by simpa [Value.ownBlock] using hq
          omega)
        have htk3 := HR.out.1.tk.drew.on h3
        have ht3 : t < w3.heap.size := h3.blk.lt
        have hcl3 : w3.cell? ⟨g, j, none⟩ = some (.int .u64 (last : Nat)) := (World.cell?_of_block (w := wr.drew) (a := ⟨g, j, none⟩) (h3.keep.block g (World.block_lt_of_cell? wr _ HG.out.2.1) (fun e => by have := HG.out.2.2.2.2.1; omega))).trans HG.out.2.1
        have HZ := Lib.hid hz64
        have H3 := Lib.hid (And.intro hrow3 (And.intro htk3 (And.intro hstep (And.intro ht3 hcl3))))
        clear hz hz64 hstep hrow3 htk3 ht3 hcl3 h3 hc3 hxl
        go_wp2_with fail
        refine HK.out.to (fun w' : World => w'.cell? ⟨g, j, none⟩ = some (.int .u64 (last : Nat))) (fun _ h => h) (H3.out.2.2.2.2) ?_
        clear HK hS
        have hS : (fun w' : World => w'.cell? ⟨g, j, none⟩ = some (.int .u64 (last : Nat))) (w3) := H3.out.2.2.2.2
        try simp only [List.getElem_toArray, List.getElem_cons_succ, List.getElem_cons_zero, Act.put, List.setIfInBounds_toArray, List.set_cons_zero, List.set_cons_succ]
        refine reg_take (i := 8) (v := ?_) rfl (by kernel_rfl) (by kernel_rfl) (by kernel_rfl) (fun _ _ _ h => h) (Or.inl ⟨by kernel_rfl, ?_⟩) hS ?_
        rotate_left
        · (intro w' hSw; go_simp <;> with_reducible rfl)
        try simp only [List.getElem_toArray, List.getElem_cons_succ, List.getElem_cons_zero, Act.put, List.setIfInBounds_toArray, List.set_cons_zero, List.set_cons_succ]
        have HA := Lib.hid (show (w3.alloc (.cells #[.int .u64 (z : Nat)] 54)).cell? ⟨g, j, none⟩ = some (.int .u64 (last : Nat)) from (World.cell?_of_block (w := w3) (a := ⟨g, j, none⟩) (Below.heap_alloc _ _ _ (World.block_lt_of_cell? w3 _ H3.out.2.2.2.2))).trans H3.out.2.2.2.2)
        refine reg_call (i := 9) rfl (by kernel_rfl) (fun K hK => ?_)
        have HK := Lib.hid hK
        clear hK
        go_simp
        go_wp2_with fail
        refine HK.out.to (fun w' : World => w'.cell? ⟨g, j, none⟩ = some (.int .u64 (last : Nat))) (fun _ h => h) (HA.out) ?_
        clear HK hS
        have hS : (fun w' : World => w'.cell? ⟨g, j, none⟩ = some (.int .u64 (last : Nat))) (w3.alloc (.cells #[.int .u64 (z : Nat)] 54)) := HA.out
        try simp only [List.getElem_toArray, List.getElem_cons_succ, List.getElem_cons_zero, Act.put, List.setIfInBounds_toArray, List.set_cons_zero, List.set_cons_succ]
        refine reg_call (i := 10) rfl (by kernel_rfl) (fun K hK => ?_)
        have HK := Lib.hid hK
        clear hK
        refine step_append_kept (f := fun _ => .int .u64 (z : Nat)) (D := fun k => k = w3.heap.size) (base := t + 1) (n := j + 1) (m := 1) (g := g) (xs := out.map u64V) u64Elem rfl (.tmp 41) (.tmp 50) rfl rfl rfl ?hown ?hsl ?h1 ?h63 ?hby ?hbase ?_
        case hown => exact H3.out.1.alloc _
        case hsl => exact sl_one _ _ _
        case h1 => intro j _; rfl
        case h63 => unfold maxLen; omega
        case hby => omega
        case hbase => have := H3.out.2.2.2.1; simp; omega
        intro v5 w5 ho5 hg5 hat5 hkp5
        have htk5 := H3.out.2.1.app (((Keeps.refl _ w3).alloc _).grown hg5 (fun q hq _ => hq)) (fun g hg => (H3.out.1.lt g hg).1) HT.out.2.2.2.2.1 HT.out.2.2.2.1 (by rw [HT.out.2.2.1]; exact Nat.le_refl _)
        have hstep := H3.out.2.2.1
        have hcl5 : w5.cell? ⟨g, j, none⟩ = some (.int .u64 (last : Nat)) := by
          refine hkp5 j _ ?_
          have hlj := HG.out.2.2.2.2.2.2
          rw [List.getElem?_map, HG.out.2.2.2.1, List.getD_eq_getElem?_getD, List.getElem?_eq_getElem (by omega)]
          rfl
        have HC5 := Lib.hid hcl5
        clear hg5 hat5 H3 HA hkp5 hcl5
        obtain ⟨A5, c5, hv5, -, -⟩ := own_form ho5
        subst hv5
        refine HK.out.to (fun w' : World => w'.cell? ⟨g, j, none⟩ = some (.int .u64 (last : Nat))) (fun _ h => h) (HC5.out) ?_
        clear HK hS
        have hS : (fun w' : World => w'.cell? ⟨g, j, none⟩ = some (.int .u64 (last : Nat))) (w5) := HC5.out
        try simp only [List.getElem_toArray, List.getElem_cons_succ, List.getElem_cons_zero, Act.put, List.setIfInBounds_toArray, List.set_cons_zero, List.set_cons_succ]
        refine reg_take (i := 11) (v := ?_) rfl (by kernel_rfl) (by kernel_rfl) (by kernel_rfl) (fun _ _ _ h => h) (Or.inl ⟨by kernel_rfl, ?_⟩) hS ?_
        rotate_left
        · (intro w' hSw; go_simp <;> with_reducible rfl)
        try simp only [List.getElem_toArray, List.getElem_cons_succ, List.getElem_cons_zero, Act.put, List.setIfInBounds_toArray, List.set_cons_zero, List.set_cons_succ]
        refine wpAnyH_done (by kernel_rfl) ?_ _
        try simp only [List.getElem_toArray, List.getElem_cons_succ, List.getElem_cons_zero]
        try simp only [List.getElem_toArray, List.getElem_cons_succ, List.getElem_cons_zero, Act.put, List.setIfInBounds_toArray, List.set_cons_zero, List.set_cons_succ]
        have H5 := Lib.hid (And.intro htk5 (And.intro ho5 hstep))
        have d3 := htk5.c3
        clear htk5 ho5 hstep
        rcases H5.out.2.2 with ⟨rfl, hs5⟩ | ⟨her, hs5⟩
        · have HSX := Lib.hid hs5
          clear hs5
          go_wp2_with fail
          go_roundw
          case rel =>
            refine ⟨j + 1 + 1, out ++ [z], o5, p5, by omega, by go_num, ⟨H5.out.1, ?_, getD_u HR.out.1.u64 HZ.out, HW5.out rfl⟩, by simp [HR.out.2.1], ?_⟩
            · rw [List.length_append, List.map_append, HG.out.2.2.2.2.2.2]
              exact H5.out.2.1
            · rw [HR.out.2.2.1, show n - (j + 1 + 1) = f by have := HR.out.2.2.2; omega]
              show (match stepX bs en out o p with | none => none | some q => decX bs en f (out ++ [q.1]) q.2.1 q.2.2) = _
              rw [HSX.out]
          case measure => simp [intOf]; omega
        · have hne : ¬ er = 0 := by omega
          have hfin : XDecPost w (decXL bs n) (.returned (.tuple #[.slice none 0 0, .int .i64 er])) w5.drew := by
            refine ⟨[], er, none, 0, rfl, ⟨rfl, .inl ⟨rfl, rfl⟩⟩, (HL.out _ H5.out.1.keep).drew, fun j => by simp, .inr ⟨⟨hne, rfl⟩, ?_⟩⟩
            have hd : decX bs en n [] none 0 = none := by
              rw [HR.out.2.2.1]
              show (match stepX bs en out o p with | none => none | some q => decX bs en f (out ++ [q.1]) q.2.1 q.2.2) = _
              rw [hs5]
            unfold decXL
            rw [← H1.out.2.2.2.2, hd]
          have HF := Lib.hid hfin
          clear hfin hs5 her
          go_wp2_with fail
          have hdd : w5.drew.cell? ⟨t, 3, none⟩ = some (.int .i64 er) := d3
          clear d3
          have hS : (fun w' : World => w'.cell? ⟨t, 3, none⟩ = some (.int .i64 er)) (w5.drew) := hdd
          refine reg_start (fun w' : World => w'.cell? ⟨t, 3, none⟩ = some (.int .i64 er)) (by kernel_rfl) hS ?_
          refine reg_take (i := 0) (v := ?_) rfl (by kernel_rfl) (by kernel_rfl) (by kernel_rfl) (fun _ _ _ h => h) (Or.inl ⟨by kernel_rfl, ?_⟩) hS ?_
          rotate_left
          · (intro w' hSw; go_simp <;> with_reducible rfl)
          try simp only [List.getElem_toArray, List.getElem_cons_succ, List.getElem_cons_zero, Act.put, List.setIfInBounds_toArray, List.set_cons_zero, List.set_cons_succ]
          refine reg_take (i := 1) (v := ?_) rfl (by kernel_rfl) (by kernel_rfl) (by kernel_rfl) (fun _ _ _ h => h) (Or.inl ⟨by kernel_rfl, ?_⟩) hS ?_
          rotate_left
          · (intro w' hSw; go_simp <;> with_reducible rfl)
          try simp only [List.getElem_toArray, List.getElem_cons_succ, List.getElem_cons_zero, Act.put, List.setIfInBounds_toArray, List.set_cons_zero, List.set_cons_succ]
          refine reg_take (i := 2) (v := ?_) rfl (by kernel_rfl) (by kernel_rfl) (by kernel_rfl) (fun _ _ _ h => h) (Or.inl ⟨by kernel_rfl, ?_⟩) hS ?_
          rotate_left
          · (intro w' hSw; go_simp <;> with_reducible rfl)
          try simp only [List.getElem_toArray, List.getElem_cons_succ, List.getElem_cons_zero, Act.put, List.setIfInBounds_toArray, List.set_cons_zero, List.set_cons_succ]
          refine reg_take (i := 3) (v := ?_) rfl (by kernel_rfl) (by kernel_rfl) (by kernel_rfl) (fun _ _ _ h => h) (Or.inl ⟨by kernel_rfl, ?_⟩) hS ?_
          rotate_left
          · (intro w' hSw; go_simp <;> with_reducible rfl)
          try simp only [List.getElem_toArray, List.getElem_cons_succ, List.getElem_cons_zero, Act.put, List.setIfInBounds_toArray, List.set_cons_zero, List.set_cons_succ]
          refine reg_take (i := 4) (v := ?_) rfl (by kernel_rfl) (by kernel_rfl) (by kernel_rfl) (fun _ _ _ h => h) (Or.inl ⟨by kernel_rfl, ?_⟩) hS ?_
          rotate_left
          · (intro w' hSw; go_simp <;> with_reducible rfl)
          try simp only [List.getElem_toArray, List.getElem_cons_succ, List.getElem_cons_zero, Act.put, List.setIfInBounds_toArray, List.set_cons_zero, List.set_cons_succ]
          refine reg_take (i := 5) (v := ?_) rfl (by kernel_rfl) (by kernel_rfl) (by kernel_rfl) (fun _ _ _ h => h) (Or.inl ⟨by kernel_rfl, ?_⟩) hS ?_
          rotate_left
          · (intro w' hSw; go_simp <;> with_reducible rfl)
          try simp only [List.getElem_toArray, List.getElem_cons_succ, List.getElem_cons_zero, Act.put, List.setIfInBounds_toArray, List.set_cons_zero, List.set_cons_succ]
          refine wpAnyH_done (by kernel_rfl) ?_ _
          try simp only [List.getElem_toArray, List.getElem_cons_succ, List.getElem_cons_zero]
          try simp only [List.getElem_toArray, List.getElem_cons_succ, List.getElem_cons_zero, Act.put, List.setIfInBounds_toArray, List.set_cons_zero, List.set_cons_succ]
          go_wp2_with fail
          go_ret2
          exact HF.out
    · obtain rfl : k = n := by omega
      have HR := Lib.hid (And.intro hst (And.intro hlen (hdec.trans (show decX bs en (k - k) out o p = some (out, p) by rw [Nat.sub_self]; rfl))))
      clear hst hlen hdec
      have hle := HR.out.1.tk.rd.le
      have hsm8 := HR.out.1.tk.rd.small
      have hen8 := HR.out.1.tk.rd.en_le
      obtain ⟨lf, hlf⟩ : ∃ lf : Nat, lf = en - p := ⟨_, rfl⟩
      have hni : (en : Int) - p = (lf : Int) := by omega
      have hl8 : lf ≤ 8796093022208 := by omega
      have HN := Lib.hid (And.intro hlf hle)
      clear hlf hle hsm8 hen8
      go_wp2_with fail
      refine (left_any _ _ _ _ _ _ HR.out.1.tk.rd).mono ?_
      rintro e w3 ⟨rfl, k1, rfl⟩
      rw [hni]
      clear hni
      have H3 := Lib.hid (HR.out.1.tk.re.drewN k1)
      by_cases h8 : lf < 8
      · have hmi : min (lf : Int) 64 = (lf : Int) := by omega
        have hd : decide ((64 : Int) < (lf : Int)) = false := by simp; omega
        have hd2 : decide ((lf : Int) < 64) = true := by simp; omega
        have hd3 : decide ((8 : Int) ≤ (lf : Int)) = false := by simp; omega
        have hd4 : ¬ ((8 : Int) ≤ (lf : Int)) := by omega
        go_wp2_with fail
        refine (tget_any H3.out lf (by omega)).mono ?_
        rintro e w4 ⟨rfl, h4⟩
        have hok : tget bs en 0 p lf = (gets bs p lf, 0, p + lf) := tget_ok (by have := HN.out; omega)
        rw [hok] at h4
        rw [hok]
        simp only [] at h4
        obtain ⟨z, hz⟩ : ∃ z, z = gets bs p lf := ⟨_, rfl⟩
        have hz64 : z < 18446744073709551616 := by rw [hz]; exact gets_u64 _ _ _ (by omega)
        rw [← hz]
        have H4 := Lib.hid (And.intro h4 hz)
        clear h4 hz hok hmi hd hd2
        by_cases h0 : z = 0
        · subst h0
          rw [show ((0 : Nat) : Int) = 0 from rfl]
          go_wp2_with fail
          refine (twrong_any H4.out.1 false).mono ?_
          rintro e w5 ⟨rfl, h5⟩
          rw [if_neg (by simp)] at h5
          obtain ⟨A3, c3, hv3, -, -⟩ := own_form HR.out.1.row
          have hrow5 := own_keeps HR.out.1.row h5.keep (fun q hq e => by
            have := (HR.out.1.row.lt q hq).1
            have := HT.out.2.2.2.2.1
            omega)
          have hk5 := HR.out.1.tk.on h5
          have hfin : XDecPost w (decXL bs k) (.returned (.tuple #[.slice A3 out.length c3, .int .i64 0])) w5 := by
            refine ⟨out, 0, A3, c3, rfl, own_base (hv3 ▸ hrow5) (by have := HT.out.2.2.2.2; omega), HL.out _ hk5.keep, HR.out.1.u64, .inl ⟨rfl, ?_⟩⟩
            unfold decXL
            rw [← H1.out.2.2.2.2, HR.out.2.2]
            show (if endX bs en p then some out else none) = some out
            rw [if_pos ⟨by rw [← HN.out.1]; exact h8, by rw [← HN.out.1]; exact H4.out.2.symm⟩]
          have HF := Lib.hid (And.intro hfin hv3)
          have d3 := h5.c3
          clear hfin hv3 h5 hk5 hrow5
          go_wp2_with fail
          go_ret2
          rw [HF.out.2]
          exact HF.out.1
        · have d : ((z : Int) != 0) = true := by simp; omega
          go_wp2_with fail
          try rw [d]
          refine (twrong_any H4.out.1 true).mono ?_
          rintro e w5 ⟨rfl, h5⟩
          rw [if_pos ⟨rfl, rfl⟩] at h5
          have H5 := Lib.hid h5
          clear h5
          have hfin : XDecPost w (decXL bs k) (.returned (.tuple #[.slice none 0 0, .int .i64 11])) w5.drew := by
            refine ⟨[], 11, none, 0, rfl, ⟨rfl, .inl ⟨rfl, rfl⟩⟩, (HL.out _ (HR.out.1.tk.on H5.out).keep).drew, fun j => by simp, .inr ⟨⟨by decide, rfl⟩, ?_⟩⟩
            unfold decXL
            rw [← H1.out.2.2.2.2, HR.out.2.2]
            show (if endX bs en p then some out else none) = none
            rw [if_neg (fun h => h0 (by have h2 := h.2; rw [← HN.out.1, ← H4.out.2] at h2; exact h2))]
          have HF := Lib.hid hfin
          have d3 := H5.out.c3
          clear hfin
          go_wp2_with fail
          have hdd : w5.drew.cell? ⟨t, 3, none⟩ = some (.int .i64 11) := d3
          clear d3
          have hS : (fun w' : World => w'.cell? ⟨t, 3, none⟩ = some (.int .i64 11)) (w5.drew) := hdd
          refine reg_start (fun w' : World => w'.cell? ⟨t, 3, none⟩ = some (.int .i64 11)) (by kernel_rfl) hS ?_
          refine reg_take (i := 0) (v := ?_) rfl (by kernel_rfl) (by kernel_rfl) (by kernel_rfl) (fun _ _ _ h => h) (Or.inl ⟨by kernel_rfl, ?_⟩) hS ?_
          rotate_left
          · (intro w' hSw; go_simp <;> with_reducible rfl)
          try simp only [List.getElem_toArray, List.getElem_cons_succ, List.getElem_cons_zero, Act.put, List.setIfInBounds_toArray, List.set_cons_zero, List.set_cons_succ]
          refine reg_take (i := 1) (v := ?_) rfl (by kernel_rfl) (by kernel_rfl) (by kernel_rfl) (fun _ _ _ h => h) (Or.inl ⟨by kernel_rfl, ?_⟩) hS ?_
          rotate_left
          · (intro w' hSw; go_simp <;> with_reducible rfl)
          try simp only [List.getElem_toArray, List.getElem_cons_succ, List.getElem_cons_zero, Act.put, List.setIfInBounds_toArray, List.set_cons_zero, List.set_cons_succ]
          refine reg_take (i := 2) (v := ?_) rfl (by kernel_rfl) (by kernel_rfl) (by kernel_rfl) (fun _ _ _ h => h) (Or.inl ⟨by kernel_rfl, ?_⟩) hS ?_
          rotate_left
          · (intro w' hSw; go_simp <;> with_reducible rfl)
          try simp only [List.getElem_toArray, List.getElem_cons_succ, List.getElem_cons_zero, Act.put, List.setIfInBounds_toArray, List.set_cons_zero, List.set_cons_succ]
          refine reg_take (i := 3) (v := ?_) rfl (by kernel_rfl) (by kernel_rfl) (by kernel_rfl) (fun _ _ _ h => h) (Or.inl ⟨by kernel_rfl, ?_⟩) hS ?_
          rotate_left
          · (intro w' hSw; go_simp <;> with_reducible rfl)
          try simp only [List.getElem_toArray, List.getElem_cons_succ, List.getElem_cons_zero, Act.put, List.setIfInBounds_toArray, List.set_cons_zero, List.set_cons_succ]
          refine reg_take (i := 4) (v := ?_) rfl (by kernel_rfl) (by kernel_rfl) (by kernel_rfl) (fun _ _ _ h => h) (Or.inl ⟨by kernel_rfl, ?_⟩) hS ?_
          rotate_left
          · (intro w' hSw; go_simp <;> with_reducible rfl)
          try simp only [List.getElem_toArray, List.getElem_cons_succ, List.getElem_cons_zero, Act.put, List.setIfInBounds_toArray, List.set_cons_zero, List.set_cons_succ]
          refine reg_take (i := 5) (v := ?_) rfl (by kernel_rfl) (by kernel_rfl) (by kernel_rfl) (fun _ _ _ h => h) (Or.inl ⟨by kernel_rfl, ?_⟩) hS ?_
          rotate_left
          · (intro w' hSw; go_simp <;> with_reducible rfl)
          try simp only [List.getElem_toArray, List.getElem_cons_succ, List.getElem_cons_zero, Act.put, List.setIfInBounds_toArray, List.set_cons_zero, List.set_cons_succ]
          refine wpAnyH_done (by kernel_rfl) ?_ _
          try simp only [List.getElem_toArray, List.getElem_cons_succ, List.getElem_cons_zero]
          try simp only [List.getElem_toArray, List.getElem_cons_succ, List.getElem_cons_zero, Act.put, List.setIfInBounds_toArray, List.set_cons_zero, List.set_cons_succ]
          go_wp2_with fail
          go_ret2
          exact HF.out
      · have hd3 : decide ((8 : Int) ≤ (lf : Int)) = true := by simp; omega
        have hd4 : (8 : Int) ≤ (lf : Int) := by omega
        go_wp2_with fail
        refine (twrong_any H3.out true).mono ?_
        rintro e w5 ⟨rfl, h5⟩
        rw [if_pos ⟨rfl, rfl⟩] at h5
        have H5 := Lib.hid h5
        clear h5
        have hfin : XDecPost w (decXL bs k) (.returned (.tuple #[.slice none 0 0, .int .i64 11])) w5.drew := by
          refine ⟨[], 11, none, 0, rfl, ⟨rfl, .inl ⟨rfl, rfl⟩⟩, (HL.out _ (HR.out.1.tk.on H5.out).keep).drew, fun j => by simp, .inr ⟨⟨by decide, rfl⟩, ?_⟩⟩
          unfold decXL
          rw [← H1.out.2.2.2.2, HR.out.2.2]
          show (if endX bs en p then some out else none) = none
          rw [if_neg (fun h => h8 (by have h1 := h.1; rw [← HN.out.1] at h1; exact h1))]
        have HF := Lib.hid hfin
        have d3 := H5.out.c3
        clear hfin
        go_wp2_with fail
        have hdd : w5.drew.cell? ⟨t, 3, none⟩ = some (.int .i64 11) := d3
        clear d3
        have hS : (fun w' : World => w'.cell? ⟨t, 3, none⟩ = some (.int .i64 11)) (w5.drew) := hdd
        refine reg_start (fun w' : World => w'.cell? ⟨t, 3, none⟩ = some (.int .i64 11)) (by kernel_rfl) hS ?_
        refine reg_take (i := 0) (v := ?_) rfl (by kernel_rfl) (by kernel_rfl) (by kernel_rfl) (fun _ _ _ h => h) (Or.inl ⟨by kernel_rfl, ?_⟩) hS ?_
        rotate_left
        · (intro w' hSw; go_simp <;> with_reducible rfl)
        try simp only [List.getElem_toArray, List.getElem_cons_succ, List.getElem_cons_zero, Act.put, List.setIfInBounds_toArray, List.set_cons_zero, List.set_cons_succ]
        refine reg_take (i := 1) (v := ?_) rfl (by kernel_rfl) (by kernel_rfl) (by kernel_rfl) (fun _ _ _ h => h) (Or.inl ⟨by kernel_rfl, ?_⟩) hS ?_
        rotate_left
        · (intro w' hSw; go_simp <;> with_reducible rfl)
        try simp only [List.getElem_toArray, List.getElem_cons_succ, List.getElem_cons_zero, Act.put, List.setIfInBounds_toArray, List.set_cons_zero, List.set_cons_succ]
        refine reg_take (i := 2) (v := ?_) rfl (by kernel_rfl) (by kernel_rfl) (by kernel_rfl) (fun _ _ _ h => h) (Or.inl ⟨by kernel_rfl, ?_⟩) hS ?_
        rotate_left
        · (intro w' hSw; go_simp <;> with_reducible rfl)
        try simp only [List.getElem_toArray, List.getElem_cons_succ, List.getElem_cons_zero, Act.put, List.setIfInBounds_toArray, List.set_cons_zero, List.set_cons_succ]
        refine reg_take (i := 3) (v := ?_) rfl (by kernel_rfl) (by kernel_rfl) (by kernel_rfl) (fun _ _ _ h => h) (Or.inl ⟨by kernel_rfl, ?_⟩) hS ?_
        rotate_left
        · (intro w' hSw; go_simp <;> with_reducible rfl)
        try simp only [List.getElem_toArray, List.getElem_cons_succ, List.getElem_cons_zero, Act.put, List.setIfInBounds_toArray, List.set_cons_zero, List.set_cons_succ]
        refine reg_take (i := 4) (v := ?_) rfl (by kernel_rfl) (by kernel_rfl) (by kernel_rfl) (fun _ _ _ h => h) (Or.inl ⟨by kernel_rfl, ?_⟩) hS ?_
        rotate_left
        · (intro w' hSw; go_simp <;> with_reducible rfl)
        try simp only [List.getElem_toArray, List.getElem_cons_succ, List.getElem_cons_zero, Act.put, List.setIfInBounds_toArray, List.set_cons_zero, List.set_cons_succ]
        refine reg_take (i := 5) (v := ?_) rfl (by kernel_rfl) (by kernel_rfl) (by kernel_rfl) (fun _ _ _ h => h) (Or.inl ⟨by kernel_rfl, ?_⟩) hS ?_
        rotate_left
        · (intro w' hSw; go_simp <;> with_reducible rfl)
        try simp only [List.getElem_toArray, List.getElem_cons_succ, List.getElem_cons_zero, Act.put, List.setIfInBounds_toArray, List.set_cons_zero, List.set_cons_succ]
        refine wpAnyH_done (by kernel_rfl) ?_ _
        try simp only [List.getElem_toArray, List.getElem_cons_succ, List.getElem_cons_zero]
        try simp only [List.getElem_toArray, List.getElem_cons_succ, List.getElem_cons_zero, Act.put, List.setIfInBounds_toArray, List.set_cons_zero, List.set_cons_succ]
        go_wp2_with fail
        go_ret2
        exact HF.out
end Go.Proofs.YtopbbicjbjmdnaaGreatDoor.X
namespace Go.Proofs.YtopbbicjbjmdnaaGreatDoor.X
set_option maxRecDepth 100000
theorem gets_one (bs : List Nat) (p : Nat) : gets bs p 1 = bitOf bs p := by show 2 * 0 + bitOf bs (p + 0) = _; simp
theorem gets_two (bs : List Nat) (p : Nat) : gets bs p 2 = 2 * gets bs p 1 + gets bs (p + 1) 1 := by
  rw [gets_one, gets_one]
  show 2 * gets bs p 1 + bitOf bs (p + 1) = _
  rw [gets_one]
theorem gets_one_lt (bs : List Nat) (p : Nat) : gets bs p 1 < 2 := gets_lt bs p 1
/-- A number in a window: its leading and trailing bits are the window's, or more. -/
theorem win_spec {v l t : Nat} (hlt : l + t ≤ 63) (h0 : v ≠ 0) (hv : v < 2 ^ (64 - l - t)) : v * 2 ^ t < 18446744073709551616 ∧ v * 2 ^ t ≠ 0 ∧ l ≤ lead (v * 2 ^ t) ∧ t ≤ trail (v * 2 ^ t) ∧ v * 2 ^ t / 2 ^ t = v := by
  have hp : 0 < 2 ^ t := Nat.two_pow_pos t
  have hx : v * 2 ^ t < 18446744073709551616 := shift_lt hv (by omega)
  have hx0 : 0 < v * 2 ^ t := Nat.mul_pos (by omega) hp
  have hxl : v * 2 ^ t < 2 ^ (64 - l) := by
    rw [show 64 - l = (64 - l - t) + t by omega, Nat.pow_add]
    exact Nat.mul_lt_mul_of_pos_right hv hp
  refine ⟨hx, by omega, ?_, ?_, Nat.mul_div_cancel _ hp⟩
  · obtain ⟨h1, h2, h3⟩ := lead_spec hx0 hx
    rcases Nat.lt_or_ge (lead (v * 2 ^ t)) l with hlt' | hge
    · have : 2 ^ (64 - l) ≤ 2 ^ (63 - lead (v * 2 ^ t)) := Nat.pow_le_pow_right (by omega) (by omega)
      omega
    · exact hge
  · have hv64 : v < 18446744073709551616 := Nat.lt_of_lt_of_le hv (Nat.le_trans (Nat.pow_le_pow_right (by omega) (show 64 - l - t ≤ 64 by omega)) (by decide))
    obtain ⟨-, m, hm⟩ := trail_spec (by omega) hv64
    have : trail (v * 2 ^ t) = trail v + t := by
      refine trail_uniq (m := m) hx ?_
      rw [Nat.pow_add, Nat.mul_assoc, Nat.mul_comm (2 ^ t), ← Nat.mul_assoc, ← hm]
    omega
/-- .. and a number whose leading and trailing bits are so lies in the window. -/
theorem win_back {x l t : Nat} (hx : x < 18446744073709551616) (h0 : x ≠ 0) (hl : l ≤ lead x) (ht : t ≤ trail x) : x / 2 ^ t < 2 ^ (64 - l - t) ∧ x / 2 ^ t ≠ 0 ∧ x / 2 ^ t * 2 ^ t = x ∧ l + t ≤ 63 := by
  have hp : 0 < 2 ^ t := Nat.two_pow_pos t
  have hw := window_le (by omega) hx
  obtain ⟨h1, h2, h3⟩ := lead_spec (u := x) (by omega) hx
  obtain ⟨h4, m, hm⟩ := trail_spec (u := x) (by omega) hx
  have hd : x / 2 ^ t * 2 ^ t = x := by
    refine Nat.div_mul_cancel ?_
    refine ⟨2 ^ (trail x - t) * (2 * m + 1), ?_⟩
    rw [← Nat.mul_assoc, ← Nat.pow_add, show t + (trail x - t) = trail x by omega]
    exact hm
  refine ⟨?_, ?_, hd, by omega⟩
  · refine Nat.div_lt_of_lt_mul ?_
    rw [← Nat.pow_add]
    refine Nat.lt_of_lt_of_le h3 (Nat.pow_le_pow_right (by omega) (by omega))
  · intro he
    rw [he] at hd
    omega
theorem mark2 {bs L : List Nat} (h : Begins bs L) (hr : L.length + 1 + 1 ≤ 8 * bs.length) (h1 : ¬ gets bs L.length 1 = 0) {b : Nat} (h2 : gets bs (L.length + 1) 1 = b) : Begins bs (L ++ bitsTo (2 + b) 2 2) := by
  refine h.put (by omega) ?_
  rw [gets_two, h2]
  have := gets_one_lt bs L.length
  omega
theorem nextX_bwd {bs L : List Nat} {o o' : Option (Nat × Nat)} {x p' : Nat} (ho : WinOk o) (hb : Begins bs L) (h : nextX bs (8 * bs.length) o L.length = some (x, o', p')) :
    Begins bs (L ++ xbits o x) ∧ o' = nextW o x ∧ p' = (L ++ xbits o x).length ∧ x < 18446744073709551616 := by
  unfold nextX at h
  split at h
  · rename_i hr1
    split at h
    · rename_i hz
      injection h with h
      injection h with hx h
      injection h with h2 h3
      subst hx
      subst h2
      have e : xbits o 0 = bitsTo 0 1 1 := by unfold xbits; rw [if_pos rfl]
      rw [e]
      refine ⟨hb.put hr1 hz, by unfold nextW; rw [if_pos rfl], ?_, by omega⟩
      rw [List.length_append, bitsTo_length, h3]
    · rename_i hnz
      split at h
      · rename_i hr2
        split at h
        · rename_i hz2
          have hm := mark2 hb hr2 hnz hz2
          unfold oldX at h
          split at h
          · cases h
          · rename_i l t
            split at h
            · rename_i hr3
              split at h
              · cases h
              · rename_i hv0
                injection h with h
                injection h with hx h
                injection h with h2 h3
                have hlt : l + t ≤ 63 := ho _ rfl
                obtain ⟨w1, w2, w3, w4, w5⟩ := win_spec hlt hv0 (gets_lt bs (L.length + 1 + 1) (64 - l - t))
                rw [hx] at w1 w2 w3 w4 w5
                have hf : fits (some (l, t)) x = true := by
                  unfold fits
                  simp [w3, w4]
                obtain ⟨e1, e2⟩ := xbits_old w2 hf
                have hml : (L ++ bitsTo (2 + 0) 2 2).length = L.length + 1 + 1 := by rw [List.length_append, bitsTo_length]
                have hB := hm.put (n := 64 - l - t) (v := x / 2 ^ t) (by rw [hml]; exact hr3) (by rw [hml, w5])
                rw [e1, e2, ← List.append_assoc]
                refine ⟨hB, h2.symm, ?_, w1⟩
                rw [List.length_append, hml, bitsTo_length, h3]
            · cases h
        · rename_i hz2
          have hz3 : gets bs (L.length + 1) 1 = 1 := by have := gets_one_lt bs (L.length + 1); omega
          have hm := mark2 hb hr2 hnz hz3
          have hml : (L ++ bitsTo (2 + 1) 2 2).length = L.length + 1 + 1 := by rw [List.length_append, bitsTo_length]
          unfold newX at h
          split at h
          · rename_i hr4
            split at h
            · rename_i hr5
              unfold newY at h
              split at h
              · rename_i hlm
                split at h
                · rename_i hr6
                  split at h
                  · rename_i hc
                    injection h with h
                    injection h with hx h
                    injection h with h2 h3
                    rw [hx] at hc
                    obtain ⟨c1, c2, c3, c4⟩ := hc
                    obtain ⟨e1, e2⟩ := xbits_new c1 c4
                    have hB1 := hm.put (n := 6) (v := lead x) (by rw [hml]; exact hr4) (by rw [hml]; exact c2.symm)
                    have hl1 : (L ++ bitsTo (2 + 1) 2 2 ++ bitsTo (lead x) 6 6).length = L.length + 1 + 1 + 6 := by rw [List.length_append, hml, bitsTo_length]
                    have hB2 := hB1.put (n := 6) (v := 64 - lead x - trail x - 1) (by rw [hl1]; exact hr5) (by rw [hl1, c3]; omega)
                    have hl2 : (L ++ bitsTo (2 + 1) 2 2 ++ bitsTo (lead x) 6 6 ++ bitsTo (64 - lead x - trail x - 1) 6 6).length = L.length + 1 + 1 + 6 + 6 := by rw [List.length_append, hl1, bitsTo_length]
                    have hmm : 64 - lead x - trail x = gets bs (L.length + 1 + 1 + 6) 6 + 1 := by omega
                    have hxt : x / 2 ^ trail x = gets bs (L.length + 1 + 1 + 6 + 6) (64 - lead x - trail x) := by
                      rw [hmm, c3, ← hx, Nat.mul_div_cancel _ (Nat.two_pow_pos _)]
                    have hB3 := hB2.put (n := 64 - lead x - trail x) (v := x / 2 ^ trail x) (by rw [hl2, hmm]; exact hr6) (by rw [hl2]; exact hxt.symm)
                    have h64 : x < 18446744073709551616 := by
                      rw [← hx]
                      exact shift_lt (gets_lt _ _ _) (by omega)
                    have ee : L ++ xbits o x = L ++ bitsTo (2 + 1) 2 2 ++ bitsTo (lead x) 6 6 ++ bitsTo (64 - lead x - trail x - 1) 6 6 ++ bitsTo (x / 2 ^ trail x) (64 - lead x - trail x) (64 - lead x - trail x) := by
                      rw [e1]; simp only [List.append_assoc]
                    rw [ee, e2]
                    refine ⟨hB3, ?_, ?_, h64⟩
                    · rw [← h2, c2, c3]
                    · rw [List.length_append, hl2, bitsTo_length, hmm, h3]
                  · cases h
                · cases h
              · cases h
            · cases h
          · cases h
      · cases h
  · cases h
theorem nextX_fwd {bs L : List Nat} {o : Option (Nat × Nat)} {x : Nat} (ho : WinOk o) (hx : x < 18446744073709551616) (h : Begins bs (L ++ xbits o x)) :
    nextX bs (8 * bs.length) o L.length = some (x, nextW o x, (L ++ xbits o x).length) := by
  have hroom := h.room
  by_cases h0 : x = 0
  · subst h0
    have e : xbits o 0 = bitsTo 0 1 1 := by unfold xbits; rw [if_pos rfl]
    rw [e] at h hroom ⊢
    rw [bitsTo_length] at hroom
    unfold nextX
    rw [if_pos hroom, if_pos (h.get (by decide)), List.length_append, bitsTo_length]
    unfold nextW
    rw [if_pos rfl]
  · cases hf : fits o x with
    | true =>
      match o, ho, hf, h, hroom with
      | none, _, hf, _, _ => cases hf
      | some (l, t), ho, hf, h, hroom =>
        obtain ⟨e1, e2⟩ := xbits_old h0 hf
        have hf' := hf
        unfold fits at hf'
        simp only [Bool.and_eq_true, decide_eq_true_eq] at hf'
        obtain ⟨b1, b2, b3, b4⟩ := win_back hx h0 hf'.1 hf'.2
        rw [e1, ← List.append_assoc] at h
        rw [e1, List.length_append, bitsTo_length, bitsTo_length] at hroom
        have hm := h.pre.get (by decide)
        rw [gets_two] at hm
        have g1 := gets_one_lt bs L.length
        have g2 := gets_one_lt bs (L.length + 1)
        have hml : (L ++ bitsTo 2 2 2).length = L.length + 1 + 1 := by rw [List.length_append, bitsTo_length]
        have hg := h.get b1
        rw [hml] at hg
        unfold nextX
        rw [if_pos (by omega), if_neg (by omega), if_pos (by omega), if_pos (by omega)]
        unfold oldX
        show (if L.length + 1 + 1 + (64 - l - t) ≤ 8 * bs.length then _ else _) = _
        rw [if_pos (by omega), hg, if_neg b2, b3, e2, e1, ← List.append_assoc, List.length_append, hml, bitsTo_length]
    | false =>
      obtain ⟨e1, e2⟩ := xbits_new h0 hf
      have hw := window_le (u := x) (by omega) hx
      obtain ⟨b1, b2, b3, -⟩ := win_back hx h0 (Nat.le_refl _) (Nat.le_refl _)
      have ee : L ++ xbits o x = L ++ bitsTo 3 2 2 ++ bitsTo (lead x) 6 6 ++ bitsTo (64 - lead x - trail x - 1) 6 6 ++ bitsTo (x / 2 ^ trail x) (64 - lead x - trail x) (64 - lead x - trail x) := by
        rw [e1]; simp only [List.append_assoc]
      rw [ee] at h ⊢
      have hml : (L ++ bitsTo 3 2 2).length = L.length + 1 + 1 := by rw [List.length_append, bitsTo_length]
      have hl1 : (L ++ bitsTo 3 2 2 ++ bitsTo (lead x) 6 6).length = L.length + 1 + 1 + 6 := by rw [List.length_append, hml, bitsTo_length]
      have hl2 : (L ++ bitsTo 3 2 2 ++ bitsTo (lead x) 6 6 ++ bitsTo (64 - lead x - trail x - 1) 6 6).length = L.length + 1 + 1 + 6 + 6 := by rw [List.length_append, hl1, bitsTo_length]
      have hr := h.room
      rw [hl2, bitsTo_length] at hr
      have hm := h.pre.pre.pre.get (by decide)
      rw [gets_two] at hm
      have q1 := h.pre.pre.get (by show lead x < 64; omega)
      have q2 := h.pre.get (by show 64 - lead x - trail x - 1 < 64; omega)
      have q3 := h.get b1
      rw [hml] at q1
      rw [hl1] at q2
      rw [hl2] at q3
      have g1 := gets_one_lt bs L.length
      have g2 := gets_one_lt bs (L.length + 1)
      unfold nextX
      rw [if_pos (by omega), if_neg (by omega), if_pos (by omega), if_neg (by omega)]
      unfold newX
      rw [if_pos (by omega), if_pos (by omega), q1, q2, show 64 - lead x - trail x - 1 + 1 = 64 - lead x - trail x by omega]
      unfold newY
      rw [if_pos (by omega), if_pos (by omega), show 64 - lead x - (64 - lead x - trail x) = trail x by omega, q3, b3, if_pos ⟨h0, rfl, rfl, hf⟩, e2, List.length_append, hl2, bitsTo_length]
theorem xencTo_congr {f g : Nat → Nat} : ∀ k, (∀ j, j < k → f j = g j) → xencTo f k = xencTo g k ∧ xwin f k = xwin g k
  | 0, _ => ⟨rfl, rfl⟩
  | 1, h => ⟨by show bitsTo (f 0) 64 64 = bitsTo (g 0) 64 64; rw [h 0 (by omega)], rfl⟩
  | k + 2, h => by
    obtain ⟨h1, h2⟩ := xencTo_congr (k + 1) (fun j hj => h j (by omega))
    refine ⟨?_, ?_⟩
    · show xencTo f (k + 1) ++ xbits (xwin f (k + 1)) (f (k + 1) ^^^ f k) = xencTo g (k + 1) ++ xbits (xwin g (k + 1)) (g (k + 1) ^^^ g k)
      rw [h1, h2, h k (by omega), h (k + 1) (by omega)]
    · show nextW (xwin f (k + 1)) (f (k + 1) ^^^ f k) = nextW (xwin g (k + 1)) (g (k + 1) ^^^ g k)
      rw [h2, h k (by omega), h (k + 1) (by omega)]
theorem xencTo_pre (f : Nat → Nat) (k : Nat) : ∀ n, k ≤ n → ∃ M, xencTo f n = xencTo f k ++ M := by
  intro n
  induction n with
  | zero => intro h; obtain rfl : k = 0 := by omega
            exact ⟨[], by simp⟩
  | succ n ih =>
    intro h
    by_cases he : k = n + 1
    · subst he; exact ⟨[], by simp⟩
    · obtain ⟨M, hM⟩ := ih (by omega)
      match n, hM with
      | 0, hM => obtain rfl : k = 0 := by omega
                 exact ⟨xencTo f 1, rfl⟩
      | n + 1, hM =>
        refine ⟨M ++ xbits (xwin f (n + 1)) (f (n + 1) ^^^ f n), ?_⟩
        show xencTo f (n + 1) ++ _ = _
        rw [hM, List.append_assoc]
/-- The first k numbers. -/
def upToN (f : Nat → Nat) (k : Nat) : List Nat := (List.range k).map f
theorem upToN_length (f : Nat → Nat) (k : Nat) : (upToN f k).length = k := by simp [upToN]
theorem upToN_succ (f : Nat → Nat) (k : Nat) : upToN f (k + 1) = upToN f k ++ [f k] := by simp [upToN, List.range_succ]
theorem upToN_getD (f : Nat → Nat) (k j : Nat) (h : j < k) : (upToN f k).getD j 0 = f j := by
  unfold upToN
  rw [List.getD_eq_getElem?_getD, List.getElem?_map, List.getElem?_range h]; rfl
theorem xor_back (a b : Nat) : a ^^^ (b ^^^ a) = b := by
  rw [Nat.xor_comm b a, ← Nat.xor_assoc, Nat.xor_self, Nat.zero_xor]
theorem xor_back' (a b : Nat) : (a ^^^ b) ^^^ a = b := by
  rw [Nat.xor_comm (a ^^^ b) a, ← Nat.xor_assoc, Nat.xor_self, Nat.zero_xor]
theorem stepX_fwd {bs : List Nat} {f : Nat → Nat} {k : Nat} (hf : ∀ j, f j < 18446744073709551616) (h : Begins bs (xencTo f (k + 1))) :
    stepX bs (8 * bs.length) (upToN f k) (xwin f k) (xencTo f k).length = some (f k, xwin f (k + 1), (xencTo f (k + 1)).length) := by
  match k with
  | 0 =>
    have h' : Begins bs ([] ++ bitsTo (f 0) 64 64) := h
    have hg : gets bs 0 64 = f 0 := h'.get (hf 0)
    have hroom : 0 + 64 ≤ 8 * bs.length := by have := h'.room; rw [bitsTo_length] at this; exact this
    unfold stepX
    rw [upToN_length, if_pos rfl]
    show (if 0 + 64 ≤ 8 * bs.length then some (gets bs 0 64, none, 0 + 64) else none) = some (f 0, none, (bitsTo (f 0) 64 64).length)
    rw [if_pos hroom, hg, bitsTo_length]
  | k + 1 =>
    have h' : Begins bs (xencTo f (k + 1) ++ xbits (xwin f (k + 1)) (f (k + 1) ^^^ f k)) := h
    have ht := nextX_fwd (xwin_ok hf (k + 1)) (xor_lt (hf _) (hf _)) h'
    unfold stepX
    rw [upToN_length, if_neg (by omega), ht]
    show some ((upToN f (k + 1)).getD (k + 1 - 1) 0 ^^^ (f (k + 1) ^^^ f k), _, _) = _
    rw [show k + 1 - 1 = k by omega, upToN_getD f (k + 1) k (by omega), xor_back]
    rfl
theorem decX_fwd {bs : List Nat} {f : Nat → Nat} {n : Nat} (hf : ∀ j, f j < 18446744073709551616) (h : Begins bs (xencTo f n)) : ∀ m k, m + k = n → decX bs (8 * bs.length) m (upToN f k) (xwin f k) (xencTo f k).length = some (upToN f n, (xencTo f n).length)
  | 0, k, hk => by
    obtain rfl : k = n := by omega
    rfl
  | m + 1, k, hk => by
    obtain ⟨M, hM⟩ := xencTo_pre f (k + 1) n (by omega)
    have hb : Begins bs (xencTo f (k + 1)) := by rw [hM] at h; exact h.pre
    unfold decX
    rw [stepX_fwd hf hb]
    show decX bs (8 * bs.length) m (upToN f k ++ [f k]) (xwin f (k + 1)) (xencTo f (k + 1)).length = _
    rw [← upToN_succ]
    exact decX_fwd hf h m (k + 1) (by omega)
theorem xdec_back {f : Nat → Nat} (hf : ∀ j, f j < 18446744073709551616) (n : Nat) : decXL (pack (xencTo f n)) n = some (upToN f n) := by
  have hb := xencTo_bit f n
  have h : decX (pack (xencTo f n)) (8 * (pack (xencTo f n)).length) n [] none 0 = some (upToN f n, (xencTo f n).length) := decX_fwd hf (Begins.pack hb) n 0 (by omega)
  unfold decXL
  rw [h]
  show (if endX _ _ (xencTo f n).length then some (upToN f n) else none) = _
  rw [if_pos]
  unfold endX
  rw [gets_pack_end hb, pack_length]
  refine ⟨?_, rfl⟩
  omega
theorem stepX_bwd {bs out : List Nat} {t p' : Nat} {o' : Option (Nat × Nat)} (hu : ∀ j, out.getD j 0 < 18446744073709551616) (hb : Begins bs (xencTo (fun j => out.getD j 0) out.length))
    (h : stepX bs (8 * bs.length) out (xwin (fun j => out.getD j 0) out.length) (xencTo (fun j => out.getD j 0) out.length).length = some (t, o', p')) :
    Begins bs (xencTo (fun j => (out ++ [t]).getD j 0) (out.length + 1)) ∧ o' = xwin (fun j => (out ++ [t]).getD j 0) (out.length + 1) ∧ p' = (xencTo (fun j => (out ++ [t]).getD j 0) (out.length + 1)).length ∧ t < 18446744073709551616 := by
  have hg : ∀ j, j < out.length → out.getD j 0 = (out ++ [t]).getD j 0 := fun j hj => by
    rw [List.getD_eq_getElem?_getD, List.getD_eq_getElem?_getD, List.getElem?_append_left hj]
  have hlast : (out ++ [t]).getD out.length 0 = t := by
    rw [List.getD_eq_getElem?_getD]; simp
  obtain ⟨c1, c2⟩ := xencTo_congr out.length hg
  unfold stepX at h
  cases hl : out.length with
  | zero =>
    have ho : out = [] := List.eq_nil_of_length_eq_zero hl
    subst ho
    rw [if_pos (show ([] : List Nat).length = 0 from rfl)] at h
    have h' : (if 0 + 64 ≤ 8 * bs.length then some (gets bs 0 64, (none : Option (Nat × Nat)), 0 + 64) else none) = some (t, o', p') := h
    split at h'
    · rename_i hfit
      injection h' with h'
      injection h' with h1 h2
      injection h2 with h2 h3
      have hz := gets_u64 bs 0 64 (by omega)
      have hB := (Begins.nil bs).put (n := 64) (v := gets bs 0 64) hfit rfl
      have e : xencTo (fun j => ([] ++ [t]).getD j 0) (0 + 1) = [] ++ bitsTo (gets bs 0 64) 64 64 := by
        show bitsTo t 64 64 = _
        rw [← h1]
        rfl
      rw [e]
      refine ⟨hB, h2.symm, ?_, by rw [← h1]; exact hz⟩
      rw [← h3, List.nil_append, bitsTo_length]
    · cases h'
  | succ k =>
    rw [if_neg (by omega)] at h
    rw [hl] at hb h c1 c2
    cases htk : nextX bs (8 * bs.length) (xwin (fun j => out.getD j 0) (k + 1)) (xencTo (fun j => out.getD j 0) (k + 1)).length with
    | none => rw [htk] at h; cases h
    | some q =>
      obtain ⟨x, o2, p2⟩ := q
      rw [htk] at h
      injection h with h
      injection h with h1 h2
      injection h2 with h2 h3
      simp only [] at h1 h2 h3
      obtain ⟨hB, hq, hd, hx⟩ := nextX_bwd (xwin_ok hu (k + 1)) hb htk
      rw [show k + 1 - 1 = k by omega] at h1
      have e1 : (out ++ [t]).getD (k + 1) 0 = t := by rw [← hl]; exact hlast
      have e2 : (out ++ [t]).getD k 0 = out.getD k 0 := (hg k (by omega)).symm
      have e3 : t ^^^ out.getD k 0 = x := by rw [← h1, xor_back']
      have e : xencTo (fun j => (out ++ [t]).getD j 0) (k + 1 + 1) = xencTo (fun j => out.getD j 0) (k + 1) ++ xbits (xwin (fun j => out.getD j 0) (k + 1)) x := by
        show xencTo (fun j => (out ++ [t]).getD j 0) (k + 1) ++ xbits (xwin (fun j => (out ++ [t]).getD j 0) (k + 1)) ((out ++ [t]).getD (k + 1) 0 ^^^ (out ++ [t]).getD k 0) = _
        rw [← c1, ← c2, e1, e2, e3]
      rw [e]
      refine ⟨hB, ?_, by rw [← h3, hd], by rw [← h1]; exact xor_lt (hu k) hx⟩
      show o' = nextW (xwin (fun j => (out ++ [t]).getD j 0) (k + 1)) ((out ++ [t]).getD (k + 1) 0 ^^^ (out ++ [t]).getD k 0)
      rw [← c2, e1, e2, e3, ← hq, h2]
theorem decX_bwd {bs : List Nat} {l : List Nat} {q : Nat} : ∀ m (out : List Nat), (∀ j, out.getD j 0 < 18446744073709551616) → Begins bs (xencTo (fun j => out.getD j 0) out.length) →
    decX bs (8 * bs.length) m out (xwin (fun j => out.getD j 0) out.length) (xencTo (fun j => out.getD j 0) out.length).length = some (l, q) →
    l.length = out.length + m ∧ Begins bs (xencTo (fun j => l.getD j 0) l.length) ∧ q = (xencTo (fun j => l.getD j 0) l.length).length
  | 0, out, _, hb, h => by
    injection h with h
    injection h with h1 h2
    subst h1
    exact ⟨rfl, hb, h2.symm⟩
  | m + 1, out, hu, hb, h => by
    unfold decX at h
    cases hn : stepX bs (8 * bs.length) out (xwin (fun j => out.getD j 0) out.length) (xencTo (fun j => out.getD j 0) out.length).length with
    | none => rw [hn] at h; cases h
    | some r =>
      obtain ⟨t, o', p'⟩ := r
      rw [hn] at h
      have h' : decX bs (8 * bs.length) m (out ++ [t]) o' p' = some (l, q) := h
      obtain ⟨h1, h2, h3, h4⟩ := stepX_bwd hu hb hn
      have hl : (out ++ [t]).length = out.length + 1 := by simp
      rw [h2, h3] at h'
      have := decX_bwd m (out ++ [t]) (getD_u hu h4) (by rw [hl]; exact h1) (by rw [hl]; exact h')
      rw [hl] at this
      exact ⟨by omega, this.2⟩
theorem xdec_one {bs : List Nat} (hbyte : ∀ j, bs.getD j 0 < 256) {n : Nat} {l : List Nat} (h : decXL bs n = some l) : l.length = n ∧ pack (xencTo (fun j => l.getD j 0) n) = bs := by
  unfold decXL at h
  cases hd : decX bs (8 * bs.length) n [] none 0 with
  | none => rw [hd] at h; cases h
  | some r =>
    obtain ⟨o, q⟩ := r
    rw [hd] at h
    have h' : (if endX bs (8 * bs.length) q then some o else none) = some l := h
    split at h'
    · rename_i hend
      injection h' with h1
      subst h1
      obtain ⟨g1, g2, g3⟩ := decX_bwd n [] (fun j => by simp) (Begins.nil bs) hd
      have hl : o.length = n := by simpa using g1
      refine ⟨hl, ?_⟩
      rw [hl] at g2 g3
      obtain ⟨e1, e2⟩ := hend
      rw [g3] at e1 e2
      have := g2.le
      exact (g2.all hbyte (xencTo_bit _ _) (by omega) e2).symm
    · cases h'
end Go.Proofs.YtopbbicjbjmdnaaGreatDoor.X
namespace Go.Proofs.YtopbbicjbjmdnaaGreatDoor.X
set_option maxRecDepth 100000
open Go.RowKit
set_option linter.unusedVariables false
set_option linter.unusedSimpArgs false
theorem row_bytes {w : World} {base : Nat} {A : Option Addr} {n c : Nat} {bs : List Nat} (hn : bs.length = n) (h : w.ownsRow base 5 1 (.slice A n c) n (bs.map byteV)) : Sl w (fun k => (Value.slice A n c).ownBlock = some k) A n (byteC bs) := by
  refine Sl.of_own h ?_
  intro j u hu
  rw [List.getElem?_map] at hu
  cases hj : bs[j]? with
  | none => rw [hj] at hu; cases hu
  | some x => rw [hj] at hu; injection hu with hu; unfold byteC; rw [List.getD_eq_getElem?_getD, hj]; exact hu.symm
theorem pack_byte (L : List Nat) (h : ∀ j, L.getD j 0 < 2) (j : Nat) : (pack L).getD j 0 < 256 := by rw [pack_getD]; exact byteAt_lt h j
end Go.Proofs.YtopbbicjbjmdnaaGreatDoor.X
namespace Go.Proofs.YtopbbicjbjmdnaaGreatDoor.X
set_option maxRecDepth 100000
open Go.RowKit
set_option linter.unusedVariables false
set_option linter.unusedSimpArgs false
def decXA (bs : List Nat) (n : Int) : Option (List Nat) := if n < 0 then none else if 4096 < n then none else decXL bs n.toNat
theorem xdecode_any (w : World) (A : Option Addr) (len c : Nat) (D0 : Nat → Prop) (bs : List Nat) (n : Int) (hl : bs.length = len) (hsl : Sl w D0 A len (byteC bs)) (hbyte : ∀ j, bs.getD j 0 < 256) (hsm : len ≤ 1048576) :
    Calls Tryz.prog 69 #[.slice A len c, .int .i64 n] w (XDecPost w (decXA bs n)) := by
  unfold decXA
  by_cases h1 : n < 0
  · rw [if_pos h1]
    refine (xdecode_arg w A len c n h1).mono ?_
    rintro e w' ⟨rfl, rfl⟩
    exact ⟨[], 2, none, 0, rfl, ⟨rfl, .inl ⟨rfl, rfl⟩⟩, Keeps.refl _ _, fun j => by simp, .inr ⟨⟨by decide, rfl⟩, rfl⟩⟩
  · rw [if_neg h1]
    by_cases h2 : 4096 < n
    · rw [if_pos h2]
      refine (xdecode_big w A len c n h2).mono ?_
      rintro e w' ⟨rfl, rfl⟩
      exact ⟨[], 3, none, 0, rfl, ⟨rfl, .inl ⟨rfl, rfl⟩⟩, Keeps.refl _ _, fun j => by simp, .inr ⟨⟨by decide, rfl⟩, rfl⟩⟩
    · rw [if_neg h2]
      obtain ⟨m, rfl⟩ := Int.eq_ofNat_of_zero_le (show 0 ≤ n by omega)
      exact xdecode_ok w A len c D0 bs m hl hsl hbyte hsm (by omega)
theorem decXA_ok {bs : List Nat} (hb : ∀ j, bs.getD j 0 < 256) {n : Int} {l : List Nat} (h : decXA bs n = some l) : (l.length : Int) = n ∧ l.length ≤ 4096 ∧ pack (xencTo (fun j => l.getD j 0) l.length) = bs := by
  unfold decXA at h
  by_cases h1 : n < 0
  · rw [if_pos h1] at h; cases h
  · rw [if_neg h1] at h
    by_cases h2 : 4096 < n
    · rw [if_pos h2] at h; cases h
    · rw [if_neg h2] at h
      obtain ⟨g1, g2⟩ := xdec_one hb h
      rw [← g1] at g2
      exact ⟨by omega, by omega, g2⟩
theorem sl_two (w : World) (t : TypeId) (u v : Value) : Sl (w.alloc (.cells #[u, v] t)) (fun k => k = w.heap.size) (some ⟨w.heap.size, 0, none⟩) 2 (fun j => if j = 0 then u else v) := fun _ =>
  ⟨_, _, rfl, rfl, fun j hj => by
    rw [(Blk.fresh w t #[u, v]).cell (0 + j)]
    rcases (show j = 0 ∨ j = 1 by omega) with rfl | rfl <;> rfl⟩
theorem xenc_two_len : (pack (xencTo (fun _ => 9) 2)).length = 9 := by
  rw [pack_length]
  show ((bitsTo 9 64 64 ++ xbits none (9 ^^^ 9)).length + 7) / 8 = 9
  rw [List.length_append, bitsTo_length, Nat.xor_self]
  rfl
end Go.Proofs.YtopbbicjbjmdnaaGreatDoor.X
namespace Go.Proofs.YtopbbicjbjmdnaaGreatDoor
open Go.RowKit
set_option linter.unusedVariables false
set_option linter.unusedSimpArgs false
theorem vtext_put2 (t ms : List Nat) (most : Int) (ht : (t.length : Int) ≤ most) (hn : t.length < 18446744073709551616) : V.vtext (V.vput t.length ++ t ++ ms) most = (t, (V.vput t.length).length + t.length, 0) := by
  unfold V.vtext
  rw [List.append_assoc, V.vget_vput t.length (t ++ ms) hn]
  rw [if_neg (by simp), if_neg (by simp; omega), if_neg (by simp)]
  simp
theorem vtext_get {l : List Nat} {most : Int} (hb : ∀ j, l.getD j 0 < 256) (h : (V.vtext l most).2.2 = 0) :
    (V.vtext l most).2.1 ≤ l.length ∧ l.take (V.vtext l most).2.1 = V.vput (V.vtext l most).1.length ++ (V.vtext l most).1 ∧ ((V.vtext l most).1.length : Int) ≤ most := by
  unfold V.vtext at h ⊢
  by_cases h1 : (V.vget l).2.2 = 0
  · rw [if_neg (by simp [h1])] at h ⊢
    obtain ⟨g1, g2, g3⟩ := V.vget_put hb h1
    by_cases h2 : most < 0 ∨ most < (V.vget l).1
    · rw [if_pos h2] at h; cases h
    · rw [if_neg h2] at h ⊢
      by_cases h3 : l.length - (V.vget l).2.1 < (V.vget l).1
      · rw [if_pos h3] at h; cases h
      · rw [if_neg h3]
        have hl : ((l.drop (V.vget l).2.1).take (V.vget l).1).length = (V.vget l).1 := by rw [List.length_take, List.length_drop]; omega
        refine ⟨by show (V.vget l).2.1 + (V.vget l).1 ≤ _; omega, ?_, by show ((((l.drop (V.vget l).2.1).take (V.vget l).1).length : Nat) : Int) ≤ most; rw [hl]; omega⟩
        show l.take ((V.vget l).2.1 + (V.vget l).1) = V.vput ((l.drop (V.vget l).2.1).take (V.vget l).1).length ++ _
        rw [hl, g3, List.take_add]
  · rw [if_pos (by simpa using h1)] at h; exact absurd h h1
/-- Where part j begins; part j; what is wrong with it. -/
def cAt (I : List Nat) : Nat → Nat
  | 0 => (V.vget I).2.1
  | j + 1 => cAt I j + (V.vtext (I.drop (cAt I j)) 1048576).2.1
def cPt (I : List Nat) (j : Nat) : List Nat := (V.vtext (I.drop (cAt I j)) 1048576).1
def cEr (I : List Nat) (j : Nat) : Nat := (V.vtext (I.drop (cAt I j)) 1048576).2.2
structure Parts (b : List Nat) : Prop where
  e : F.openE b = 0
  k : F.openK b = 3
  v : (V.vget (F.openI b)).2.2 = 0
  m : (V.vget (F.openI b)).1 ≤ 4096
  t : ∀ j, j < 3 → cEr (F.openI b) j = 0
  z : cAt (F.openI b) 3 = (F.openI b).length
def upL (n : Nat) (p : Nat → List Nat) : Nat → List Nat
  | 0 => V.vput n
  | j + 1 => upL n p j ++ V.vput (p j).length ++ p j
theorem colUp_upL (f : Nat → Pt) (n : Nat) : ∀ j, colUp f n j = upL n (partA f n) j
  | 0 => rfl
  | j + 1 => by show colUp f n j ++ _ ++ _ = upL n (partA f n) j ++ _ ++ _; rw [colUp_upL f n j]
theorem upL_congr {n : Nat} {p q : Nat → List Nat} : ∀ j, (∀ i, i < j → p i = q i) → upL n p j = upL n q j
  | 0, _ => rfl
  | j + 1, h => by show upL n p j ++ _ ++ _ = upL n q j ++ _ ++ _; rw [upL_congr j (fun i hi => h i (by omega)), h j (by omega)]
theorem parts_up {I : List Nat} (hb : ∀ j, I.getD j 0 < 256) (hv : (V.vget I).2.2 = 0) : ∀ j, (∀ i, i < j → cEr I i = 0) → I.take (cAt I j) = upL (V.vget I).1 (cPt I) j ∧ cAt I j ≤ I.length
  | 0, _ => by
    obtain ⟨g1, g2, g3⟩ := V.vget_put hb hv
    exact ⟨g3.symm, g2⟩
  | j + 1, h => by
    obtain ⟨i1, i2⟩ := parts_up hb hv j (fun i hi => h i (by omega))
    obtain ⟨g1, g2, g3⟩ := vtext_get (l := I.drop (cAt I j)) (most := 1048576) (V.getD_drop_lt hb _) (h j (by omega))
    rw [List.length_drop] at g1
    refine ⟨?_, by show cAt I j + _ ≤ _; omega⟩
    show I.take (cAt I j + (V.vtext (I.drop (cAt I j)) 1048576).2.1) = upL _ _ j ++ V.vput (cPt I j).length ++ cPt I j
    rw [List.take_add, i1, g2, List.append_assoc]
    rfl
theorem upL_more (n : Nat) (p : Nat → List Nat) : ∀ j k, ∃ r, upL n p (j + k) = upL n p j ++ r
  | j, 0 => ⟨[], by simp⟩
  | j, k + 1 => by
    obtain ⟨r, hr⟩ := upL_more n p j k
    refine ⟨r ++ V.vput (p (j + k)).length ++ p (j + k), ?_⟩
    show upL n p (j + k) ++ _ ++ _ = _
    rw [hr]
    simp only [List.append_assoc]
    rfl
theorem up_parts {n : Nat} {p : Nat → List Nat} (hn : n < 18446744073709551616) (hp : ∀ i, (p i).length ≤ 1048576) : (V.vget (upL n p 3)).1 = n ∧ (V.vget (upL n p 3)).2.2 = 0 ∧ ∀ j, j ≤ 3 → cAt (upL n p 3) j = (upL n p j).length ∧ ∀ i, i < j → cPt (upL n p 3) i = p i ∧ cEr (upL n p 3) i = 0 := by
  obtain ⟨r, hr⟩ := upL_more n p 0 3
  have hg : V.vget (upL n p 3) = (n, (V.vput n).length, 0) := by
    rw [show upL n p 3 = V.vput n ++ r from by rw [show (3 : Nat) = 0 + 3 from rfl, hr]; rfl]
    exact V.vget_vput n r hn
  refine ⟨by rw [hg], by rw [hg], fun j => ?_⟩
  induction j with
  | zero => intro _; exact ⟨by show (V.vget _).2.1 = _; rw [hg]; rfl, fun i hi => by omega⟩
  | succ j ih =>
    intro hj
    obtain ⟨i1, i2⟩ := ih (by omega)
    obtain ⟨r2, hr2⟩ := upL_more n p (j + 1) (3 - (j + 1))
    rw [show j + 1 + (3 - (j + 1)) = 3 by omega] at hr2
    have ht : V.vtext ((upL n p 3).drop (cAt (upL n p 3) j)) 1048576 = (p j, (V.vput (p j).length).length + (p j).length, 0) := by
      rw [i1]
      have e : (upL n p 3).drop (upL n p j).length = V.vput (p j).length ++ p j ++ r2 := by
        rw [hr2]
        show (upL n p j ++ V.vput (p j).length ++ p j ++ r2).drop _ = _
        rw [List.append_assoc, List.append_assoc, List.drop_left]
        simp only [List.append_assoc]
      rw [e]
      have := hp j
      exact vtext_put2 _ _ _ (by omega) (by omega)
    refine ⟨?_, fun i hi => ?_⟩
    · show cAt _ j + (V.vtext _ _).2.1 = (upL n p j ++ V.vput (p j).length ++ p j).length
      rw [ht, i1, List.length_append, List.length_append]
      simp only []
      omega
    · rcases Nat.lt_or_ge i j with h1 | h1
      · exact i2 i h1
      · obtain rfl : i = j := by omega
        unfold cPt cEr
        rw [ht]
        exact ⟨rfl, rfl⟩
/-- The points of three lists. -/
def gP (ts : List Int) (vs : List Nat) (ss : List Int) (j : Nat) : Pt := ⟨ts.getD j 0, IntKind.i64.wrap (vs.getD j 0 : Nat), ss.getD j 0⟩
theorem colL_ok {f : Nat → Pt} {n : Nat} (h : colV f n = true) : colL f n = (F.sealL 3 (colUp f n 3), 0) := by unfold colL; rw [if_pos h]
/-- What decoders that go well have told is encoded as it was. -/
theorem enc_of_parts {b : List Nat} (hb : ∀ x ∈ b, x < 256) (hP : Parts b) {ts : List Int} {vs : List Nat} {ss : List Int} (h0 : D.decA (cPt (F.openI b) 0) (V.vget (F.openI b)).1 = (ts, 0)) (h1 : X.decXA (cPt (F.openI b) 1) (V.vget (F.openI b)).1 = some vs)
    (h2 : D.decA (cPt (F.openI b) 2) (V.vget (F.openI b)).1 = (ss, 0)) (hvs : ∀ j, vs.getD j 0 < 18446744073709551616) (hI : ∀ j, (F.openI b).getD j 0 < 256) :
    F.sealL 3 (colUp (gP ts vs ss) (V.vget (F.openI b)).1 3) = b ∧ ts.length = (V.vget (F.openI b)).1 ∧ vs.length = (V.vget (F.openI b)).1 ∧ ss.length = (V.vget (F.openI b)).1 := by
  obtain ⟨g1, -, -⟩ := F.seal_of_open hb hP.e
  obtain ⟨g2, -⟩ := parts_up hI hP.v 3 (fun i hi => hP.t i hi)
  have hpb : ∀ j, j < 3 → ∀ i, (cPt (F.openI b) j).getD i 0 < 256 := fun j hj => by
    obtain ⟨k1, k2, -⟩ := vtext_get (l := (F.openI b).drop (cAt (F.openI b) j)) (most := 1048576) (V.getD_drop_lt hI _) (hP.t j hj)
    refine V.getD_all_lt (fun x hx => ?_)
    have hm : x ∈ ((F.openI b).drop (cAt (F.openI b) j)).take (V.vtext ((F.openI b).drop (cAt (F.openI b) j)) 1048576).2.1 := by rw [k2]; exact List.mem_append_right _ hx
    exact F.mem_byte hI x (List.mem_of_mem_drop (List.mem_of_mem_take hm))
  obtain ⟨n, hn⟩ : ∃ n, n = (V.vget (F.openI b)).1 := ⟨_, rfl⟩
  obtain ⟨a1, a2, a3⟩ := D.decA_ok (hpb 0 (by omega)) h0
  obtain ⟨b1, b2, b3⟩ := X.decXA_ok (hpb 1 (by omega)) h1
  obtain ⟨c1, c2, c3⟩ := D.decA_ok (hpb 2 (by omega)) h2
  rw [← hn] at a1 b1 c1 g2 ⊢
  have ea : ts.length = n := by omega
  have eb : vs.length = n := by omega
  have ec : ss.length = n := by omega
  refine ⟨?_, ea, eb, ec⟩
  rw [ea] at a3
  rw [eb] at b3
  rw [ec] at c3
  have p0 : partA (gP ts vs ss) n 0 = cPt (F.openI b) 0 := by
    rw [← a3]
    show pack (D.encTo (tOf (gP ts vs ss) n) n) = _
    rw [(D.encTo_congr (f := tOf (gP ts vs ss) n) (g := fun j => ts.getD j 0) n (fun j hj => by unfold tOf; exact (if_pos hj).trans rfl)).1]
  have p1 : partA (gP ts vs ss) n 1 = cPt (F.openI b) 1 := by
    rw [← b3]
    show pack (X.xencTo (vOf (gP ts vs ss) n) n) = _
    rw [(X.xencTo_congr (f := vOf (gP ts vs ss) n) (g := fun j => vs.getD j 0) n (fun j hj => by
      unfold vOf
      rw [if_pos hj]
      show (IntKind.u64.wrap (IntKind.i64.wrap (vs.getD j 0 : Nat))).toNat = vs.getD j 0
      have := hvs j
      rw [IntKind.wrap_i64, IntKind.wrap_u64]
      omega)).1]
  have p2 : partA (gP ts vs ss) n 2 = cPt (F.openI b) 2 := by
    rw [← c3]
    show pack (D.encTo (sOf (gP ts vs ss) n) n) = _
    rw [(D.encTo_congr (f := sOf (gP ts vs ss) n) (g := fun j => ss.getD j 0) n (fun j hj => by unfold sOf; exact (if_pos hj).trans rfl)).1]
  rw [colUp_upL, upL_congr (q := cPt (F.openI b)) 3 (fun i hi => by
    have h3 : i = 0 ∨ i = 1 ∨ i = 2 := by omega
    rcases h3 with rfl | rfl | rfl
    · exact p0
    · exact p1
    · exact p2), ← g2, hP.z, List.take_length, ← hP.k]
  exact g1.symm
/-- A block that was encoded has its parts. -/
theorem parts_of_enc {f : Nat → Pt} {n : Nat} {b : List Nat} (hv : colV f n = true) (hb : F.sealL 3 (colUp f n 3) = b) :
    Parts b ∧ (V.vget (F.openI b)).1 = n ∧ D.decA (cPt (F.openI b) 0) n = (D.upTo (tOf f n) n, 0) ∧ X.decXA (cPt (F.openI b) 1) n = some (X.upToN (vOf f n) n) ∧ D.decA (cPt (F.openI b) 2) n = (D.upTo (sOf f n) n, 0) := by
  obtain ⟨-, -, hn4⟩ := colV_spec hv
  have hlen := colUp_len f n hn4 3
  obtain ⟨o1, o2, o3⟩ := F.open_seal (kind := 3) (bs := colUp f n 3) (by omega) (colUp_byte f n 3) (by omega)
  rw [hb] at o1 o2 o3
  rw [o3]
  obtain ⟨u1, u2, u3⟩ := up_parts (n := n) (p := partA f n) (by omega) (fun i => by have := partA_len f n i hn4; omega)
  rw [← colUp_upL] at u1 u2 u3
  obtain ⟨w1, w2⟩ := u3 3 (Nat.le_refl _)
  rw [← colUp_upL] at w1
  refine ⟨⟨o1, o2, by rw [o3]; exact u2, by rw [o3, u1]; exact hn4, fun j hj => by rw [o3]; exact (w2 j hj).2, by rw [o3]; exact w1⟩, u1, ?_, ?_, ?_⟩
  · rw [(w2 0 (by omega)).1]
    unfold D.decA
    rw [if_neg (by omega), if_neg (by omega)]
    exact D.dec_back (tOf_range hv) n
  · rw [(w2 1 (by omega)).1]
    unfold X.decXA
    rw [if_neg (by omega), if_neg (by omega)]
    exact X.xdec_back (vOf_lt f n) n
  · rw [(w2 2 (by omega)).1]
    unfold D.decA
    rw [if_neg (by omega), if_neg (by omega)]
    exact D.dec_back (sOf_range hv) n
theorem getD_upTo {α : Type} (g : Nat → α) (n j : Nat) (d : α) (hj : j < n) : ((List.range n).map g).getD j d = g j := by simp [List.getD_eq_getElem?_getD, hj]
theorem colV_ts {f g : Nat → Pt} (n : Nat) (h : ∀ j, j < n → (f j).t = (g j).t ∧ (f j).s = (g j).s) : colV f n = colV g n := by
  have ha : ∀ m, m ≤ n → colAll f m = colAll g m := by
    intro m
    induction m with
    | zero => intro _; rfl
    | succ m ih =>
      intro hm
      show (colAll f m && colOk f m) = (colAll g m && colOk g m)
      rw [ih (by omega)]
      have e : colOk f m = colOk g m := by
        have e1 : colT f m = colT g m := by
          cases m with
          | zero => rfl
          | succ m => exact (h m (by omega)).1
        unfold colOk
        rw [e1, (h m (by omega)).1, (h m (by omega)).2]
      rw [e]
  unfold colV
  rw [ha n (Nat.le_refl _)]
/-- The lists of what was encoded make the same points. -/
theorem gP_enc (f : Nat → Pt) (n j : Nat) (hj : j < n) : (gP (D.upTo (tOf f n) n) (X.upToN (vOf f n) n) (D.upTo (sOf f n) n) j).t = (f j).t ∧ (gP (D.upTo (tOf f n) n) (X.upToN (vOf f n) n) (D.upTo (sOf f n) n) j).s = (f j).s ∧
    (I64 (f j).v → (gP (D.upTo (tOf f n) n) (X.upToN (vOf f n) n) (D.upTo (sOf f n) n) j).v = (f j).v) := by
  unfold gP D.upTo X.upToN
  simp only [getD_upTo _ _ _ _ hj]
  unfold tOf vOf sOf
  rw [if_pos hj, if_pos hj, if_pos hj]
  refine ⟨rfl, rfl, fun hr => ?_⟩
  unfold I64 at hr
  rw [IntKind.wrap_i64, IntKind.wrap_u64]
  omega
/-- b is the block of the points f 0 .. f (n - 1). -/
def IsEnc (b : List Nat) (f : Nat → Pt) (n : Nat) : Prop := colV f n = true ∧ F.sealL 3 (colUp f n 3) = b
def NotEnc (b : List Nat) : Prop := ∀ f n, ¬ IsEnc b f n
/-- One block has one list of points. -/
theorem enc_inj {b : List Nat} {f g : Nat → Pt} {n m : Nat} (hf : IsEnc b f n) (hg : IsEnc b g m) (vf : ∀ j, j < n → I64 (f j).v) (vg : ∀ j, j < m → I64 (g j).v) : n = m ∧ ∀ j, j < n → f j = g j := by
  obtain ⟨-, f1, f2, f3, f4⟩ := parts_of_enc hf.1 hf.2
  obtain ⟨-, g1, g2, g3, g4⟩ := parts_of_enc hg.1 hg.2
  obtain rfl : n = m := by omega
  rw [f2] at g2
  rw [f3] at g3
  rw [f4] at g4
  injection g2 with h2 _
  injection g3 with h3
  injection g4 with h4 _
  refine ⟨rfl, fun j hj => ?_⟩
  obtain ⟨a1, a2, a3⟩ := gP_enc f n j hj
  obtain ⟨b1, b2, b3⟩ := gP_enc g n j hj
  rw [← h2, ← h3, ← h4] at b1 b2 b3
  have c1 := a1.symm.trans b1
  have c2 := a2.symm.trans b2
  have c3 := (a3 (vf j hj)).symm.trans (b3 (vg j hj))
  cases hfj : f j
  cases hgj : g j
  rw [hfj, hgj] at c1 c2 c3
  simp only at c1 c2 c3
  rw [c1, c2, c3]
end Go.Proofs.YtopbbicjbjmdnaaGreatDoor
