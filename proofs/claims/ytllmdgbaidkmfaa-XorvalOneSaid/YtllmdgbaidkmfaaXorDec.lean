/-
  The contract of xorval.Decode. (Printed by mk.py.)
-/
import Derived.Test.YtllmdgbaidkmfaaXorNx
import Derived.Test.YtllmdgbaidkmfaaMemK
import Derived.Test.YtllmdgbaidkmfaaU64s
namespace Go.Proofs.Ytllmdgbaidkmfaa
open Go.RowKit
set_option linter.unusedVariables false
set_option linter.unusedSimpArgs false
def u64V (x : Nat) : Value := .int .u64 (x : Nat)
/-- One value more. -/
def stepX (bs : List Nat) (en : Nat) (out : List Nat) (o : Option (Nat × Nat)) (p : Nat) : Option (Nat × Option (Nat × Nat) × Nat) :=
  if out.length = 0 then (if p + 64 ≤ en then some (gets bs p 64, o, p + 64) else none)
  else match nextX bs en o p with
    | none => none
    | some q => some (out.getD (out.length - 1) 0 ^^^ q.1, q.2)
def decX (bs : List Nat) (en : Nat) : Nat → List Nat → Option (Nat × Nat) → Nat → Option (List Nat × Nat)
  | 0, out, _, p => some (out, p)
  | n + 1, out, o, p => match stepX bs en out o p with
    | none => none
    | some q => decX bs en n (out ++ [q.1]) q.2.1 q.2.2
def endX (bs : List Nat) (en p : Nat) : Prop := en - p < 8 ∧ gets bs p (en - p) = 0
instance (bs : List Nat) (en p : Nat) : Decidable (endX bs en p) := inferInstanceAs (Decidable (_ ∧ _))
def decXL (bs : List Nat) (n : Nat) : Option (List Nat) := match decX bs (8 * bs.length) n [] none 0 with
  | none => none
  | some q => if endX bs (8 * bs.length) q.2 then some q.1 else none
def XDecPost (w : World) (N : Option (List Nat)) (e : Ending) (w' : World) : Prop :=
  ∃ (l : List Nat) (er : Int) (A : Option Addr) (c : Nat), e = .returned (.tuple #[.slice A l.length c, .int .i64 er]) ∧ w'.ownsRow w.heap.size 30 1 (.slice A l.length c) l.length (l.map u64V) ∧ Keeps (fun _ => False) w w' ∧
    (∀ j, l.getD j 0 < 18446744073709551616) ∧ ((er = 0 ∧ N = some l) ∨ ((er ≠ 0 ∧ l = []) ∧ N = none))
theorem getD_u {l : List Nat} {x : Nat} (h : ∀ j, l.getD j 0 < 18446744073709551616) (hx : x < 18446744073709551616) : ∀ j, (l ++ [x]).getD j 0 < 18446744073709551616 := by
  intro j
  rw [List.getD_eq_getElem?_getD]
  rcases Nat.lt_trichotomy j l.length with hj | hj | hj
  · rw [List.getElem?_append_left hj, ← List.getD_eq_getElem?_getD]; exact h j
  · subst hj; simpa using hx
  · rw [List.getElem?_eq_none (by simp; omega)]; show 0 < _; omega
theorem decX_ok_win {bs : List Nat} {en : Nat} {o o' : Option (Nat × Nat)} {p x p' : Nat} (h : WinOk o) (hn : nextX bs en o p = some (x, o', p')) : WinOk o' := by
  unfold nextX at hn
  split at hn
  · split at hn
    · injection hn with hn; injection hn with _ hn; injection hn with hn _; rw [← hn]; exact h
    · split at hn
      · split at hn
        · unfold oldX at hn
          split at hn
          · cases hn
          · split at hn
            · split at hn
              · cases hn
              · injection hn with hn; injection hn with _ hn; injection hn with hn _; rw [← hn]; exact h
            · cases hn
        · unfold newX at hn
          split at hn
          · split at hn
            · unfold newY at hn
              split at hn
              · split at hn
                · split at hn
                  · injection hn with hn; injection hn with _ hn; injection hn with hn _
                    rw [← hn]
                    intro q hq
                    injection hq with hq
                    subst hq
                    show _ + (64 - _ - _) ≤ 63
                    omega
                  · cases hn
                · cases hn
              · cases hn
            · cases hn
          · cases hn
      · cases hn
  · cases hn
theorem Tk.app {w wr w' : World} {t r : Nat} {D : Nat → Prop} {bs : List Nat} {en : Nat} {o : Option (Nat × Nat)} {e : Int} {p : Nat} {S : Nat → Prop} (h : Tk w wr t r D bs en o e p) (hk : Keeps S wr w') (hS : ∀ g, S g → t + 1 ≤ g) (hr : r < t) (hD : ∀ k, D k → k < t) (hw : w.heap.size ≤ t + 1) : Tk w w' t r D bs en o e p :=
  ⟨h.rd.keeps hk (fun h => by have := hS _ h; omega) (fun k hk h => by have := hS _ h; have := hD k hk; omega), h.blk.keeps hk (fun h => by have := hS _ h; omega), h.keep.trans hk (fun k hk h => by have := hS _ h; omega), h.ne, h.nd⟩
set_option maxHeartbeats 400000 in
theorem xdecode_arg (w : World) (A : Option Addr) (len c : Nat) (n : Int) (hn : n < 0) :
    Calls Try.prog 10 #[.slice A len c, .int .i64 n] w fun e w' => e = .returned (.tuple #[.slice none 0 0, .int .i64 2]) ∧ w = w' := by
  go_enter Try.func10, Try.ntmps10
  go_wp2
  go_ret2
  exact ⟨rfl, rfl⟩
set_option maxHeartbeats 400000 in
theorem xdecode_big (w : World) (A : Option Addr) (len c : Nat) (n : Int) (hn : 4096 < n) :
    Calls Try.prog 10 #[.slice A len c, .int .i64 n] w fun e w' => e = .returned (.tuple #[.slice none 0 0, .int .i64 3]) ∧ w = w' := by
  have h0 : ¬ n < 0 := by omega
  go_enter Try.func10, Try.ntmps10
  go_wp2
  go_ret2
  exact ⟨rfl, rfl⟩
/-- What the loop of Decode holds. -/
structure XSt (w w2 wr : World) (t r : Nat) (D : Nat → Prop) (bs : List Nat) (en : Nat) (out : List Nat) (o : Option (Nat × Nat)) (p : Nat) (v : Value) : Prop where
  tk : Tk w2 wr t r D bs en o 0 p
  row : wr.ownsRow (t + 1) 30 1 v out.length (out.map u64V)
  u64 : ∀ j, out.getD j 0 < 18446744073709551616
  win : WinOk o
theorem row_at {w : World} {base c n : Nat} {A : Option Addr} {l : List Nat} (ho : w.ownsRow base 30 1 (.slice A n c) n (l.map u64V)) (hl : l.length = n) : Sl w (fun k => (Value.slice A n c).ownBlock = some k) A n (fun j => u64V (l.getD j 0)) := by
  refine Sl.of_own ho ?_
  intro j u hu
  rw [List.getElem?_map] at hu
  cases hj : l[j]? with
  | none => rw [hj] at hu; cases hu
  | some x => rw [hj] at hu; injection hu with hu; rw [List.getD_eq_getElem?_getD, hj]; exact hu.symm
set_option maxRecDepth 100000 in
set_option maxHeartbeats 20000000 in
theorem xdecode_ok (w : World) (A : Option Addr) (len c : Nat) (D0 : Nat → Prop) (bs : List Nat) (n : Nat) (hl : bs.length = len) (hsl : Sl w D0 A len (byteC bs)) (hbyte : ∀ j, bs.getD j 0 < 256) (hsm : len ≤ 1048576) (hn : n ≤ 4096) :
    Calls Try.prog 10 #[.slice A len c, .int .i64 n] w (XDecPost w (decXL bs n)) := by
  have HS := Lib.hid (And.intro hsl (And.intro hbyte hl))
  clear hsl hbyte hl
  have d1 : decide ((n : Int) < 0) = false := by simp
  have d2 : decide ((4096 : Int) < n) = false := by simp; omega
  go_enter Try.func10, Try.ntmps10
  go_wp2_with fail
  refine (newReader_fit _ _ _ _ _ bs _ HS.out.2.2 HS.out.1 HS.out.2.1 (by omega) (by omega) (by omega)).mono ?_
  rintro e w1 ⟨r, rfl, hlr, hr1, hk1⟩
  clear d1 d2
  obtain ⟨en, hen⟩ : ∃ en, en = (8 * (len : Int)).toNat := ⟨_, rfl⟩
  rw [← hen] at hr1
  have hen8 : en = 8 * bs.length := by have := HS.out.2.2; omega
  have hrlt : r < w1.heap.size := by obtain ⟨A', c', hb, -⟩ := hr1.blk; exact hb.lt
  have H1 := Lib.hid (And.intro hr1 (And.intro hk1 (And.intro hlr (And.intro hrlt hen8))))
  clear hr1 hk1 hlr hrlt hen hen8
  go_wp2_with fail
  refine (none_any _).mono ?_
  rintro e w1' ⟨rfl, hb1⟩
  obtain ⟨t, ht⟩ : ∃ t, t = w1'.heap.size := ⟨_, rfl⟩
  obtain ⟨D, hD⟩ : ∃ D : Nat → Prop, D = fun k => w.heap.size ≤ k ∧ k < r := ⟨_, rfl⟩
  obtain ⟨w2, hw2⟩ : ∃ w2, w2 = w1'.alloc (.cells #[.pointer (some ⟨r, 0, none⟩), .int .i64 (-1), .int .i64 (-1), .int .i64 0] 59) := ⟨_, rfl⟩
  have hrt : r < t := by have := hb1.size; have := H1.out.2.2.2.1; omega
  have htk : Tk w2 w2 t r D bs en none 0 0 := by
    obtain ⟨hr1, hk1, hlr, hrlt, hen⟩ := H1.out
    refine ⟨?_, ?_, Keeps.refl _ _, by omega, by rw [hD]; omega⟩
    · rw [hD, hw2]
      exact (hr1.below hb1).below ((Below.refl _ _).alloc (Nat.le_refl _) _)
    · rw [hw2, ht]
      exact Blk.fresh _ _ _
  have hk2 : Keeps (fun _ => False) w w2 := by
    obtain ⟨hr1, hk1, hlr, hrlt, hen⟩ := H1.out
    rw [hw2]
    exact (hk1.trans' (Keeps.of_below hb1)).alloc _
  have hs2 : w2.heap.size = t + 1 := by rw [hw2, ht]; simp
  have hDt : ∀ k, D k → k < t := by rw [hD]; intro k hk; omega
  have hwr : w.heap.size ≤ r := H1.out.2.2.1
  have HT := Lib.hid (And.intro htk (And.intro hk2 (And.intro hs2 (And.intro hDt (And.intro hrt hwr)))))
  clear htk hk2 hs2 hDt hrt hD hb1 hwr
  go_wp2_with fail
  rw [← hw2, ← ht]
  clear hw2 ht
  have hlow : ∀ w', Keeps (fun k => k = r ∨ k = t) w2 w' → Keeps (fun _ => False) w w' := fun w' hk => HT.out.2.1.trans hk (fun k hk e => by have := HT.out.2.2.2.2; omega)
  have HL := Lib.hid hlow
  clear hlow
  go_loopw [9, 31] (fun v i wr => ∃ (k : Nat) (out : List Nat) (o : Option (Nat × Nat)) (p : Nat), k ≤ n ∧ i = .int .i64 k ∧ XSt w w2 wr t r D bs en out o p v ∧ out.length = k ∧ decX bs en n [] none 0 = decX bs en (n - k) out o p)
    (fun _ i _ => n - (intOf i).toNat)
  case atStart => exact ⟨0, [], none, 0, Nat.zero_le _, rfl, ⟨HT.out.1, ⟨rfl, .inl ⟨rfl, rfl⟩⟩, fun j => by simp, fun q hq => by cases hq⟩, rfl, rfl⟩
  case round =>
    obtain ⟨k, out, o, p, hk, rfl, hst, hlen, hdec⟩ := hrel
    by_cases hlt : k < n
    · obtain ⟨f, hf⟩ : ∃ f, n - k = f + 1 := ⟨n - k - 1, by omega⟩
      rw [hf] at hdec
      have HR := Lib.hid (And.intro hst (And.intro hlen (And.intro hdec hf)))
      clear hst hlen hdec hf
      rcases Nat.eq_zero_or_pos k with hk0 | hk0
      · subst hk0
        go_wp2_with fail
        refine (tget_any HR.out.1.tk.re 64 (by omega)).mono ?_
        rintro e w3 ⟨rfl, h3⟩
        obtain ⟨z, er, p5, hg3, hz64, hstep⟩ : ∃ (z : Nat) (er : Int) (p5 : Nat), tget bs en 0 p 64 = (z, er, p5) ∧ z < 18446744073709551616 ∧ ((er = 0 ∧ stepX bs en out o p = some (z, o, p5)) ∨ ((er = 10 ∨ er = 11) ∧ stepX bs en out o p = none)) := by
          have h0 : out.length = 0 := HR.out.2.1
          unfold stepX
          rw [if_pos h0]
          by_cases q : p + 64 ≤ en
          · rw [if_pos q]
            exact ⟨_, _, _, tget_ok q, gets_u64 _ _ _ (by omega), .inl ⟨rfl, rfl⟩⟩
          · rw [if_neg q]
            exact ⟨_, _, _, tget_end q, by omega, .inr ⟨.inl rfl, rfl⟩⟩
        rw [hg3] at h3
        rw [hg3]
        simp only [] at h3
        obtain ⟨hrt, hDt⟩ : r < t ∧ ∀ k, D k → k < t := ⟨HT.out.2.2.2.2.1, HT.out.2.2.2.1⟩
        have hrow3 := own_keeps HR.out.1.row h3.keep (fun g hg e => by have := (HR.out.1.row.lt g hg).1; omega)
        have htk3 := HR.out.1.tk.on h3
        have ht3 : t < w3.heap.size := h3.blk.lt
        have H3 := Lib.hid (And.intro hrow3 (And.intro htk3 (And.intro hstep ht3)))
        have HZ := Lib.hid hz64
        have HW5 := Lib.hid (show er = 0 → WinOk o from fun _ => HR.out.1.win)
        clear hrow3 htk3 h3 hg3 hstep hz64 hrt hDt ht3
        obtain ⟨A3, c3, hv3, -, -⟩ := own_form HR.out.1.row
        have HV3 := Lib.hid hv3
        clear hv3
        go_wp2_with (at_builtin; refine wpList_append_sl (f := fun _ => .int .u64 (z : Nat)) (D := fun k => k = w3.heap.size) (base := t + 1) (n := out.length) (xs := out.map u64V) u64Elem rfl (.tmp 36) (.tmp 39) rfl rfl rfl ?hown ?hsl ?h1 ?h63 ?hby ?hbase ?_)
        case hown => exact H3.out.1.alloc _
        case hsl => exact sl_one _ _ _
        case h1 => intro j _; rfl
        case h63 => unfold maxLen; have := HR.out.2.1; omega
        case hby => have := HR.out.2.1; omega
        case hbase => have := H3.out.2.2.2; simp; omega
        intro v5 w5 ho5 hg5 hat5
        have htk5 := H3.out.2.1.app (((Keeps.refl _ w3).alloc _).grown hg5 (fun q hq _ => hq)) (fun g hg => (H3.out.1.lt g hg).1) HT.out.2.2.2.2.1 HT.out.2.2.2.1 (by rw [HT.out.2.2.1]; exact Nat.le_refl _)
        have hstep := H3.out.2.2.1
        clear hg5 hat5 H3
        have H5 := Lib.hid (And.intro htk5 (And.intro ho5 hstep))
        have d3 := htk5.c3
        clear htk5 ho5 hstep
        rcases H5.out.2.2 with ⟨rfl, hs5⟩ | ⟨her, hs5⟩
        · have HSX := Lib.hid hs5
          clear hs5
          go_wp2_with fail
          go_roundw
          case rel =>
            refine ⟨0 + 1, out ++ [z], o, p5, by omega, by go_num, ⟨H5.out.1, ?_, getD_u HR.out.1.u64 HZ.out, HW5.out rfl⟩, by simp [HR.out.2.1], ?_⟩
            · rw [List.length_append, List.map_append]
              exact H5.out.2.1
            · rw [HR.out.2.2.1, show n - (0 + 1) = f by have := HR.out.2.2.2; omega]
              show (match stepX bs en out o p with | none => none | some q => decX bs en f (out ++ [q.1]) q.2.1 q.2.2) = _
              rw [HSX.out]
          case measure => simp [intOf]; omega
        · have hne : ¬ er = 0 := by omega
          have hfin : XDecPost w (decXL bs n) (.returned (.tuple #[.slice none 0 0, .int .i64 er])) w5.drew := by
            refine ⟨[], er, none, 0, rfl, ⟨rfl, .inl ⟨rfl, rfl⟩⟩, (HL.out _ H5.out.1.keep).drew, fun j => by simp, .inr ⟨⟨hne, rfl⟩, ?_⟩⟩
            have hd : decX bs en n [] none 0 = none := by
              rw [HR.out.2.2.1]
              show (match stepX bs en out o p with | none => none | some q => decX bs en f (out ++ [q.1]) q.2.1 q.2.2) = _
              rw [hs5]
            unfold decXL
            rw [← H1.out.2.2.2.2, hd]
          have HF := Lib.hid hfin
          clear hfin hs5 her
          go_wp2_with fail
          have hdd : w5.drew.cell? ⟨t, 3, none⟩ = some (.int .i64 er) := d3
          clear d3
          have hS : (fun w' : World => w'.cell? ⟨t, 3, none⟩ = some (.int .i64 er)) (w5.drew) := hdd
          refine reg_start (fun w' : World => w'.cell? ⟨t, 3, none⟩ = some (.int .i64 er)) (by kernel_rfl) hS ?_
          refine reg_take (i := 0) (v := ?_) rfl (by kernel_rfl) (by kernel_rfl) (by kernel_rfl) (fun _ _ _ h => h) (Or.inl ⟨by kernel_rfl, ?_⟩) hS ?_
          rotate_left
          · (intro w' hSw; go_simp <;> with_reducible rfl)
          try simp only [List.getElem_toArray, List.getElem_cons_succ, List.getElem_cons_zero, Act.put, List.setIfInBounds_toArray, List.set_cons_zero, List.set_cons_succ]
          refine reg_take (i := 1) (v := ?_) rfl (by kernel_rfl) (by kernel_rfl) (by kernel_rfl) (fun _ _ _ h => h) (Or.inl ⟨by kernel_rfl, ?_⟩) hS ?_
          rotate_left
          · (intro w' hSw; go_simp <;> with_reducible rfl)
          try simp only [List.getElem_toArray, List.getElem_cons_succ, List.getElem_cons_zero, Act.put, List.setIfInBounds_toArray, List.set_cons_zero, List.set_cons_succ]
          refine reg_take (i := 2) (v := ?_) rfl (by kernel_rfl) (by kernel_rfl) (by kernel_rfl) (fun _ _ _ h => h) (Or.inl ⟨by kernel_rfl, ?_⟩) hS ?_
          rotate_left
          · (intro w' hSw; go_simp <;> with_reducible rfl)
          try simp only [List.getElem_toArray, List.getElem_cons_succ, List.getElem_cons_zero, Act.put, List.setIfInBounds_toArray, List.set_cons_zero, List.set_cons_succ]
          refine reg_take (i := 3) (v := ?_) rfl (by kernel_rfl) (by kernel_rfl) (by kernel_rfl) (fun _ _ _ h => h) (Or.inl ⟨by kernel_rfl, ?_⟩) hS ?_
          rotate_left
          · (intro w' hSw; go_simp <;> with_reducible rfl)
          try simp only [List.getElem_toArray, List.getElem_cons_succ, List.getElem_cons_zero, Act.put, List.setIfInBounds_toArray, List.set_cons_zero, List.set_cons_succ]
          refine reg_take (i := 4) (v := ?_) rfl (by kernel_rfl) (by kernel_rfl) (by kernel_rfl) (fun _ _ _ h => h) (Or.inl ⟨by kernel_rfl, ?_⟩) hS ?_
          rotate_left
          · (intro w' hSw; go_simp <;> with_reducible rfl)
          try simp only [List.getElem_toArray, List.getElem_cons_succ, List.getElem_cons_zero, Act.put, List.setIfInBounds_toArray, List.set_cons_zero, List.set_cons_succ]
          refine reg_take (i := 5) (v := ?_) rfl (by kernel_rfl) (by kernel_rfl) (by kernel_rfl) (fun _ _ _ h => h) (Or.inl ⟨by kernel_rfl, ?_⟩) hS ?_
          rotate_left
          · (intro w' hSw; go_simp <;> with_reducible rfl)
          try simp only [List.getElem_toArray, List.getElem_cons_succ, List.getElem_cons_zero, Act.put, List.setIfInBounds_toArray, List.set_cons_zero, List.set_cons_succ]
          refine wpAnyH_done (by kernel_rfl) ?_ _
          try simp only [List.getElem_toArray, List.getElem_cons_succ, List.getElem_cons_zero]
          try simp only [List.getElem_toArray, List.getElem_cons_succ, List.getElem_cons_zero, Act.put, List.setIfInBounds_toArray, List.set_cons_zero, List.set_cons_succ]
          go_wp2_with fail
          go_ret2
          exact HF.out
      · obtain ⟨j, rfl⟩ : ∃ j, k = j + 1 := ⟨k - 1, by omega⟩
        obtain ⟨A3, c3, hv3, hc3, hA3⟩ := own_form HR.out.1.row
        obtain ⟨g, hA, hg1, hg2⟩ := hA3 (by have := HR.out.2.1; omega)
        subst hA
        have hrow := HR.out.1.row
        rw [hv3] at hrow
        have hlj : out.length = j + 1 := HR.out.2.1
        rw [hlj] at hrow hv3
        obtain ⟨b, off, hbe, -, hcells⟩ := row_at hrow hlj (by omega)
        obtain ⟨rfl, rfl⟩ : g = b ∧ 0 = off := by simpa using hbe
        obtain ⟨last, hlast⟩ : ∃ last, last = out.getD j 0 := ⟨_, rfl⟩
        have hcl : wr.cell? ⟨g, j, none⟩ = some (.int .u64 (last : Nat)) := by
          have h : wr.cell? ⟨g, 0 + j, none⟩ = some (u64V (out.getD j 0)) := hcells j (by omega)
          rw [Nat.zero_add, ← hlast] at h
          exact h
        have hl64 : last < 18446744073709551616 := by rw [hlast]; exact HR.out.1.u64 j
        have hgr : g ≠ r ∧ g ≠ t := by have := HT.out.2.2.2.2.1; omega
        rw [hv3]
        have HG := Lib.hid (And.intro hrow (And.intro hcl (And.intro hl64 (And.intro hlast (And.intro hgr (And.intro hg1 hlj))))))
        clear hrow hcells hbe hcl hl64 hlast hgr hg1 hg2 hlj hA3 hc3 hk0
        have HV3 := Lib.hid hv3
        clear hv3
        have ejw : IntKind.i64.wrap ((j : Int) + 1 - 1) = (j : Int) := by rw [IntWalk.i64_in _ (by omega)]; omega
        have ejw2 : (j : Int) + 1 - 1 = (j : Int) := by omega
        have hj2 : (0 : Int) ≤ (j : Int) := by omega
        have ejw3 : IntKind.i64.wrap (j : Int) = (j : Int) := IntWalk.i64_in _ (by omega)
        have hjl : (j : Int) < (j : Int) + 1 := by omega
        have ejw4 : ((j : Int)).toNat = j := by omega
        have hj0 : ¬ ((j : Int) + 1 = 0) := by omega
        have hjn : (j : Int) + 1 < (n : Int) := by omega
        rw [show ((j + 1 : Nat) : Int) = (j : Int) + 1 from rfl]
        go_wp2_with fail
        have hS : (fun w' : World => w'.cell? ⟨g, j, none⟩ = some (.int .u64 (last : Nat))) (wr.drew) := HG.out.2.1
        refine reg_start (fun w' : World => w'.cell? ⟨g, j, none⟩ = some (.int .u64 (last : Nat))) (by kernel_rfl) hS ?_
        refine reg_take (i := 0) (v := ?_) rfl (by kernel_rfl) (by kernel_rfl) (by kernel_rfl) (fun _ _ _ h => h) (Or.inl ⟨by kernel_rfl, ?_⟩) hS ?_
        rotate_left
        · (intro w' hSw; go_simp <;> with_reducible rfl)
        try simp only [List.getElem_toArray, List.getElem_cons_succ, List.getElem_cons_zero, Act.put, List.setIfInBounds_toArray, List.set_cons_zero, List.set_cons_succ]
        refine reg_take (i := 1) (v := ?_) rfl (by kernel_rfl) (by kernel_rfl) (by kernel_rfl) (fun _ _ _ h => h) (Or.inl ⟨by kernel_rfl, ?_⟩) hS ?_
        rotate_left
        · (intro w' hSw; go_simp <;> with_reducible rfl)
        try simp only [List.getElem_toArray, List.getElem_cons_succ, List.getElem_cons_zero, Act.put, List.setIfInBounds_toArray, List.set_cons_zero, List.set_cons_succ]
        refine reg_take (i := 2) (v := ?_) rfl (by kernel_rfl) (by kernel_rfl) (by kernel_rfl) (fun _ _ _ h => h) (Or.inl ⟨by kernel_rfl, ?_⟩) hS ?_
        rotate_left
        · (intro w' hSw; go_simp <;> with_reducible rfl)
        try simp only [List.getElem_toArray, List.getElem_cons_succ, List.getElem_cons_zero, Act.put, List.setIfInBounds_toArray, List.set_cons_zero, List.set_cons_succ]
        refine reg_take (i := 3) (v := ?_) rfl (by kernel_rfl) (by kernel_rfl) (by kernel_rfl) (fun _ _ _ h => h) (Or.inl ⟨by kernel_rfl, ?_⟩) hS ?_
        rotate_left
        · (intro w' hSw; go_simp <;> with_reducible rfl)
        try simp only [List.getElem_toArray, List.getElem_cons_succ, List.getElem_cons_zero, Act.put, List.setIfInBounds_toArray, List.set_cons_zero, List.set_cons_succ]
        refine reg_take (i := 4) (v := ?_) rfl (by kernel_rfl) (by kernel_rfl) (by kernel_rfl) (fun _ _ _ h => h) (Or.inl ⟨by kernel_rfl, ?_⟩) hS ?_
        rotate_left
        · (intro w' hSw; go_simp <;> with_reducible rfl)
        try simp only [List.getElem_toArray, List.getElem_cons_succ, List.getElem_cons_zero, Act.put, List.setIfInBounds_toArray, List.set_cons_zero, List.set_cons_succ]
        refine reg_take (i := 5) (v := ?_) rfl (by kernel_rfl) (by kernel_rfl) (by kernel_rfl) (fun _ _ _ h => h) (Or.inl ⟨by kernel_rfl, ?_⟩) hS ?_
        rotate_left
        · (intro w' hSw; go_simp <;> with_reducible rfl)
        try simp only [List.getElem_toArray, List.getElem_cons_succ, List.getElem_cons_zero, Act.put, List.setIfInBounds_toArray, List.set_cons_zero, List.set_cons_succ]
        refine reg_take (i := 6) (v := ?_) rfl (by kernel_rfl) (by kernel_rfl) (by kernel_rfl) (fun _ _ _ h => h) (Or.inl ⟨by kernel_rfl, ?_⟩) hS ?_
        rotate_left
        · (intro w' hSw; go_simp <;> with_reducible rfl)
        try simp only [List.getElem_toArray, List.getElem_cons_succ, List.getElem_cons_zero, Act.put, List.setIfInBounds_toArray, List.set_cons_zero, List.set_cons_succ]
        refine reg_call (i := 7) rfl (by kernel_rfl) (fun K hK => ?_)
        have HK := Lib.hid hK
        clear hK
        go_simp
        refine (tnext_any HR.out.1.tk.drew.re HR.out.1.win).mono ?_
        rintro e w3 ⟨x, o5, er, p5, rfl, hxl, h3, hc3⟩
        obtain ⟨z, hz⟩ : ∃ z, z = last ^^^ x := ⟨_, rfl⟩
        have hzx : bits .xor .u64 (last : Int) (x : Int) = (z : Int) := by rw [u64_xor_nat _ _ HG.out.2.2.1 hxl, hz]
        have hz64 : z < 18446744073709551616 := by rw [hz]; exact xor_lt HG.out.2.2.1 hxl
        have hstep : (er = 0 ∧ stepX bs en out o p = some (z, o5, p5)) ∨ ((er = 10 ∨ er = 11) ∧ stepX bs en out o p = none) := by
          have hlj := HG.out.2.2.2.2.2.2
          unfold stepX
          rw [if_neg (by omega)]
          rcases hc3 with ⟨h1, h2⟩ | ⟨h1, h2⟩
          · refine .inl ⟨h1, ?_⟩
            rw [h2]
            show some (out.getD (out.length - 1) 0 ^^^ x, o5, p5) = _
            rw [hlj, show j + 1 - 1 = j by omega, ← HG.out.2.2.2.1, ← hz]
          · refine .inr ⟨h1, ?_⟩
            rw [h2]
        have HW5 := Lib.hid (show er = 0 → WinOk o5 from fun h => by
          rcases hc3 with ⟨h1, h2⟩ | ⟨h1, h2⟩
          · exact decX_ok_win HR.out.1.win h2
          · omega)
        have hrow3 := own_keeps HG.out.1 ((Keeps.refl _ wr).drew.trans' h3.keep) (fun q hq e => by
          have := HG.out.2.2.2.2.1
          have hq' : g = q := by simpa [Value.ownBlock] using hq
          omega)
        have htk3 := HR.out.1.tk.drew.on h3
        have ht3 : t < w3.heap.size := h3.blk.lt
        have hcl3 : w3.cell? ⟨g, j, none⟩ = some (.int .u64 (last : Nat)) := (World.cell?_of_block (w := wr.drew) (a := ⟨g, j, none⟩) (h3.keep.block g (World.block_lt_of_cell? wr _ HG.out.2.1) (fun e => by have := HG.out.2.2.2.2.1; omega))).trans HG.out.2.1
        have HZ := Lib.hid hz64
        have H3 := Lib.hid (And.intro hrow3 (And.intro htk3 (And.intro hstep (And.intro ht3 hcl3))))
        clear hz hz64 hstep hrow3 htk3 ht3 hcl3 h3 hc3 hxl
        go_wp2_with fail
        refine HK.out.to (fun w' : World => w'.cell? ⟨g, j, none⟩ = some (.int .u64 (last : Nat))) (fun _ h => h) (H3.out.2.2.2.2) ?_
        clear HK hS
        have hS : (fun w' : World => w'.cell? ⟨g, j, none⟩ = some (.int .u64 (last : Nat))) (w3) := H3.out.2.2.2.2
        try simp only [List.getElem_toArray, List.getElem_cons_succ, List.getElem_cons_zero, Act.put, List.setIfInBounds_toArray, List.set_cons_zero, List.set_cons_succ]
        refine reg_take (i := 8) (v := ?_) rfl (by kernel_rfl) (by kernel_rfl) (by kernel_rfl) (fun _ _ _ h => h) (Or.inl ⟨by kernel_rfl, ?_⟩) hS ?_
        rotate_left
        · (intro w' hSw; go_simp <;> with_reducible rfl)
        try simp only [List.getElem_toArray, List.getElem_cons_succ, List.getElem_cons_zero, Act.put, List.setIfInBounds_toArray, List.set_cons_zero, List.set_cons_succ]
        have HA := Lib.hid (show (w3.alloc (.cells #[.int .u64 (z : Nat)] 30)).cell? ⟨g, j, none⟩ = some (.int .u64 (last : Nat)) from (World.cell?_of_block (w := w3) (a := ⟨g, j, none⟩) (Below.heap_alloc _ _ _ (World.block_lt_of_cell? w3 _ H3.out.2.2.2.2))).trans H3.out.2.2.2.2)
        refine reg_call (i := 9) rfl (by kernel_rfl) (fun K hK => ?_)
        have HK := Lib.hid hK
        clear hK
        go_simp
        go_wp2_with fail
        refine HK.out.to (fun w' : World => w'.cell? ⟨g, j, none⟩ = some (.int .u64 (last : Nat))) (fun _ h => h) (HA.out) ?_
        clear HK hS
        have hS : (fun w' : World => w'.cell? ⟨g, j, none⟩ = some (.int .u64 (last : Nat))) (w3.alloc (.cells #[.int .u64 (z : Nat)] 30)) := HA.out
        try simp only [List.getElem_toArray, List.getElem_cons_succ, List.getElem_cons_zero, Act.put, List.setIfInBounds_toArray, List.set_cons_zero, List.set_cons_succ]
        refine reg_call (i := 10) rfl (by kernel_rfl) (fun K hK => ?_)
        have HK := Lib.hid hK
        clear hK
        refine step_append_kept (f := fun _ => .int .u64 (z : Nat)) (D := fun k => k = w3.heap.size) (base := t + 1) (n := j + 1) (m := 1) (g := g) (xs := out.map u64V) u64Elem rfl (.tmp 41) (.tmp 50) rfl rfl rfl ?hown ?hsl ?h1 ?h63 ?hby ?hbase ?_
        case hown => exact H3.out.1.alloc _
        case hsl => exact sl_one _ _ _
        case h1 => intro j _; rfl
        case h63 => unfold maxLen; omega
        case hby => omega
        case hbase => have := H3.out.2.2.2.1; simp; omega
        intro v5 w5 ho5 hg5 hat5 hkp5
        have htk5 := H3.out.2.1.app (((Keeps.refl _ w3).alloc _).grown hg5 (fun q hq _ => hq)) (fun g hg => (H3.out.1.lt g hg).1) HT.out.2.2.2.2.1 HT.out.2.2.2.1 (by rw [HT.out.2.2.1]; exact Nat.le_refl _)
        have hstep := H3.out.2.2.1
        have hcl5 : w5.cell? ⟨g, j, none⟩ = some (.int .u64 (last : Nat)) := by
          refine hkp5 j _ ?_
          have hlj := HG.out.2.2.2.2.2.2
          rw [List.getElem?_map, HG.out.2.2.2.1, List.getD_eq_getElem?_getD, List.getElem?_eq_getElem (by omega)]
          rfl
        have HC5 := Lib.hid hcl5
        clear hg5 hat5 H3 HA hkp5 hcl5
        obtain ⟨A5, c5, hv5, -, -⟩ := own_form ho5
        subst hv5
        refine HK.out.to (fun w' : World => w'.cell? ⟨g, j, none⟩ = some (.int .u64 (last : Nat))) (fun _ h => h) (HC5.out) ?_
        clear HK hS
        have hS : (fun w' : World => w'.cell? ⟨g, j, none⟩ = some (.int .u64 (last : Nat))) (w5) := HC5.out
        try simp only [List.getElem_toArray, List.getElem_cons_succ, List.getElem_cons_zero, Act.put, List.setIfInBounds_toArray, List.set_cons_zero, List.set_cons_succ]
        refine reg_take (i := 11) (v := ?_) rfl (by kernel_rfl) (by kernel_rfl) (by kernel_rfl) (fun _ _ _ h => h) (Or.inl ⟨by kernel_rfl, ?_⟩) hS ?_
        rotate_left
        · (intro w' hSw; go_simp <;> with_reducible rfl)
        try simp only [List.getElem_toArray, List.getElem_cons_succ, List.getElem_cons_zero, Act.put, List.setIfInBounds_toArray, List.set_cons_zero, List.set_cons_succ]
        refine wpAnyH_done (by kernel_rfl) ?_ _
        try simp only [List.getElem_toArray, List.getElem_cons_succ, List.getElem_cons_zero]
        try simp only [List.getElem_toArray, List.getElem_cons_succ, List.getElem_cons_zero, Act.put, List.setIfInBounds_toArray, List.set_cons_zero, List.set_cons_succ]
        have H5 := Lib.hid (And.intro htk5 (And.intro ho5 hstep))
        have d3 := htk5.c3
        clear htk5 ho5 hstep
        rcases H5.out.2.2 with ⟨rfl, hs5⟩ | ⟨her, hs5⟩
        · have HSX := Lib.hid hs5
          clear hs5
          go_wp2_with fail
          go_roundw
          case rel =>
            refine ⟨j + 1 + 1, out ++ [z], o5, p5, by omega, by go_num, ⟨H5.out.1, ?_, getD_u HR.out.1.u64 HZ.out, HW5.out rfl⟩, by simp [HR.out.2.1], ?_⟩
            · rw [List.length_append, List.map_append, HG.out.2.2.2.2.2.2]
              exact H5.out.2.1
            · rw [HR.out.2.2.1, show n - (j + 1 + 1) = f by have := HR.out.2.2.2; omega]
              show (match stepX bs en out o p with | none => none | some q => decX bs en f (out ++ [q.1]) q.2.1 q.2.2) = _
              rw [HSX.out]
          case measure => simp [intOf]; omega
        · have hne : ¬ er = 0 := by omega
          have hfin : XDecPost w (decXL bs n) (.returned (.tuple #[.slice none 0 0, .int .i64 er])) w5.drew := by
            refine ⟨[], er, none, 0, rfl, ⟨rfl, .inl ⟨rfl, rfl⟩⟩, (HL.out _ H5.out.1.keep).drew, fun j => by simp, .inr ⟨⟨hne, rfl⟩, ?_⟩⟩
            have hd : decX bs en n [] none 0 = none := by
              rw [HR.out.2.2.1]
              show (match stepX bs en out o p with | none => none | some q => decX bs en f (out ++ [q.1]) q.2.1 q.2.2) = _
              rw [hs5]
            unfold decXL
            rw [← H1.out.2.2.2.2, hd]
          have HF := Lib.hid hfin
          clear hfin hs5 her
          go_wp2_with fail
          have hdd : w5.drew.cell? ⟨t, 3, none⟩ = some (.int .i64 er) := d3
          clear d3
          have hS : (fun w' : World => w'.cell? ⟨t, 3, none⟩ = some (.int .i64 er)) (w5.drew) := hdd
          refine reg_start (fun w' : World => w'.cell? ⟨t, 3, none⟩ = some (.int .i64 er)) (by kernel_rfl) hS ?_
          refine reg_take (i := 0) (v := ?_) rfl (by kernel_rfl) (by kernel_rfl) (by kernel_rfl) (fun _ _ _ h => h) (Or.inl ⟨by kernel_rfl, ?_⟩) hS ?_
          rotate_left
          · (intro w' hSw; go_simp <;> with_reducible rfl)
          try simp only [List.getElem_toArray, List.getElem_cons_succ, List.getElem_cons_zero, Act.put, List.setIfInBounds_toArray, List.set_cons_zero, List.set_cons_succ]
          refine reg_take (i := 1) (v := ?_) rfl (by kernel_rfl) (by kernel_rfl) (by kernel_rfl) (fun _ _ _ h => h) (Or.inl ⟨by kernel_rfl, ?_⟩) hS ?_
          rotate_left
          · (intro w' hSw; go_simp <;> with_reducible rfl)
          try simp only [List.getElem_toArray, List.getElem_cons_succ, List.getElem_cons_zero, Act.put, List.setIfInBounds_toArray, List.set_cons_zero, List.set_cons_succ]
          refine reg_take (i := 2) (v := ?_) rfl (by kernel_rfl) (by kernel_rfl) (by kernel_rfl) (fun _ _ _ h => h) (Or.inl ⟨by kernel_rfl, ?_⟩) hS ?_
          rotate_left
          · (intro w' hSw; go_simp <;> with_reducible rfl)
          try simp only [List.getElem_toArray, List.getElem_cons_succ, List.getElem_cons_zero, Act.put, List.setIfInBounds_toArray, List.set_cons_zero, List.set_cons_succ]
          refine reg_take (i := 3) (v := ?_) rfl (by kernel_rfl) (by kernel_rfl) (by kernel_rfl) (fun _ _ _ h => h) (Or.inl ⟨by kernel_rfl, ?_⟩) hS ?_
          rotate_left
          · (intro w' hSw; go_simp <;> with_reducible rfl)
          try simp only [List.getElem_toArray, List.getElem_cons_succ, List.getElem_cons_zero, Act.put, List.setIfInBounds_toArray, List.set_cons_zero, List.set_cons_succ]
          refine reg_take (i := 4) (v := ?_) rfl (by kernel_rfl) (by kernel_rfl) (by kernel_rfl) (fun _ _ _ h => h) (Or.inl ⟨by kernel_rfl, ?_⟩) hS ?_
          rotate_left
          · (intro w' hSw; go_simp <;> with_reducible rfl)
          try simp only [List.getElem_toArray, List.getElem_cons_succ, List.getElem_cons_zero, Act.put, List.setIfInBounds_toArray, List.set_cons_zero, List.set_cons_succ]
          refine reg_take (i := 5) (v := ?_) rfl (by kernel_rfl) (by kernel_rfl) (by kernel_rfl) (fun _ _ _ h => h) (Or.inl ⟨by kernel_rfl, ?_⟩) hS ?_
          rotate_left
          · (intro w' hSw; go_simp <;> with_reducible rfl)
          try simp only [List.getElem_toArray, List.getElem_cons_succ, List.getElem_cons_zero, Act.put, List.setIfInBounds_toArray, List.set_cons_zero, List.set_cons_succ]
          refine wpAnyH_done (by kernel_rfl) ?_ _
          try simp only [List.getElem_toArray, List.getElem_cons_succ, List.getElem_cons_zero]
          try simp only [List.getElem_toArray, List.getElem_cons_succ, List.getElem_cons_zero, Act.put, List.setIfInBounds_toArray, List.set_cons_zero, List.set_cons_succ]
          go_wp2_with fail
          go_ret2
          exact HF.out
    · obtain rfl : k = n := by omega
      have HR := Lib.hid (And.intro hst (And.intro hlen (hdec.trans (show decX bs en (k - k) out o p = some (out, p) by rw [Nat.sub_self]; rfl))))
      clear hst hlen hdec
      have hle := HR.out.1.tk.rd.le
      have hsm8 := HR.out.1.tk.rd.small
      have hen8 := HR.out.1.tk.rd.en_le
      obtain ⟨lf, hlf⟩ : ∃ lf : Nat, lf = en - p := ⟨_, rfl⟩
      have hni : (en : Int) - p = (lf : Int) := by omega
      have hl8 : lf ≤ 8796093022208 := by omega
      have HN := Lib.hid (And.intro hlf hle)
      clear hlf hle hsm8 hen8
      go_wp2_with fail
      refine (left_any _ _ _ _ _ _ HR.out.1.tk.rd).mono ?_
      rintro e w3 ⟨rfl, k1, rfl⟩
      rw [hni]
      clear hni
      have H3 := Lib.hid (HR.out.1.tk.re.drewN k1)
      by_cases h8 : lf < 8
      · have hmi : min (lf : Int) 64 = (lf : Int) := by omega
        have hd : decide ((64 : Int) < (lf : Int)) = false := by simp; omega
        have hd2 : decide ((lf : Int) < 64) = true := by simp; omega
        have hd3 : decide ((8 : Int) ≤ (lf : Int)) = false := by simp; omega
        have hd4 : ¬ ((8 : Int) ≤ (lf : Int)) := by omega
        go_wp2_with fail
        refine (tget_any H3.out lf (by omega)).mono ?_
        rintro e w4 ⟨rfl, h4⟩
        have hok : tget bs en 0 p lf = (gets bs p lf, 0, p + lf) := tget_ok (by have := HN.out; omega)
        rw [hok] at h4
        rw [hok]
        simp only [] at h4
        obtain ⟨z, hz⟩ : ∃ z, z = gets bs p lf := ⟨_, rfl⟩
        have hz64 : z < 18446744073709551616 := by rw [hz]; exact gets_u64 _ _ _ (by omega)
        rw [← hz]
        have H4 := Lib.hid (And.intro h4 hz)
        clear h4 hz hok hmi hd hd2
        by_cases h0 : z = 0
        · subst h0
          rw [show ((0 : Nat) : Int) = 0 from rfl]
          go_wp2_with fail
          refine (twrong_any H4.out.1 false).mono ?_
          rintro e w5 ⟨rfl, h5⟩
          rw [if_neg (by simp)] at h5
          obtain ⟨A3, c3, hv3, -, -⟩ := own_form HR.out.1.row
          have hrow5 := own_keeps HR.out.1.row h5.keep (fun q hq e => by
            have := (HR.out.1.row.lt q hq).1
            have := HT.out.2.2.2.2.1
            omega)
          have hk5 := HR.out.1.tk.on h5
          have hfin : XDecPost w (decXL bs k) (.returned (.tuple #[.slice A3 out.length c3, .int .i64 0])) w5 := by
            refine ⟨out, 0, A3, c3, rfl, own_base (hv3 ▸ hrow5) (by have := HT.out.2.2.2.2; omega), HL.out _ hk5.keep, HR.out.1.u64, .inl ⟨rfl, ?_⟩⟩
            unfold decXL
            rw [← H1.out.2.2.2.2, HR.out.2.2]
            show (if endX bs en p then some out else none) = some out
            rw [if_pos ⟨by rw [← HN.out.1]; exact h8, by rw [← HN.out.1]; exact H4.out.2.symm⟩]
          have HF := Lib.hid (And.intro hfin hv3)
          have d3 := h5.c3
          clear hfin hv3 h5 hk5 hrow5
          go_wp2_with fail
          go_ret2
          rw [HF.out.2]
          exact HF.out.1
        · have d : ((z : Int) != 0) = true := by simp; omega
          go_wp2_with fail
          try rw [d]
          refine (twrong_any H4.out.1 true).mono ?_
          rintro e w5 ⟨rfl, h5⟩
          rw [if_pos ⟨rfl, rfl⟩] at h5
          have H5 := Lib.hid h5
          clear h5
          have hfin : XDecPost w (decXL bs k) (.returned (.tuple #[.slice none 0 0, .int .i64 11])) w5.drew := by
            refine ⟨[], 11, none, 0, rfl, ⟨rfl, .inl ⟨rfl, rfl⟩⟩, (HL.out _ (HR.out.1.tk.on H5.out).keep).drew, fun j => by simp, .inr ⟨⟨by decide, rfl⟩, ?_⟩⟩
            unfold decXL
            rw [← H1.out.2.2.2.2, HR.out.2.2]
            show (if endX bs en p then some out else none) = none
            rw [if_neg (fun h => h0 (by have h2 := h.2; rw [← HN.out.1, ← H4.out.2] at h2; exact h2))]
          have HF := Lib.hid hfin
          have d3 := H5.out.c3
          clear hfin
          go_wp2_with fail
          have hdd : w5.drew.cell? ⟨t, 3, none⟩ = some (.int .i64 11) := d3
          clear d3
          have hS : (fun w' : World => w'.cell? ⟨t, 3, none⟩ = some (.int .i64 11)) (w5.drew) := hdd
          refine reg_start (fun w' : World => w'.cell? ⟨t, 3, none⟩ = some (.int .i64 11)) (by kernel_rfl) hS ?_
          refine reg_take (i := 0) (v := ?_) rfl (by kernel_rfl) (by kernel_rfl) (by kernel_rfl) (fun _ _ _ h => h) (Or.inl ⟨by kernel_rfl, ?_⟩) hS ?_
          rotate_left
          · (intro w' hSw; go_simp <;> with_reducible rfl)
          try simp only [List.getElem_toArray, List.getElem_cons_succ, List.getElem_cons_zero, Act.put, List.setIfInBounds_toArray, List.set_cons_zero, List.set_cons_succ]
          refine reg_take (i := 1) (v := ?_) rfl (by kernel_rfl) (by kernel_rfl) (by kernel_rfl) (fun _ _ _ h => h) (Or.inl ⟨by kernel_rfl, ?_⟩) hS ?_
          rotate_left
          · (intro w' hSw; go_simp <;> with_reducible rfl)
          try simp only [List.getElem_toArray, List.getElem_cons_succ, List.getElem_cons_zero, Act.put, List.setIfInBounds_toArray, List.set_cons_zero, List.set_cons_succ]
          refine reg_take (i := 2) (v := ?_) rfl (by kernel_rfl) (by kernel_rfl) (by kernel_rfl) (fun _ _ _ h => h) (Or.inl ⟨by kernel_rfl, ?_⟩) hS ?_
          rotate_left
          · (intro w' hSw; go_simp <;> with_reducible rfl)
          try simp only [List.getElem_toArray, List.getElem_cons_succ, List.getElem_cons_zero, Act.put, List.setIfInBounds_toArray, List.set_cons_zero, List.set_cons_succ]
          refine reg_take (i := 3) (v := ?_) rfl (by kernel_rfl) (by kernel_rfl) (by kernel_rfl) (fun _ _ _ h => h) (Or.inl ⟨by kernel_rfl, ?_⟩) hS ?_
          rotate_left
          · (intro w' hSw; go_simp <;> with_reducible rfl)
          try simp only [List.getElem_toArray, List.getElem_cons_succ, List.getElem_cons_zero, Act.put, List.setIfInBounds_toArray, List.set_cons_zero, List.set_cons_succ]
          refine reg_take (i := 4) (v := ?_) rfl (by kernel_rfl) (by kernel_rfl) (by kernel_rfl) (fun _ _ _ h => h) (Or.inl ⟨by kernel_rfl, ?_⟩) hS ?_
          rotate_left
          · (intro w' hSw; go_simp <;> with_reducible rfl)
          try simp only [List.getElem_toArray, List.getElem_cons_succ, List.getElem_cons_zero, Act.put, List.setIfInBounds_toArray, List.set_cons_zero, List.set_cons_succ]
          refine reg_take (i := 5) (v := ?_) rfl (by kernel_rfl) (by kernel_rfl) (by kernel_rfl) (fun _ _ _ h => h) (Or.inl ⟨by kernel_rfl, ?_⟩) hS ?_
          rotate_left
          · (intro w' hSw; go_simp <;> with_reducible rfl)
          try simp only [List.getElem_toArray, List.getElem_cons_succ, List.getElem_cons_zero, Act.put, List.setIfInBounds_toArray, List.set_cons_zero, List.set_cons_succ]
          refine wpAnyH_done (by kernel_rfl) ?_ _
          try simp only [List.getElem_toArray, List.getElem_cons_succ, List.getElem_cons_zero]
          try simp only [List.getElem_toArray, List.getElem_cons_succ, List.getElem_cons_zero, Act.put, List.setIfInBounds_toArray, List.set_cons_zero, List.set_cons_succ]
          go_wp2_with fail
          go_ret2
          exact HF.out
      · have hd3 : decide ((8 : Int) ≤ (lf : Int)) = true := by simp; omega
        have hd4 : (8 : Int) ≤ (lf : Int) := by omega
        go_wp2_with fail
        refine (twrong_any H3.out true).mono ?_
        rintro e w5 ⟨rfl, h5⟩
        rw [if_pos ⟨rfl, rfl⟩] at h5
        have H5 := Lib.hid h5
        clear h5
        have hfin : XDecPost w (decXL bs k) (.returned (.tuple #[.slice none 0 0, .int .i64 11])) w5.drew := by
          refine ⟨[], 11, none, 0, rfl, ⟨rfl, .inl ⟨rfl, rfl⟩⟩, (HL.out _ (HR.out.1.tk.on H5.out).keep).drew, fun j => by simp, .inr ⟨⟨by decide, rfl⟩, ?_⟩⟩
          unfold decXL
          rw [← H1.out.2.2.2.2, HR.out.2.2]
          show (if endX bs en p then some out else none) = none
          rw [if_neg (fun h => h8 (by have h1 := h.1; rw [← HN.out.1] at h1; exact h1))]
        have HF := Lib.hid hfin
        have d3 := H5.out.c3
        clear hfin
        go_wp2_with fail
        have hdd : w5.drew.cell? ⟨t, 3, none⟩ = some (.int .i64 11) := d3
        clear d3
        have hS : (fun w' : World => w'.cell? ⟨t, 3, none⟩ = some (.int .i64 11)) (w5.drew) := hdd
        refine reg_start (fun w' : World => w'.cell? ⟨t, 3, none⟩ = some (.int .i64 11)) (by kernel_rfl) hS ?_
        refine reg_take (i := 0) (v := ?_) rfl (by kernel_rfl) (by kernel_rfl) (by kernel_rfl) (fun _ _ _ h => h) (Or.inl ⟨by kernel_rfl, ?_⟩) hS ?_
        rotate_left
        · (intro w' hSw; go_simp <;> with_reducible rfl)
        try simp only [List.getElem_toArray, List.getElem_cons_succ, List.getElem_cons_zero, Act.put, List.setIfInBounds_toArray, List.set_cons_zero, List.set_cons_succ]
        refine reg_take (i := 1) (v := ?_) rfl (by kernel_rfl) (by kernel_rfl) (by kernel_rfl) (fun _ _ _ h => h) (Or.inl ⟨by kernel_rfl, ?_⟩) hS ?_
        rotate_left
        · (intro w' hSw; go_simp <;> with_reducible rfl)
        try simp only [List.getElem_toArray, List.getElem_cons_succ, List.getElem_cons_zero, Act.put, List.setIfInBounds_toArray, List.set_cons_zero, List.set_cons_succ]
        refine reg_take (i := 2) (v := ?_) rfl (by kernel_rfl) (by kernel_rfl) (by kernel_rfl) (fun _ _ _ h => h) (Or.inl ⟨by kernel_rfl, ?_⟩) hS ?_
        rotate_left
        · (intro w' hSw; go_simp <;> with_reducible rfl)
        try simp only [List.getElem_toArray, List.getElem_cons_succ, List.getElem_cons_zero, Act.put, List.setIfInBounds_toArray, List.set_cons_zero, List.set_cons_succ]
        refine reg_take (i := 3) (v := ?_) rfl (by kernel_rfl) (by kernel_rfl) (by kernel_rfl) (fun _ _ _ h => h) (Or.inl ⟨by kernel_rfl, ?_⟩) hS ?_
        rotate_left
        · (intro w' hSw; go_simp <;> with_reducible rfl)
        try simp only [List.getElem_toArray, List.getElem_cons_succ, List.getElem_cons_zero, Act.put, List.setIfInBounds_toArray, List.set_cons_zero, List.set_cons_succ]
        refine reg_take (i := 4) (v := ?_) rfl (by kernel_rfl) (by kernel_rfl) (by kernel_rfl) (fun _ _ _ h => h) (Or.inl ⟨by kernel_rfl, ?_⟩) hS ?_
        rotate_left
        · (intro w' hSw; go_simp <;> with_reducible rfl)
        try simp only [List.getElem_toArray, List.getElem_cons_succ, List.getElem_cons_zero, Act.put, List.setIfInBounds_toArray, List.set_cons_zero, List.set_cons_succ]
        refine reg_take (i := 5) (v := ?_) rfl (by kernel_rfl) (by kernel_rfl) (by kernel_rfl) (fun _ _ _ h => h) (Or.inl ⟨by kernel_rfl, ?_⟩) hS ?_
        rotate_left
        · (intro w' hSw; go_simp <;> with_reducible rfl)
        try simp only [List.getElem_toArray, List.getElem_cons_succ, List.getElem_cons_zero, Act.put, List.setIfInBounds_toArray, List.set_cons_zero, List.set_cons_succ]
        refine wpAnyH_done (by kernel_rfl) ?_ _
        try simp only [List.getElem_toArray, List.getElem_cons_succ, List.getElem_cons_zero]
        try simp only [List.getElem_toArray, List.getElem_cons_succ, List.getElem_cons_zero, Act.put, List.setIfInBounds_toArray, List.set_cons_zero, List.set_cons_succ]
        go_wp2_with fail
        go_ret2
        exact HF.out
end Go.Proofs.Ytllmdgbaidkmfaa
