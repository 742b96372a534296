/-
  The contract of delta.Decode.
-/
import Derived.Test.YtgphdigcilbnlaaDeltaN
namespace Go.Proofs.Ytgphdigcilbnlaa
open Go.RowKit
set_option linter.unusedVariables false
set_option linter.unusedSimpArgs false
/-- n times more behind 'out': the times, the error, the place behind. -/
def decR (bs : List Nat) (en : Nat) : Nat → List Int → Int → Nat → List Int × Int × Nat
  | 0, out, _, p => (out, 0, p)
  | n + 1, out, step, p => if (nextR bs en out step p).2.1 = 0 then decR bs en n (out ++ [(nextR bs en out step p).1]) (nextR bs en out step p).2.2.1 (nextR bs en out step p).2.2.2 else ([], (nextR bs en out step p).2.1, p)
def decM (bs : List Nat) (en : Nat) (d : List Int × Int × Nat) : List Int × Int :=
  if d.2.1 = 0 then (if endR bs en d.2.2 then (d.1, 0) else ([], 11)) else ([], d.2.1)
def decL (bs : List Nat) (n : Nat) : List Int × Int := decM bs (8 * bs.length) (decR bs (8 * bs.length) n [] 0 0)
def DecPost (w : World) (l : List Int × Int) (e : Ending) (w' : World) : Prop :=
  ∃ A c, e = .returned (.tuple #[.slice A l.1.length c, .int .i64 l.2]) ∧ w'.ownsRow w.heap.size 3 1 (.slice A l.1.length c) l.1.length (l.1.map intZ) ∧ Keeps (fun _ => False) w w'
theorem nextR_range (bs : List Nat) (en : Nat) (out : List Int) (step : Int) (p : Nat) (hs : I64 step) : I64 (nextR bs en out step p).1 ∧ I64 (nextR bs en out step p).2.2.1 := by
  unfold nextR
  split
  · split
    · exact ⟨i64of_range (gets_64 _ _ _ (by omega)), hs⟩
    · exact ⟨⟨by show _ ≤ (0 : Int); omega, by show (0 : Int) ≤ _; omega⟩, hs⟩
  · exact ⟨add64_I _ _, add64_I _ _⟩
theorem getD_I {l : List Int} {x : Int} (h : ∀ j, I64 (l.getD j 0)) (hx : I64 x) : ∀ j, I64 ((l ++ [x]).getD j 0) := by
  intro j
  rw [List.getD_eq_getElem?_getD]
  rcases Nat.lt_trichotomy j l.length with hj | hj | hj
  · rw [List.getElem?_append_left hj, ← List.getD_eq_getElem?_getD]; exact h j
  · subst hj; simpa using hx
  · rw [List.getElem?_eq_none (by simp; omega)]; exact ⟨by show _ ≤ (0 : Int); omega, by show (0 : Int) ≤ _; omega⟩
structure DSt (w wr : World) (r : Nat) (D : Nat → Prop) (bs : List Nat) (en x : Nat) (out : List Int) (step : Int) (p : Nat) (v : Value) : Prop where
  rd : Rd wr r D bs p en
  br : Blk wr x 24 #[.pointer (some ⟨r, 0, none⟩)]
  bo : Blk wr (x + 1) 23 #[v]
  bs : Blk wr (x + 2) 3 #[.int .i64 step]
  row : wr.ownsRow (x + 3) 3 1 v out.length (out.map intZ)
  keep : Keeps (fun _ => False) w wr
  ints : ∀ j, I64 (out.getD j 0)
  st : I64 step
  old : w.heap.size ≤ r ∧ r < x
  dlt : ∀ k, D k → k < x
theorem next_any {w wr : World} {r : Nat} {D : Nat → Prop} {bs : List Nat} {en x : Nat} {out : List Int} {step : Int} {p : Nat} {v : Value} (h : DSt w wr r D bs en x out step p v) (hl : out.length ≤ 4096) :
    Calls Try.prog 46 #[.pointer (some ⟨x + 1, 0, none⟩), .pointer (some ⟨x, 0, none⟩), .pointer (some ⟨x + 2, 0, none⟩)] wr (NextPost wr r D bs en (x + 2) (nextR bs en out step p)) := by
  obtain ⟨h1, h2, h3, h4, h5, h6, h7, h8, h9, h10⟩ := h
  cases out with
  | nil => exact next_first wr r D bs p en (x + 3) (x + 1) x (x + 2) v step h1 h2 h3 h4 h5
  | cons a l => exact next_more wr r D bs p en (x + 3) (x + 1) x (x + 2) l.length v (a :: l) step h1 h2 h3 h4 rfl h5 (by omega) h7 h8 (fun hk => by have := h10 _ hk; omega) (by simp at hl; omega)
theorem DSt.next {w wr w' : World} {r : Nat} {D : Nat → Prop} {bs : List Nat} {en x : Nat} {out : List Int} {step : Int} {p : Nat} {v : Value} {s' : Int} {p' : Nat} (h : DSt w wr r D bs en x out step p v)
    (hr : Rd w' r D bs p' en) (hs : Blk w' (x + 2) 3 #[.int .i64 s']) (hk : Keeps (fun k => k = r ∨ k = x + 2) wr w') (hs' : I64 s') : DSt w w' r D bs en x out s' p' v := by
  obtain ⟨h1, h2, h3, h4, h5, h6, h7, h8, h9, h10⟩ := h
  refine ⟨hr, h2.keeps hk (by omega), h3.keeps hk (by omega), hs, own_keeps h5 hk (fun g hg => ?_), h6.trans hk (fun y hy e => by omega), h7, hs', h9, h10⟩
  have := (h5.lt g hg).1
  omega
theorem takeR_err (bs : List Nat) (en p : Nat) : (takeR bs en p).2.1 = 0 ∨ (takeR bs en p).2.1 = 10 ∨ (takeR bs en p).2.1 = 11 := by
  unfold takeR takeM
  split
  · split
    · split
      · exact .inl rfl
      · exact .inr (.inr rfl)
    · exact .inr (.inl rfl)
  · rcases markR_err bs en 4 p with h | h
    · exact .inl h
    · exact .inr (.inl h)
theorem nextR_err (bs : List Nat) (en : Nat) (out : List Int) (step : Int) (p : Nat) : (nextR bs en out step p).2.1 = 0 ∨ (nextR bs en out step p).2.1 = 10 ∨ (nextR bs en out step p).2.1 = 11 := by
  unfold nextR
  split
  · split
    · exact .inl rfl
    · exact .inr (.inl rfl)
  · exact takeR_err _ _ _
set_option maxHeartbeats 400000 in
theorem decode_arg (w : World) (A : Option Addr) (len c : Nat) (n : Int) (hn : n < 0) :
    Calls Try.prog 31 #[.slice A len c, .int .i64 n] w (DecPost w ([], 2)) := by
  go_enter Try.func31, Try.ntmps31
  go_wp2
  go_ret2
  exact ⟨none, 0, rfl, ⟨rfl, .inl ⟨rfl, rfl⟩⟩, Keeps.refl _ _⟩
set_option maxHeartbeats 400000 in
theorem decode_big (w : World) (A : Option Addr) (len c : Nat) (n : Int) (hn : 4096 < n) :
    Calls Try.prog 31 #[.slice A len c, .int .i64 n] w (DecPost w ([], 3)) := by
  have h0 : ¬ n < 0 := by omega
  go_enter Try.func31, Try.ntmps31
  go_wp2
  go_ret2
  exact ⟨none, 0, rfl, ⟨rfl, .inl ⟨rfl, rfl⟩⟩, Keeps.refl _ _⟩
set_option maxRecDepth 100000 in
set_option maxHeartbeats 1600000 in
theorem decode_ok (w : World) (A : Option Addr) (len c : Nat) (D0 : Nat → Prop) (bs : List Nat) (n : Nat) (hl : bs.length = len) (hsl : Sl w D0 A len (byteC bs)) (hbyte : ∀ j, bs.getD j 0 < 256) (hsm : len ≤ 1048576) (hn : n ≤ 4096) :
    Calls Try.prog 31 #[.slice A len c, .int .i64 n] w (DecPost w (decL bs n)) := by
  have HS := Lib.hid (And.intro hsl (And.intro hbyte hl))
  clear hsl hbyte hl
  have d1 : decide ((n : Int) < 0) = false := by simp
  have d2 : decide ((4096 : Int) < n) = false := by simp; omega
  go_enter Try.func31, Try.ntmps31
  go_wp2_with fail
  refine (newReader_fit _ _ _ _ _ bs _ HS.out.2.2 HS.out.1 HS.out.2.1 (by omega) (by omega) (by omega)).mono ?_
  rintro e w1 ⟨r, rfl, hlr, hr1, hk1⟩
  clear d1 d2
  obtain ⟨en, hen⟩ : ∃ en, en = (8 * (len : Int)).toNat := ⟨_, rfl⟩
  rw [← hen] at hr1
  have hrlt : r < w1.heap.size := by obtain ⟨A', c', hb, -⟩ := hr1.blk; exact hb.lt
  have H1 := Lib.hid (And.intro hr1 (And.intro hk1 (And.intro hlr (And.intro hrlt hen))))
  clear hr1 hk1 hlr hrlt hen
  go_wp2_with fail
  obtain ⟨x, hx⟩ : ∃ x, x = w1.heap.size := ⟨_, rfl⟩
  obtain ⟨D, hD⟩ : ∃ D : Nat → Prop, D = fun k => w.heap.size ≤ k ∧ k < r := ⟨_, rfl⟩
  have hst : DSt w (((w1.alloc (.cells #[.pointer (some ⟨r, 0, none⟩)] 24)).alloc (.cells #[.slice none 0 0] 23)).alloc (.cells #[.int .i64 0] 3)) r D bs en x [] 0 0 (.slice none 0 0) := by
    obtain ⟨hr1, hk1, hlr, hrlt, hen⟩ := H1.out
    subst hx
    subst hD
    refine ⟨hr1.keeps (S := fun _ => False) ((((Keeps.refl _ w1).alloc _).alloc _).alloc _) (fun h => h) (fun _ _ h => h), ((Blk.fresh w1 _ _).alloc _).alloc _, ?_, ?_, ⟨rfl, .inl ⟨rfl, rfl⟩⟩, ((hk1.alloc _).alloc _).alloc _, fun j => ?_, ⟨by omega, by omega⟩, ⟨hlr, hrlt⟩, fun k hk => by omega⟩
    · have := (Blk.fresh (w1.alloc (.cells #[.pointer (some ⟨r, 0, none⟩)] 24)) 23 #[.slice none 0 0]).alloc (.cells #[.int .i64 0] 3)
      simpa using this
    · have := (Blk.fresh ((w1.alloc (.cells #[.pointer (some ⟨r, 0, none⟩)] 24)).alloc (.cells #[.slice none 0 0] 23)) 3 #[.int .i64 0])
      simpa using this
    · exact ⟨by simp, by simp⟩
  have H2 := Lib.hid hst
  rw [← hx]
  clear hst hD hx
  go_loopw [29] (fun i wr => ∃ (k : Nat) (out : List Int) (step : Int) (p : Nat) (v : Value), k ≤ n ∧ i = .int .i64 k ∧ DSt w wr r D bs en x out step p v ∧ out.length = k ∧ decR bs en n [] 0 0 = decR bs en (n - k) out step p)
    (fun i _ => n - (intOf i).toNat)
  case atStart => exact ⟨0, [], 0, 0, .slice none 0 0, Nat.zero_le _, rfl, H2.out, rfl, rfl⟩
  case round =>
    obtain ⟨k, out, step, p, v, hk, rfl, hst, hlen, hdec⟩ := hrel
    by_cases hlt : k < n
    · obtain ⟨f, hf⟩ : ∃ f, n - k = f + 1 := ⟨n - k - 1, by omega⟩
      rw [hf] at hdec
      have HR := Lib.hid (And.intro hst (And.intro hlen (And.intro hdec hf)))
      clear hst hlen hdec hf
      go_wp2_with fail
      refine (next_any HR.out.1 (by rw [HR.out.2.1]; omega)).mono ?_
      rintro e w2 ⟨rfl, hr2, hs2, hk2⟩
      have hrg := nextR_range bs en out step p HR.out.1.st
      have her := nextR_err bs en out step p
      have hd2 : decR bs en (f + 1) out step p = if (nextR bs en out step p).2.1 = 0 then decR bs en f (out ++ [(nextR bs en out step p).1]) (nextR bs en out step p).2.2.1 (nextR bs en out step p).2.2.2 else ([], (nextR bs en out step p).2.1, p) := rfl
      obtain ⟨q, hq⟩ : ∃ q, q = nextR bs en out step p := ⟨_, rfl⟩
      rw [← hq] at hr2 hs2 hrg her hd2
      rw [← hq]
      obtain ⟨t, er, s', p'⟩ := q
      simp only [] at hr2 hs2 hrg her hd2
      have hst2 := HR.out.1.next hr2 hs2 hk2 hrg.2
      have hfin : ∀ z : Int, (z = 10 ∨ z = 11) → z = er → ∃ A c, Ending.returned (.tuple #[.slice none 0 0, .int .i64 z]) = .returned (.tuple #[.slice A (decL bs n).1.length c, .int .i64 (decL bs n).2]) ∧ w2.ownsRow w.heap.size 3 1 (.slice A (decL bs n).1.length c) (decL bs n).1.length ((decL bs n).1.map intZ) ∧ Keeps (fun _ => False) w w2 := by
        intro z hz e
        have hne : er ≠ 0 := by omega
        rw [if_neg hne] at hd2
        have hen : en = 8 * bs.length := by have := H1.out.2.2.2.2; have := HS.out.2.2; omega
        have : decL bs n = ([], er) := by
          unfold decL
          rw [← hen, HR.out.2.2.1, hd2]
          show (if er = 0 then _ else _) = _
          rw [if_neg hne]
        rw [this, e]
        exact ⟨none, 0, rfl, ⟨rfl, .inl ⟨rfl, rfl⟩⟩, hst2.keep⟩
      have HF := Lib.hid hfin
      have H3 := Lib.hid (And.intro hst2 (And.intro hrg (And.intro hd2 hq)))
      clear hr2 hs2 hk2 hrg hd2 hq hst2 hfin
      rcases her with rfl | rfl | rfl
      · have c3o := H3.out.1.bo.cell 0
        simp at c3o
        obtain ⟨A3, c3, hv3, -, -⟩ := own_form H3.out.1.row
        have HV3 := Lib.hid hv3
        clear hv3
        go_wp2_with (at_builtin; refine wpList_append_sl (f := fun _ => .int .i64 t) (D := fun k => k = w2.heap.size) (base := x + 3) (n := out.length) (xs := out.map intZ) intElem rfl (.tmp 39) (.tmp 41) rfl rfl rfl ?hown ?hsl ?h1 ?h63 ?hby ?hbase ?_)
        case hown => exact H3.out.1.row.alloc _
        case hsl => exact sl_one _ _ _
        case h1 => intro j _; rfl
        case h63 => unfold maxLen; have := HR.out.2.1; omega
        case hby => have := HR.out.2.1; omega
        case hbase => have := H3.out.1.bs.lt; simp; omega
        intro v4 w4 hown4 hg4 hat4
        obtain ⟨A4, c4', hv4, -, -⟩ := own_form hown4
        subst hv4
        have hk4 : Keeps (fun k => v.ownBlock = some k) w2 w4 := ((Keeps.refl _ w2).alloc _).grown hg4 (fun q hq _ => hq)
        have hvb : ∀ g, v.ownBlock = some g → x + 3 ≤ g := fun g hg => (H3.out.1.row.lt g hg).1
        have hbo4 := H3.out.1.bo.keeps hk4 (fun e => by have := hvb _ e; omega)
        have hbs4 := H3.out.1.bs.keeps hk4 (fun e => by have := hvb _ e; omega)
        have hbr4 := H3.out.1.br.keeps hk4 (fun e => by have := hvb _ e; omega)
        have hrd4 := H3.out.1.rd.keeps hk4 (fun e => by have := hvb _ e; have := H3.out.1.old; omega) (fun k hk e => by have := hvb _ e; have := H3.out.1.dlt k hk; omega)
        have hkk4 : Keeps (fun _ => False) w w4 := H3.out.1.keep.trans hk4 (fun y hy e => by have := hvb _ e; have := H3.out.1.old; omega)
        have c4 := hbo4.cell 0
        have f4 := hbo4.frozen 0
        simp at c4 f4
        have H4 := Lib.hid (And.intro hown4 (And.intro hbo4 (And.intro hbs4 (And.intro hbr4 (And.intro hrd4 hkk4)))))
        clear hown4 hg4 hat4 hk4 hvb hbo4 hbs4 hbr4 hrd4 hkk4
        go_wp2_with fail
        go_roundw
        case rel =>
          obtain ⟨hown4, hbo4, hbs4, hbr4, hrd4, hkk4⟩ := H4.out
          obtain ⟨hst2, hrg, hd2, hq⟩ := H3.out
          have k5 : Keeps (fun k => k = x + 1) w4 (w4.setCell ⟨x + 1, 0, none⟩ (.slice A4 (out.length + 1) c4')) := (Keeps.refl (fun k => k = x + 1) w4).setCell (p := ⟨x + 1, 0, none⟩) (fun _ => rfl) _
          refine ⟨k + 1, out ++ [t], s', p', .slice A4 (out.length + 1) c4', by omega, by go_num, ⟨?_, ?_, ?_, ?_, ?_, ?_, ?_, hrg.2, hst2.old, hst2.dlt⟩, by simp [HR.out.2.1], ?_⟩
          · exact hrd4.keeps k5 (fun e => by have := hst2.old; omega) (fun k hk e => by have := hst2.dlt k hk; omega)
          · exact hbr4.keeps k5 (by omega)
          · simpa using hbo4.set 0 (.slice A4 (out.length + 1) c4')
          · exact hbs4.keeps k5 (by omega)
          · have h := own_keeps hown4 k5 (fun g hg e => by have := (hown4.lt g hg).1; omega)
            rw [List.length_append, List.map_append]
            exact h
          · exact hkk4.trans k5 (fun y hy e => by have := hst2.old; omega)
          · exact getD_I hst2.ints hrg.1
          · rw [HR.out.2.2.1, hd2, show n - (k + 1) = f by have := HR.out.2.2.2; omega]; exact if_pos (by trivial)
        case measure => simp [intOf]; omega
      · go_wp2_with fail
        go_ret2
        exact HF.out 10 (.inl rfl) rfl
      · go_wp2_with fail
        go_ret2
        exact HF.out 11 (.inr rfl) rfl
    · obtain rfl : k = n := by omega
      rw [Nat.sub_self] at hdec
      have c3 := hst.br.cell 0
      simp at c3
      have HR := Lib.hid (And.intro hst (And.intro hlen hdec))
      clear hst hlen hdec
      go_wp2_with fail
      refine (ended_any _ _ _ _ _ _ HR.out.1.rd).mono ?_
      rintro e w2 ⟨rfl, hk2⟩
      have hbo2 := HR.out.1.bo.keeps hk2 (fun e => by have := HR.out.1.old; omega)
      have hro2 := own_keeps HR.out.1.row hk2 (fun g hg e => by have := (HR.out.1.row.lt g hg).1; have := HR.out.1.old; omega)
      have hkk2 : Keeps (fun _ => False) w w2 := HR.out.1.keep.trans hk2 (fun y hy e => by have := HR.out.1.old; omega)
      have hen : en = 8 * bs.length := by have := H1.out.2.2.2.2; have := HS.out.2.2; omega
      have hd : decL bs k = if endR bs en p then (out, 0) else ([], 11) := by
        unfold decL
        rw [← hen, HR.out.2.2]
        rfl
      have c4 := hbo2.cell 0
      simp at c4
      obtain ⟨A3, c3', hv3, -, -⟩ := own_form hro2
      rw [hv3] at hro2 c4
      have H2' := Lib.hid (And.intro hro2 (And.intro hkk2 (And.intro hd hen)))
      clear hbo2 hro2 hkk2 hk2 hd hen hv3
      obtain ⟨b, hb⟩ : ∃ b, b = endR bs en p := ⟨_, rfl⟩
      rw [← hb]
      have HB := Lib.hid hb
      clear hb
      cases b
      · go_wp2_with fail
        go_ret2
        obtain ⟨h1, h2, h3, h4⟩ := H2'.out
        rw [← HB.out] at h3
        rw [h3]
        exact ⟨none, 0, rfl, ⟨rfl, .inl ⟨rfl, rfl⟩⟩, h2⟩
      · go_wp2_with fail
        go_ret2
        obtain ⟨h1, h2, h3, h4⟩ := H2'.out
        rw [← HB.out] at h3
        rw [h3]
        exact ⟨A3, c3', rfl, own_base h1 (by have := HR.out.1.old; omega), h2⟩
end Go.Proofs.Ytgphdigcilbnlaa
