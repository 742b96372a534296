/-
  The walk of the law BitsBack.
-/
import Derived.Test.YtgphdigcilbnlaaBitsPiecesW
import Derived.Test.YtgphdigcilbnlaaPieces
import Derived.Test.YtgphdigcilbnlaaBitsPutsW
namespace Go.Proofs.Ytgphdigcilbnlaa
open Go.RowKit
set_option linter.unusedSimpArgs false
set_option linter.unusedVariables false
/-- The bits of pieces, one behind the other. -/
def bitsAll (ps : List (Nat × Nat)) : List Nat := ps.flatMap fun p => bitsTo p.1 p.2 p.2
def pcells (ps : List (Nat × Nat)) : List Value := ps.flatMap fun p => [.int .u64 (p.1 : Nat), .int .i64 (p.2 : Nat)]
theorem bitsAll_snoc (ps : List (Nat × Nat)) (p : Nat × Nat) : bitsAll (ps ++ [p]) = bitsAll ps ++ bitsTo p.1 p.2 p.2 := by simp [bitsAll]
theorem pcells_snoc (ps : List (Nat × Nat)) (p : Nat × Nat) : pcells (ps ++ [p]) = pcells ps ++ [.int .u64 (p.1 : Nat), .int .i64 (p.2 : Nat)] := by simp [pcells]
theorem pcells_length (ps : List (Nat × Nat)) : (pcells ps).length = ps.length * 2 := by
  induction ps with
  | nil => rfl
  | cons p ps ih => unfold pcells at *; rw [List.flatMap_cons, List.length_append, ih]; simp; omega
theorem bitsAll_bit (ps : List (Nat × Nat)) : ∀ j, (bitsAll ps).getD j 0 < 2 := by
  induction ps with
  | nil => intro j; simp [bitsAll]
  | cons p ps ih => unfold bitsAll at *; rw [List.flatMap_cons]; exact bits_append (bitsTo_bit _ _ _) ih
theorem pcells_at (ps : List (Nat × Nat)) (k : Nat) (h : k < ps.length) : (pcells ps)[k * 2]? = some (.int .u64 ((ps[k]'h).1 : Nat)) ∧ (pcells ps)[k * 2 + 1]? = some (.int .i64 ((ps[k]'h).2 : Nat)) := by
  induction ps generalizing k with
  | nil => simp at h
  | cons p ps ih =>
    unfold pcells at *
    rw [List.flatMap_cons]
    cases k with
    | zero => exact ⟨rfl, rfl⟩
    | succ k =>
      have := ih k (by simpa using h)
      rw [show (k + 1) * 2 = k * 2 + 2 by omega]
      simpa using this
theorem split_at (ps : List (Nat × Nat)) (k : Nat) (h : k < ps.length) : bitsAll ps = bitsAll (ps.take k) ++ bitsTo (ps[k]'h).1 (ps[k]'h).2 (ps[k]'h).2 ++ bitsAll (ps.drop (k + 1)) := by
  have e : ps = ps.take k ++ (ps[k]'h :: ps.drop (k + 1)) := by rw [← List.drop_eq_getElem_cons h, List.take_append_drop]
  conv => lhs; rw [e]
  unfold bitsAll
  rw [List.flatMap_append, List.flatMap_cons, List.append_assoc]
theorem take_succ_bits (ps : List (Nat × Nat)) (k : Nat) (h : k < ps.length) : (bitsAll (ps.take (k + 1))).length = (bitsAll (ps.take k)).length + (ps[k]'h).2 := by
  rw [List.take_succ_eq_append_getElem h, bitsAll_snoc, List.length_append, bitsTo_length]
theorem take_le_bits (ps : List (Nat × Nat)) (k : Nat) (h : k < ps.length) : (bitsAll (ps.take k)).length + (ps[k]'h).2 ≤ (bitsAll ps).length := by
  rw [split_at ps k h, List.length_append, List.length_append, bitsTo_length]; omega
theorem own_wr {w : World} {base x : Nat} {g : Option Nat} {L : List Nat} {v : Value} {n : Nat} {xs : List Value} {w' : World} (hx : Wr w x g L) (ho : w.ownsRow base 48 2 v n xs) (hg : w.grownBy w' v.ownBlock) : Wr w' x g L := by
  obtain ⟨h1, h2, v1, hv, hb, hr⟩ := hx
  refine Wr.keeps (S := fun k => v.ownBlock = some k) ⟨h1, h2, v1, hv, hb, hr⟩ ((Keeps.refl _ w).grown hg (fun k hk _ => hk)) ?_ ?_
  · intro e; exact own_ne ho hb (by decide) e
  · intro k hk e
    rcases ho.2 with ⟨rfl, _⟩ | ⟨g', cap, cur, rfl, _, hh, _⟩
    · simp [Value.ownBlock] at e
    · have : g' = k := by simpa [Value.ownBlock] using e
      subst this
      exact own_ne hr (show Blk w g' _ cur from hh) (by decide) (hv.trans hk)
theorem wr_own {w w' : World} {base x : Nat} {g : Option Nat} {L : List Nat} {v : Value} {n : Nat} {xs : List Value} (hx : Wr w x g L) (ho : w.ownsRow base 48 2 v n xs) (hk : Keeps (fun k => k = x ∨ some k = g) w w') : w'.ownsRow base 48 2 v n xs := by
  obtain ⟨h1, h2, v1, hv, hb, hr⟩ := hx
  refine own_keeps ho hk ?_
  rintro k hk' (e | e)
  · exact own_ne ho hb (by decide) (by rw [hk', e])
  · rcases ho.2 with ⟨rfl, _⟩ | ⟨g', cap, cur, rfl, _, hh, _⟩
    · simp [Value.ownBlock] at hk'
    · have : g' = k := by simpa [Value.ownBlock] using hk'
      subst this
      exact own_ne hr (show Blk w g' _ cur from hh) (by decide) (hv.trans e.symm)
theorem pieceInfo : (Try.prog.info? 48).map (fun i => (i.zero, i.size, i.bytes)) = some (some (.agg #[.int .u64 0, .int .i64 0]), 2, 16) := by kernel_rfl

set_option maxRecDepth 100000 in
set_option maxHeartbeats 4000000 in
theorem bitsBack_walk (a0 : Option Addr) (len0 cap0 : Nat) (vs ns : Nat → Int) (w : World) (w0 : IsPieces w a0 len0 cap0 vs ns) :
    Calls Try.prog 7 #[.slice a0 len0 cap0] w fun e w' => e = .returned (.bool true) ∧ Below w.heap.size w w' := by
  have l0 := w0.le
  have l1 := w0.cap_le
  unfold maxLen at l1
  have W0 := Lib.hid w0
  clear w0
  obtain ⟨i0, hi0, hz0, hz1, hz2⟩ := info_parts pieceInfo
  have HI := Lib.hid (And.intro hz1 hz2)
  clear hz1 hz2
  go_enter Try.func7, Try.ntmps7
  go_wp2_with fail
  refine (newWriter_any _).mono ?_
  rintro e w1 ⟨rfl, hx1, hk1⟩
  go_wp2_with fail
  refine (newWriter_any _).mono ?_
  rintro e w2 ⟨rfl, hy2, hk2⟩
  have hx2 := hx1.keeps hk2 (fun h => h) (fun _ _ h => h)
  have hlt : w.heap.size < w1.heap.size := hx1.lt
  have H2 := Lib.hid (And.intro hx2 (And.intro hy2 (And.intro (hk1.trans' hk2) hlt)))
  clear hx1 hk1 hy2 hk2 hx2 hlt
  go_wp2_with fail
  refine (put_fit _ _ _ _ _ _ H2.out.2.1 (by omega) (by omega) (by omega) (by omega) (by simp)).mono ?_
  rintro e w3 ⟨rfl, g3, hy3, hk3, hm3⟩
  have hx3 := wr_wr H2.out.1 H2.out.2.1 (by have := H2.out.2.2.2; omega) (fun _ h => by cases h) hk3
  have hK3 := keeps_new H2.out.2.2.1 hk3 (by have := H2.out.2.2.2; omega) (fun _ h => by cases h)
  have H3 := Lib.hid (And.intro hx3 (And.intro hy3 hK3))
  clear hx3 hy3 hK3 hk3 hm3 H2
  go_wp2_with fail
  refine (len_wr _ _ _ _ H3.out.2.1).mono ?_
  rintro e w4 ⟨rfl, rfl⟩
  have hl3 : ((([] : List Nat) ++ bitsTo (5 : Int).toNat (3 : Int).toNat (3 : Int).toNat).length : Int) = 3 := by decide
  rw [hl3]
  obtain ⟨x, hx⟩ : ∃ x, x = w.heap.size := ⟨_, rfl⟩
  rw [← hx]
  have HX := Lib.hid (And.intro hx (And.intro H3.out.1 H3.out.2.2))
  clear hx hl3 H3
  go_wp2_with fail
  go_loopw [5, 6, 7] (fun v i _ wr => ∃ (k : Nat) (g : Option Nat) (ps : List (Nat × Nat)), k ≤ 200 ∧ k ≤ len0 ∧ i = .int .i64 k ∧ Wr wr x g (bitsAll ps) ∧ wr.ownsRow w.heap.size 48 2 v ps.length (pcells ps) ∧ Keeps (fun _ => False) w wr ∧ (∀ q, g = some q → w.heap.size ≤ q) ∧ ps.length ≤ k ∧ (bitsAll ps).length ≤ 64 * k ∧ (∀ p ∈ ps, p.2 ≤ 64 ∧ p.1 < 18446744073709551616))
    (fun _ i _ _ => 200 - (intOf i).toNat)
  case atStart => exact ⟨0, none, [], by omega, by omega, rfl, by rw [HX.out.1]; exact HX.out.2.1, ⟨by simp [pcells], .inl ⟨rfl, rfl⟩⟩, HX.out.2.2, (fun _ h => by cases h), by simp, by simp [bitsAll], by simp⟩
  case round =>
    obtain ⟨k, g, ps, hk200, hkl, rfl, hxr, hor, hkr, hgr, hpk, hbl, hps⟩ := hrel
    by_cases hlt : k < len0 ∧ k < 200
    · obtain ⟨hlt2, hlt200⟩ := hlt
      obtain ⟨b, off, rfl, hb, hcell⟩ := (W0.out.keeps hkr).cells (by omega)
      obtain ⟨cv, cn⟩ := hcell k hlt2
      obtain ⟨hv0, hv1⟩ := W0.out.v k hlt2
      obtain ⟨V, hV⟩ := Int.eq_ofNat_of_zero_le hv0
      obtain ⟨n, hn⟩ : ∃ n, n = ns k := ⟨_, rfl⟩
      rw [hV] at cv hv1
      rw [← hn] at cn
      obtain ⟨N, hN⟩ : ∃ N : Nat, N = (n % 128).toNat := ⟨_, rfl⟩
      have e127 : bits .and .i64 n 127 = (N : Int) := by rw [and_127, hN]
      have hV1 : V < 18446744073709551616 := by omega
      have hN127 : N < 128 := by omega
      have HC := Lib.hid (And.intro cv cn)
      have HR := Lib.hid (And.intro hxr (And.intro hor (And.intro hkr (And.intro hgr (And.intro hps hV1)))))
      clear hV hn hN hcell hxr hor hkr hgr hps hb hv0 hv1 hV1
      go_wp2_with fail
      have hS : (fun w' : World => w'.cell? ⟨b, off + k * 2, none⟩ = some (.int .u64 (V : Nat)) ∧ w'.cell? ⟨b, off + k * 2 + 1, none⟩ = some (.int .i64 n)) (wr.drew) := HC.out
      refine reg_start (fun w' : World => w'.cell? ⟨b, off + k * 2, none⟩ = some (.int .u64 (V : Nat)) ∧ w'.cell? ⟨b, off + k * 2 + 1, none⟩ = some (.int .i64 n)) (by kernel_rfl) hS ?_
      refine reg_take (i := 0) (v := ?_) rfl (by kernel_rfl) (by kernel_rfl) (by kernel_rfl) (fun _ _ _ h => h) (Or.inl ⟨by kernel_rfl, ?_⟩) hS ?_
      rotate_left
      · (intro w' hSw; go_simp <;> with_reducible rfl)
      try simp only [Act.put, List.setIfInBounds_toArray, List.set_cons_zero, List.set_cons_succ]
      refine reg_take (i := 1) (v := ?_) rfl (by kernel_rfl) (by kernel_rfl) (by kernel_rfl) (fun _ _ _ h => h) (Or.inl ⟨by kernel_rfl, ?_⟩) hS ?_
      rotate_left
      · (intro w' hSw; go_simp <;> with_reducible rfl)
      try simp only [Act.put, List.setIfInBounds_toArray, List.set_cons_zero, List.set_cons_succ]
      refine reg_take (i := 2) (v := ?_) rfl (by kernel_rfl) (by kernel_rfl) (by kernel_rfl) (fun _ _ _ h => h) (Or.inl ⟨by kernel_rfl, ?_⟩) hS ?_
      rotate_left
      · (intro w' hSw; go_simp <;> with_reducible rfl)
      try simp only [Act.put, List.setIfInBounds_toArray, List.set_cons_zero, List.set_cons_succ]
      refine reg_take (i := 3) (v := ?_) rfl (by kernel_rfl) (by kernel_rfl) (by kernel_rfl) (fun _ _ _ h => h) (Or.inl ⟨by kernel_rfl, ?_⟩) hS ?_
      rotate_left
      · (intro w' hSw; go_simp <;> with_reducible rfl)
      try simp only [Act.put, List.setIfInBounds_toArray, List.set_cons_zero, List.set_cons_succ]
      refine reg_take (i := 4) (v := ?_) rfl (by kernel_rfl) (by kernel_rfl) (by kernel_rfl) (fun _ _ _ h => h) (Or.inl ⟨by kernel_rfl, ?_⟩) hS ?_
      rotate_left
      · (intro w' hSw; go_simp <;> with_reducible rfl)
      try simp only [Act.put, List.setIfInBounds_toArray, List.set_cons_zero, List.set_cons_succ]
      refine reg_take (i := 5) (v := ?_) rfl (by kernel_rfl) (by kernel_rfl) (by kernel_rfl) (fun _ _ _ h => h) (Or.inl ⟨by kernel_rfl, ?_⟩) hS ?_
      rotate_left
      · (intro w' hSw; go_simp <;> with_reducible rfl)
      try simp only [Act.put, List.setIfInBounds_toArray, List.set_cons_zero, List.set_cons_succ]
      refine reg_take (i := 6) (v := ?_) rfl (by kernel_rfl) (by kernel_rfl) (by kernel_rfl) (fun _ _ _ h => h) (Or.inl ⟨by kernel_rfl, ?_⟩) hS ?_
      rotate_left
      · (intro w' hSw; go_simp <;> with_reducible rfl)
      try simp only [Act.put, List.setIfInBounds_toArray, List.set_cons_zero, List.set_cons_succ]
      refine reg_take (i := 7) (v := ?_) rfl (by kernel_rfl) (by kernel_rfl) (by kernel_rfl) (fun _ _ _ h => h) (Or.inl ⟨by kernel_rfl, ?_⟩) hS ?_
      rotate_left
      · (intro w' hSw; go_simp <;> with_reducible rfl)
      try simp only [Act.put, List.setIfInBounds_toArray, List.set_cons_zero, List.set_cons_succ]
      refine reg_take (i := 8) (v := ?_) rfl (by kernel_rfl) (by kernel_rfl) (by kernel_rfl) (fun _ _ _ h => h) (Or.inl ⟨by kernel_rfl, ?_⟩) hS ?_
      rotate_left
      · (intro w' hSw; go_simp <;> with_reducible rfl)
      try simp only [Act.put, List.setIfInBounds_toArray, List.set_cons_zero, List.set_cons_succ]
      refine reg_take (i := 9) (v := ?_) rfl (by kernel_rfl) (by kernel_rfl) (by kernel_rfl) (fun _ _ _ h => h) (Or.inl ⟨by kernel_rfl, ?_⟩) hS ?_
      rotate_left
      · (intro w' hSw; go_simp <;> with_reducible rfl)
      try simp only [Act.put, List.setIfInBounds_toArray, List.set_cons_zero, List.set_cons_succ]
      refine reg_take (i := 10) (v := ?_) rfl (by kernel_rfl) (by kernel_rfl) (by kernel_rfl) (fun _ _ _ h => h) (Or.inl ⟨by kernel_rfl, ?_⟩) hS ?_
      rotate_left
      · (intro w' hSw; go_simp <;> with_reducible rfl)
      try simp only [Act.put, List.setIfInBounds_toArray, List.set_cons_zero, List.set_cons_succ]
      refine reg_take (i := 11) (v := ?_) rfl (by kernel_rfl) (by kernel_rfl) (by kernel_rfl) (fun _ _ _ h => h) (Or.inl ⟨by kernel_rfl, ?_⟩) hS ?_
      rotate_left
      · (intro w' hSw; go_simp <;> with_reducible rfl)
      try simp only [Act.put, List.setIfInBounds_toArray, List.set_cons_zero, List.set_cons_succ]
      refine reg_call (i := 12) rfl (by kernel_rfl) (fun K hK => ?_)
      have HK := Lib.hid hK
      clear hK
      go_simp
      have hS2 : (fun w' : World => w'.cell? ⟨b, off + k * 2, none⟩ = some (.int .u64 (V : Nat)) ∧ w'.cell? ⟨b, off + k * 2 + 1, none⟩ = some (.int .i64 n)) (wr.alloc (.cells #[.int .u64 0, .int .i64 0] 48)).drew := (two_cells HC.out ((Keeps.refl (fun _ => False) wr).alloc (.cells #[.int .u64 0, .int .i64 0] 48)).drew (fun h => h)).out
      refine HK.out.to (fun w' : World => w'.cell? ⟨b, off + k * 2, none⟩ = some (.int .u64 (V : Nat)) ∧ w'.cell? ⟨b, off + k * 2 + 1, none⟩ = some (.int .i64 n)) (fun _ h => h) hS2 ?_
      clear HK hS
      refine reg_call (i := 13) rfl (by kernel_rfl) (fun K hK => ?_)
      have HK := Lib.hid hK
      clear hK
      go_simp
      have hS3 : (fun w' : World => w'.cell? ⟨b, off + k * 2, none⟩ = some (.int .u64 (V : Nat)) ∧ w'.cell? ⟨b, off + k * 2 + 1, none⟩ = some (.int .i64 n)) (wr.alloc (.cells #[.int .u64 (V : Nat), .int .i64 (N : Nat)] 48)).drew := (two_cells HC.out ((Keeps.refl (fun _ => False) wr).alloc (.cells #[.int .u64 (V : Nat), .int .i64 (N : Nat)] 48)).drew (fun h => h)).out
      refine HK.out.to (fun w' : World => w'.cell? ⟨b, off + k * 2, none⟩ = some (.int .u64 (V : Nat)) ∧ w'.cell? ⟨b, off + k * 2 + 1, none⟩ = some (.int .i64 n)) (fun _ h => h) hS3 ?_
      clear HK hS2 hS3
      refine wpAnyH_done (by kernel_rfl) ?_ _
      clear cv cn e127
      obtain ⟨W1, hW1⟩ : ∃ W1, W1 = (wr.alloc (.cells #[.int .u64 (V : Nat), .int .i64 (N : Nat)] 48)).drew := ⟨_, rfl⟩
      have hkW : Keeps (fun _ => False) wr W1 := by rw [hW1]; exact ((Keeps.refl _ wr).alloc _).drew
      have hbW : Blk W1 wr.heap.size 48 #[.int .u64 (V : Nat), .int .i64 (N : Nat)] := by rw [hW1]; exact (Blk.fresh wr _ _).drew
      rw [← hW1]
      obtain ⟨P, hP⟩ : ∃ P, P = wr.heap.size := ⟨_, rfl⟩
      rw [← hP] at hbW
      rw [← hP]
      obtain ⟨hxr, hor, hkr, hgr, hps, hV1⟩ := HR.out
      have HR1 := Lib.hid (And.intro (hxr.keeps hkW (fun h => h) (fun _ _ h => h)) (And.intro (own_keeps hor hkW (fun _ _ h => h)) (And.intro (hkr.trans' hkW) (And.intro hgr (And.intro hps (And.intro hV1 hbW))))))
      have p0 := hbW.cell 0
      have p1 := hbW.cell 1
      simp only [List.getElem?_toArray, List.getElem?_cons_succ, List.getElem?_cons_zero] at p0 p1
      clear hxr hor hkr hgr hps hkW hbW hW1 hP HR HC
      by_cases hN64 : N ≤ 64
      · go_wp2_with fail
        refine (put_fit _ _ _ _ _ _ HR1.out.1 (by omega) (by omega) (by omega) (by omega) (by omega)).mono ?_
        rintro e w5 ⟨rfl, g5, hx5, hk5, hm5⟩
        rw [show ((V : Int)).toNat = V from rfl, show ((N : Int)).toNat = N from rfl] at hx5
        obtain ⟨hxr, hor, hkr, hgr, hps, hV1', hbW⟩ := HR1.out
        have hxB : w.heap.size ≤ x := by have := HX.out.1; omega
        have hne := Wr.ne hxr hbW (by decide) (by decide)
        have hbW5 := hbW.keeps hk5 (fun e => by rcases e with e | e; exact hne.1 e; exact hne.2 e)
        have ho5 := wr_own hxr hor hk5
        have hK5 := keeps_new hkr hk5 hxB hgr
        have hg5 := moved_new (w0 := w) hm5 hkr.size hgr
        have q0 := hbW5.cell 0
        have q1 := hbW5.cell 1
        simp only [List.getElem?_toArray, List.getElem?_cons_succ, List.getElem?_cons_zero] at q0 q1
        have H5 := Lib.hid (And.intro hx5 (And.intro ho5 (And.intro hK5 (And.intro hg5 (And.intro hps hV1')))))
        clear hx5 ho5 hK5 hg5 hk5 hm5 hxr hor hkr hgr hps hbW hbW5 hne hxB hV1' p0 p1 HR1
        go_wp2_with (at_builtin; refine wpList_append_own _ rfl (.tmp 52) (.tmp 54) 40 rfl w.heap.size 48 i0 (.agg #[.int .u64 0, .int .i64 0]) 2 16 Try.underlying40 hi0 hz0 HI.out.1 HI.out.2 rfl (by decide) _ ps.length (pcells ps) rfl (H5.out.2.1.alloc _) ⟨w5.heap.size, 0, none⟩ 1 1 [.int .u64 (V : Nat), .int .i64 (N : Nat)] rfl rfl ?c1 ?c2 ?c3 ?c4 ?c5 ?_)
        case c1 =>
          intro j u hu
          have hf := Blk.fresh w5 48 #[.int .u64 (V : Nat), .int .i64 (N : Nat)]
          match j, hu with
          | 0, hu => simp at hu; subst hu; exact hf.cell 0
          | 1, hu => simp at hu; subst hu; exact hf.cell 1
        case c2 => intro u hu; simp at hu; rcases hu with rfl | rfl <;> rfl
        case c3 => unfold maxLen; omega
        case c4 => omega
        case c5 => have := H5.out.2.2.1.size; simp; omega
        intro v6 w6 hown6 hg6 _
        obtain ⟨hx5, ho5, hK5, hg5, hps, hV1'⟩ := H5.out
        have hkA : Keeps (fun _ => False) w5 (w5.alloc (.cells #[.int .u64 (V : Nat), .int .i64 (N : Nat)] 48)) := (Keeps.refl _ _).alloc _
        have hx6 := own_wr (hx5.keeps hkA (fun h => h) (fun _ _ h => h)) (ho5.alloc _) hg6
        have hK6 : Keeps (fun _ => False) w w6 := (hK5.trans' hkA).grown hg6 (fun q hq hlt => by have := (ho5.lt q hq).1; omega)
        have H6 := Lib.hid (And.intro hx6 (And.intro hown6 (And.intro hK6 (And.intro hg5 (And.intro hps hV1')))))
        clear hx5 ho5 hK5 hg5 hps hV1' hkA hx6 hK6 hown6 hg6 H5
        go_wp2_with fail
        go_roundw
        case rel =>
          obtain ⟨hx6, ho6, hK6, hg6, hps, hV1'⟩ := H6.out
          refine ⟨k + 1, g5, ps ++ [(V, N)], by omega, by omega, by go_num, by rw [bitsAll_snoc]; exact hx6, by rw [List.length_append, pcells_snoc]; exact ho6, hK6, hg6, by simp; omega, by rw [bitsAll_snoc, List.length_append, bitsTo_length]; omega, ?_⟩
          intro p hp
          rcases List.mem_append.1 hp with hp | hp
          · exact hps p hp
          · simp at hp; subst hp; exact ⟨hN64, hV1'⟩
        case measure => simp [intOf]; omega
      · go_wp2_with fail
        refine (put_arg _ _ _ _ _ _ HR1.out.1 (by omega)).mono ?_
        rintro e w5 ⟨rfl, g5, hx5, hk5, hm5⟩
        obtain ⟨hxr, hor, hkr, hgr, hps, hV1', hbW⟩ := HR1.out
        have hxB : w.heap.size ≤ x := by have := HX.out.1; omega
        have ho5 := wr_own hxr hor hk5
        have hK5 := keeps_new hkr hk5 hxB hgr
        have hg5 := moved_new (w0 := w) hm5 hkr.size hgr
        have H5 := Lib.hid (And.intro hx5 (And.intro ho5 (And.intro hK5 (And.intro hg5 hps))))
        clear hx5 ho5 hK5 hg5 hk5 hm5 hxr hor hkr hgr hps hbW hxB hV1' p0 p1 HR1
        go_wp2_with fail
        go_roundw
        case rel =>
          obtain ⟨hx6, ho6, hK6, hg6, hps⟩ := H5.out
          exact ⟨k + 1, g5, ps, by omega, by omega, by go_num, hx6, ho6, hK6, hg6, by omega, by omega, hps⟩
        case measure => simp [intOf]; omega
    · have hexit : ¬ (k < 200 ∧ k < len0) := by omega
      clear W0
      obtain ⟨A5, c5, hv5, hc5, hA5⟩ := own_form hor
      rw [hv5]
      rw [hv5] at hor
      have HA5 := Lib.hid hA5
      have HR := Lib.hid (And.intro hxr (And.intro hor (And.intro hkr hps)))
      clear hxr hor hkr hgr hps hv5 hA5
      obtain ⟨wo, rfl⟩ : ∃ wo : World, wo = wr := ⟨_, rfl⟩
      by_cases hkl2 : k < len0
      all_goals
        go_wp2_with fail
        refine (bytes_wr _ _ _ _ HR.out.1).mono ?_
        rintro e w9 ⟨A9, c9, rfl, ho9, hk9⟩
        obtain ⟨M, hM⟩ : ∃ M, M = bitsAll ps := ⟨_, rfl⟩
        rw [← hM] at ho9 hbl
        rw [← hM]
        have hsl9 := sl_of_bytes ho9
        have hpk := pack_length M
        have hbit : ∀ j, M.getD j 0 < 2 := by rw [hM]; exact bitsAll_bit ps
        have hby : ∀ j, (pack M).getD j 0 < 256 := fun j => by rw [pack_getD]; exact byteAt_lt hbit j
        have hx9 := HR.out.1.keeps hk9 (fun h => h) (fun _ _ h => h)
        rw [← hM] at hx9
        have hpl : (pack M).length ≤ 1099511627776 := by omega
        have hpn : ((M.length : Nat) : Int) ≤ 8 * ((pack M).length : Int) := by omega
        have H9 := Lib.hid (And.intro hsl9 (And.intro hby (And.intro hpl (And.intro hpn (And.intro hx9 (And.intro (own_keeps HR.out.2.1 hk9 (fun _ _ h => h)) (And.intro (HR.out.2.2.1.trans' hk9) (And.intro HR.out.2.2.2 hM))))))))
        clear ho9 hk9 hsl9 hpk hby hpl hpn hx9 hM hbit HR
        go_wp2_with fail
        refine (len_wr _ _ _ _ H9.out.2.2.2.2.1).mono ?_
        rintro e w10 ⟨rfl, rfl⟩
        go_wp2_with fail
        refine (newReader_fit _ _ _ _ _ (pack M) _ rfl H9.out.1 H9.out.2.1 H9.out.2.2.1 (by omega) H9.out.2.2.2.1).mono ?_
        rintro e w10 ⟨r, rfl, hr, hrd, hk10⟩
        rw [Int.toNat_natCast] at hrd
        obtain ⟨-, -, -, -, -, ho9, hK9, hps, hM⟩ := H9.out
        have H10 := Lib.hid (And.intro hrd (And.intro (show w.heap.size ≤ r by have := hK9.size; omega) (And.intro (own_keeps ho9 hk10 (fun _ _ h => h)) (And.intro (hK9.trans' hk10) (And.intro hps (And.intro hM hr))))))
        clear hrd hr hk10 ho9 hK9 hps hM H9
        go_wp2_with fail
        go_loopw [10] (fun i wr => ∃ k2 : Nat, k2 ≤ ps.length ∧ i = .int .i64 k2 ∧ Rd wr r (fun k => w9.heap.size ≤ k ∧ k < r) (pack M) (bitsAll (ps.take k2)).length M.length ∧ wr.ownsRow w.heap.size 48 2 (.slice A5 ps.length c5) ps.length (pcells ps) ∧ Keeps (fun _ => False) w wr)
          (fun i _ => ps.length - (intOf i).toNat)
        case atStart => exact ⟨0, Nat.zero_le _, rfl, H10.out.1, H10.out.2.2.1, H10.out.2.2.2.1⟩
        case round =>
          obtain ⟨k2, hk2, rfl, hrd, hor, hkr⟩ := hrel
          by_cases hlt2 : k2 < ps.length
          · obtain ⟨gg, hgg, -, -⟩ := HA5.out (by omega)
            obtain ⟨V, hV⟩ : ∃ V, V = (ps[k2]'hlt2).1 := ⟨_, rfl⟩
            obtain ⟨N, hN⟩ : ∃ N, N = (ps[k2]'hlt2).2 := ⟨_, rfl⟩
            obtain ⟨hp1, hp2⟩ := pcells_at ps k2 hlt2
            rw [← hV] at hp1
            rw [← hN] at hp2
            obtain ⟨hN64, hV1⟩ := H10.out.2.2.2.2.1 _ (List.getElem_mem hlt2)
            rw [← hV] at hV1
            rw [← hN] at hN64
            rw [hgg] at hor
            rw [hgg]
            have cv : wr.cell? ⟨gg, k2 * 2, none⟩ = some (.int .u64 (V : Nat)) := by rw [hor.cellAt _ (by omega), hp1]
            have cn : wr.cell? ⟨gg, k2 * 2 + 1, none⟩ = some (.int .i64 (N : Nat)) := by rw [hor.cellAt _ (by omega), hp2]
            obtain ⟨pos, hpos⟩ : ∃ pos, pos = (bitsAll (ps.take k2)).length := ⟨_, rfl⟩
            rw [← hpos] at hrd
            have hpm := take_le_bits ps k2 hlt2
            rw [← hpos, ← hN, ← H10.out.2.2.2.2.2.1] at hpm
            have hg1 : getV (pack M) pos M.length (N : Int) = V % 2 ^ N := by
              unfold getV
              rw [if_pos ⟨by omega, by omega, by omega⟩]
              have hsp := split_at ps k2 hlt2
              rw [← hV, ← hN, ← H10.out.2.2.2.2.2.1] at hsp
              have := gets_pack (L := bitsAll (ps.take k2)) (M := bitsAll (ps.drop (k2 + 1))) (v := V) (n := N) (bitsAll_bit _) (bitsAll_bit _)
              rw [← hsp, ← hpos] at this
              exact this
            have hg2 : getE pos M.length (N : Int) = 0 := by unfold getE; rw [if_pos ⟨by omega, by omega⟩, if_pos (by omega)]
            have hg3 : pos + getN pos M.length (N : Int) = (bitsAll (ps.take (k2 + 1))).length := by
              rw [take_succ_bits ps k2 hlt2, ← hpos, ← hN]
              unfold getN
              rw [if_pos ⟨by omega, by omega, by omega⟩]
              rfl
            have HG := Lib.hid (And.intro hg1 (And.intro hg2 (And.intro hg3 (And.intro hrd (And.intro hor (And.intro hkr (And.intro cv (And.intro cn hgg))))))))
            clear hg1 hg2 hg3 hrd hor hkr hp1 hp2 hV hN hpos hpm hgg
            go_wp2_with fail
            refine (get_any _ _ _ _ _ _ _ HG.out.2.2.2.1).mono ?_
            rintro e w11 ⟨rfl, hrd, hk11⟩
            obtain ⟨hg1, hg2, hg3, hrd0, hor, hkr, cv0, cn0, hgg⟩ := HG.out
            rw [hg3] at hrd
            rw [hg1, hg2]
            have hor1 := own_keeps hor hk11 (fun q hq e => by
              obtain ⟨A, c, hb, -⟩ := hrd0.blk
              exact own_ne hor hb (by decide) (by rw [hq, e]))
            have hk1 : Keeps (fun _ => False) w w11 := hkr.trans hk11 (fun q hq e => by have := H10.out.2.1; omega)
            have hgr : gg ≠ r := fun e => by
              obtain ⟨A, c, hb, -⟩ := hrd0.blk
              exact own_ne hor hb (by decide) (by rw [← e]; rfl)
            have hcc := two_cells ⟨cv0, cn0⟩ hk11 hgr
            have H11 := Lib.hid (And.intro hrd (And.intro hor1 (And.intro hk1 hgg)))
            obtain ⟨cv, cn⟩ := hcc.out
            clear hrd hor1 hk1 hk11 hg1 hg2 hg3 hrd0 hor hkr cv0 cn0 hgg hgr hcc HG
            have hki : (k2 : Int) < (ps.length : Int) := by omega
            by_cases hN : N < 64
            · have d1 : decide ((N : Int) < 64) = true := by simp; omega
              have d2 : ((N : Int) == 64) = false := by simp; omega
              have e5 : IntKind.u64.wrap (N : Int) = (N : Int) := by rw [IntKind.wrap_u64]; omega
              have e6 : min N 64 = N := by omega
              have m1 := and_mask_walk V N hV1 (by omega)
              have HV1 := Lib.hid hV1
              clear hV1
              go_wp2_with fail
              go_quiet (fail)
              clear d1 d2 e5 e6 m1 cv cn
              go_wp2_with fail
              go_roundw
              case rel =>
                obtain ⟨hrd, hor1, hk1, hgg⟩ := H11.out
                exact ⟨k2 + 1, by omega, by go_num, hrd.drewN _, hor1, hk1.drewN _⟩
              case measure => simp [intOf]; omega
            · obtain rfl : N = 64 := by omega
              have e7 : V % 2 ^ 64 = V := Nat.mod_eq_of_lt (by omega)
              rw [e7]
              have HV1 := Lib.hid hV1
              clear hV1 e7
              go_wp2_with fail
              go_quiet (fail)
              clear cv cn
              go_wp2_with fail
              go_roundw
              case rel =>
                obtain ⟨hrd, hor1, hk1, hgg⟩ := H11.out
                exact ⟨k2 + 1, by omega, by go_num, hrd.drewN _, hor1, hk1.drewN _⟩
              case measure => simp [intOf]; omega
          · obtain rfl : k2 = ps.length := by omega
            rw [List.take_length, ← H10.out.2.2.2.2.2.1] at hrd
            have HG := Lib.hid (And.intro hrd hkr)
            clear hrd hor hkr
            go_wp2_with fail
            refine (get_any _ _ _ _ _ _ _ HG.out.1).mono ?_
            rintro e w11 ⟨rfl, hrd, hk11⟩
            have hg2 : getE M.length M.length 1 = 10 := by unfold getE; rw [if_pos ⟨by omega, by omega⟩, if_neg (by omega)]
            have hg3 : M.length + getN M.length M.length 1 = M.length := by unfold getN; rw [if_neg (by omega)]; rfl
            rw [hg3] at hrd
            rw [hg2]
            have H11 := Lib.hid (And.intro hrd (HG.out.2.trans hk11 (fun q hq e => by have := H10.out.2.1; omega)))
            clear hrd hk11 hg2 hg3 HG
            go_wp2_with fail
            refine (left_any _ _ _ _ _ _ H11.out.1).mono ?_
            rintro e w12 ⟨rfl, nn, rfl⟩
            have e0 : ((M.length : Nat) : Int) - (M.length : Nat) = 0 := by omega
            rw [e0]
            go_wp2_with fail
            go_ret
            exact ⟨rfl, (H11.out.2.drewN _).to_below⟩
end Go.Proofs.Ytgphdigcilbnlaa
