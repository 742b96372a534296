/-
  The walk of the law BitsPuts.
-/
import Derived.Test.YtgphdigcilbnlaaBitsRy
import Derived.Test.YtgphdigcilbnlaaPieces
import Derived.Test.YtgphdigcilbnlaaReg
import Derived.Test.YtgphdigcilbnlaaConv
namespace Go.Proofs.Ytgphdigcilbnlaa
open Go.RowKit
set_option linter.unusedSimpArgs false
theorem own_own_ne {w : World} {b1 b2 : Nat} {e1 e2 : TypeId} {n1 n2 : Nat} {v1 v2 : Value} {x1 x2 : List Value} {g : Nat} (h1 : w.ownsRow b1 e1 1 v1 n1 x1) (h2 : w.ownsRow b2 e2 1 v2 n2 x2) (hne : e1 ≠ e2) (hg : v1.ownBlock = some g) : v2.ownBlock ≠ some g := by
  rcases h1.2 with ⟨rfl, _⟩ | ⟨g', cap, cur, rfl, _, hh, _⟩
  · simp [Value.ownBlock] at hg
  · have : g' = g := by simpa [Value.ownBlock] using hg
    subst this
    exact own_ne h2 (show Blk w g' e1 cur from hh) (fun e => hne e.symm)
theorem wr_rwr {w w' : World} {x y : Nat} {g g' : Option Nat} {L M : List Nat} (hx : Wr w x g L) (hy : RWr w y g' M) (hk : Keeps (fun k => k = x ∨ some k = g) w w') : RWr w' y g' M := by
  obtain ⟨_, _, v, hv, hb, ho⟩ := hx
  obtain ⟨h1, h2, v', hv', hb', ho'⟩ := hy
  refine RWr.keeps ⟨h1, h2, v', hv', hb', ho'⟩ hk ?_ ?_
  · rintro (e | e)
    · exact hb'.ne hb (by decide) e
    · exact own_ne ho hb' (by decide) (hv.trans e.symm)
  · rintro k hk' (e | e)
    · exact own_ne ho' hb (by decide) (by rw [hv', hk', e])
    · exact own_own_ne ho ho' (by decide) (hv.trans e.symm) (hv'.trans hk')
theorem rwr_wr {w w' : World} {x y : Nat} {g g' : Option Nat} {L M : List Nat} (hx : Wr w x g L) (hy : RWr w y g' M) (hk : Keeps (fun k => k = y ∨ some k = g') w w') : Wr w' x g L := by
  obtain ⟨h1, h2, v, hv, hb, ho⟩ := hx
  obtain ⟨_, _, v', hv', hb', ho'⟩ := hy
  refine Wr.keeps ⟨h1, h2, v, hv, hb, ho⟩ hk ?_ ?_
  · rintro (e | e)
    · exact hb.ne hb' (by decide) e
    · exact own_ne ho' hb (by decide) (hv'.trans e.symm)
  · rintro k hk' (e | e)
    · exact own_ne ho hb' (by decide) (by rw [hv, hk', e])
    · exact own_own_ne ho' ho (by decide) (hv'.trans e.symm) (hv.trans hk')
theorem two_cells {S : Nat → Prop} {w w' : World} {b i j : Nat} {u v : Value} (h : w.cell? ⟨b, i, none⟩ = some u ∧ w.cell? ⟨b, j, none⟩ = some v) (hk : Keeps S w w') (hb : ¬ S b) : Hid (w'.cell? ⟨b, i, none⟩ = some u ∧ w'.cell? ⟨b, j, none⟩ = some v) :=
  have hlt := World.block_lt_of_cell? w _ h.1
  ⟨(World.cell?_of_block (w := w) (a := ⟨b, i, none⟩) (hk.block b hlt hb)).trans h.1, (World.cell?_of_block (w := w) (a := ⟨b, j, none⟩) (hk.block b hlt hb)).trans h.2⟩
theorem not_foot {b x B : Nat} {g : Option Nat} (hb : b < B) (hx : B ≤ x) (hg : ∀ q, g = some q → B ≤ q) : ¬ (b = x ∨ some b = g) := by
  rintro (e | e)
  · omega
  · have := hg b e.symm; omega
theorem moved_ge {B : Nat} {w : World} {g g' : Option Nat} (hm : Moved w g g') (hB : B ≤ w.heap.size) (hg : ∀ q, g = some q → B ≤ q) : ∀ q, g' = some q → B ≤ q := by
  intro q hq
  rcases hm with h | ⟨k, h, hk⟩
  · exact hg q (h ▸ hq)
  · rw [hq] at h; injection h with h; omega
theorem keeps_foot {B x : Nat} {w0 w w' : World} {g : Option Nat} (h : Keeps (fun _ => False) w0 w) (hk : Keeps (fun k => k = x ∨ some k = g) w w') (hB : w0.heap.size = B) (hx : B ≤ x) (hg : ∀ q, g = some q → B ≤ q) : Keeps (fun _ => False) w0 w' :=
  h.trans hk (fun k hk' e => not_foot (by omega) hx hg e)

set_option maxRecDepth 100000 in
set_option maxHeartbeats 2000000 in
theorem bitsPuts_walk (a0 : Option Addr) (len0 cap0 : Nat) (vs ns : Nat → Int) (w : World) (w0 : IsPieces w a0 len0 cap0 vs ns) :
    Calls Try.prog 4 #[.slice a0 len0 cap0] w fun e w' => e = .returned (.bool true) ∧ Below w.heap.size w w' := by
  have l0 := w0.le
  have l1 := w0.cap_le
  unfold maxLen at l1
  go_enter Try.func4, Try.ntmps4
  go_wp2_with fail
  refine (newWriter_any _).mono ?_
  rintro e w1 ⟨rfl, hw1, hk1⟩
  have hk1b := hk1.alloc (.cells #[.slice none 0 0] 45)
  have hx1 : Wr (w1.alloc (.cells #[.slice none 0 0] 45)) w.heap.size none [] := hw1.keeps (S := fun _ => False) ((Keeps.refl _ _).alloc _) (fun h => h) (fun _ _ h => h)
  have hy1 : RWr (w1.alloc (.cells #[.slice none 0 0] 45)) w1.heap.size none [] := ⟨by simp, by simp, .slice none 0 0, rfl, Blk.fresh _ _ _, ⟨by simp, .inl ⟨rfl, rfl⟩⟩⟩
  have hlt1 : w.heap.size < w1.heap.size := hw1.lt
  obtain ⟨x, hx⟩ : ∃ x, x = w.heap.size := ⟨_, rfl⟩
  obtain ⟨y, hy⟩ : ∃ y, y = w1.heap.size := ⟨_, rfl⟩
  rw [← hx, ← hy] at hlt1
  rw [← hx] at hx1
  rw [← hy] at hy1
  rw [← hx]
  have HX := Lib.hid hx
  have HY := Lib.hid hy
  clear hx hk1 hw1
  go_wp2_with fail
  rw [← hy]
  clear hy
  go_loopw [5] (fun i wr => ∃ (k : Nat) (g g' : Option Nat) (L : List Nat), k ≤ 200 ∧ k ≤ len0 ∧ i = .int .i64 k ∧ Wr wr x g L ∧ RWr wr y g' L ∧ Keeps (fun _ => False) w wr ∧ (∀ q, g = some q → w.heap.size ≤ q) ∧ (∀ q, g' = some q → w.heap.size ≤ q))
    (fun i _ => 200 - (intOf i).toNat)
  case atStart => exact ⟨0, none, none, [], by omega, by omega, rfl, hx1, hy1, hk1b, (fun _ h => by cases h), (fun _ h => by cases h)⟩
  case round =>
    clear hx1 hy1 hk1b
    obtain ⟨k, g, g', L, hk200, hkl, rfl, hxr, hyr, hkr, hgr, hgr'⟩ := hrel
    by_cases hlt : k < len0 ∧ k < 200
    · obtain ⟨hlt2, hlt200⟩ := hlt
      obtain ⟨b, off, rfl, hbw, hcell0⟩ := w0.cells (by omega)
      obtain ⟨b', off', e', hb, hcell⟩ := (w0.keeps hkr).cells (by omega)
      obtain ⟨rfl, rfl⟩ : b = b' ∧ off = off' := by simpa using e'
      clear hcell0 e'
      obtain ⟨cv, cn⟩ := hcell k hlt2
      obtain ⟨hv0, hv1⟩ := w0.v k hlt2
      obtain ⟨v, hv⟩ : ∃ v, v = vs k := ⟨_, rfl⟩
      obtain ⟨n, hn⟩ : ∃ n, n = ns k := ⟨_, rfl⟩
      rw [← hv] at cv hv0 hv1
      rw [← hn] at cn
      clear hv hn hcell
      have HC := Lib.hid (And.intro cv cn)
      have hxB : w.heap.size ≤ x := by have := HX.out; omega
      have hyB : w.heap.size ≤ y := by have := HX.out; omega
      replace hb : b < w.heap.size := hbw
      -- BEGIN region 7
      have H0 := Lib.hid (And.intro hxr (And.intro hyr (And.intro hkr (And.intro hgr (And.intro hgr' (And.intro cv cn))))))
      clear hxr hyr hkr hgr hgr' cv cn w0 hb
      go_wp2_with fail
      have hS : (fun w' : World => w'.cell? ⟨b, off + k * 2, none⟩ = some (.int .u64 v) ∧ w'.cell? ⟨b, off + k * 2 + 1, none⟩ = some (.int .i64 n)) (wr.drew) := HC.out
      refine reg_start (fun w' : World => w'.cell? ⟨b, off + k * 2, none⟩ = some (.int .u64 v) ∧ w'.cell? ⟨b, off + k * 2 + 1, none⟩ = some (.int .i64 n)) (by kernel_rfl) hS ?_
      refine reg_take (i := 0) (v := ?_) rfl (by kernel_rfl) (by kernel_rfl) (by kernel_rfl) (fun _ _ _ h => h) (Or.inl ⟨by kernel_rfl, ?_⟩) hS ?_
      rotate_left
      · (intro w' hSw; go_simp <;> with_reducible rfl)
      try simp only [Act.put, List.setIfInBounds_toArray, List.set_cons_zero, List.set_cons_succ]
      refine reg_take (i := 1) (v := ?_) rfl (by kernel_rfl) (by kernel_rfl) (by kernel_rfl) (fun _ _ _ h => h) (Or.inl ⟨by kernel_rfl, ?_⟩) hS ?_
      rotate_left
      · (intro w' hSw; go_simp <;> with_reducible rfl)
      try simp only [Act.put, List.setIfInBounds_toArray, List.set_cons_zero, List.set_cons_succ]
      refine reg_take (i := 2) (v := ?_) rfl (by kernel_rfl) (by kernel_rfl) (by kernel_rfl) (fun _ _ _ h => h) (Or.inl ⟨by kernel_rfl, ?_⟩) hS ?_
      rotate_left
      · (intro w' hSw; go_simp <;> with_reducible rfl)
      try simp only [Act.put, List.setIfInBounds_toArray, List.set_cons_zero, List.set_cons_succ]
      refine reg_take (i := 3) (v := ?_) rfl (by kernel_rfl) (by kernel_rfl) (by kernel_rfl) (fun _ _ _ h => h) (Or.inl ⟨by kernel_rfl, ?_⟩) hS ?_
      rotate_left
      · (intro w' hSw; go_simp <;> with_reducible rfl)
      try simp only [Act.put, List.setIfInBounds_toArray, List.set_cons_zero, List.set_cons_succ]
      refine reg_take (i := 4) (v := ?_) rfl (by kernel_rfl) (by kernel_rfl) (by kernel_rfl) (fun _ _ _ h => h) (Or.inl ⟨by kernel_rfl, ?_⟩) hS ?_
      rotate_left
      · (intro w' hSw; go_simp <;> with_reducible rfl)
      try simp only [Act.put, List.setIfInBounds_toArray, List.set_cons_zero, List.set_cons_succ]
      refine reg_take (i := 5) (v := ?_) rfl (by kernel_rfl) (by kernel_rfl) (by kernel_rfl) (fun _ _ _ h => h) (Or.inl ⟨by kernel_rfl, ?_⟩) hS ?_
      rotate_left
      · (intro w' hSw; go_simp <;> with_reducible rfl)
      try simp only [Act.put, List.setIfInBounds_toArray, List.set_cons_zero, List.set_cons_succ]
      refine reg_take (i := 6) (v := ?_) rfl (by kernel_rfl) (by kernel_rfl) (by kernel_rfl) (fun _ _ _ h => h) (Or.inl ⟨by kernel_rfl, ?_⟩) hS ?_
      rotate_left
      · (intro w' hSw; go_simp <;> with_reducible rfl)
      try simp only [Act.put, List.setIfInBounds_toArray, List.set_cons_zero, List.set_cons_succ]
      refine reg_take (i := 7) (v := ?_) rfl (by kernel_rfl) (by kernel_rfl) (by kernel_rfl) (fun _ _ _ h => h) (Or.inl ⟨by kernel_rfl, ?_⟩) hS ?_
      rotate_left
      · (intro w' hSw; go_simp <;> with_reducible rfl)
      try simp only [Act.put, List.setIfInBounds_toArray, List.set_cons_zero, List.set_cons_succ]
      refine reg_take (i := 8) (v := ?_) rfl (by kernel_rfl) (by kernel_rfl) (by kernel_rfl) (fun _ _ _ h => h) (Or.inl ⟨by kernel_rfl, ?_⟩) hS ?_
      rotate_left
      · (intro w' hSw; go_simp <;> with_reducible rfl)
      try simp only [Act.put, List.setIfInBounds_toArray, List.set_cons_zero, List.set_cons_succ]
      refine reg_take (i := 9) (v := ?_) rfl (by kernel_rfl) (by kernel_rfl) (by kernel_rfl) (fun _ _ _ h => h) (Or.inl ⟨by kernel_rfl, ?_⟩) hS ?_
      rotate_left
      · (intro w' hSw; go_simp <;> with_reducible rfl)
      try simp only [Act.put, List.setIfInBounds_toArray, List.set_cons_zero, List.set_cons_succ]
      refine reg_take (i := 10) (v := ?_) rfl (by kernel_rfl) (by kernel_rfl) (by kernel_rfl) (fun _ _ _ h => h) (Or.inl ⟨by kernel_rfl, ?_⟩) hS ?_
      rotate_left
      · (intro w' hSw; go_simp <;> with_reducible rfl)
      try simp only [Act.put, List.setIfInBounds_toArray, List.set_cons_zero, List.set_cons_succ]
      refine reg_take (i := 12) (v := ?_) rfl (by kernel_rfl) (by kernel_rfl) (by kernel_rfl) (fun _ _ _ h => h) (Or.inl ⟨by kernel_rfl, ?_⟩) hS ?_
      rotate_left
      · (intro w' hSw; go_simp <;> with_reducible rfl)
      try simp only [Act.put, List.setIfInBounds_toArray, List.set_cons_zero, List.set_cons_succ]
      refine reg_take (i := 13) (v := ?_) rfl (by kernel_rfl) (by kernel_rfl) (by kernel_rfl) (fun _ _ _ h => h) (Or.inl ⟨by kernel_rfl, ?_⟩) hS ?_
      rotate_left
      · (intro w' hSw; go_simp <;> with_reducible rfl)
      try simp only [Act.put, List.setIfInBounds_toArray, List.set_cons_zero, List.set_cons_succ]
      refine reg_take (i := 14) (v := ?_) rfl (by kernel_rfl) (by kernel_rfl) (by kernel_rfl) (fun _ _ _ h => h) (Or.inl ⟨by kernel_rfl, ?_⟩) hS ?_
      rotate_left
      · (intro w' hSw; go_simp <;> with_reducible rfl)
      try simp only [Act.put, List.setIfInBounds_toArray, List.set_cons_zero, List.set_cons_succ]
      refine reg_take (i := 15) (v := ?_) rfl (by kernel_rfl) (by kernel_rfl) (by kernel_rfl) (fun _ _ _ h => h) (Or.inl ⟨by kernel_rfl, ?_⟩) hS ?_
      rotate_left
      · (intro w' hSw; go_simp <;> with_reducible rfl)
      try simp only [Act.put, List.setIfInBounds_toArray, List.set_cons_zero, List.set_cons_succ]
      refine reg_take (i := 16) (v := ?_) rfl (by kernel_rfl) (by kernel_rfl) (by kernel_rfl) (fun _ _ _ h => h) (Or.inl ⟨by kernel_rfl, ?_⟩) hS ?_
      rotate_left
      · (intro w' hSw; go_simp <;> with_reducible rfl)
      try simp only [Act.put, List.setIfInBounds_toArray, List.set_cons_zero, List.set_cons_succ]
      refine reg_take (i := 17) (v := ?_) rfl (by kernel_rfl) (by kernel_rfl) (by kernel_rfl) (fun _ _ _ h => h) (Or.inl ⟨by kernel_rfl, ?_⟩) hS ?_
      rotate_left
      · (intro w' hSw; go_simp <;> with_reducible rfl)
      try simp only [Act.put, List.setIfInBounds_toArray, List.set_cons_zero, List.set_cons_succ]
      refine reg_take (i := 18) (v := ?_) rfl (by kernel_rfl) (by kernel_rfl) (by kernel_rfl) (fun _ _ _ h => h) (Or.inl ⟨by kernel_rfl, ?_⟩) hS ?_
      rotate_left
      · (intro w' hSw; go_simp <;> with_reducible rfl)
      try simp only [Act.put, List.setIfInBounds_toArray, List.set_cons_zero, List.set_cons_succ]
      refine reg_take (i := 19) (v := ?_) rfl (by kernel_rfl) (by kernel_rfl) (by kernel_rfl) (fun _ _ _ h => h) (Or.inl ⟨by kernel_rfl, ?_⟩) hS ?_
      rotate_left
      · (intro w' hSw; go_simp <;> with_reducible rfl)
      try simp only [Act.put, List.setIfInBounds_toArray, List.set_cons_zero, List.set_cons_succ]
      refine reg_take (i := 20) (v := ?_) rfl (by kernel_rfl) (by kernel_rfl) (by kernel_rfl) (fun _ _ _ h => h) (Or.inl ⟨by kernel_rfl, ?_⟩) hS ?_
      rotate_left
      · (intro w' hSw; go_simp <;> with_reducible rfl)
      try simp only [Act.put, List.setIfInBounds_toArray, List.set_cons_zero, List.set_cons_succ]
      refine reg_take (i := 21) (v := ?_) rfl (by kernel_rfl) (by kernel_rfl) (by kernel_rfl) (fun _ _ _ h => h) (Or.inl ⟨by kernel_rfl, ?_⟩) hS ?_
      rotate_left
      · (intro w' hSw; go_simp <;> with_reducible rfl)
      try simp only [Act.put, List.setIfInBounds_toArray, List.set_cons_zero, List.set_cons_succ]
      refine reg_take (i := 22) (v := ?_) rfl (by kernel_rfl) (by kernel_rfl) (by kernel_rfl) (fun _ _ _ h => h) (Or.inl ⟨by kernel_rfl, ?_⟩) hS ?_
      rotate_left
      · (intro w' hSw; go_simp <;> with_reducible rfl)
      try simp only [Act.put, List.setIfInBounds_toArray, List.set_cons_zero, List.set_cons_succ]
      refine reg_call (i := 11) rfl (by kernel_rfl) (fun K hK => ?_)
      have HK := Lib.hid hK
      clear hK
      go_simp
      refine (put_any _ _ _ _ _ _ (H0.out.1.drewN 1) hv0 hv1).mono ?_
      rintro e w3 ⟨rfl, g3, hx3, hk3, hm3⟩
      obtain ⟨hxr, hyr, hkr, hgr, hgr', -⟩ := H0.out
      have hkd3 := Keeps.trans' ((Keeps.refl _ wr).drew) hk3
      have HC3 := two_cells HC.out hkd3 (not_foot hbw hxB hgr)
      have hy3 := wr_rwr hxr hyr hkd3
      have hK3 := keeps_foot hkr hkd3 rfl hxB hgr
      have hg3 := moved_ge hm3 (show w.heap.size ≤ wr.drew.heap.size from hkr.size) hgr
      have H3 := Lib.hid (And.intro hx3 (And.intro hy3 (And.intro hK3 hg3)))
      clear hk3 hkd3 hm3 hx3 hy3 hK3 hg3 hxr hyr hkr hgr hgr'
      go_wp2_with fail
      refine HK.out.to (fun w' : World => w'.cell? ⟨b, off + k * 2, none⟩ = some (.int .u64 v) ∧ w'.cell? ⟨b, off + k * 2 + 1, none⟩ = some (.int .i64 n)) (fun _ h => h) (HC3.out) ?_
      clear HK hS
      have hS : (fun w' : World => w'.cell? ⟨b, off + k * 2, none⟩ = some (.int .u64 v) ∧ w'.cell? ⟨b, off + k * 2 + 1, none⟩ = some (.int .i64 n)) (w3) := HC3.out
      try simp only [Act.put, List.setIfInBounds_toArray, List.set_cons_zero, List.set_cons_succ]
      refine reg_call (i := 23) rfl (by kernel_rfl) (fun K hK => ?_)
      have HK := Lib.hid hK
      clear hK
      go_simp
      refine (rput_any _ _ _ _ _ _ H3.out.2.1 hv0 hv1).mono ?_
      rintro e w4 ⟨rfl, g4, hy4, hk4, hm4⟩
      have HC4 := two_cells HC3.out hk4 (not_foot hbw hyB H0.out.2.2.2.2.1)
      obtain ⟨hx3, hy3, hK3, hg3⟩ := H3.out
      have hx4 := rwr_wr hx3 hy3 hk4
      have hK4 := keeps_foot hK3 hk4 rfl hyB H0.out.2.2.2.2.1
      have hg4 := moved_ge hm4 hK3.size H0.out.2.2.2.2.1
      obtain ⟨A5, c5, hcy4⟩ : ∃ A5 c5, w4.cell? ⟨y, 0, none⟩ = some (.slice A5 (putL L v.toNat n).length c5) := by
        obtain ⟨_, _, v5, _, hb5, ho5⟩ := hy4
        clear hS
        obtain ⟨A5, c5, rfl, -, -⟩ := own_form ho5
        exact ⟨A5, c5, by rw [hb5.cell 0]; rfl⟩
      have H4 := Lib.hid (And.intro hx4 (And.intro hy4 (And.intro hK4 (And.intro hg3 hg4))))
      clear hk4 hm4 hx3 hy3 hK3 HC3 H3 hx4 hy4 hK4 hg4 hg3
      go_wp2_with fail
      refine HK.out.to (fun w' : World => (fun w' : World => w'.cell? ⟨b, off + k * 2, none⟩ = some (.int .u64 v) ∧ w'.cell? ⟨b, off + k * 2 + 1, none⟩ = some (.int .i64 n)) w' ∧ w'.cell? ⟨y, 0, none⟩ = some (.slice A5 (putL L v.toNat n).length c5)) (fun _ h => h.1) (⟨HC4.out, hcy4⟩) ?_
      clear HK hS
      have hS : (fun w' : World => (fun w' : World => w'.cell? ⟨b, off + k * 2, none⟩ = some (.int .u64 v) ∧ w'.cell? ⟨b, off + k * 2 + 1, none⟩ = some (.int .i64 n)) w' ∧ w'.cell? ⟨y, 0, none⟩ = some (.slice A5 (putL L v.toNat n).length c5)) (w4) := ⟨HC4.out, hcy4⟩
      try simp only [Act.put, List.setIfInBounds_toArray, List.set_cons_zero, List.set_cons_succ]
      refine reg_take (i := 24) (v := ?_) rfl (by kernel_rfl) (by kernel_rfl) (by kernel_rfl) (fun _ _ _ h => h) (Or.inl ⟨by kernel_rfl, ?_⟩) hS ?_
      rotate_left
      · (intro w' hSw; go_simp <;> with_reducible rfl)
      try simp only [Act.put, List.setIfInBounds_toArray, List.set_cons_zero, List.set_cons_succ]
      refine reg_take (i := 25) (v := ?_) rfl (by kernel_rfl) (by kernel_rfl) (by kernel_rfl) (fun _ _ _ h => h) (Or.inl ⟨by kernel_rfl, ?_⟩) hS ?_
      rotate_left
      · (intro w' hSw; go_simp <;> with_reducible rfl)
      try simp only [Act.put, List.setIfInBounds_toArray, List.set_cons_zero, List.set_cons_succ]
      refine reg_take (i := 26) (v := ?_) rfl (by kernel_rfl) (by kernel_rfl) (by kernel_rfl) (fun _ _ _ h => h) (Or.inl ⟨by kernel_rfl, ?_⟩) hS ?_
      rotate_left
      · (intro w' hSw; go_simp <;> with_reducible rfl)
      try simp only [Act.put, List.setIfInBounds_toArray, List.set_cons_zero, List.set_cons_succ]
      refine reg_take (i := 28) (v := ?_) rfl (by kernel_rfl) (by kernel_rfl) (by kernel_rfl) (fun _ _ _ h => h) (Or.inl ⟨by kernel_rfl, ?_⟩) hS ?_
      rotate_left
      · (intro w' hSw; go_simp <;> with_reducible rfl)
      try simp only [Act.put, List.setIfInBounds_toArray, List.set_cons_zero, List.set_cons_succ]
      refine reg_take (i := 29) (v := ?_) rfl (by kernel_rfl) (by kernel_rfl) (by kernel_rfl) (fun _ _ _ h => h) (Or.inl ⟨by kernel_rfl, ?_⟩) hS ?_
      rotate_left
      · (intro w' hSw; go_simp <;> with_reducible rfl)
      try simp only [Act.put, List.setIfInBounds_toArray, List.set_cons_zero, List.set_cons_succ]
      refine reg_take (i := 30) (v := ?_) rfl (by kernel_rfl) (by kernel_rfl) (by kernel_rfl) (fun _ _ _ h => h) (Or.inl ⟨by kernel_rfl, ?_⟩) hS ?_
      rotate_left
      · (intro w' hSw; go_simp <;> with_reducible rfl)
      try simp only [Act.put, List.setIfInBounds_toArray, List.set_cons_zero, List.set_cons_succ]
      refine reg_take (i := 31) (v := ?_) rfl (by kernel_rfl) (by kernel_rfl) (by kernel_rfl) (fun _ _ _ h => h) (Or.inl ⟨by kernel_rfl, ?_⟩) hS ?_
      rotate_left
      · (intro w' hSw; go_simp <;> with_reducible rfl)
      try simp only [Act.put, List.setIfInBounds_toArray, List.set_cons_zero, List.set_cons_succ]
      refine reg_take (i := 32) (v := ?_) rfl (by kernel_rfl) (by kernel_rfl) (by kernel_rfl) (fun _ _ _ h => h) (Or.inl ⟨by kernel_rfl, ?_⟩) hS ?_
      rotate_left
      · (intro w' hSw; go_simp <;> with_reducible rfl)
      try simp only [Act.put, List.setIfInBounds_toArray, List.set_cons_zero, List.set_cons_succ]
      refine reg_call (i := 27) rfl (by kernel_rfl) (fun K hK => ?_)
      have HK := Lib.hid hK
      clear hK
      go_simp
      refine (len_wr _ _ _ _ H4.out.1).mono ?_
      rintro e w5 ⟨rfl, rfl⟩
      go_wp2_with fail
      refine HK.out.to (fun w' : World => (fun w' : World => w'.cell? ⟨b, off + k * 2, none⟩ = some (.int .u64 v) ∧ w'.cell? ⟨b, off + k * 2 + 1, none⟩ = some (.int .i64 n)) w' ∧ w'.cell? ⟨y, 0, none⟩ = some (.slice A5 (putL L v.toNat n).length c5)) (fun _ h => h) (⟨HC4.out, hcy4⟩) ?_
      clear HK hS
      have hS : (fun w' : World => (fun w' : World => w'.cell? ⟨b, off + k * 2, none⟩ = some (.int .u64 v) ∧ w'.cell? ⟨b, off + k * 2 + 1, none⟩ = some (.int .i64 n)) w' ∧ w'.cell? ⟨y, 0, none⟩ = some (.slice A5 (putL L v.toNat n).length c5)) (w4) := ⟨HC4.out, hcy4⟩
      try simp only [Act.put, List.setIfInBounds_toArray, List.set_cons_zero, List.set_cons_succ]
      refine reg_take (i := 33) (v := ?_) rfl (by kernel_rfl) (by kernel_rfl) (by kernel_rfl) (fun _ _ _ h => h) (Or.inl ⟨by kernel_rfl, ?_⟩) hS ?_
      rotate_left
      · (intro w' hSw; go_simp <;> with_reducible rfl)
      try simp only [Act.put, List.setIfInBounds_toArray, List.set_cons_zero, List.set_cons_succ]
      refine reg_take (i := 34) (v := ?_) rfl (by kernel_rfl) (by kernel_rfl) (by kernel_rfl) (fun _ _ _ h => h) (Or.inl ⟨by kernel_rfl, ?_⟩) hS ?_
      rotate_left
      · (intro w' hSw; go_simp <;> with_reducible rfl)
      try simp only [Act.put, List.setIfInBounds_toArray, List.set_cons_zero, List.set_cons_succ]
      refine wpAnyH_done (by kernel_rfl) ?_ _
      go_wp2_with fail
      go_roundw
      case rel =>
        obtain ⟨hx4, hy4, hK4, hg3, hg4⟩ := H4.out
        exact ⟨k + 1, g3, g4, putL L v.toNat n, by omega, by omega, by go_num, hx4, hy4, hK4, hg3, hg4⟩
      case measure => simp [intOf]; omega
    · clear w0
      by_cases hkl2 : k < len0
      all_goals
        have hnk : ¬ (k < 200 ∧ k < len0) := by omega
        have HXR := Lib.hid (And.intro hxr (And.intro hyr hkr))
        clear hxr hyr hkr hgr hgr'
        go_wp2_with fail
        have hS : (fun _ : World => True) (wr.drew) := trivial
        refine reg_start (fun _ : World => True) (by kernel_rfl) hS ?_
        refine reg_take (i := 0) (v := ?_) rfl (by kernel_rfl) (by kernel_rfl) (by kernel_rfl) (fun _ _ _ h => h) (Or.inl ⟨by kernel_rfl, ?_⟩) hS ?_
        rotate_left
        · (intro w' hSw; go_simp <;> with_reducible rfl)
        try simp only [Act.put, List.setIfInBounds_toArray, List.set_cons_zero, List.set_cons_succ]
        refine reg_take (i := 3) (v := ?_) rfl (by kernel_rfl) (by kernel_rfl) (by kernel_rfl) (fun _ _ _ h => h) (Or.inl ⟨by kernel_rfl, ?_⟩) hS ?_
        rotate_left
        · (intro w' hSw; go_simp <;> with_reducible rfl)
        try simp only [Act.put, List.setIfInBounds_toArray, List.set_cons_zero, List.set_cons_succ]
        refine reg_call (i := 1) rfl (by kernel_rfl) (fun K hK => ?_)
        have HK := Lib.hid hK
        clear hK
        go_simp
        refine (bytes_wr _ _ _ _ (HXR.out.1.drewN 1)).mono ?_
        rintro e w5 ⟨A1, c1, rfl, ho5, hk5⟩
        have HO5 := Lib.hid (And.intro (own_base ho5 (Nat.zero_le _)) (Keeps.trans' ((Keeps.refl _ wr).drew) hk5))
        clear ho5 hk5
        go_wp2_with fail
        refine HK.out.to (fun w' : World => w'.ownsRow 0 5 1 (.slice A1 (pack L).length c1) (pack L).length ((pack L).map byteV)) (fun _ _ => trivial) (HO5.out.1) ?_
        clear HK hS
        have hS : (fun w' : World => w'.ownsRow 0 5 1 (.slice A1 (pack L).length c1) (pack L).length ((pack L).map byteV)) (w5) := HO5.out.1
        try simp only [Act.put, List.setIfInBounds_toArray, List.set_cons_zero, List.set_cons_succ]
        refine reg_take (i := 2) (v := ?_) rfl (by kernel_rfl) (by kernel_rfl) (by kernel_rfl) (fun _ _ _ h => h) (Or.inl ⟨by kernel_rfl, ?_⟩) hS ?_
        rotate_left
        · (intro w' hSw; have hc := conv_own (P := Try.prog) (c := c1) 22 5 9 Try.underlying22 Try.underlying5 Try.underlying9 rfl hSw; go_simp <;> with_reducible rfl)
        try simp only [Act.put, List.setIfInBounds_toArray, List.set_cons_zero, List.set_cons_succ]
        refine reg_call (i := 4) rfl (by kernel_rfl) (fun K hK => ?_)
        have HK := Lib.hid hK
        clear hK
        go_simp
        refine (bytes_rwr _ _ _ _ (HXR.out.2.1.keeps HO5.out.2 (fun h => h) (fun _ _ h => h))).mono ?_
        rintro e w6 ⟨A2, c2, rfl, ho6, hk6⟩
        have HO6 := Lib.hid (And.intro (own_base ho6 (Nat.zero_le _)) (And.intro (own_keeps HO5.out.1 hk6 (fun _ _ h => h)) hk6))
        clear ho6 hk6
        go_wp2_with fail
        refine HK.out.to (fun w' : World => (fun w' : World => w'.ownsRow 0 5 1 (.slice A1 (pack L).length c1) (pack L).length ((pack L).map byteV)) w' ∧ w'.ownsRow 0 5 1 (.slice A2 (pack L).length c2) (pack L).length ((pack L).map byteV)) (fun _ h => h.1) (⟨HO6.out.2.1, HO6.out.1⟩) ?_
        clear HK hS
        have hS : (fun w' : World => (fun w' : World => w'.ownsRow 0 5 1 (.slice A1 (pack L).length c1) (pack L).length ((pack L).map byteV)) w' ∧ w'.ownsRow 0 5 1 (.slice A2 (pack L).length c2) (pack L).length ((pack L).map byteV)) (w6) := ⟨HO6.out.2.1, HO6.out.1⟩
        try simp only [Act.put, List.setIfInBounds_toArray, List.set_cons_zero, List.set_cons_succ]
        refine reg_take (i := 5) (v := ?_) rfl (by kernel_rfl) (by kernel_rfl) (by kernel_rfl) (fun _ _ _ h => h) (Or.inl ⟨by kernel_rfl, ?_⟩) hS ?_
        rotate_left
        · (intro w' hSw; have hc := conv_own (P := Try.prog) (c := c2) 22 5 9 Try.underlying22 Try.underlying5 Try.underlying9 rfl hSw.2; go_simp <;> with_reducible rfl)
        try simp only [Act.put, List.setIfInBounds_toArray, List.set_cons_zero, List.set_cons_succ]
        refine reg_take (i := 6) (v := ?_) rfl (by kernel_rfl) (by kernel_rfl) (by kernel_rfl) (fun _ _ _ h => h) (Or.inl ⟨by kernel_rfl, ?_⟩) hS ?_
        rotate_left
        · (intro w' hSw; go_simp <;> with_reducible rfl)
        try simp only [Act.put, List.setIfInBounds_toArray, List.set_cons_zero, List.set_cons_succ]
        refine reg_take (i := 7) (v := ?_) rfl (by kernel_rfl) (by kernel_rfl) (by kernel_rfl) (fun _ _ _ h => h) (Or.inl ⟨by kernel_rfl, ?_⟩) hS ?_
        rotate_left
        · (intro w' hSw; go_simp <;> with_reducible rfl)
        try simp only [Act.put, List.setIfInBounds_toArray, List.set_cons_zero, List.set_cons_succ]
        refine wpAnyH_done (by kernel_rfl) ?_ _
        go_wp2_with fail
        go_ret
        exact ⟨rfl, ((HXR.out.2.2.trans' HO5.out.2).trans' HO6.out.2.2).to_below⟩
end Go.Proofs.Ytgphdigcilbnlaa
