/-
  Texts of this proof, joined: SgP, SgQ, SgE, FrmB.
-/
import Derived.Test.YtopbbicjbjmdnaaGreatDoorJ01
import Derived.Test.YtopbbicjbjmdnaaGreatDoorJ06
import Derived.Laws.Cover1
import Derived.Lib.MinMaxS
import Derived.Test.YtopbbicjbjmdnaaGreatDoorJ03
import Derived.StillTailTactics
namespace Go.Proofs.YtopbbicjbjmdnaaGreatDoor
open Go.RowKit Go.Maps
set_option maxRecDepth 100000
set_option linter.unusedVariables false
set_option linter.unusedSimpArgs false
def leS (s t : ByteArray) : Bool := Op.bytesLess s.toList t.toList || s.toList == t.toList
theorem leS_false {s t : ByteArray} (h : leS s t = false) : t.toList < s.toList := by
  unfold leS at h
  rw [Bool.or_eq_false_iff, Proofs.bytesLess_eq] at h
  obtain ⟨h1, h2⟩ := h
  have h1' : ¬ s.toList < t.toList := by simpa using h1
  have h2' : s.toList ≠ t.toList := by simpa using h2
  exact Classical.byContradiction fun h3 => h2' (List.le_antisymm (List.not_lt.1 h3) (List.not_lt.1 h1'))
theorem leS_true {s t : ByteArray} (h : ¬ t.toList < s.toList) : leS s t = true := by
  cases h' : leS s t with
  | true => rfl
  | false => exact absurd (leS_false h') h
/-- The first k names rise. -/
def Rise (nm : Nat → ByteArray) (k : Nat) : Prop := ∀ i, 0 < i → i < k → leS (nm i) (nm (i - 1)) = false
theorem Rise.lt {nm : Nat → ByteArray} {k : Nat} (h : Rise nm k) (i : Nat) : ∀ d, 0 < d → i + d < k → (nm i).toList < (nm (i + d)).toList
  | 0, h0, _ => absurd h0 (by omega)
  | d + 1, _, hk => by
    have h1 := leS_false (h (i + (d + 1)) (by omega) hk)
    rw [show i + (d + 1) - 1 = i + d by omega] at h1
    rcases Nat.eq_zero_or_pos d with h0 | h0
    · subst h0; exact h1
    · exact List.lt_trans (Rise.lt h i d h0 (by omega)) h1
theorem Rise.apart {nm : Nat → ByteArray} {k : Nat} (h : Rise nm k) : Apart nm k := fun i j hij hj e => by
  have := h.lt i (j - i) (by omega) (by omega)
  rw [show i + (j - i) = j by omega, e] at this
  exact List.lt_irrefl _ this
/-- A name that is there already does not rise. -/
theorem Rise.there {nm : Nat → ByteArray} {k j : Nat} (h : Rise nm k) (hj : j < k) (e : nm j = nm k) : leS (nm k) (nm (k - 1)) = true := by
  refine leS_true fun hlt => ?_
  rcases Nat.lt_or_ge j (k - 1) with h1 | h1
  · have := h.lt j (k - 1 - j) (by omega) (by omega)
    rw [show j + (k - 1 - j) = k - 1 by omega, e] at this
    exact List.lt_irrefl _ (List.lt_trans this hlt)
  · have : j = k - 1 := by omega
    rw [← this, e] at hlt
    exact List.lt_irrefl _ hlt
/-- Is the i-th name one that may be, and behind the one ahead of it? -/
def stepOk (nm : Nat → ByteArray) (i : Nat) : Bool := nameOk (nm i) && (i == 0 || !leS (nm i) (nm (i - 1)))
def namesOk (nm : Nat → ByteArray) (k : Nat) : Bool := (List.range k).all (stepOk nm)
theorem namesOk_succ (nm : Nat → ByteArray) (k : Nat) : namesOk nm (k + 1) = (namesOk nm k && stepOk nm k) := by unfold namesOk; rw [List.range_succ, List.all_append]; simp
theorem namesOk_bad {nm : Nat → ByteArray} {i k : Nat} (hi : i < k) (h : stepOk nm i = false) : namesOk nm k = false := by
  unfold namesOk
  rw [List.all_eq_false]
  exact ⟨i, List.mem_range.2 hi, by rw [h]; simp⟩
theorem namesOk_rise {nm : Nat → ByteArray} {k : Nat} (h : namesOk nm k = true) : Rise nm k := fun i h0 hi => by
  have := List.all_eq_true.1 h i (List.mem_range.2 hi)
  unfold stepOk at this
  simp only [Bool.and_eq_true, Bool.or_eq_true, beq_iff_eq] at this
  rcases this.2 with h1 | h1
  · omega
  · simpa using h1
theorem namesOk_name {nm : Nat → ByteArray} {k i : Nat} (h : namesOk nm k = true) (hi : i < k) : nameOk (nm i) = true := by
  have := List.all_eq_true.1 h i (List.mem_range.2 hi)
  unfold stepOk at this
  simp only [Bool.and_eq_true] at this
  exact this.1
/-- Parts in memory: names and slices of points. -/
structure PartsAt (w : World) (A : Option Addr) (k : Nat) (nm : Nat → ByteArray) (pa : Nat → Option Addr) (pn pc : Nat → Nat) (pf : Nat → Nat → Pt) : Prop where
  row : 0 < k → ∃ b off, A = some ⟨b, off, none⟩ ∧ b < w.heap.size ∧ ∀ j, j < k → w.cell? ⟨b, off + j * 2, none⟩ = some (.string (nm j)) ∧ w.cell? ⟨b, off + j * 2 + 1, none⟩ = some (.slice (pa j) (pn j) (pc j))
  pts : ∀ j, j < k → SlP w (fun q => q < w.heap.size) (pa j) (pn j) (pf j)
  le : ∀ j, j < k → pn j ≤ pc j ∧ pc j ≤ 9223372036854775807
  ok : ∀ j i, PtOk (pf j i)
  nsz : ∀ j, j < k → (nm j).size ≤ 9223372036854775807
theorem PartsAt.below {w w' : World} {A : Option Addr} {k : Nat} {nm : Nat → ByteArray} {pa : Nat → Option Addr} {pn pc : Nat → Nat} {pf : Nat → Nat → Pt} (h : PartsAt w A k nm pa pn pc pf) (hb : Below w.heap.size w w') : PartsAt w' A k nm pa pn pc pf := by
  refine ⟨fun hk => ?_, fun j hj => ?_, h.le, h.ok, h.nsz⟩
  · obtain ⟨b, off, e, hlt, hc⟩ := h.row hk
    exact ⟨b, off, e, Nat.lt_of_lt_of_le hlt hb.size, fun j hj => ⟨(hb.cell (by exact hlt)).trans (hc j hj).1, (hb.cell (by exact hlt)).trans (hc j hj).2⟩⟩
  · exact ((h.pts j hj).below hb).mono (fun _ hq => Nat.lt_of_lt_of_le hq hb.size)
end Go.Proofs.YtopbbicjbjmdnaaGreatDoor
namespace Go.Proofs.YtopbbicjbjmdnaaGreatDoor
open Go.RowKit Go.Maps
set_option maxRecDepth 100000
set_option linter.unusedVariables false
set_option linter.unusedSimpArgs false
theorem DictS.alloc {w0 w : World} {d m k y : Nat} {nm : Nat → ByteArray} (h : DictS w0 [] d m k nm w) (hy : y = w.heap.size) (ty : TypeId) (cs : Array Value) : DictS w0 [(y, ty, cs)] d m k nm (w.alloc (.cells cs ty)) := by
  refine ⟨h.own.alloc hy ty cs, World.ownsMap.alloc h.map _, h.ge, fun b hb => ?_⟩
  rcases List.mem_cons.1 hb with rfl | hb
  · exact h.ne _ List.mem_cons_self
  · obtain rfl := List.mem_singleton.1 hb
    have := World.ownsMap.lt h.map
    show y ≠ m
    omega
theorem DictS.forget {w0 w : World} {L : List (Nat × TypeId × Array Value)} {d m k : Nat} {nm : Nat → ByteArray} (h : DictS w0 L d m k nm w) : DictS w0 [] d m k nm w :=
  ⟨h.own.take 1, h.map, h.ge, fun b hb => h.ne b (by obtain rfl := List.mem_singleton.1 hb; exact List.mem_cons_self)⟩
def NamesFn (k : Nat) (nm : Nat → ByteArray) (w : World) (e : Ending) (w' : World) : Prop :=
  (namesOk nm k = true ∧ 0 < k ∧ ∃ d m, e = .returned (.tuple #[.pointer (some ⟨d, 0, none⟩), .bool true]) ∧ DictS w [] d m k nm w') ∨
  ((namesOk nm k = false ∨ k = 0) ∧ ∃ v, e = .returned (.tuple #[v, .bool false]) ∧ Below w.heap.size w w')
set_option maxHeartbeats 4000000 in
theorem names_any (w : World) (A : Option Addr) (k c : Nat) (nm : Nat → ByteArray) (pa : Nat → Option Addr) (pn pc : Nat → Nat) (pf : Nat → Nat → Pt) (h : PartsAt w A k nm pa pn pc pf) (hk : k ≤ 1024) :
    Calls Tryz.prog 14 #[.slice A k c] w (NamesFn k nm w) := by
  have H0 := Lib.hid h
  clear h
  go_enter Tryz.func14, Tryz.ntmps14
  go_wp2_with fail
  refine (dNew_any w nm).mono ?_
  rintro e w1 ⟨rfl, hd⟩
  obtain ⟨m, hm⟩ : ∃ m, m = w.heap.size := ⟨_, rfl⟩
  obtain ⟨d, hd0⟩ : ∃ d, d = w.heap.size + 1 := ⟨_, rfl⟩
  rw [← hd0, ← hm] at hd
  rw [← hd0]
  have HD := Lib.hid hd
  clear hd hm hd0
  go_wp2_with fail
  go_loopw [12] (fun i wr => ∃ (j : Nat), j ≤ k ∧ i = .int .i64 (j : Nat) ∧ namesOk nm j = true ∧ DictS w [] d m j nm wr) (fun i _ => k - (intOf i).toNat)
  case atStart => exact ⟨0, by omega, rfl, rfl, HD.out⟩
  case round =>
    obtain ⟨j, hj, rfl, hok, hS⟩ := hrel
    by_cases hlt : j < k
    · obtain ⟨b, off, hA, hbl, hcell⟩ := H0.out.row (by omega)
      subst hA
      obtain ⟨s, hs⟩ : ∃ s, s = nm j := ⟨_, rfl⟩
      have zc0 : wr.cell? ⟨b, off + j * 2, none⟩ = some (.string s) := by rw [hs]; exact (hS.own.bel.cell (by exact hbl)).trans (hcell j hlt).1
      have zc1 : wr.cell? ⟨b, off + j * 2 + 1, none⟩ = some (.slice (pa j) (pn j) (pc j)) := (hS.own.bel.cell (by exact hbl)).trans (hcell j hlt).2
      have hjk : (j : Int) < (k : Int) := by omega
      obtain ⟨y, hy⟩ : ∃ y, y = wr.heap.size := ⟨_, rfl⟩
      have HS := Lib.hid (And.intro hS (And.intro hok (And.intro hs hy)))
      have HC := Lib.hid hcell
      clear hS hok hs hcell
      go_upto_region 5 with (fail)
      rw [← hy]
      clear zc0 zc1
      refine wp_gen (fun wx => DictS w [(y, 33, #[.string s, .slice (pa j) (pn j) (pc j)])] d m j nm wx) (HS.out.1.alloc hy _ _) ?_
      intro w2 h2
      clear hy
      have zc0 := h2.own.cell 1 0 rfl rfl
      have H2 := Lib.hid h2
      clear h2
      have hrise := namesOk_rise HS.out.2.1
      have hput := dPut_any w w2 [(y, 33, #[.string s, .slice (pa j) (pn j) (pc j)])] d m j nm H2.out (by omega) hrise.apart (H0.out.nsz j hlt)
      rw [← HS.out.2.2.1] at hput
      go_wp2_with fail
      refine hput.mono ?_
      intro e w3 hcase
      have HQ := Lib.hid hrise
      clear hput zc0 hrise
      rcases hcase with ⟨hn, rfl, h3⟩ | ⟨hn, hth, q, rfl, h3⟩ | ⟨hn, hfr, rfl, h3⟩
      · have HF := Lib.hid (show namesOk nm k = false from namesOk_bad hlt (by unfold stepOk; rw [hn]; rfl))
        have H3 := Lib.hid h3
        clear hn h3
        go_upto_region 6 with (fail)
        have hS : (DictS w [(y, 33, #[.string s, .slice (pa j) (pn j) (pc j)])] d m j nm) (w3.drew) := H3.out.call (Below.refl _ _).drew
        refine reg_start (DictS w [(y, 33, #[.string s, .slice (pa j) (pn j) (pc j)])] d m j nm) (by kernel_rfl) hS ?_
        refine reg_take (i := 0) (v := ?_) rfl (by kernel_rfl) (by kernel_rfl) (by kernel_rfl) (fun _ _ _ h => h) (Or.inl ⟨by kernel_rfl, ?_⟩) hS ?_
        rotate_left
        · (intro w' hSw; go_simp <;> with_reducible rfl)
        try simp only [List.getElem_toArray, List.getElem_cons_succ, List.getElem_cons_zero, Act.put, List.setIfInBounds_toArray, List.set_cons_zero, List.set_cons_succ]
        refine reg_take (i := 1) (v := ?_) rfl (by kernel_rfl) (by kernel_rfl) (by kernel_rfl) (fun _ _ _ h => h) (Or.inl ⟨by kernel_rfl, ?_⟩) hS ?_
        rotate_left
        · (intro w' hSw; go_simp <;> with_reducible rfl)
        try simp only [List.getElem_toArray, List.getElem_cons_succ, List.getElem_cons_zero, Act.put, List.setIfInBounds_toArray, List.set_cons_zero, List.set_cons_succ]
        refine reg_take (i := 2) (v := ?_) rfl (by kernel_rfl) (by kernel_rfl) (by kernel_rfl) (fun _ _ _ h => h) (Or.inl ⟨by kernel_rfl, ?_⟩) hS ?_
        rotate_left
        · (intro w' hSw; go_simp <;> with_reducible rfl)
        try simp only [List.getElem_toArray, List.getElem_cons_succ, List.getElem_cons_zero, Act.put, List.setIfInBounds_toArray, List.set_cons_zero, List.set_cons_succ]
        refine reg_take (i := 3) (v := undef) rfl (by kernel_rfl) (by kernel_rfl) (by kernel_rfl) (fun _ _ _ h => h) (Or.inr ⟨by kernel_rfl, rfl⟩) hS ?_
        try simp only [List.getElem_toArray, List.getElem_cons_succ, List.getElem_cons_zero, Act.put, List.setIfInBounds_toArray, List.set_cons_zero, List.set_cons_succ]
        refine reg_take (i := 4) (v := undef) rfl (by kernel_rfl) (by kernel_rfl) (by kernel_rfl) (fun _ _ _ h => h) (Or.inr ⟨by kernel_rfl, rfl⟩) hS ?_
        try simp only [List.getElem_toArray, List.getElem_cons_succ, List.getElem_cons_zero, Act.put, List.setIfInBounds_toArray, List.set_cons_zero, List.set_cons_succ]
        refine reg_take (i := 5) (v := undef) rfl (by kernel_rfl) (by kernel_rfl) (by kernel_rfl) (fun _ _ _ h => h) (Or.inr ⟨by kernel_rfl, rfl⟩) hS ?_
        try simp only [List.getElem_toArray, List.getElem_cons_succ, List.getElem_cons_zero, Act.put, List.setIfInBounds_toArray, List.set_cons_zero, List.set_cons_succ]
        refine reg_take (i := 6) (v := undef) rfl (by kernel_rfl) (by kernel_rfl) (by kernel_rfl) (fun _ _ _ h => h) (Or.inr ⟨by kernel_rfl, rfl⟩) hS ?_
        try simp only [List.getElem_toArray, List.getElem_cons_succ, List.getElem_cons_zero, Act.put, List.setIfInBounds_toArray, List.set_cons_zero, List.set_cons_succ]
        refine reg_take (i := 7) (v := undef) rfl (by kernel_rfl) (by kernel_rfl) (by kernel_rfl) (fun _ _ _ h => h) (Or.inr ⟨by kernel_rfl, rfl⟩) hS ?_
        try simp only [List.getElem_toArray, List.getElem_cons_succ, List.getElem_cons_zero, Act.put, List.setIfInBounds_toArray, List.set_cons_zero, List.set_cons_succ]
        refine reg_take (i := 8) (v := undef) rfl (by kernel_rfl) (by kernel_rfl) (by kernel_rfl) (fun _ _ _ h => h) (Or.inr ⟨by kernel_rfl, rfl⟩) hS ?_
        try simp only [List.getElem_toArray, List.getElem_cons_succ, List.getElem_cons_zero, Act.put, List.setIfInBounds_toArray, List.set_cons_zero, List.set_cons_succ]
        refine reg_take (i := 9) (v := undef) rfl (by kernel_rfl) (by kernel_rfl) (by kernel_rfl) (fun _ _ _ h => h) (Or.inr ⟨by kernel_rfl, rfl⟩) hS ?_
        try simp only [List.getElem_toArray, List.getElem_cons_succ, List.getElem_cons_zero, Act.put, List.setIfInBounds_toArray, List.set_cons_zero, List.set_cons_succ]
        refine reg_take (i := 10) (v := undef) rfl (by kernel_rfl) (by kernel_rfl) (by kernel_rfl) (fun _ _ _ h => h) (Or.inr ⟨by kernel_rfl, rfl⟩) hS ?_
        try simp only [List.getElem_toArray, List.getElem_cons_succ, List.getElem_cons_zero, Act.put, List.setIfInBounds_toArray, List.set_cons_zero, List.set_cons_succ]
        refine reg_take (i := 11) (v := undef) rfl (by kernel_rfl) (by kernel_rfl) (by kernel_rfl) (fun _ _ _ h => h) (Or.inr ⟨by kernel_rfl, rfl⟩) hS ?_
        try simp only [List.getElem_toArray, List.getElem_cons_succ, List.getElem_cons_zero, Act.put, List.setIfInBounds_toArray, List.set_cons_zero, List.set_cons_succ]
        refine reg_take (i := 12) (v := undef) rfl (by kernel_rfl) (by kernel_rfl) (by kernel_rfl) (fun _ _ _ h => h) (Or.inr ⟨by kernel_rfl, rfl⟩) hS ?_
        try simp only [List.getElem_toArray, List.getElem_cons_succ, List.getElem_cons_zero, Act.put, List.setIfInBounds_toArray, List.set_cons_zero, List.set_cons_succ]
        refine reg_take (i := 13) (v := undef) rfl (by kernel_rfl) (by kernel_rfl) (by kernel_rfl) (fun _ _ _ h => h) (Or.inr ⟨by kernel_rfl, rfl⟩) hS ?_
        try simp only [List.getElem_toArray, List.getElem_cons_succ, List.getElem_cons_zero, Act.put, List.setIfInBounds_toArray, List.set_cons_zero, List.set_cons_succ]
        refine reg_take (i := 14) (v := undef) rfl (by kernel_rfl) (by kernel_rfl) (by kernel_rfl) (fun _ _ _ h => h) (Or.inr ⟨by kernel_rfl, rfl⟩) hS ?_
        try simp only [List.getElem_toArray, List.getElem_cons_succ, List.getElem_cons_zero, Act.put, List.setIfInBounds_toArray, List.set_cons_zero, List.set_cons_succ]
        refine reg_take (i := 15) (v := undef) rfl (by kernel_rfl) (by kernel_rfl) (by kernel_rfl) (fun _ _ _ h => h) (Or.inr ⟨by kernel_rfl, rfl⟩) hS ?_
        try simp only [List.getElem_toArray, List.getElem_cons_succ, List.getElem_cons_zero, Act.put, List.setIfInBounds_toArray, List.set_cons_zero, List.set_cons_succ]
        refine reg_take (i := 16) (v := ?_) rfl (by kernel_rfl) (by kernel_rfl) (by kernel_rfl) (fun _ _ _ h => h) (Or.inl ⟨by kernel_rfl, ?_⟩) hS ?_
        rotate_left
        · (intro w' hSw; go_simp <;> with_reducible rfl)
        try simp only [List.getElem_toArray, List.getElem_cons_succ, List.getElem_cons_zero, Act.put, List.setIfInBounds_toArray, List.set_cons_zero, List.set_cons_succ]
        refine wpAnyH_done (by kernel_rfl) ?_ _
        try simp only [List.getElem_toArray, List.getElem_cons_succ, List.getElem_cons_zero]
        try simp only [List.getElem_toArray, List.getElem_cons_succ, List.getElem_cons_zero, Act.put, List.setIfInBounds_toArray, List.set_cons_zero, List.set_cons_succ]
        have HG := Lib.hid hS.own.bel
        clear hS
        go_wp2_with fail
        go_ret2
        exact .inr ⟨.inl HF.out, _, rfl, HG.out⟩
      · obtain ⟨i, rfl⟩ : ∃ i, j = i + 1 := ⟨j - 1, by obtain ⟨q, h, _⟩ := hth; omega⟩
        have hle : leS s (nm i) = true := by obtain ⟨q, h1, h2⟩ := hth; rw [HS.out.2.2.1]; exact HQ.out.there h1 h2
        have HF := Lib.hid (show namesOk nm k = false from namesOk_bad hlt (by unfold stepOk; rw [← HS.out.2.2.1]; show (nameOk s && (false || !leS s (nm i))) = false; rw [hle]; simp))
        obtain ⟨t, ht⟩ : ∃ t, t = nm i := ⟨_, rfl⟩
        rw [← ht] at hle
        have zt : w3.cell? ⟨b, off + i * 2, none⟩ = some (.string t) := by rw [ht]; exact (h3.own.bel.cell (by exact hbl)).trans (HC.out i (by omega)).1
        have H3 := Lib.hid (And.intro h3 zt)
        have HL := Lib.hid hle
        have km : ((i : Int) + 1 - 1) = (i : Int) := by omega
        have hik : (i : Int) < (k : Int) := by omega
        have kw : IntKind.i64.wrap (i : Int) = (i : Int) := IntWalk.i64_in _ (by omega)
        clear hn h3 zt ht hle
        go_upto_region 6 with (fail)
        have hS : (fun w' => DictS w [(y, 33, #[.string s, .slice (pa (i + 1)) (pn (i + 1)) (pc (i + 1))])] d m (i + 1) nm w' ∧ w'.cell? ⟨b, off + i * 2, none⟩ = some (.string t)) (w3.drew) := ⟨H3.out.1.call (Below.refl _ _).drew, H3.out.2⟩
        refine reg_start (fun w' => DictS w [(y, 33, #[.string s, .slice (pa (i + 1)) (pn (i + 1)) (pc (i + 1))])] d m (i + 1) nm w' ∧ w'.cell? ⟨b, off + i * 2, none⟩ = some (.string t)) (by kernel_rfl) hS ?_
        refine reg_take (i := 0) (v := ?_) rfl (by kernel_rfl) (by kernel_rfl) (by kernel_rfl) (fun _ _ _ h => h) (Or.inl ⟨by kernel_rfl, ?_⟩) hS ?_
        rotate_left
        · (intro w' hSw; go_simp <;> with_reducible rfl)
        try simp only [List.getElem_toArray, List.getElem_cons_succ, List.getElem_cons_zero, Act.put, List.setIfInBounds_toArray, List.set_cons_zero, List.set_cons_succ]
        refine reg_take (i := 1) (v := ?_) rfl (by kernel_rfl) (by kernel_rfl) (by kernel_rfl) (fun _ _ _ h => h) (Or.inl ⟨by kernel_rfl, ?_⟩) hS ?_
        rotate_left
        · (intro w' hSw; go_simp <;> with_reducible rfl)
        try simp only [List.getElem_toArray, List.getElem_cons_succ, List.getElem_cons_zero, Act.put, List.setIfInBounds_toArray, List.set_cons_zero, List.set_cons_succ]
        refine reg_take (i := 2) (v := ?_) rfl (by kernel_rfl) (by kernel_rfl) (by kernel_rfl) (fun _ _ _ h => h) (Or.inl ⟨by kernel_rfl, ?_⟩) hS ?_
        rotate_left
        · (intro w' hSw; go_simp <;> with_reducible rfl)
        try simp only [List.getElem_toArray, List.getElem_cons_succ, List.getElem_cons_zero, Act.put, List.setIfInBounds_toArray, List.set_cons_zero, List.set_cons_succ]
        refine reg_take (i := 3) (v := ?_) rfl (by kernel_rfl) (by kernel_rfl) (by kernel_rfl) (fun _ _ _ h => h) (Or.inl ⟨by kernel_rfl, ?_⟩) hS ?_
        rotate_left
        · (intro w' hSw; go_simp <;> with_reducible rfl)
        try simp only [List.getElem_toArray, List.getElem_cons_succ, List.getElem_cons_zero, Act.put, List.setIfInBounds_toArray, List.set_cons_zero, List.set_cons_succ]
        refine reg_take (i := 4) (v := ?_) rfl (by kernel_rfl) (by kernel_rfl) (by kernel_rfl) (fun _ _ _ h => h) (Or.inl ⟨by kernel_rfl, ?_⟩) hS ?_
        rotate_left
        · (intro w' hSw; go_simp <;> with_reducible rfl)
        try simp only [List.getElem_toArray, List.getElem_cons_succ, List.getElem_cons_zero, Act.put, List.setIfInBounds_toArray, List.set_cons_zero, List.set_cons_succ]
        refine reg_take (i := 5) (v := ?_) rfl (by kernel_rfl) (by kernel_rfl) (by kernel_rfl) (fun _ _ _ h => h) (Or.inl ⟨by kernel_rfl, ?_⟩) hS ?_
        rotate_left
        · (intro w' hSw; go_simp <;> with_reducible rfl)
        try simp only [List.getElem_toArray, List.getElem_cons_succ, List.getElem_cons_zero, Act.put, List.setIfInBounds_toArray, List.set_cons_zero, List.set_cons_succ]
        refine reg_take (i := 6) (v := ?_) rfl (by kernel_rfl) (by kernel_rfl) (by kernel_rfl) (fun _ _ _ h => h) (Or.inl ⟨by kernel_rfl, ?_⟩) hS ?_
        rotate_left
        · (intro w' hSw; go_simp <;> with_reducible rfl)
        try simp only [List.getElem_toArray, List.getElem_cons_succ, List.getElem_cons_zero, Act.put, List.setIfInBounds_toArray, List.set_cons_zero, List.set_cons_succ]
        refine reg_take (i := 7) (v := ?_) rfl (by kernel_rfl) (by kernel_rfl) (by kernel_rfl) (fun _ _ _ h => h) (Or.inl ⟨by kernel_rfl, ?_⟩) hS ?_
        rotate_left
        · (intro w' hSw; have u0 := hSw.1.own.cell 1 0 rfl rfl; go_simp <;> with_reducible rfl)
        try simp only [List.getElem_toArray, List.getElem_cons_succ, List.getElem_cons_zero, Act.put, List.setIfInBounds_toArray, List.set_cons_zero, List.set_cons_succ]
        refine reg_take (i := 8) (v := ?_) rfl (by kernel_rfl) (by kernel_rfl) (by kernel_rfl) (fun _ _ _ h => h) (Or.inl ⟨by kernel_rfl, ?_⟩) hS ?_
        rotate_left
        · (intro w' hSw; go_simp <;> with_reducible rfl)
        try simp only [List.getElem_toArray, List.getElem_cons_succ, List.getElem_cons_zero, Act.put, List.setIfInBounds_toArray, List.set_cons_zero, List.set_cons_succ]
        refine reg_take (i := 9) (v := ?_) rfl (by kernel_rfl) (by kernel_rfl) (by kernel_rfl) (fun _ _ _ h => h) (Or.inl ⟨by kernel_rfl, ?_⟩) hS ?_
        rotate_left
        · (intro w' hSw; go_simp <;> with_reducible rfl)
        try simp only [List.getElem_toArray, List.getElem_cons_succ, List.getElem_cons_zero, Act.put, List.setIfInBounds_toArray, List.set_cons_zero, List.set_cons_succ]
        refine reg_take (i := 10) (v := ?_) rfl (by kernel_rfl) (by kernel_rfl) (by kernel_rfl) (fun _ _ _ h => h) (Or.inl ⟨by kernel_rfl, ?_⟩) hS ?_
        rotate_left
        · (intro w' hSw; go_simp <;> with_reducible rfl)
        try simp only [List.getElem_toArray, List.getElem_cons_succ, List.getElem_cons_zero, Act.put, List.setIfInBounds_toArray, List.set_cons_zero, List.set_cons_succ]
        refine reg_take (i := 11) (v := ?_) rfl (by kernel_rfl) (by kernel_rfl) (by kernel_rfl) (fun _ _ _ h => h) (Or.inl ⟨by kernel_rfl, ?_⟩) hS ?_
        rotate_left
        · (intro w' hSw; go_simp <;> with_reducible rfl)
        try simp only [List.getElem_toArray, List.getElem_cons_succ, List.getElem_cons_zero, Act.put, List.setIfInBounds_toArray, List.set_cons_zero, List.set_cons_succ]
        refine reg_take (i := 12) (v := ?_) rfl (by kernel_rfl) (by kernel_rfl) (by kernel_rfl) (fun _ _ _ h => h) (Or.inl ⟨by kernel_rfl, ?_⟩) hS ?_
        rotate_left
        · (intro w' hSw; go_simp <;> with_reducible rfl)
        try simp only [List.getElem_toArray, List.getElem_cons_succ, List.getElem_cons_zero, Act.put, List.setIfInBounds_toArray, List.set_cons_zero, List.set_cons_succ]
        refine reg_take (i := 13) (v := ?_) rfl (by kernel_rfl) (by kernel_rfl) (by kernel_rfl) (fun _ _ _ h => h) (Or.inl ⟨by kernel_rfl, ?_⟩) hS ?_
        rotate_left
        · (intro w' hSw; have u1 := hSw.2; go_simp <;> with_reducible rfl)
        try simp only [List.getElem_toArray, List.getElem_cons_succ, List.getElem_cons_zero, Act.put, List.setIfInBounds_toArray, List.set_cons_zero, List.set_cons_succ]
        refine reg_take (i := 14) (v := .bool (leS s t)) rfl (by kernel_rfl) (by kernel_rfl) (by kernel_rfl) (fun _ _ _ h => h) (Or.inl ⟨by kernel_rfl, ?_⟩) hS ?_
        · (intro w' hSw; (go_simp <;> rfl))
        try simp only [List.getElem_toArray, List.getElem_cons_succ, List.getElem_cons_zero, Act.put, List.setIfInBounds_toArray, List.set_cons_zero, List.set_cons_succ]
        rw [HL.out]
        refine reg_take (i := 15) (v := ?_) rfl (by kernel_rfl) (by kernel_rfl) (by kernel_rfl) (fun _ _ _ h => h) (Or.inl ⟨by kernel_rfl, ?_⟩) hS ?_
        rotate_left
        · (intro w' hSw; go_simp <;> with_reducible rfl)
        try simp only [List.getElem_toArray, List.getElem_cons_succ, List.getElem_cons_zero, Act.put, List.setIfInBounds_toArray, List.set_cons_zero, List.set_cons_succ]
        refine reg_take (i := 16) (v := ?_) rfl (by kernel_rfl) (by kernel_rfl) (by kernel_rfl) (fun _ _ _ h => h) (Or.inl ⟨by kernel_rfl, ?_⟩) hS ?_
        rotate_left
        · (intro w' hSw; go_simp <;> with_reducible rfl)
        try simp only [List.getElem_toArray, List.getElem_cons_succ, List.getElem_cons_zero, Act.put, List.setIfInBounds_toArray, List.set_cons_zero, List.set_cons_succ]
        refine wpAnyH_done (by kernel_rfl) ?_ _
        try simp only [List.getElem_toArray, List.getElem_cons_succ, List.getElem_cons_zero]
        try simp only [List.getElem_toArray, List.getElem_cons_succ, List.getElem_cons_zero, Act.put, List.setIfInBounds_toArray, List.set_cons_zero, List.set_cons_succ]
        have HG := Lib.hid hS.1.own.bel
        clear hS
        go_wp2_with fail
        go_ret2
        exact .inr ⟨.inl HF.out, _, rfl, HG.out⟩
      · rcases Nat.eq_zero_or_pos j with h0 | h0
        · subst h0
          have HO := Lib.hid (show namesOk nm (0 + 1) = true by rw [namesOk_succ, HS.out.2.1]; unfold stepOk; rw [hn]; rfl)
          have H3 := Lib.hid h3
          clear hn h3
          go_upto_region 6 with (fail)
          have hS : (DictS w [(y, 33, #[.string s, .slice (pa 0) (pn 0) (pc 0)])] d m (0 + 1) nm) (w3.drew) := H3.out.call (Below.refl _ _).drew
          refine reg_start (DictS w [(y, 33, #[.string s, .slice (pa 0) (pn 0) (pc 0)])] d m (0 + 1) nm) (by kernel_rfl) hS ?_
          refine reg_take (i := 0) (v := ?_) rfl (by kernel_rfl) (by kernel_rfl) (by kernel_rfl) (fun _ _ _ h => h) (Or.inl ⟨by kernel_rfl, ?_⟩) hS ?_
          rotate_left
          · (intro w' hSw; go_simp <;> with_reducible rfl)
          try simp only [List.getElem_toArray, List.getElem_cons_succ, List.getElem_cons_zero, Act.put, List.setIfInBounds_toArray, List.set_cons_zero, List.set_cons_succ]
          refine reg_take (i := 1) (v := ?_) rfl (by kernel_rfl) (by kernel_rfl) (by kernel_rfl) (fun _ _ _ h => h) (Or.inl ⟨by kernel_rfl, ?_⟩) hS ?_
          rotate_left
          · (intro w' hSw; go_simp <;> with_reducible rfl)
          try simp only [List.getElem_toArray, List.getElem_cons_succ, List.getElem_cons_zero, Act.put, List.setIfInBounds_toArray, List.set_cons_zero, List.set_cons_succ]
          refine reg_take (i := 2) (v := ?_) rfl (by kernel_rfl) (by kernel_rfl) (by kernel_rfl) (fun _ _ _ h => h) (Or.inl ⟨by kernel_rfl, ?_⟩) hS ?_
          rotate_left
          · (intro w' hSw; go_simp <;> with_reducible rfl)
          try simp only [List.getElem_toArray, List.getElem_cons_succ, List.getElem_cons_zero, Act.put, List.setIfInBounds_toArray, List.set_cons_zero, List.set_cons_succ]
          refine reg_take (i := 3) (v := ?_) rfl (by kernel_rfl) (by kernel_rfl) (by kernel_rfl) (fun _ _ _ h => h) (Or.inl ⟨by kernel_rfl, ?_⟩) hS ?_
          rotate_left
          · (intro w' hSw; go_simp <;> with_reducible rfl)
          try simp only [List.getElem_toArray, List.getElem_cons_succ, List.getElem_cons_zero, Act.put, List.setIfInBounds_toArray, List.set_cons_zero, List.set_cons_succ]
          refine reg_take (i := 4) (v := ?_) rfl (by kernel_rfl) (by kernel_rfl) (by kernel_rfl) (fun _ _ _ h => h) (Or.inl ⟨by kernel_rfl, ?_⟩) hS ?_
          rotate_left
          · (intro w' hSw; go_simp <;> with_reducible rfl)
          try simp only [List.getElem_toArray, List.getElem_cons_succ, List.getElem_cons_zero, Act.put, List.setIfInBounds_toArray, List.set_cons_zero, List.set_cons_succ]
          refine reg_take (i := 5) (v := ?_) rfl (by kernel_rfl) (by kernel_rfl) (by kernel_rfl) (fun _ _ _ h => h) (Or.inl ⟨by kernel_rfl, ?_⟩) hS ?_
          rotate_left
          · (intro w' hSw; go_simp <;> with_reducible rfl)
          try simp only [List.getElem_toArray, List.getElem_cons_succ, List.getElem_cons_zero, Act.put, List.setIfInBounds_toArray, List.set_cons_zero, List.set_cons_succ]
          refine reg_take (i := 6) (v := undef) rfl (by kernel_rfl) (by kernel_rfl) (by kernel_rfl) (fun _ _ _ h => h) (Or.inr ⟨by kernel_rfl, rfl⟩) hS ?_
          try simp only [List.getElem_toArray, List.getElem_cons_succ, List.getElem_cons_zero, Act.put, List.setIfInBounds_toArray, List.set_cons_zero, List.set_cons_succ]
          refine reg_take (i := 7) (v := undef) rfl (by kernel_rfl) (by kernel_rfl) (by kernel_rfl) (fun _ _ _ h => h) (Or.inr ⟨by kernel_rfl, rfl⟩) hS ?_
          try simp only [List.getElem_toArray, List.getElem_cons_succ, List.getElem_cons_zero, Act.put, List.setIfInBounds_toArray, List.set_cons_zero, List.set_cons_succ]
          refine reg_take (i := 8) (v := undef) rfl (by kernel_rfl) (by kernel_rfl) (by kernel_rfl) (fun _ _ _ h => h) (Or.inr ⟨by kernel_rfl, rfl⟩) hS ?_
          try simp only [List.getElem_toArray, List.getElem_cons_succ, List.getElem_cons_zero, Act.put, List.setIfInBounds_toArray, List.set_cons_zero, List.set_cons_succ]
          refine reg_take (i := 9) (v := undef) rfl (by kernel_rfl) (by kernel_rfl) (by kernel_rfl) (fun _ _ _ h => h) (Or.inr ⟨by kernel_rfl, rfl⟩) hS ?_
          try simp only [List.getElem_toArray, List.getElem_cons_succ, List.getElem_cons_zero, Act.put, List.setIfInBounds_toArray, List.set_cons_zero, List.set_cons_succ]
          refine reg_take (i := 10) (v := undef) rfl (by kernel_rfl) (by kernel_rfl) (by kernel_rfl) (fun _ _ _ h => h) (Or.inr ⟨by kernel_rfl, rfl⟩) hS ?_
          try simp only [List.getElem_toArray, List.getElem_cons_succ, List.getElem_cons_zero, Act.put, List.setIfInBounds_toArray, List.set_cons_zero, List.set_cons_succ]
          refine reg_take (i := 11) (v := undef) rfl (by kernel_rfl) (by kernel_rfl) (by kernel_rfl) (fun _ _ _ h => h) (Or.inr ⟨by kernel_rfl, rfl⟩) hS ?_
          try simp only [List.getElem_toArray, List.getElem_cons_succ, List.getElem_cons_zero, Act.put, List.setIfInBounds_toArray, List.set_cons_zero, List.set_cons_succ]
          refine reg_take (i := 12) (v := undef) rfl (by kernel_rfl) (by kernel_rfl) (by kernel_rfl) (fun _ _ _ h => h) (Or.inr ⟨by kernel_rfl, rfl⟩) hS ?_
          try simp only [List.getElem_toArray, List.getElem_cons_succ, List.getElem_cons_zero, Act.put, List.setIfInBounds_toArray, List.set_cons_zero, List.set_cons_succ]
          refine reg_take (i := 13) (v := undef) rfl (by kernel_rfl) (by kernel_rfl) (by kernel_rfl) (fun _ _ _ h => h) (Or.inr ⟨by kernel_rfl, rfl⟩) hS ?_
          try simp only [List.getElem_toArray, List.getElem_cons_succ, List.getElem_cons_zero, Act.put, List.setIfInBounds_toArray, List.set_cons_zero, List.set_cons_succ]
          refine reg_take (i := 14) (v := undef) rfl (by kernel_rfl) (by kernel_rfl) (by kernel_rfl) (fun _ _ _ h => h) (Or.inr ⟨by kernel_rfl, rfl⟩) hS ?_
          try simp only [List.getElem_toArray, List.getElem_cons_succ, List.getElem_cons_zero, Act.put, List.setIfInBounds_toArray, List.set_cons_zero, List.set_cons_succ]
          refine reg_take (i := 15) (v := ?_) rfl (by kernel_rfl) (by kernel_rfl) (by kernel_rfl) (fun _ _ _ h => h) (Or.inl ⟨by kernel_rfl, ?_⟩) hS ?_
          rotate_left
          · (intro w' hSw; go_simp <;> with_reducible rfl)
          try simp only [List.getElem_toArray, List.getElem_cons_succ, List.getElem_cons_zero, Act.put, List.setIfInBounds_toArray, List.set_cons_zero, List.set_cons_succ]
          refine reg_take (i := 16) (v := ?_) rfl (by kernel_rfl) (by kernel_rfl) (by kernel_rfl) (fun _ _ _ h => h) (Or.inl ⟨by kernel_rfl, ?_⟩) hS ?_
          rotate_left
          · (intro w' hSw; go_simp <;> with_reducible rfl)
          try simp only [List.getElem_toArray, List.getElem_cons_succ, List.getElem_cons_zero, Act.put, List.setIfInBounds_toArray, List.set_cons_zero, List.set_cons_succ]
          refine wpAnyH_done (by kernel_rfl) ?_ _
          try simp only [List.getElem_toArray, List.getElem_cons_succ, List.getElem_cons_zero]
          try simp only [List.getElem_toArray, List.getElem_cons_succ, List.getElem_cons_zero, Act.put, List.setIfInBounds_toArray, List.set_cons_zero, List.set_cons_succ]
          have HG := Lib.hid hS
          clear hS
          go_wp2_with fail
          go_roundw
          case rel => exact ⟨0 + 1, by omega, by go_num, HO.out, HG.out.forget⟩
          case measure => simp [intOf] <;> omega
        · obtain ⟨i, rfl⟩ : ∃ i, j = i + 1 := ⟨j - 1, by omega⟩
          have HNO := Lib.hid hn
          cases hle : leS s (nm i) with
          | true =>
            have HF := Lib.hid (show namesOk nm k = false from namesOk_bad hlt (by unfold stepOk; rw [← HS.out.2.2.1]; show (nameOk s && (false || !leS s (nm i))) = false; rw [hle]; simp))
            obtain ⟨t, ht⟩ : ∃ t, t = nm i := ⟨_, rfl⟩
            rw [← ht] at hle
            have zt : w3.cell? ⟨b, off + i * 2, none⟩ = some (.string t) := by rw [ht]; exact (h3.own.bel.cell (by exact hbl)).trans (HC.out i (by omega)).1
            have H3 := Lib.hid (And.intro h3 zt)
            have HL := Lib.hid hle
            have km : ((i : Int) + 1 - 1) = (i : Int) := by omega
            have hik : (i : Int) < (k : Int) := by omega
            have kw : IntKind.i64.wrap (i : Int) = (i : Int) := IntWalk.i64_in _ (by omega)
            clear hn h3 zt ht hle
            go_upto_region 6 with (fail)
            have hS : (fun w' => DictS w [(y, 33, #[.string s, .slice (pa (i + 1)) (pn (i + 1)) (pc (i + 1))])] d m (i + 1 + 1) nm w' ∧ w'.cell? ⟨b, off + i * 2, none⟩ = some (.string t)) (w3.drew) := ⟨H3.out.1.call (Below.refl _ _).drew, H3.out.2⟩
            refine reg_start (fun w' => DictS w [(y, 33, #[.string s, .slice (pa (i + 1)) (pn (i + 1)) (pc (i + 1))])] d m (i + 1 + 1) nm w' ∧ w'.cell? ⟨b, off + i * 2, none⟩ = some (.string t)) (by kernel_rfl) hS ?_
            refine reg_take (i := 0) (v := ?_) rfl (by kernel_rfl) (by kernel_rfl) (by kernel_rfl) (fun _ _ _ h => h) (Or.inl ⟨by kernel_rfl, ?_⟩) hS ?_
            rotate_left
            · (intro w' hSw; go_simp <;> with_reducible rfl)
            try simp only [List.getElem_toArray, List.getElem_cons_succ, List.getElem_cons_zero, Act.put, List.setIfInBounds_toArray, List.set_cons_zero, List.set_cons_succ]
            refine reg_take (i := 1) (v := ?_) rfl (by kernel_rfl) (by kernel_rfl) (by kernel_rfl) (fun _ _ _ h => h) (Or.inl ⟨by kernel_rfl, ?_⟩) hS ?_
            rotate_left
            · (intro w' hSw; go_simp <;> with_reducible rfl)
            try simp only [List.getElem_toArray, List.getElem_cons_succ, List.getElem_cons_zero, Act.put, List.setIfInBounds_toArray, List.set_cons_zero, List.set_cons_succ]
            refine reg_take (i := 2) (v := ?_) rfl (by kernel_rfl) (by kernel_rfl) (by kernel_rfl) (fun _ _ _ h => h) (Or.inl ⟨by kernel_rfl, ?_⟩) hS ?_
            rotate_left
            · (intro w' hSw; go_simp <;> with_reducible rfl)
            try simp only [List.getElem_toArray, List.getElem_cons_succ, List.getElem_cons_zero, Act.put, List.setIfInBounds_toArray, List.set_cons_zero, List.set_cons_succ]
            refine reg_take (i := 3) (v := ?_) rfl (by kernel_rfl) (by kernel_rfl) (by kernel_rfl) (fun _ _ _ h => h) (Or.inl ⟨by kernel_rfl, ?_⟩) hS ?_
            rotate_left
            · (intro w' hSw; go_simp <;> with_reducible rfl)
            try simp only [List.getElem_toArray, List.getElem_cons_succ, List.getElem_cons_zero, Act.put, List.setIfInBounds_toArray, List.set_cons_zero, List.set_cons_succ]
            refine reg_take (i := 4) (v := ?_) rfl (by kernel_rfl) (by kernel_rfl) (by kernel_rfl) (fun _ _ _ h => h) (Or.inl ⟨by kernel_rfl, ?_⟩) hS ?_
            rotate_left
            · (intro w' hSw; go_simp <;> with_reducible rfl)
            try simp only [List.getElem_toArray, List.getElem_cons_succ, List.getElem_cons_zero, Act.put, List.setIfInBounds_toArray, List.set_cons_zero, List.set_cons_succ]
            refine reg_take (i := 5) (v := ?_) rfl (by kernel_rfl) (by kernel_rfl) (by kernel_rfl) (fun _ _ _ h => h) (Or.inl ⟨by kernel_rfl, ?_⟩) hS ?_
            rotate_left
            · (intro w' hSw; go_simp <;> with_reducible rfl)
            try simp only [List.getElem_toArray, List.getElem_cons_succ, List.getElem_cons_zero, Act.put, List.setIfInBounds_toArray, List.set_cons_zero, List.set_cons_succ]
            refine reg_take (i := 6) (v := ?_) rfl (by kernel_rfl) (by kernel_rfl) (by kernel_rfl) (fun _ _ _ h => h) (Or.inl ⟨by kernel_rfl, ?_⟩) hS ?_
            rotate_left
            · (intro w' hSw; go_simp <;> with_reducible rfl)
            try simp only [List.getElem_toArray, List.getElem_cons_succ, List.getElem_cons_zero, Act.put, List.setIfInBounds_toArray, List.set_cons_zero, List.set_cons_succ]
            refine reg_take (i := 7) (v := ?_) rfl (by kernel_rfl) (by kernel_rfl) (by kernel_rfl) (fun _ _ _ h => h) (Or.inl ⟨by kernel_rfl, ?_⟩) hS ?_
            rotate_left
            · (intro w' hSw; have u0 := hSw.1.own.cell 1 0 rfl rfl; go_simp <;> with_reducible rfl)
            try simp only [List.getElem_toArray, List.getElem_cons_succ, List.getElem_cons_zero, Act.put, List.setIfInBounds_toArray, List.set_cons_zero, List.set_cons_succ]
            refine reg_take (i := 8) (v := ?_) rfl (by kernel_rfl) (by kernel_rfl) (by kernel_rfl) (fun _ _ _ h => h) (Or.inl ⟨by kernel_rfl, ?_⟩) hS ?_
            rotate_left
            · (intro w' hSw; go_simp <;> with_reducible rfl)
            try simp only [List.getElem_toArray, List.getElem_cons_succ, List.getElem_cons_zero, Act.put, List.setIfInBounds_toArray, List.set_cons_zero, List.set_cons_succ]
            refine reg_take (i := 9) (v := ?_) rfl (by kernel_rfl) (by kernel_rfl) (by kernel_rfl) (fun _ _ _ h => h) (Or.inl ⟨by kernel_rfl, ?_⟩) hS ?_
            rotate_left
            · (intro w' hSw; go_simp <;> with_reducible rfl)
            try simp only [List.getElem_toArray, List.getElem_cons_succ, List.getElem_cons_zero, Act.put, List.setIfInBounds_toArray, List.set_cons_zero, List.set_cons_succ]
            refine reg_take (i := 10) (v := ?_) rfl (by kernel_rfl) (by kernel_rfl) (by kernel_rfl) (fun _ _ _ h => h) (Or.inl ⟨by kernel_rfl, ?_⟩) hS ?_
            rotate_left
            · (intro w' hSw; go_simp <;> with_reducible rfl)
            try simp only [List.getElem_toArray, List.getElem_cons_succ, List.getElem_cons_zero, Act.put, List.setIfInBounds_toArray, List.set_cons_zero, List.set_cons_succ]
            refine reg_take (i := 11) (v := ?_) rfl (by kernel_rfl) (by kernel_rfl) (by kernel_rfl) (fun _ _ _ h => h) (Or.inl ⟨by kernel_rfl, ?_⟩) hS ?_
            rotate_left
            · (intro w' hSw; go_simp <;> with_reducible rfl)
            try simp only [List.getElem_toArray, List.getElem_cons_succ, List.getElem_cons_zero, Act.put, List.setIfInBounds_toArray, List.set_cons_zero, List.set_cons_succ]
            refine reg_take (i := 12) (v := ?_) rfl (by kernel_rfl) (by kernel_rfl) (by kernel_rfl) (fun _ _ _ h => h) (Or.inl ⟨by kernel_rfl, ?_⟩) hS ?_
            rotate_left
            · (intro w' hSw; go_simp <;> with_reducible rfl)
            try simp only [List.getElem_toArray, List.getElem_cons_succ, List.getElem_cons_zero, Act.put, List.setIfInBounds_toArray, List.set_cons_zero, List.set_cons_succ]
            refine reg_take (i := 13) (v := ?_) rfl (by kernel_rfl) (by kernel_rfl) (by kernel_rfl) (fun _ _ _ h => h) (Or.inl ⟨by kernel_rfl, ?_⟩) hS ?_
            rotate_left
            · (intro w' hSw; have u1 := hSw.2; go_simp <;> with_reducible rfl)
            try simp only [List.getElem_toArray, List.getElem_cons_succ, List.getElem_cons_zero, Act.put, List.setIfInBounds_toArray, List.set_cons_zero, List.set_cons_succ]
            refine reg_take (i := 14) (v := .bool (leS s t)) rfl (by kernel_rfl) (by kernel_rfl) (by kernel_rfl) (fun _ _ _ h => h) (Or.inl ⟨by kernel_rfl, ?_⟩) hS ?_
            · (intro w' hSw; (go_simp <;> rfl))
            try simp only [List.getElem_toArray, List.getElem_cons_succ, List.getElem_cons_zero, Act.put, List.setIfInBounds_toArray, List.set_cons_zero, List.set_cons_succ]
            rw [HL.out]
            refine reg_take (i := 15) (v := ?_) rfl (by kernel_rfl) (by kernel_rfl) (by kernel_rfl) (fun _ _ _ h => h) (Or.inl ⟨by kernel_rfl, ?_⟩) hS ?_
            rotate_left
            · (intro w' hSw; go_simp <;> with_reducible rfl)
            try simp only [List.getElem_toArray, List.getElem_cons_succ, List.getElem_cons_zero, Act.put, List.setIfInBounds_toArray, List.set_cons_zero, List.set_cons_succ]
            refine reg_take (i := 16) (v := ?_) rfl (by kernel_rfl) (by kernel_rfl) (by kernel_rfl) (fun _ _ _ h => h) (Or.inl ⟨by kernel_rfl, ?_⟩) hS ?_
            rotate_left
            · (intro w' hSw; go_simp <;> with_reducible rfl)
            try simp only [List.getElem_toArray, List.getElem_cons_succ, List.getElem_cons_zero, Act.put, List.setIfInBounds_toArray, List.set_cons_zero, List.set_cons_succ]
            refine wpAnyH_done (by kernel_rfl) ?_ _
            try simp only [List.getElem_toArray, List.getElem_cons_succ, List.getElem_cons_zero]
            try simp only [List.getElem_toArray, List.getElem_cons_succ, List.getElem_cons_zero, Act.put, List.setIfInBounds_toArray, List.set_cons_zero, List.set_cons_succ]
            have HG := Lib.hid hS.1.own.bel
            clear hS
            go_wp2_with fail
            go_ret2
            exact .inr ⟨.inl HF.out, _, rfl, HG.out⟩
          | false =>
            have HO := Lib.hid (show namesOk nm (i + 1 + 1) = true by rw [namesOk_succ, HS.out.2.1]; unfold stepOk; rw [← HS.out.2.2.1]; show (true && (nameOk s && (false || !leS s (nm i)))) = true; rw [hle, HS.out.2.2.1, HNO.out]; rfl)
            obtain ⟨t, ht⟩ : ∃ t, t = nm i := ⟨_, rfl⟩
            rw [← ht] at hle
            have zt : w3.cell? ⟨b, off + i * 2, none⟩ = some (.string t) := by rw [ht]; exact (h3.own.bel.cell (by exact hbl)).trans (HC.out i (by omega)).1
            have H3 := Lib.hid (And.intro h3 zt)
            have HL := Lib.hid hle
            have km : ((i : Int) + 1 - 1) = (i : Int) := by omega
            have hik : (i : Int) < (k : Int) := by omega
            have kw : IntKind.i64.wrap (i : Int) = (i : Int) := IntWalk.i64_in _ (by omega)
            clear hn h3 zt ht hle
            go_upto_region 6 with (fail)
            have hS : (fun w' => DictS w [(y, 33, #[.string s, .slice (pa (i + 1)) (pn (i + 1)) (pc (i + 1))])] d m (i + 1 + 1) nm w' ∧ w'.cell? ⟨b, off + i * 2, none⟩ = some (.string t)) (w3.drew) := ⟨H3.out.1.call (Below.refl _ _).drew, H3.out.2⟩
            refine reg_start (fun w' => DictS w [(y, 33, #[.string s, .slice (pa (i + 1)) (pn (i + 1)) (pc (i + 1))])] d m (i + 1 + 1) nm w' ∧ w'.cell? ⟨b, off + i * 2, none⟩ = some (.string t)) (by kernel_rfl) hS ?_
            refine reg_take (i := 0) (v := ?_) rfl (by kernel_rfl) (by kernel_rfl) (by kernel_rfl) (fun _ _ _ h => h) (Or.inl ⟨by kernel_rfl, ?_⟩) hS ?_
            rotate_left
            · (intro w' hSw; go_simp <;> with_reducible rfl)
            try simp only [List.getElem_toArray, List.getElem_cons_succ, List.getElem_cons_zero, Act.put, List.setIfInBounds_toArray, List.set_cons_zero, List.set_cons_succ]
            refine reg_take (i := 1) (v := ?_) rfl (by kernel_rfl) (by kernel_rfl) (by kernel_rfl) (fun _ _ _ h => h) (Or.inl ⟨by kernel_rfl, ?_⟩) hS ?_
            rotate_left
            · (intro w' hSw; go_simp <;> with_reducible rfl)
            try simp only [List.getElem_toArray, List.getElem_cons_succ, List.getElem_cons_zero, Act.put, List.setIfInBounds_toArray, List.set_cons_zero, List.set_cons_succ]
            refine reg_take (i := 2) (v := ?_) rfl (by kernel_rfl) (by kernel_rfl) (by kernel_rfl) (fun _ _ _ h => h) (Or.inl ⟨by kernel_rfl, ?_⟩) hS ?_
            rotate_left
            · (intro w' hSw; go_simp <;> with_reducible rfl)
            try simp only [List.getElem_toArray, List.getElem_cons_succ, List.getElem_cons_zero, Act.put, List.setIfInBounds_toArray, List.set_cons_zero, List.set_cons_succ]
            refine reg_take (i := 3) (v := ?_) rfl (by kernel_rfl) (by kernel_rfl) (by kernel_rfl) (fun _ _ _ h => h) (Or.inl ⟨by kernel_rfl, ?_⟩) hS ?_
            rotate_left
            · (intro w' hSw; go_simp <;> with_reducible rfl)
            try simp only [List.getElem_toArray, List.getElem_cons_succ, List.getElem_cons_zero, Act.put, List.setIfInBounds_toArray, List.set_cons_zero, List.set_cons_succ]
            refine reg_take (i := 4) (v := ?_) rfl (by kernel_rfl) (by kernel_rfl) (by kernel_rfl) (fun _ _ _ h => h) (Or.inl ⟨by kernel_rfl, ?_⟩) hS ?_
            rotate_left
            · (intro w' hSw; go_simp <;> with_reducible rfl)
            try simp only [List.getElem_toArray, List.getElem_cons_succ, List.getElem_cons_zero, Act.put, List.setIfInBounds_toArray, List.set_cons_zero, List.set_cons_succ]
            refine reg_take (i := 5) (v := ?_) rfl (by kernel_rfl) (by kernel_rfl) (by kernel_rfl) (fun _ _ _ h => h) (Or.inl ⟨by kernel_rfl, ?_⟩) hS ?_
            rotate_left
            · (intro w' hSw; go_simp <;> with_reducible rfl)
            try simp only [List.getElem_toArray, List.getElem_cons_succ, List.getElem_cons_zero, Act.put, List.setIfInBounds_toArray, List.set_cons_zero, List.set_cons_succ]
            refine reg_take (i := 6) (v := ?_) rfl (by kernel_rfl) (by kernel_rfl) (by kernel_rfl) (fun _ _ _ h => h) (Or.inl ⟨by kernel_rfl, ?_⟩) hS ?_
            rotate_left
            · (intro w' hSw; go_simp <;> with_reducible rfl)
            try simp only [List.getElem_toArray, List.getElem_cons_succ, List.getElem_cons_zero, Act.put, List.setIfInBounds_toArray, List.set_cons_zero, List.set_cons_succ]
            refine reg_take (i := 7) (v := ?_) rfl (by kernel_rfl) (by kernel_rfl) (by kernel_rfl) (fun _ _ _ h => h) (Or.inl ⟨by kernel_rfl, ?_⟩) hS ?_
            rotate_left
            · (intro w' hSw; have u0 := hSw.1.own.cell 1 0 rfl rfl; go_simp <;> with_reducible rfl)
            try simp only [List.getElem_toArray, List.getElem_cons_succ, List.getElem_cons_zero, Act.put, List.setIfInBounds_toArray, List.set_cons_zero, List.set_cons_succ]
            refine reg_take (i := 8) (v := ?_) rfl (by kernel_rfl) (by kernel_rfl) (by kernel_rfl) (fun _ _ _ h => h) (Or.inl ⟨by kernel_rfl, ?_⟩) hS ?_
            rotate_left
            · (intro w' hSw; go_simp <;> with_reducible rfl)
            try simp only [List.getElem_toArray, List.getElem_cons_succ, List.getElem_cons_zero, Act.put, List.setIfInBounds_toArray, List.set_cons_zero, List.set_cons_succ]
            refine reg_take (i := 9) (v := ?_) rfl (by kernel_rfl) (by kernel_rfl) (by kernel_rfl) (fun _ _ _ h => h) (Or.inl ⟨by kernel_rfl, ?_⟩) hS ?_
            rotate_left
            · (intro w' hSw; go_simp <;> with_reducible rfl)
            try simp only [List.getElem_toArray, List.getElem_cons_succ, List.getElem_cons_zero, Act.put, List.setIfInBounds_toArray, List.set_cons_zero, List.set_cons_succ]
            refine reg_take (i := 10) (v := ?_) rfl (by kernel_rfl) (by kernel_rfl) (by kernel_rfl) (fun _ _ _ h => h) (Or.inl ⟨by kernel_rfl, ?_⟩) hS ?_
            rotate_left
            · (intro w' hSw; go_simp <;> with_reducible rfl)
            try simp only [List.getElem_toArray, List.getElem_cons_succ, List.getElem_cons_zero, Act.put, List.setIfInBounds_toArray, List.set_cons_zero, List.set_cons_succ]
            refine reg_take (i := 11) (v := ?_) rfl (by kernel_rfl) (by kernel_rfl) (by kernel_rfl) (fun _ _ _ h => h) (Or.inl ⟨by kernel_rfl, ?_⟩) hS ?_
            rotate_left
            · (intro w' hSw; go_simp <;> with_reducible rfl)
            try simp only [List.getElem_toArray, List.getElem_cons_succ, List.getElem_cons_zero, Act.put, List.setIfInBounds_toArray, List.set_cons_zero, List.set_cons_succ]
            refine reg_take (i := 12) (v := ?_) rfl (by kernel_rfl) (by kernel_rfl) (by kernel_rfl) (fun _ _ _ h => h) (Or.inl ⟨by kernel_rfl, ?_⟩) hS ?_
            rotate_left
            · (intro w' hSw; go_simp <;> with_reducible rfl)
            try simp only [List.getElem_toArray, List.getElem_cons_succ, List.getElem_cons_zero, Act.put, List.setIfInBounds_toArray, List.set_cons_zero, List.set_cons_succ]
            refine reg_take (i := 13) (v := ?_) rfl (by kernel_rfl) (by kernel_rfl) (by kernel_rfl) (fun _ _ _ h => h) (Or.inl ⟨by kernel_rfl, ?_⟩) hS ?_
            rotate_left
            · (intro w' hSw; have u1 := hSw.2; go_simp <;> with_reducible rfl)
            try simp only [List.getElem_toArray, List.getElem_cons_succ, List.getElem_cons_zero, Act.put, List.setIfInBounds_toArray, List.set_cons_zero, List.set_cons_succ]
            refine reg_take (i := 14) (v := .bool (leS s t)) rfl (by kernel_rfl) (by kernel_rfl) (by kernel_rfl) (fun _ _ _ h => h) (Or.inl ⟨by kernel_rfl, ?_⟩) hS ?_
            · (intro w' hSw; (go_simp <;> rfl))
            try simp only [List.getElem_toArray, List.getElem_cons_succ, List.getElem_cons_zero, Act.put, List.setIfInBounds_toArray, List.set_cons_zero, List.set_cons_succ]
            rw [HL.out]
            refine reg_take (i := 15) (v := ?_) rfl (by kernel_rfl) (by kernel_rfl) (by kernel_rfl) (fun _ _ _ h => h) (Or.inl ⟨by kernel_rfl, ?_⟩) hS ?_
            rotate_left
            · (intro w' hSw; go_simp <;> with_reducible rfl)
            try simp only [List.getElem_toArray, List.getElem_cons_succ, List.getElem_cons_zero, Act.put, List.setIfInBounds_toArray, List.set_cons_zero, List.set_cons_succ]
            refine reg_take (i := 16) (v := ?_) rfl (by kernel_rfl) (by kernel_rfl) (by kernel_rfl) (fun _ _ _ h => h) (Or.inl ⟨by kernel_rfl, ?_⟩) hS ?_
            rotate_left
            · (intro w' hSw; go_simp <;> with_reducible rfl)
            try simp only [List.getElem_toArray, List.getElem_cons_succ, List.getElem_cons_zero, Act.put, List.setIfInBounds_toArray, List.set_cons_zero, List.set_cons_succ]
            refine wpAnyH_done (by kernel_rfl) ?_ _
            try simp only [List.getElem_toArray, List.getElem_cons_succ, List.getElem_cons_zero]
            try simp only [List.getElem_toArray, List.getElem_cons_succ, List.getElem_cons_zero, Act.put, List.setIfInBounds_toArray, List.set_cons_zero, List.set_cons_succ]
            have HG := Lib.hid hS.1
            clear hS
            go_wp2_with fail
            go_roundw
            case rel => exact ⟨i + 1 + 1, by omega, by go_num, HO.out, HG.out.forget⟩
            case measure => simp [intOf] <;> omega
    · obtain rfl : j = k := by omega
      have HE := Lib.hid (And.intro hS hok)
      clear hS hok
      rcases Nat.eq_zero_or_pos j with h0 | h0
      · subst h0
        go_wp2_with fail
        go_ret2
        exact .inr ⟨.inr rfl, _, rfl, HE.out.1.own.bel⟩
      · have d1 : decide ((0 : Int) < (j : Int)) = true := by simp; omega
        go_wp2_with fail
        go_ret2
        exact .inl ⟨HE.out.2, h0, d, m, rfl, HE.out.1⟩
end Go.Proofs.YtopbbicjbjmdnaaGreatDoor
namespace Go.Proofs.YtopbbicjbjmdnaaGreatDoor
open Go.RowKit Go.Maps
set_option maxRecDepth 100000
set_option linter.unusedVariables false
set_option linter.unusedSimpArgs false
def sO (pf : Nat → Nat → Pt) (pn : Nat → Nat) : Nat → List Nat
  | 0 => []
  | i + 1 => sO pf pn i ++ bO (pf i) (pn i) (nbl (pn i))
def sF (nm : Nat → ByteArray) (pf : Nat → Nat → Pt) (pn : Nat → Nat) (k : Nat) : Nat → List Nat
  | 0 => namesB nm k k
  | i + 1 => (sF nm pf pn k i ++ V.vput (nbl (pn i))) ++ bF (pf i) (pn i) (nbl (pn i))
def partV (pf : Nat → Nat → Pt) (pn : Nat → Nat) (i : Nat) : Bool := bV (pf i) (pn i) (nbl (pn i)) && decide (0 < pn i)
def sV (pf : Nat → Nat → Pt) (pn : Nat → Nat) : Nat → Bool
  | 0 => true
  | i + 1 => sV pf pn i && partV pf pn i
theorem sV_bad {pf : Nat → Nat → Pt} {pn : Nat → Nat} {i : Nat} (h : partV pf pn i = false) : ∀ m, i < m → sV pf pn m = false
  | 0, hk => by omega
  | m + 1, hk => by
    show (sV pf pn m && partV pf pn m) = false
    rcases Nat.lt_or_ge i m with h1 | h1
    · rw [sV_bad h m h1]; rfl
    · rw [show m = i by omega, h]; simp
theorem mem_app {l m : List Nat} (hl : ∀ x ∈ l, x < 256) (hm : ∀ x ∈ m, x < 256) : ∀ x ∈ l ++ m, x < 256 := fun x hx => (List.mem_append.1 hx).elim (hl x) (hm x)
theorem txt_byte (s : ByteArray) : ∀ x ∈ V.txt s, x < 256 := fun x hx => by
  unfold V.txt at hx
  obtain ⟨b, _, rfl⟩ := List.mem_map.1 hx
  exact UInt8.toNat_lt _
theorem namesB_byte (nm : Nat → ByteArray) (n : Nat) : ∀ k, ∀ x ∈ namesB nm n k, x < 256
  | 0 => V.vput_byte n
  | k + 1 => mem_app (mem_app (namesB_byte nm n k) (V.vput_byte _)) (txt_byte _)
theorem footB_byte (f : Nat → Pt) (n : Nat) : ∀ x ∈ footB f n, x < 256 := mem_app (mem_app (mem_app (V.vput_byte _) (V.vput_byte _)) (V.vput_byte _)) (V.vput_byte _)
theorem bF_byte (f : Nat → Pt) (n : Nat) : ∀ k, ∀ x ∈ bF f n k, x < 256
  | 0 => fun x hx => by simp [bF] at hx
  | k + 1 => mem_app (bF_byte f n k) (footB_byte _ _)
theorem sF_byte (nm : Nat → ByteArray) (pf : Nat → Nat → Pt) (pn : Nat → Nat) (k : Nat) : ∀ i, ∀ x ∈ sF nm pf pn k i, x < 256
  | 0 => namesB_byte nm k k
  | i + 1 => mem_app (mem_app (sF_byte nm pf pn k i) (V.vput_byte _)) (bF_byte _ _ _)
/-- The four bytes of a length. -/
def four (n : Nat) : List Nat := [n % 256, n / 256 % 256, n / 65536 % 256, n / 16777216 % 256]
theorem four_byte (n : Nat) : ∀ x ∈ four n, x < 256 := fun x hx => by
  unfold four at hx
  simp only [List.mem_cons, List.not_mem_nil, or_false] at hx
  rcases hx with rfl | rfl | rfl | rfl <;> exact Nat.mod_lt _ (by omega)
theorem four_sl (w : World) (q : Nat) : Sl (w.alloc (.cells #[.int .u8 ((q : Int) % 256), .int .u8 ((q : Int) / 256 % 256), .int .u8 ((q : Int) / 65536 % 256), .int .u8 ((q : Int) / 16777216 % 256)] 5)) (fun k => k < w.heap.size + 1) (some ⟨w.heap.size, 0, none⟩) 4 (byteC (four q)) := fun _ => by
  refine ⟨w.heap.size, 0, rfl, by omega, fun j hj => ?_⟩
  rw [Nat.zero_add, (Blk.fresh w _ _).cell j]
  unfold byteC four
  rcases (show j = 0 ∨ j = 1 ∨ j = 2 ∨ j = 3 by omega) with rfl | rfl | rfl | rfl <;> simp
/-- A file's bytes, or none. -/
def sB (nm : Nat → ByteArray) (pf : Nat → Nat → Pt) (pn : Nat → Nat) (k : Nat) : List Nat × Int :=
  if (namesOk nm k && (decide (0 < k) && sV pf pn k)) = true then
    (if 1048563 < (F.sealL 5 (sF nm pf pn k k)).length + (sO pf pn k).length then ([], 3)
     else (sO pf pn k ++ F.sealL 5 (sF nm pf pn k k) ++ F.sealL 6 (four (F.sealL 5 (sF nm pf pn k k)).length), 0))
  else ([], 2)
/-- What the parts' sizes are. -/
structure Small (nm : Nat → ByteArray) (pf : Nat → Nat → Pt) (pn : Nat → Nat) (k : Nat) : Prop where
  kb : k ≤ 1024
  nb : ∀ j, j < k → (nm j).size ≤ 1048576
  pb : ∀ j, j < k → pn j ≤ 4096
  ob : ∀ i, i ≤ k → (sO pf pn i).length ≤ 268435456
  fb : ∀ i, i ≤ k → (sF nm pf pn k i).length ≤ 1048000
def BuildPost (nm : Nat → ByteArray) (pf : Nat → Nat → Pt) (pn : Nat → Nat) (k : Nat) (w : World) (e : Ending) (w' : World) : Prop :=
  ∃ v, e = .returned (.tuple #[v, .int .i64 (sB nm pf pn k).2]) ∧ w'.ownsRow w.heap.size 5 1 v (sB nm pf pn k).1.length ((sB nm pf pn k).1.map V.byteV) ∧ Below w.heap.size w w'
theorem own_nil (w : World) (B : Nat) : w.ownsRow B 5 1 (.slice none 0 0) 0 [] := ⟨rfl, .inl ⟨rfl, rfl⟩⟩
theorem build_none {nm : Nat → ByteArray} {pf : Nat → Nat → Pt} {pn : Nat → Nat} {k : Nat} {w w' : World} (h : (namesOk nm k && (decide (0 < k) && sV pf pn k)) = false) (hb : Below w.heap.size w w') : BuildPost nm pf pn k w (.returned (.tuple #[.slice none 0 0, .int .i64 2])) w' := by
  have e : sB nm pf pn k = ([], 2) := by unfold sB; rw [h]; rfl
  unfold BuildPost
  rw [e]
  exact ⟨_, rfl, own_nil _ _, hb⟩
set_option maxHeartbeats 8000000 in
theorem build_any (w : World) (A : Option Addr) (k c : Nat) (nm : Nat → ByteArray) (pa : Nat → Option Addr) (pn pc : Nat → Nat) (pf : Nat → Nat → Pt) (h : PartsAt w A k nm pa pn pc pf) (hs : Small nm pf pn k) :
    Calls Tryz.prog 8 #[.slice A k c] w (BuildPost nm pf pn k w) := by
  have hk := hs.kb
  have H0 := Lib.hid (And.intro h hs)
  clear h hs
  go_enter Tryz.func8, Tryz.ntmps8
  go_wp2_with fail
  refine (names_any w A k c nm pa pn pc pf H0.out.1 hk).mono ?_
  rintro e w1 (⟨hn, hk0, d, m, rfl, hd⟩ | ⟨hn, v, rfl, hb⟩)
  rotate_left
  · have HF := Lib.hid (show BuildPost nm pf pn k w (.returned (.tuple #[.slice none 0 0, .int .i64 2])) w1 from build_none (by rcases hn with h | h; · rw [h]; rfl
                                                                                                                                · subst h; simp) hb)
    clear hn hb
    go_wp2_with fail
    go_ret2
    exact HF.out
  have HD := Lib.hid (And.intro hd hn)
  have hbel := hd.own.bel
  clear hd hn
  obtain ⟨xo, hxo⟩ : ∃ x, x = w1.heap.size := ⟨_, rfl⟩
  have hal : Below w1.heap.size w1 (w1.alloc (.cells #[.slice none 0 0] 25)) := (Below.refl _ _).alloc (Nat.le_refl _) _
  have o1 := ((Own.start w).call hbel).alloc hxo 25 #[.slice none 0 0]
  have H1 := Lib.hid (And.intro o1 (And.intro (HD.out.1.call hal) hxo))
  clear o1 hal hbel hxo
  go_upto_region 5 with (fail)
  rw [← H1.out.2.2]
  refine wp_gen (fun wx => Own w [(xo, 25, #[.slice none 0 0])] wx ∧ DictS w [] d m k nm wx) ⟨H1.out.1, H1.out.2.1⟩ ?_
  rintro w2 ⟨o2, d2⟩
  have H2 := Lib.hid (And.intro o2 d2)
  clear o2 d2 H1
  go_wp2_with fail
  refine (dBytes_any w w2 [] d m k nm H2.out.2 hk (namesOk_rise HD.out.2).apart H0.out.2.nb).mono ?_
  rintro e w3 ⟨v3, rfl, ho3, hb3⟩
  obtain ⟨A3, c3, hv3, hc3, -⟩ := own_form ho3
  subst hv3
  obtain ⟨xf, hxf⟩ : ∃ x, x = w3.heap.size := ⟨_, rfl⟩
  obtain ⟨lf, hlf⟩ : ∃ l, l = (namesB nm k k).length := ⟨_, rfl⟩
  rw [← hlf] at ho3 ⊢
  have o3 := (H2.out.1.call hb3).alloc hxf 25 #[.slice A3 lf c3]
  have hT : TwoIs w xo xf (.slice none 0 0) (.slice A3 lf c3) (sO pf pn 0) (sF nm pf pn k 0) (w3.alloc (.cells #[.slice A3 lf c3] 25)) := by
    refine ⟨o3, own_nil _ _, ?_, fun g hg => by simp [Value.ownBlock] at hg⟩
    have h1 := own_base ho3 H2.out.1.bel.size
    rw [hlf] at h1 ⊢
    exact V.own_later h1 ((Below.refl _ _).alloc (Nat.le_refl _) _)
  have H3 := Lib.hid (And.intro hT hxf)
  clear ho3 hb3 o3 hT hxf hlf
  go_upto_region 6 with (fail)
  rw [← H3.out.2]
  refine wp_gen (TwoIs w xo xf (.slice none 0 0) (.slice A3 lf c3) (sO pf pn 0) (sF nm pf pn k 0)) H3.out.1 ?_
  intro w4 h4
  have H4 := Lib.hid h4
  clear h4
  go_wp2_with fail
  go_loopw [27] (fun i wr => ∃ (j : Nat), j ≤ k ∧ i = .int .i64 (j : Nat) ∧ sV pf pn j = true ∧ ∃ vo vf, TwoIs w xo xf vo vf (sO pf pn j) (sF nm pf pn k j) wr) (fun i _ => k - (intOf i).toNat)
  case atStart => exact ⟨0, by omega, rfl, rfl, _, _, H4.out⟩
  case round =>
    obtain ⟨j, hj, rfl, hv, vo, vf, hT⟩ := hrel
    by_cases hlt : j < k
    · obtain ⟨b, off, hA, hbl, hcell⟩ := H0.out.1.row (by omega)
      subst hA
      have zc0 : wr.cell? ⟨b, off + j * 2, none⟩ = some (.string (nm j)) := (hT.own.bel.cell (by exact hbl)).trans (hcell j hlt).1
      have zc1 : wr.cell? ⟨b, off + j * 2 + 1, none⟩ = some (.slice (pa j) (pn j) (pc j)) := (hT.own.bel.cell (by exact hbl)).trans (hcell j hlt).2
      have hjk : (j : Int) < (k : Int) := by omega
      obtain ⟨y, hy⟩ : ∃ y, y = wr.heap.size := ⟨_, rfl⟩
      have HS := Lib.hid (And.intro hT (And.intro hv hy))
      clear hT hv hcell
      go_upto_region 9 with (fail)
      rw [← hy]
      clear zc0 zc1
      have hal : Below wr.heap.size wr (wr.alloc (.cells #[.string (nm j), .slice (pa j) (pn j) (pc j)] 33)) := (Below.refl _ _).alloc (Nat.le_refl _) _
      refine wp_gen (fun wx => TwoIs w xo xf vo vf (sO pf pn j) (sF nm pf pn k j) wx ∧ Blk wx y 33 #[.string (nm j), .slice (pa j) (pn j) (pc j)]) ⟨HS.out.1.call hal, by rw [hy]; exact Blk.fresh _ _ _⟩ ?_
      rintro w5 ⟨h5, hb5⟩
      clear hal hy
      obtain ⟨Af, cf, hvf, hcf, -⟩ := own_form h5.f
      subst hvf
      obtain ⟨l5, hl5⟩ : ∃ l, l = (sF nm pf pn k j).length := ⟨_, rfl⟩
      rw [← hl5] at hcf
      have zc := h5.own.cell 1 0 rfl rfl
      rw [← hl5] at zc
      have zy : w5.cell? ⟨y, 1, none⟩ = some (.slice (pa j) (pn j) (pc j)) := by rw [hb5.cell 1]; rfl
      have hpj := H0.out.2.pb j hlt
      have hfl := H0.out.2.fb j (by omega)
      have kq : ((pn j : Int) + 1024 - 1).tdiv 1024 = (nbl (pn j) : Nat) := by rw [Int.tdiv_eq_ediv_of_nonneg (by omega)]; unfold nbl; omega
      have kq' : ((pn j : Int) + 1024 - 1) / 1024 = (nbl (pn j) : Nat) := by unfold nbl; omega
      have hnb : nbl (pn j) ≤ 5 := by unfold nbl; omega
      have ku : IntKind.u64.wrap ((nbl (pn j) : Nat) : Int) = ((nbl (pn j) : Nat) : Int) := by rw [IntKind.wrap_u64]; omega
      have H5 := Lib.hid (And.intro h5 (And.intro hl5.symm hb5))
      rw [← hl5] at hfl
      clear h5 hl5 hb5
      go_wp2_with fail
      refine (V.vput_any _ Af l5 cf (sF nm pf pn k j) ((nbl (pn j) : Nat) : Int) H5.out.2.1 (by have := H5.out.1.f; rw [H5.out.2.1] at this; exact V.ow_sl this) hcf (by omega) (by omega) (by omega)).mono ?_
      rintro e w6 ⟨v6, rfl, ho6, hb6⟩
      rw [Int.toNat_natCast] at ho6
      obtain ⟨F6, hF6⟩ : ∃ F6, F6 = sF nm pf pn k j ++ V.vput (nbl (pn j)) := ⟨_, rfl⟩
      rw [← hF6] at ho6
      have hl6 : F6.length ≤ l5 + 10 := by
        have := V.vput_len10 (u := nbl (pn j)) (by omega)
        rw [hF6, List.length_append, H5.out.2.1]; omega
      obtain ⟨A6, c6, hv6, hc6, -⟩ := own_form ho6
      subst hv6
      have h6 := H5.out.1.call hb6
      have z0 := h6.own.cell 1 0 rfl rfl
      rw [H5.out.2.1] at z0
      have zf := h6.own.free 1 rfl
      have hb6y := H5.out.2.2.below hb6 H5.out.2.2.lt
      have hyx : y ≠ xf := hb6y.ne (h6.own.get 1 rfl) (by decide)
      have H6 := Lib.hid (And.intro (H5.out.1.foot hb6 ho6) (And.intro (hb6y.far (p := ⟨xf, 0, none⟩) hyx (.slice A6 F6.length c6)) hF6))
      clear ho6 hb6 h6 hb6y hyx hF6 zc zy kq kq' ku
      go_upto_region 10 with (fail)
      clear z0 zf
      refine wp_gen (fun wx => TwoIs w xo xf vo (.slice A6 F6.length c6) (sO pf pn j) F6 wx ∧ Blk wx y 33 #[.string (nm j), .slice (pa j) (pn j) (pc j)]) ⟨H6.out.1, H6.out.2.1⟩ ?_
      rintro w7 ⟨h7, hb7⟩
      have zy : w7.cell? ⟨y, 1, none⟩ = some (.slice (pa j) (pn j) (pc j)) := by rw [hb7.cell 1]; rfl
      have H7 := Lib.hid h7
      clear h7 hb7
      go_wp2_with fail
      refine (blocks_any w _ xo xf vo (.slice A6 F6.length c6) (sO pf pn j) F6 (pa j) (pn j) (pc j) (pf j) H7.out ((H0.out.1.pts j hlt).below H7.out.own.bel) hpj (H0.out.1.le j hlt).1 (H0.out.1.le j hlt).2 (by have := H0.out.2.ob j (by omega); omega) (by omega) (H0.out.1.ok j)).mono ?_
      rintro e w8 (⟨hbv, hp0, rfl, vo2, vf2, h8⟩ | ⟨hbad, rfl, hb8⟩)
      · have HE := Lib.hid (And.intro h8 (And.intro hbv hp0))
        clear h8 hbv hp0 zy
        go_wp2_with fail
        go_roundw
        case rel =>
          refine ⟨j + 1, by omega, by go_num, ?_, vo2, vf2, ?_⟩
          · show (sV pf pn j && partV pf pn j) = true
            rw [HS.out.2.1]
            unfold partV
            rw [HE.out.2.1, decide_eq_true HE.out.2.2]
            rfl
          · have e1 : sF nm pf pn k (j + 1) = F6 ++ bF (pf j) (pn j) (nbl (pn j)) := by rw [H6.out.2.2]; rfl
            rw [e1]
            exact HE.out.1
        case measure => simp [intOf] <;> omega
      · have hpv : partV pf pn j = false := by
          unfold partV
          rcases hbad with h | h
          · rw [h]; rfl
          · rw [decide_eq_false (by omega)]; simp
        have HF := Lib.hid (show BuildPost nm pf pn k w (.returned (.tuple #[.slice none 0 0, .int .i64 2])) w8 from build_none (by rw [sV_bad hpv k hlt]; simp) hb8)
        clear hbad hb8 hpv zy
        go_wp2_with fail
        go_ret2
        exact HF.out
    · obtain rfl : j = k := by omega
      have HE := Lib.hid (And.intro hT hv)
      clear hT hv
      obtain ⟨Ao, co, hvo, hco, -⟩ := own_form HE.out.1.o
      subst hvo
      obtain ⟨Af, cf, hvf, hcf, -⟩ := own_form HE.out.1.f
      subst hvf
      obtain ⟨ol, hol⟩ : ∃ l, l = (sO pf pn j).length := ⟨_, rfl⟩
      obtain ⟨fl, hfl⟩ : ∃ l, l = (sF nm pf pn j j).length := ⟨_, rfl⟩
      have hob := H0.out.2.ob j (Nat.le_refl _)
      have hfb := H0.out.2.fb j (Nat.le_refl _)
      have hT := HE.out.1
      rw [← hol] at hco hob hT
      rw [← hfl] at hcf hfb hT
      have zo := hT.own.cell 0 0 rfl rfl
      have zc := hT.own.cell 1 0 rfl rfl
      have hTo := hT.o
      have hTf := hT.f
      rw [← hol] at hTo
      rw [← hfl] at hTf
      have HL := Lib.hid (And.intro hol.symm (And.intro hfl.symm (And.intro hT (And.intro hTo hTf))))
      clear hol hfl hT hTo hTf
      go_wp2_with fail
      refine (F.seal_ok _ 5 Af fl cf _ (sF nm pf pn j j) HL.out.2.1 (V.ow_sl HL.out.2.2.2.2) (F.getD_of_mem (sF_byte nm pf pn j j)) (by omega) (by omega)).mono ?_
      rintro e w9 ⟨A9, c9, rfl, ho9, hk9⟩
      obtain ⟨S5, hS5⟩ : ∃ S, S = F.sealL 5 (sF nm pf pn j j) := ⟨_, rfl⟩
      rw [← hS5] at ho9 ⊢
      have hsl : S5.length = fl + 9 := by rw [hS5, F.sealL_length, HL.out.2.1]
      obtain ⟨q, hq⟩ : ∃ q, q = fl + 9 := ⟨_, rfl⟩
      rw [hsl, ← hq] at ho9 ⊢
      have hqb : q ≤ 1048009 := by omega
      have H9 := Lib.hid (And.intro ho9 (And.intro hk9.to_below (And.intro hS5 (And.intro hsl hq))))
      have hT9 := HL.out.2.2.1.call hk9.to_below
      have zo9 := hT9.own.cell 0 0 rfl rfl
      have HT9 := Lib.hid hT9
      clear ho9 hk9 hS5 hsl hq zo zc hT9
      have hn : (namesOk nm j && (decide (0 < j) && sV pf pn j)) = true := by rw [HD.out.2, HE.out.2, decide_eq_true hk0]; rfl
      have HN := Lib.hid hn
      clear hn
      by_cases hbig : 1048563 < q + ol
      · have d1 : decide ((1048563 : Int) - (ol : Int) < (q : Int)) = true := by simp; omega
        have hB : BuildPost nm pf pn j w (.returned (.tuple #[.slice none 0 0, .int .i64 3])) w9 := by
          have e : sB nm pf pn j = ([], 3) := by
            unfold sB
            rw [if_pos HN.out, if_pos (by rw [← H9.out.2.2.1, H9.out.2.2.2.1, ← H9.out.2.2.2.2, HL.out.1]; exact hbig)]
          unfold BuildPost
          rw [e]
          exact ⟨_, rfl, own_nil _ _, HT9.out.own.bel⟩
        have HF := Lib.hid hB
        clear hB hbig
        go_wp2_with fail
        go_ret2
        exact HF.out
      · have d1 : decide ((1048563 : Int) - (ol : Int) < (q : Int)) = false := by simp; omega
        have k0 : IntKind.u8.wrap (q : Int) = ((q % 256 : Nat) : Int) := by rw [IntKind.wrap_u8]; omega
        have k1 : IntKind.u8.wrap ((q : Int) / 256) = ((q / 256 % 256 : Nat) : Int) := by rw [IntKind.wrap_u8]; omega
        have k2 : IntKind.u8.wrap ((q : Int) / 65536) = ((q / 65536 % 256 : Nat) : Int) := by rw [IntKind.wrap_u8]; omega
        have k3 : IntKind.u8.wrap ((q : Int) / 16777216) = ((q / 16777216 % 256 : Nat) : Int) := by rw [IntKind.wrap_u8]; omega
        have h4 := four_sl w9 q
        have hal : Below w9.heap.size w9 (w9.alloc (.cells #[.int .u8 ((q : Int) % 256), .int .u8 ((q : Int) / 256 % 256), .int .u8 ((q : Int) / 65536 % 256), .int .u8 ((q : Int) / 16777216 % 256)] 5)) := (Below.refl _ _).alloc (Nat.le_refl _) _
        have HQ := Lib.hid (And.intro h4 hal)
        clear h4 hal hbig
        go_wp2_with fail
        refine (F.seal_ok _ 6 _ 4 4 _ (four q) rfl HQ.out.1 (F.getD_of_mem (four_byte q)) (by omega) (by omega)).mono ?_
        rintro e w10 ⟨A10, c10, rfl, ho10, hk10⟩
        obtain ⟨S6, hS6⟩ : ∃ S, S = F.sealL 6 (four q) := ⟨_, rfl⟩
        obtain ⟨z6, hl6⟩ : ∃ z, S6.length = z := ⟨_, rfl⟩
        have hz6 : z6 ≤ 13 := by rw [← hl6, hS6, F.sealL_length]; exact Nat.le_refl _
        rw [← hS6, hl6] at ho10
        rw [← hS6, hl6]
        have hb10 := HQ.out.2.trans (hk10.to_below.mono HQ.out.2.size)
        have hT10 := HT9.out.call hb10
        have zo10 := hT10.own.cell 0 0 rfl rfl
        have ho9' := V.own_later H9.out.1 hb10
        have hoo := V.own_later (V.own_later HL.out.2.2.2.1 H9.out.2.1) hb10
        have H10 := Lib.hid (And.intro hT10 (And.intro (V.ow_sl ho9') (And.intro (V.ow_sl ho10) (And.intro hS6 (And.intro hl6 (And.intro hoo ho10))))))
        clear ho10 hk10 hS6 hl6 hb10 hT10 ho9' hoo zo9 k0 k1 k2 k3
        go_wp2_with (at_builtin; refine wpList_append_sl (f := byteC S5) (D := fun k => k < w10.heap.size) (base := w.heap.size) (n := ol) (xs := (sO pf pn j).map V.byteV) V.byteElem rfl (.tmp 80) (.tmp 81) rfl rfl rfl ?hown ?hsl ?h1 ?h63 ?hby ?hbase ?_)
        case hown => exact H10.out.2.2.2.2.2.1
        case hsl => have := H10.out.2.1; exact this
        case h1 => intro i _; rfl
        case h63 => unfold maxLen; omega
        case hby => omega
        case hbase => exact H10.out.1.own.bel.size
        intro v11 w11 ho11 hg11 hx11
        have ho11' : w11.ownsRow w.heap.size 5 1 v11 (ol + q) ((sO pf pn j ++ S5).map V.byteV) := by
          have := ho11
          rw [← V.range_bytes (H9.out.2.2.2.1.trans H9.out.2.2.2.2.symm), ← List.map_append] at this
          exact this
        have hbl11 := V.lat_grown H10.out.1.own.bel H10.out.2.2.2.2.2.1 hg11
        have h10o : w11.ownsRow _ 5 1 (.slice A10 z6 c10) z6 (S6.map V.byteV) := World.ownsRow.kept H10.out.2.2.2.2.2.2 hg11 (by
          cases e : (Value.slice A10 z6 c10).ownBlock with
          | none => exact .inl rfl
          | some g =>
            refine .inr fun e' => ?_
            have h1 := (H10.out.2.2.2.2.2.2.lt g e).1
            have h2 := (HL.out.2.2.2.1.lt g e'.symm).2
            have h3 := H9.out.2.1.size
            have h4 := HQ.out.2.size
            omega)
        have H11 := Lib.hid (And.intro ho11' (And.intro hbl11 (V.ow_sl h10o)))
        clear ho11 hg11 hx11 ho11' hbl11 h10o
        go_wp2_with (at_builtin; refine wpList_append_sl (f := byteC S6) (D := fun k => k < w11.heap.size) (base := w.heap.size) (n := ol + q) (xs := (sO pf pn j ++ S5).map V.byteV) V.byteElem rfl (.tmp 82) (.tmp 83) rfl rfl rfl ?hown ?hsl ?h1 ?h63 ?hby ?hbase ?_)
        case hown => exact H11.out.1
        case hsl => exact H11.out.2.2
        case h1 => intro i _; rfl
        case h63 => unfold maxLen; omega
        case hby => omega
        case hbase => exact H11.out.2.1.size
        intro v12 w12 ho12 hg12 hx12
        have hB : BuildPost nm pf pn j w (.returned (.tuple #[v12, .int .i64 0])) w12 := by
          have e : sB nm pf pn j = (sO pf pn j ++ S5 ++ S6, 0) := by
            unfold sB
            rw [if_pos HN.out, if_neg (by rw [← H9.out.2.2.1, H9.out.2.2.2.1, ← H9.out.2.2.2.2, HL.out.1]; have := of_decide_eq_false d1; omega), ← H9.out.2.2.1, H9.out.2.2.2.1, ← H9.out.2.2.2.2, ← H10.out.2.2.2.1]
          unfold BuildPost
          rw [e]
          refine ⟨v12, rfl, ?_, V.lat_grown H11.out.2.1 H11.out.1 hg12⟩
          have := ho12
          rw [← V.range_bytes H10.out.2.2.2.2.1] at this
          show w12.ownsRow w.heap.size 5 1 v12 (sO pf pn j ++ S5 ++ S6).length ((sO pf pn j ++ S5 ++ S6).map V.byteV)
          rw [List.length_append, List.length_append, HL.out.1, H9.out.2.2.2.1, ← H9.out.2.2.2.2, H10.out.2.2.2.2.1, List.map_append, List.map_append]
          simp only [List.map_append, List.append_assoc] at this ⊢
          exact this
        have HF := Lib.hid hB
        clear hB ho12 hg12 hx12
        go_wp2_with fail
        go_ret2
        exact HF.out
end Go.Proofs.YtopbbicjbjmdnaaGreatDoor
namespace Go.Proofs.YtopbbicjbjmdnaaGreatDoor.F
open Go.RowKit
set_option linter.unusedVariables false
set_option linter.unusedSimpArgs false
def leFrom (bs : List Nat) (i m : Nat) : Nat := 2 ^ (8 * i) * le ((bs.take m).drop i)
theorem leFrom_step (bs : List Nat) (i m : Nat) (hi : i < m) (hm : m ≤ bs.length) (hb : ∀ j, bs.getD j 0 < 256) : leFrom bs (i + 1) m ||| bs.getD i 0 * 2 ^ (8 * i) = leFrom bs i m := by
  have hd : (bs.take m).drop i = bs.getD i 0 :: (bs.take m).drop (i + 1) := by
    rw [List.drop_eq_getElem_cons (by simp; omega), List.getElem_take, List.getD_eq_getElem?_getD, List.getElem?_eq_getElem (by omega)]
    rfl
  have hx := hb i
  have h1 : leFrom bs (i + 1) m % 2 ^ (8 * i + 8) = 0 := by
    unfold leFrom
    rw [show 8 * (i + 1) = 8 * i + 8 by omega]
    exact Nat.mul_mod_right _ _
  have h2 : bs.getD i 0 * 2 ^ (8 * i) < 2 ^ (8 * i + 8) := by
    rw [Nat.pow_add, Nat.mul_comm (2 ^ (8 * i))]
    exact Nat.mul_lt_mul_of_pos_right (by omega) (Nat.two_pow_pos _)
  rw [nat_join _ _ _ h1 h2]
  unfold leFrom
  rw [hd]
  show _ = 2 ^ (8 * i) * (bs.getD i 0 + 256 * le ((bs.take m).drop (i + 1)))
  rw [show 8 * (i + 1) = 8 * i + 8 by omega, Nat.pow_add, Nat.mul_add, show (2 : Nat) ^ 8 = 256 by decide, Nat.mul_assoc, Nat.mul_comm (bs.getD i 0), Nat.add_comm]
theorem leFrom_lt (bs : List Nat) (i m : Nat) (hm : m ≤ 8) (hb : ∀ j, bs.getD j 0 < 256) : leFrom bs i m < 18446744073709551616 := by
  have h1 := le_lt (l := (bs.take m).drop i) (fun b hbm => mem_take_byte hb m b (List.mem_of_mem_drop hbm))
  have h2 : ((bs.take m).drop i).length ≤ 8 - i := by simp; omega
  unfold leFrom
  rcases Nat.lt_or_ge i 9 with hi | hi
  · have h3 : (2 : Nat) ^ (8 * ((bs.take m).drop i).length) ≤ 2 ^ (8 * (8 - i)) := Nat.pow_le_pow_right (by omega) (by omega)
    have h4 : 2 ^ (8 * i) * le ((bs.take m).drop i) < 2 ^ (8 * i) * 2 ^ (8 * (8 - i)) := Nat.mul_lt_mul_of_pos_left (by omega) (Nat.two_pow_pos _)
    rw [← Nat.pow_add, show 8 * i + 8 * (8 - i) = 64 by omega] at h4
    exact h4
  · have : (bs.take m).drop i = [] := List.drop_eq_nil_of_le (by simp; omega)
    rw [this]
    show _ * 0 < _
    omega
def LitS (w : World) (gu gb : Nat) (A : Option Addr) (len c : Nat) (u : Nat) (w' : World) : Prop :=
  Blk w' gu 54 #[.int .u64 (u : Nat)] ∧ Blk w' gb 25 #[.slice A len c] ∧ Keeps (fun k => k = gu) w w'
set_option maxRecDepth 100000 in
set_option maxHeartbeats 800000 in
theorem lput_any (w : World) (gu gb : Nat) (A : Option Addr) (len c : Nat) (D : Nat → Prop) (bs : List Nat) (i m : Nat) (hl : bs.length = len) (hsl : Sl w D A len (byteC bs)) (hb : ∀ j, bs.getD j 0 < 256) (hi : i < m) (hm : m ≤ len) (hm8 : m ≤ 8)
    (hu : Blk w gu 54 #[.int .u64 (leFrom bs (i + 1) m : Nat)]) (hbb : Blk w gb 25 #[.slice A len c]) :
    Calls Tryz.prog 63 #[.int .i64 (i : Nat), .pointer (some ⟨gu, 0, none⟩), .pointer (some ⟨gb, 0, none⟩)] w fun e w' => e = .returned (.tuple #[]) ∧ LitS w gu gb A len c (leFrom bs i m) w' := by
  obtain ⟨b, off, hA, -, hc⟩ := hsl (by omega)
  have ck : w.cell? ⟨b, off + i, none⟩ = some (.int .u8 (bs.getD i 0 : Nat)) := hc i (by omega)
  subst hA
  have hx := hb i
  have hst := leFrom_step bs i m hi (by omega) hb
  have hlt := leFrom_lt bs (i + 1) m hm8 hb
  obtain ⟨x, hxx⟩ : ∃ x, x = bs.getD i 0 := ⟨_, rfl⟩
  rw [← hxx] at ck hx hst
  obtain ⟨u, huu⟩ : ∃ u, u = leFrom bs (i + 1) m := ⟨_, rfl⟩
  rw [← huu] at hu hst hlt
  have c0 := hu.cell 0
  have c1 := hbb.cell 0
  have f0 := hu.frozen 0
  simp at c0 c1 f0
  have hne : gb ≠ gu := fun e => (hu.ne hbb (by decide)) e.symm
  have HH := Lib.hid (And.intro hu (And.intro hbb (And.intro hst (And.intro hlt (And.intro hx hne)))))
  clear hu hbb hst hlt hx hne hc hsl hxx huu hb
  have hil : (i : Int) < (len : Int) := by omega
  have hi0 : (0 : Int) ≤ (i : Int) := by omega
  have hin : ((i : Int)).toNat = i := by omega
  have hi8 : IntKind.i64.wrap (8 * (i : Int)) = 8 * (i : Int) := IntWalk.i64_in _ (by omega)
  have hi9 : (0 : Int) ≤ 8 * (i : Int) := by omega
  have hi10 : (8 * (i : Int)).toNat = 8 * i := by omega
  have hi11 : 8 * (i : Int) < 64 := by omega
  go_enter Tryz.func63, Tryz.ntmps63
  go_wp2_with fail
  go_still_tail 10, (by kernel_rfl)
  change wpList _ _ _ _ _ w.drew
  clear hin hi8 hi10
  go_wp2_with fail
  obtain ⟨hu, hbb, hst, hlt, hx, hne⟩ := HH.out
  have hp : (2 : Nat) ^ (8 * i) ≤ 2 ^ 56 := Nat.pow_le_pow_right (by omega) (by omega)
  have hxp : x * 2 ^ (8 * i) < 18446744073709551616 := by
    have : x * 2 ^ (8 * i) ≤ 255 * 2 ^ 56 := Nat.mul_le_mul (by omega) hp
    omega
  have e1 : bits .or .u64 (u : Int) (IntKind.u64.wrap (IntKind.u64.wrap (x : Int) * 2 ^ (8 * i))) = ((leFrom bs i m : Nat) : Int) := by
    rw [IntKind.wrap_u64 (x : Int), show (x : Int) % 18446744073709551616 = (x : Int) by omega, show (x : Int) * 2 ^ (8 * i) = ((x * 2 ^ (8 * i) : Nat) : Int) by rw [Int.natCast_mul, Int.natCast_pow]; rfl, IntKind.wrap_u64,
      show ((x * 2 ^ (8 * i) : Nat) : Int) % 18446744073709551616 = ((x * 2 ^ (8 * i) : Nat) : Int) by omega, u64_or_nat _ _ hlt hxp, hst]
  rw [e1]
  refine bodyPost_end (v := .tuple #[]) (by simp [results, Tryz.results63, go_sem]) rfl ?_
  exact ⟨rfl, by simpa using (hu.set 0 (.int .u64 (leFrom bs i m : Nat))).drew, (hbb.far (by exact hne) _).drew, ((Keeps.refl (fun k => k = gu) w).setCell (p := ⟨gu, 0, none⟩) (fun _ => rfl) _).drew⟩
end Go.Proofs.YtopbbicjbjmdnaaGreatDoor.F
