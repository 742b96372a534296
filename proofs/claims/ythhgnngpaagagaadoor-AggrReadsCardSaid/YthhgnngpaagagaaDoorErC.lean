/-
  The contracts of varint's number, scan, Read.
-/
import Derived.Test.YthhgnngpaagagaaDoorErB
import Derived.Test.YthhgnngpaagagaaDoorArgs
import Derived.Test.YthhgnngpaagagaaDoorVrPl
import Derived.Deep.DeepCutAuto
import Derived.Laws.BitsAllLaws
namespace Go.Proofs.YthhgnngpaagagaaDoor
open Go.RowKit
set_option linter.unusedVariables false
set_option linter.unusedSimpArgs false
/-- The variable of package errors, as its text lays it. -/
def HErr (w : World) : Prop := w.cell? ⟨0, 0, none⟩ = some (.iface 129 (.agg #[.pointer (some ⟨1, 101, none⟩)]))
theorem HErr.keeps {S : Nat → Prop} {w w' : World} (h : HErr w) (hk : Keeps S w w') (hS : ¬ S 0) : HErr w' := by
  unfold HErr at h ⊢
  rw [← h]
  exact World.cell?_of_block (w := w) (a := ⟨0, 0, none⟩) (hk.block _ (World.block_lt_of_cell? w _ h) hS)
theorem HErr.below {w w' : World} (h : HErr w) (hb : Below w.heap.size w w') : HErr w' := h.keeps (S := fun _ => False) (Keeps.of_below hb) (fun h => h)
theorem HErr.lt {w : World} (h : HErr w) : 0 < w.heap.size := World.block_lt_of_cell? w _ h
set_option maxHeartbeats 1000000 in
theorem number_nil (w : World) : Calls Tryd.prog 53 #[.nilIface] w fun e w' => e = .returned (.int .i64 0) ∧ Below w.heap.size w w' := by
  have o := (Own.own1 w rfl 109 #[.int .i64 0, .int .i64 0]).bel
  have HO := Lib.hid o
  clear o
  go_enter Tryd.func53, Tryd.ntmps53
  go_wp2_with fail
  refine (er_nil _ _).mono ?_
  rintro e w' ⟨rfl, rfl⟩
  go_wp2_with fail
  refine (as_nil _ _).mono ?_
  rintro e w' ⟨rfl, rfl⟩
  go_wp2_with fail
  go_ret
  exact ⟨rfl, HO.out⟩
set_option maxHeartbeats 1000000 in
theorem number_fault (i k : Int) (w : World) (hv : HErr w) : Calls Tryd.prog 53 #[.iface 109 (.agg #[.int .i64 i, .int .i64 k])] w fun e w' => e = .returned (.int .i64 k) ∧ Below w.heap.size w w' := by
  obtain ⟨x, hx⟩ : ∃ x, x = w.heap.size := ⟨_, rfl⟩
  have o := Own.own1 w hx 109 #[.int .i64 0, .int .i64 0]
  have hv2 := hv.below o.bel
  have hlt := hv.lt
  have HO := Lib.hid (And.intro hx (And.intro o (And.intro hv2 hlt)))
  clear hx o hv hv2 hlt
  go_enter Tryd.func53, Tryd.ntmps53
  go_wp2_with fail
  rw [← HO.out.1]
  refine (er_fault i k _).mono ?_
  rintro e w1 ⟨rfl, hb⟩
  have o := HO.out.2.1.call hb
  by_cases hk : k = 10
  · subst hk
    have HP := Lib.hid o
    clear o hb
    go_wp2_with fail
    go_ret
    exact ⟨rfl, HP.out.bel⟩
  · have d0 : (k == 10) = false := by simp [hk]
    rw [d0]
    have hv3 := HO.out.2.2.1.below hb
    have HP := Lib.hid (And.intro o hv3)
    clear d0 hk hv3 o hb
    go_wp2_with fail
    refine (as_fault x i k (.int .i64 0) (.int .i64 0) _ HP.out.2 (HP.out.1.get 0 rfl)).mono ?_
    rintro e w2 ⟨rfl, hk2, hblk⟩
    have c1 := hblk.cell 1
    have HQ := Lib.hid hk2
    clear hk2 hblk
    go_wp2_with fail
    go_ret
    refine ⟨rfl, ?_⟩
    have h1 : Keeps (fun q => q = x) w w2 := (HP.out.1.keeps.mono (fun _ _ h => h.elim)).trans' HQ.out
    exact h1.below (Nat.le_refl _) (fun q hq e => by have := HO.out.1; omega)
end Go.Proofs.YthhgnngpaagagaaDoor
