/-
  errors.Is at api.ErrEnd, by its contracts: for no error, and for a fault of package varint. (After the kit's worked text SentryIs.)
-/
import Derived.Test.YthhgnngpaagagaaDoorRows
import Derived.Test.YthhgnngpaagagaaDoorOwn
import Derived.WalkKit
import Derived.WalkSpells
import Derived.WalkLawsBesides
import Derived.Outline
import Derived.Deep.Cut
import Derived.LaidEql
import Derived.Stop.Asserts
import Derived.RowKitTokens
import Derived.Lib.IfaceEq
namespace Go.Proofs.YthhgnngpaagagaaDoor
open Go.RowKit Go.Extern.Stop Go.Stop Go.Extern
set_option linter.unusedVariables false
set_option linter.unusedSimpArgs false
theorem erTypeOf (v : Value) (w : World) : (Extern.ReflectliteType.typeOf #[.iface 30 v]).run Tryd.prog w = .ok (.iface 129 (.agg #[.pointer (some ⟨1, 30, none⟩)])) w := by kernel_rfl
theorem erComparable (w : World) : ((Extern.ReflectliteType.method fun t => do Rtype.noPackHeld "Comparable" t; (fun a => Value.bool a.comparable) <$> typeInfo t) #[.agg #[.pointer (some ⟨1, 30, none⟩)]]).run Tryd.prog w = .ok (.bool true) w := by kernel_rfl
theorem erIsE (v : Value) (xT : TypeId) (w : World) : (Instr.typeAssert (.iface 30 v) xT 131 true).run Tryd.prog w = .ok (.tuple #[.nilIface, .bool false]) w := run_typeAssert_lacksB Tryd.underlying131 (by kernel_rfl) (by kernel_rfl) v xT w
theorem erUnwrapE (v : Value) (xT : TypeId) (w : World) : (Instr.typeAssert (.iface 30 v) xT 134 true).run Tryd.prog w = .ok (.tuple #[.nilIface, .bool false]) w := run_typeAssert_lacksB Tryd.underlying134 (by kernel_rfl) (by kernel_rfl) v xT w
theorem erUnwrapsE (v : Value) (xT : TypeId) (w : World) : (Instr.typeAssert (.iface 30 v) xT 136 true).run Tryd.prog w = .ok (.tuple #[.nilIface, .bool false]) w := run_typeAssert_lacksB Tryd.underlying136 (by kernel_rfl) (by kernel_rfl) v xT w
theorem erIsF (v : Value) (xT : TypeId) (w : World) : (Instr.typeAssert (.iface 109 v) xT 131 true).run Tryd.prog w = .ok (.tuple #[.nilIface, .bool false]) w := run_typeAssert_lacksB Tryd.underlying131 (by kernel_rfl) (by kernel_rfl) v xT w
theorem erUnwrapF (v : Value) (xT : TypeId) (w : World) : (Instr.typeAssert (.iface 109 v) xT 134 true).run Tryd.prog w = .ok (.tuple #[.iface 109 v, .bool true]) w := run_typeAssert_hasB Tryd.underlying134 (by kernel_rfl) v xT w
theorem erMComp (v : Value) (w : World) : (Go.method 273 129 v "Comparable").run Tryd.prog w = .ok (96, v) w := by kernel_rfl
theorem erMUnwrap (v : Value) (w : World) : (Go.method 273 109 v "Unwrap").run Tryd.prog w = .ok (90, v) w := by kernel_rfl
theorem er_nil (v : Value) (w : World) :
    Calls Tryd.prog 59 #[.nilIface, .iface 30 v] w fun e w' => e = .returned (.bool false) ∧ w = w' := by
  have hn := run_eql_iface_nil_left (P := Tryd.prog) w 30 v Tryd.underlying101
  go_enter Tryd.func59, Tryd.ntmps59
  go_wp2
  go_ret
  exact ⟨rfl, rfl⟩
theorem fault_unwrap (i k : Int) (w : World) :
    Calls Tryd.prog 90 #[.agg #[.int .i64 i, .int .i64 k]] w fun e w' => e = .returned (.iface 30 (.int .i64 k)) ∧ w' = w.alloc (.cells #[.int .i64 i, .int .i64 k] 109) := by
  go_enter Tryd.func90, Tryd.ntmps90
  go_wp2
  go_ret
  exact ⟨rfl, rfl⟩
set_option maxRecDepth 100000 in
set_option maxHeartbeats 1000000 in
theorem er_fault (i k : Int) (w : World) :
    Calls Tryd.prog 59 #[.iface 109 (.agg #[.int .i64 i, .int .i64 k]), .iface 30 (.int .i64 10)] w fun e w' => e = .returned (.bool (k == 10)) ∧ Below w.heap.size w w' := by
  have h8 := @run_callFunc_extern Tryd.prog 62 _ Extern.ReflectliteType.typeOf Tryd.func62 (by kernel_rfl) (by kernel_rfl) (by kernel_rfl) (by kernel_rfl)
  have h32 := @run_callFunc_extern Tryd.prog 96 _ (Extern.ReflectliteType.method fun t => do Rtype.noPackHeld "Comparable" t; pure (.bool (← typeInfo t).comparable)) Tryd.func96 (by kernel_rfl) (by kernel_rfl) (by kernel_rfl) (by kernel_rfl)
  have tT := erTypeOf
  have cT := erComparable
  have nE := erIsE
  have uE := erUnwrapE
  have vE := erUnwrapsE
  have nF := erIsF
  have uF := erUnwrapF
  have mC := erMComp
  have mU := erMUnwrap
  have heq := fun w => Lib.run_eql_iface_int (P := Tryd.prog) w (k := .i64) (t := 101) (tx := 30) k 10 Tryd.underlying101 (by kernel_rfl) Tryd.underlying30
  have hty := fun w => run_eql_iface_types (P := Tryd.prog) 109 30 (.agg #[.int .i64 i, .int .i64 k]) (.int .i64 10) Tryd.underlying101 (by decide) w
  go_enter Tryd.func59, Tryd.ntmps59
  go_wp2
  refine wp_loop_rounds 2 ?_
  rw [rounds_succ]
  go_wp2
  by_cases hk : k = 10
  · subst hk
    rw [rounds_succ]
    go_wp2
    go_ret
    exact ⟨rfl, (Below.refl _ _).alloc (Nat.le_refl _) _⟩
  · rw [rounds_succ]
    go_wp2
    go_ret
    exact ⟨by rw [show (k == 10) = false by simp [hk]]; rfl, (Below.refl _ _).alloc (Nat.le_refl _) _⟩
end Go.Proofs.YthhgnngpaagagaaDoor
