/-
  errors.Is at api.ErrEnd, by its contracts: for no error, and for a fault of package varint. (After the kit's worked text SentryIs.)
-/
import Derived.Test.YtgceeihdmhghiaaDoorRows
import Derived.Test.YtgceeihdmhghiaaDoorOwn
import Derived.WalkKit
import Derived.WalkSpells
import Derived.WalkLawsBesides
import Derived.Outline
import Derived.Deep.Cut
import Derived.LaidEql
import Derived.Stop.Asserts
import Derived.RowKitTokens
import Derived.Lib.IfaceEq
namespace Go.Proofs.YtgceeihdmhghiaaDoor
open Go.RowKit Go.Extern.Stop Go.Stop Go.Extern
set_option linter.unusedVariables false
set_option linter.unusedSimpArgs false
theorem erTypeOf (v : Value) (w : World) : (Extern.ReflectliteType.typeOf #[.iface 24 v]).run Tryd.prog w = .ok (.iface 86 (.agg #[.pointer (some ⟨1, 24, none⟩)])) w := by kernel_rfl
theorem erComparable (w : World) : ((Extern.ReflectliteType.method fun t => do Rtype.noPackHeld "Comparable" t; (fun a => Value.bool a.comparable) <$> typeInfo t) #[.agg #[.pointer (some ⟨1, 24, none⟩)]]).run Tryd.prog w = .ok (.bool true) w := by kernel_rfl
theorem erIsE (v : Value) (xT : TypeId) (w : World) : (Instr.typeAssert (.iface 24 v) xT 88 true).run Tryd.prog w = .ok (.tuple #[.nilIface, .bool false]) w := run_typeAssert_lacksB Tryd.underlying88 (by kernel_rfl) (by kernel_rfl) v xT w
theorem erUnwrapE (v : Value) (xT : TypeId) (w : World) : (Instr.typeAssert (.iface 24 v) xT 91 true).run Tryd.prog w = .ok (.tuple #[.nilIface, .bool false]) w := run_typeAssert_lacksB Tryd.underlying91 (by kernel_rfl) (by kernel_rfl) v xT w
theorem erUnwrapsE (v : Value) (xT : TypeId) (w : World) : (Instr.typeAssert (.iface 24 v) xT 93 true).run Tryd.prog w = .ok (.tuple #[.nilIface, .bool false]) w := run_typeAssert_lacksB Tryd.underlying93 (by kernel_rfl) (by kernel_rfl) v xT w
theorem erIsF (v : Value) (xT : TypeId) (w : World) : (Instr.typeAssert (.iface 67 v) xT 88 true).run Tryd.prog w = .ok (.tuple #[.nilIface, .bool false]) w := run_typeAssert_lacksB Tryd.underlying88 (by kernel_rfl) (by kernel_rfl) v xT w
theorem erUnwrapF (v : Value) (xT : TypeId) (w : World) : (Instr.typeAssert (.iface 67 v) xT 91 true).run Tryd.prog w = .ok (.tuple #[.iface 67 v, .bool true]) w := run_typeAssert_hasB Tryd.underlying91 (by kernel_rfl) v xT w
theorem erMComp (v : Value) (w : World) : (Go.method 231 86 v "Comparable").run Tryd.prog w = .ok (68, v) w := by kernel_rfl
theorem erMUnwrap (v : Value) (w : World) : (Go.method 231 67 v "Unwrap").run Tryd.prog w = .ok (62, v) w := by kernel_rfl
theorem er_nil (v : Value) (w : World) :
    Calls Tryd.prog 30 #[.nilIface, .iface 24 v] w fun e w' => e = .returned (.bool false) ∧ w = w' := by
  have hn := run_eql_iface_nil_left (P := Tryd.prog) w 24 v Tryd.underlying52
  go_enter Tryd.func30, Tryd.ntmps30
  go_wp2
  go_ret
  exact ⟨rfl, rfl⟩
theorem fault_unwrap (i k : Int) (w : World) :
    Calls Tryd.prog 62 #[.agg #[.int .i64 i, .int .i64 k]] w fun e w' => e = .returned (.iface 24 (.int .i64 k)) ∧ w' = w.alloc (.cells #[.int .i64 i, .int .i64 k] 67) := by
  go_enter Tryd.func62, Tryd.ntmps62
  go_wp2
  go_ret
  exact ⟨rfl, rfl⟩
set_option maxRecDepth 100000 in
set_option maxHeartbeats 1000000 in
theorem er_fault (i k : Int) (w : World) :
    Calls Tryd.prog 30 #[.iface 67 (.agg #[.int .i64 i, .int .i64 k]), .iface 24 (.int .i64 10)] w fun e w' => e = .returned (.bool (k == 10)) ∧ Below w.heap.size w w' := by
  have h8 := @run_callFunc_extern Tryd.prog 35 _ Extern.ReflectliteType.typeOf Tryd.func35 (by kernel_rfl) (by kernel_rfl) (by kernel_rfl) (by kernel_rfl)
  have h32 := @run_callFunc_extern Tryd.prog 68 _ (Extern.ReflectliteType.method fun t => do Rtype.noPackHeld "Comparable" t; pure (.bool (← typeInfo t).comparable)) Tryd.func68 (by kernel_rfl) (by kernel_rfl) (by kernel_rfl) (by kernel_rfl)
  have tT := erTypeOf
  have cT := erComparable
  have nE := erIsE
  have uE := erUnwrapE
  have vE := erUnwrapsE
  have nF := erIsF
  have uF := erUnwrapF
  have mC := erMComp
  have mU := erMUnwrap
  have heq := fun w => Lib.run_eql_iface_int (P := Tryd.prog) w (k := .i64) (t := 52) (tx := 24) k 10 Tryd.underlying52 (by kernel_rfl) Tryd.underlying24
  have hty := fun w => run_eql_iface_types (P := Tryd.prog) 67 24 (.agg #[.int .i64 i, .int .i64 k]) (.int .i64 10) Tryd.underlying52 (by decide) w
  go_enter Tryd.func30, Tryd.ntmps30
  go_wp2
  refine wp_loop_rounds 2 ?_
  rw [rounds_succ]
  go_wp2
  by_cases hk : k = 10
  · subst hk
    rw [rounds_succ]
    go_wp2
    go_ret
    exact ⟨rfl, (Below.refl _ _).alloc (Nat.le_refl _) _⟩
  · rw [rounds_succ]
    go_wp2
    go_ret
    exact ⟨by rw [show (k == 10) = false by simp [hk]]; rfl, (Below.refl _ _).alloc (Nat.le_refl _) _⟩
end Go.Proofs.YtgceeihdmhghiaaDoor
