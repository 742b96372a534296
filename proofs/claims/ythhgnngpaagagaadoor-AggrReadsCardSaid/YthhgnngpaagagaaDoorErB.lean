/-
  errors.As at a fault of package varint, by its contracts: for no error, and for such a fault. (After the kit's worked text ToyasAs.)
-/
import Derived.Test.YthhgnngpaagagaaDoorErA
namespace Go.Proofs.YthhgnngpaagagaaDoor
open Go.RowKit Go.Extern.Stop Go.Stop Go.Extern
set_option linter.unusedVariables false
set_option linter.unusedSimpArgs false
theorem as_nil (t : Value) (w : World) :
    Calls Tryd.prog 60 #[.nilIface, t] w fun e w' => e = .returned (.bool false) ∧ w = w' := by
  go_enter Tryd.func60, Tryd.ntmps60
  go_wp2
  go_ret
  exact ⟨rfl, rfl⟩
theorem asValueOfP (t : Addr) (w : World) : (ReflectliteValue.unpack (.iface 112 (.pointer (some t)))).run Tryd.prog w
    = .ok (.agg #[.pointer (some ⟨1, 112, none⟩), .pointer (some ⟨w.heap.size, 0, none⟩), .int .u64 150]) (w.alloc (.cells #[.pointer (some t)] 112)) := by kernel_rfl
theorem asTypeP (a : Addr) (w : World) : (ReflectliteValue.methodAny (ReflectliteValue.valueError "reflectlite.Value.Type" 0) (fun t _ _ _ => ReflectliteType.toType t) #[.agg #[.pointer (some ⟨1, 112, none⟩), .pointer (some a), .int .u64 150]]).run Tryd.prog w
    = .ok (.iface 129 (.agg #[.pointer (some ⟨1, 112, none⟩)])) w := by kernel_rfl
theorem asMKind (h : Value) (w : World) : (Go.method 273 129 (.agg #[h]) "Kind").run Tryd.prog w = .ok (84, h) w := by kernel_rfl
theorem asKindP (w : World) : ((ReflectliteType.abiMethod fun t => (fun a : Nat => Value.int IntKind.u8 (a : Int)) <$> Rtype.kind t) #[.pointer (some ⟨1, 112, none⟩)]).run Tryd.prog w = .ok (.int .u8 22) w := by kernel_rfl
theorem asKindF (w : World) : ((ReflectliteType.abiMethod fun t => (fun a : Nat => Value.int IntKind.u8 (a : Int)) <$> Rtype.kind t) #[.pointer (some ⟨1, 109, none⟩)]).run Tryd.prog w = .ok (.int .u8 25) w := by kernel_rfl
theorem rlm (z : Sem Value) (f : TypeId → Addr → Nat → Nat → Sem Value) (v : Value) :
    ReflectliteValue.method z f #[v] = (do match ← ReflectliteValue.parts v with | none => z | some (t, a, fl) => f t a fl (fl % 32)) := rfl
theorem asPartsP (a : Addr) (w : World) : (ReflectliteValue.parts (.agg #[.pointer (some ⟨1, 112, none⟩), .pointer (some a), .int .u64 150])).run Tryd.prog w = .ok (some (112, a, 150)) w := by kernel_rfl
theorem asIsNilP (a p : Addr) (W : World) (ha : W.cell? a = some (.pointer (some p))) :
    (ReflectliteValue.method (ReflectliteValue.valueError "reflectlite.Value.IsNil" 0) ReflectliteValue.isNil #[.agg #[.pointer (some ⟨1, 112, none⟩), .pointer (some a), .int .u64 150]]).run Tryd.prog W = .ok (.bool false) W := by
  rw [rlm]
  simp only [Sem.run_bind, asPartsP, Result.andThen]
  simp [ReflectliteValue.isNil, loadVar, isAgg, underlying, Tryd.underlying112, ha, Result.andThen]
theorem asMElem (h : Value) (w : World) : (Go.method 273 129 (.agg #[h]) "Elem").run Tryd.prog w = .ok (97, .agg #[h]) w := by kernel_rfl
theorem asMImpl (h : Value) (w : World) : (Go.method 273 129 (.agg #[h]) "Implements").run Tryd.prog w = .ok (98, .agg #[h]) w := by kernel_rfl
theorem asMAss (h : Value) (w : World) : (Go.method 273 129 (.agg #[h]) "AssignableTo").run Tryd.prog w = .ok (95, .agg #[h]) w := by kernel_rfl
theorem asElemP (w : World) : (ReflectliteType.method ReflectliteType.elem #[.agg #[.pointer (some ⟨1, 112, none⟩)]]).run Tryd.prog w = .ok (.iface 129 (.agg #[.pointer (some ⟨1, 109, none⟩)])) w := by kernel_rfl
theorem asImplF (w : World) : (ReflectliteType.relation "Implements" ReflectliteType.implements_ #[.agg #[.pointer (some ⟨1, 109, none⟩)], .iface 129 (.agg #[.pointer (some ⟨1, 101, none⟩)])]).run Tryd.prog w = .ok (.bool true) w := by kernel_rfl
theorem asTypeOfF (v : Value) (w : World) : (ReflectliteType.typeOf #[.iface 109 v]).run Tryd.prog w = .ok (.iface 129 (.agg #[.pointer (some ⟨1, 109, none⟩)])) w := by kernel_rfl
theorem asAssF (w : World) : (ReflectliteType.relation "AssignableTo" ReflectliteType.assignableTo #[.agg #[.pointer (some ⟨1, 109, none⟩)], .iface 129 (.agg #[.pointer (some ⟨1, 109, none⟩)])]).run Tryd.prog w = .ok (.bool true) w := by kernel_rfl
theorem asValueOfF (i k : Int) (w : World) : (ReflectliteValue.unpack (.iface 109 (.agg #[.int .i64 i, .int .i64 k]))).run Tryd.prog w
    = .ok (.agg #[.pointer (some ⟨1, 109, none⟩), .pointer (some ⟨w.heap.size, 0, none⟩), .int .u64 153]) (w.alloc (.cells #[.int .i64 i, .int .i64 k] 109)) := by kernel_rfl
theorem asElemOfP (w : World) : (Rtype.elem? 112).run Tryd.prog w = .ok (some 109) w := by kernel_rfl
theorem asMkF (p : Addr) (w : World) : (ReflectliteValue.mk 109 p ReflectliteValue.flagAddr).run Tryd.prog w = .ok (.agg #[.pointer (some ⟨1, 109, none⟩), .pointer (some p), .int .u64 409]) w := by kernel_rfl
theorem asElemVP (a p : Addr) (W : World) (ha : W.cell? a = some (.pointer (some p))) :
    (ReflectliteValue.method (ReflectliteValue.valueError "reflectlite.Value.Elem" 0) ReflectliteValue.elem #[.agg #[.pointer (some ⟨1, 112, none⟩), .pointer (some a), .int .u64 150]]).run Tryd.prog W
      = .ok (.agg #[.pointer (some ⟨1, 109, none⟩), .pointer (some p), .int .u64 409]) W := by
  rw [rlm]
  simp only [Sem.run_bind, asPartsP, Result.andThen]
  simp [ReflectliteValue.elem, loadVar, isAgg, underlying, Tryd.underlying112, ha, Result.andThen, asElemOfP, asMkF]
theorem rls (v x : Value) : ReflectliteValue.set #[v, x] = (do
    let (some (dst, a, fl), some (src, b, _)) := (← ReflectliteValue.parts v, ← ReflectliteValue.parts x)
      | unsupported (.noEntry "extern/(internal/reflectlite.Value).Set.zeroValue")
    if fl / ReflectliteValue.flagAddr % 2 == 0 then unsupported (.noEntry "extern/(internal/reflectlite.Value).Set.unaddressable")
    let val ← loadVar src b
    if ← Rtype.directlyAssignable dst src then storeVar dst a val
    else if ← Rtype.implements dst src then
      if (← Rtype.kind src) == 20 then
        match val with
        | .nilIface => unsupported (.noEntry "extern/reflectlite: a nil value of one interface type handed on as a value of another")
        | _ => storeVar dst a val
      else storeVar dst a (.iface src val)
    else panicString ("reflectlite.Set: value of type " ++ (← Rtype.spelt src) ++ " is not assignable to type " ++ (← Rtype.spelt dst))
    pure (.tuple #[])) := rfl
theorem asPartsFa (a : Addr) (w : World) : (ReflectliteValue.parts (.agg #[.pointer (some ⟨1, 109, none⟩), .pointer (some a), .int .u64 409])).run Tryd.prog w = .ok (some (109, a, 409)) w := by kernel_rfl
theorem asPartsF (a : Addr) (w : World) : (ReflectliteValue.parts (.agg #[.pointer (some ⟨1, 109, none⟩), .pointer (some a), .int .u64 153])).run Tryd.prog w = .ok (some (109, a, 153)) w := by kernel_rfl
theorem asDirectF (w : World) : (Rtype.directlyAssignable 109 109).run Tryd.prog w = .ok true w := by kernel_rfl
theorem asSizeF (w : World) : (sizeOf 109).run Tryd.prog w = .ok 2 w := by kernel_rfl
/-- (Value).Set: the fault variable at block g gets what the Value's own variable, block b, holds. -/
theorem asSetF (g b : Nat) (i k : Int) (o1 o2 : Value) (W : World) (hb : Blk W b 109 #[.int .i64 i, .int .i64 k]) (hg : Blk W g 109 #[o1, o2]) :
    (ReflectliteValue.set #[.agg #[.pointer (some ⟨1, 109, none⟩), .pointer (some ⟨g, 0, none⟩), .int .u64 409], .agg #[.pointer (some ⟨1, 109, none⟩), .pointer (some ⟨b, 0, none⟩), .int .u64 153]]).run Tryd.prog W
      = .ok (.tuple #[]) ((W.setCell ⟨g, 0, none⟩ (.int .i64 i)).setCell ⟨g, 1, none⟩ (.int .i64 k)) := by
  rw [rls]
  simp only [Sem.run_bind, asPartsFa, asPartsF, Result.andThen]
  have c0 : W.cell? ⟨b, 0, none⟩ = some (.int .i64 i) := by rw [hb.cell 0]; rfl
  have c1 : W.cell? ⟨b, 1, none⟩ = some (.int .i64 k) := by rw [hb.cell 1]; rfl
  have d0 : W.cell? ⟨g, 0, none⟩ = some o1 := by rw [hg.cell 0]; rfl
  have hg2 := hg.set 0 (.int .i64 i)
  have d1 : (W.setCell ⟨g, 0, none⟩ (.int .i64 i)).cell? ⟨g, 1, none⟩ = some o2 := by rw [hg2.cell 1]; rfl
  have f0 := hg.frozen 0
  have f1 := hg2.frozen 1
  have hl : (loadCells ⟨b, 0, none⟩ 2).run Tryd.prog W = .ok #[.int .i64 i, .int .i64 k] W := by
    simp [loadCells, loadCellsFrom, Addr.add, c0, c1, Result.andThen]
  have e1 : (store ⟨g, 0, none⟩ (.int .i64 i)).run Tryd.prog W = .ok () (W.setCell ⟨g, 0, none⟩ (.int .i64 i)) := by
    rw [run_store _ _ _ _ _ (by rfl), d0]; simp [f0]
  have e2 : (store ⟨g, 1, none⟩ (.int .i64 k)).run Tryd.prog (W.setCell ⟨g, 0, none⟩ (.int .i64 i)) = .ok () ((W.setCell ⟨g, 0, none⟩ (.int .i64 i)).setCell ⟨g, 1, none⟩ (.int .i64 k)) := by
    rw [run_store _ _ _ _ _ (by rfl), d1]; simp [f1]
  have hs : (storeCells ⟨g, 0, none⟩ [.int .i64 i, .int .i64 k]).run Tryd.prog W = .ok () ((W.setCell ⟨g, 0, none⟩ (.int .i64 i)).setCell ⟨g, 1, none⟩ (.int .i64 k)) := by
    unfold storeCells
    rw [Sem.run_bind, show (⟨g, 0, none⟩ : Addr).add 0 = ⟨g, 0, none⟩ by rfl, e1]
    show (storeCells ⟨g, 0, none⟩ [.int .i64 k] (0 + 1)).run Tryd.prog _ = _
    unfold storeCells
    rw [Sem.run_bind, show (⟨g, 0, none⟩ : Addr).add (0 + 1) = ⟨g, 1, none⟩ by rfl, e2]
    rfl
  simp [ReflectliteValue.flagAddr, loadVar, isAgg, underlying, Tryd.underlying109, hl, Result.andThen, asDirectF, storeVar, Value.cells, hs]
def AsPost (g : Nat) (i k : Int) (w : World) (e : Ending) (w' : World) : Prop :=
  e = .returned (.bool true) ∧ Keeps (fun x => x = g) w w' ∧ Blk w' g 109 #[.int .i64 i, .int .i64 k]
set_option maxRecDepth 100000 in
set_option maxHeartbeats 4000000 in
theorem as_fault (g : Nat) (i k : Int) (o1 o2 : Value) (w : World) (hv : w.cell? ⟨0, 0, none⟩ = some (.iface 129 (.agg #[.pointer (some ⟨1, 101, none⟩)]))) (hg : Blk w g 109 #[o1, o2]) :
    Calls Tryd.prog 60 #[.iface 109 (.agg #[.int .i64 i, .int .i64 k]), .iface 112 (.pointer (some ⟨g, 0, none⟩))] w (AsPost g i k w) := by
  have hE1 := @run_callFunc_extern Tryd.prog 64 _ (fun args => ReflectliteValue.unpack (args.getD 0 (.tuple #[]))) Tryd.func64 (by kernel_rfl) (by kernel_rfl) (by kernel_rfl) (by kernel_rfl)
  have hE2 := @run_callFunc_extern Tryd.prog 65 _ (ReflectliteValue.methodAny (ReflectliteValue.valueError "reflectlite.Value.Type" 0) (fun t _ _ _ => ReflectliteType.toType t)) Tryd.func65 (by kernel_rfl) (by kernel_rfl) (by kernel_rfl) (by kernel_rfl)
  have hE3 := @run_callFunc_extern Tryd.prog 66 _ (ReflectliteValue.method (ReflectliteValue.valueError "reflectlite.Value.IsNil" 0) ReflectliteValue.isNil) Tryd.func66 (by kernel_rfl) (by kernel_rfl) (by kernel_rfl) (by kernel_rfl)
  have hE4 := @run_callFunc_extern Tryd.prog 84 _ (ReflectliteType.abiMethod fun t => do pure (.int .u8 (← Rtype.kind t))) Tryd.func84 (by kernel_rfl) (by kernel_rfl) (by kernel_rfl) (by kernel_rfl)
  have hE5 := @run_callFunc_extern Tryd.prog 97 _ (ReflectliteType.method ReflectliteType.elem) Tryd.func97 (by kernel_rfl) (by kernel_rfl) (by kernel_rfl) (by kernel_rfl)
  have hE6 := @run_callFunc_extern Tryd.prog 98 _ (ReflectliteType.relation "Implements" ReflectliteType.implements_) Tryd.func98 (by kernel_rfl) (by kernel_rfl) (by kernel_rfl) (by kernel_rfl)
  have hE7 := @run_callFunc_extern Tryd.prog 62 _ ReflectliteType.typeOf Tryd.func62 (by kernel_rfl) (by kernel_rfl) (by kernel_rfl) (by kernel_rfl)
  have hE8 := @run_callFunc_extern Tryd.prog 95 _ (ReflectliteType.relation "AssignableTo" ReflectliteType.assignableTo) Tryd.func95 (by kernel_rfl) (by kernel_rfl) (by kernel_rfl) (by kernel_rfl)
  have hE9 := @run_callFunc_extern Tryd.prog 68 _ (ReflectliteValue.method (ReflectliteValue.valueError "reflectlite.Value.Elem" 0) ReflectliteValue.elem) Tryd.func68 (by kernel_rfl) (by kernel_rfl) (by kernel_rfl) (by kernel_rfl)
  have hE10 := @run_callFunc_extern Tryd.prog 69 _ ReflectliteValue.set Tryd.func69 (by kernel_rfl) (by kernel_rfl) (by kernel_rfl) (by kernel_rfl)
  have q1 := asValueOfP
  have q2 := asTypeP
  have q3 := asMKind
  have q4 := asKindP
  have q5 := asKindF
  have q6 := asMElem
  have q7 := asMImpl
  have q8 := asMAss
  have q9 := asElemP
  have q10 := asImplF
  have q11 := asTypeOfF
  have q12 := asAssF
  have q13 := asValueOfF i k
  obtain ⟨x, hx⟩ : ∃ x, x = w.heap.size := ⟨_, rfl⟩
  have hlt : g < x := by rw [hx]; exact hg.lt
  have o1' := (Own.own1 w hx 112 #[.pointer (some ⟨g, 0, none⟩)])
  have o2' := o1'.alloc (show x + 1 = _ by simp [hx]) 121 #[.pointer (some ⟨1, 112, none⟩), .pointer (some ⟨x, 0, none⟩), .int .u64 150]
  have o3' := o2'.alloc (show x + 1 + 1 = _ by simp [hx]) 121 #[.pointer (some ⟨1, 112, none⟩), .pointer (some ⟨x, 0, none⟩), .int .u64 150]
  have o4' := o3'.alloc (show x + 1 + 1 + 1 = _ by simp [hx]) 109 #[.int .i64 i, .int .i64 k]
  have n8 := asIsNilP ⟨x, 0, none⟩ ⟨g, 0, none⟩ _ (o2'.cell 0 0 rfl rfl)
  have el := asElemVP ⟨x, 0, none⟩ ⟨g, 0, none⟩ _ (o3'.cell 0 0 rfl rfl)
  have bb := o4'.get 3 rfl
  have bg := hg.below o4'.bel (by rw [← hx]; exact hlt)
  have st := asSetF g (x + 1 + 1 + 1) i k o1 o2 _ bb bg
  have hv2 := (World.cell?_of_block (w := w) (a := ⟨0, 0, none⟩) (o2'.bel.block 0 (World.block_lt_of_cell? w _ hv))).trans hv
  rw [hx] at n8 el st hv2
  have HB := Lib.hid (And.intro bg (And.intro o4'.keeps (And.intro hx hlt)))
  clear o1' o2' o3' o4' bb bg hx hlt hv
  go_enter Tryd.func60, Tryd.ntmps60
  go_wp2
  refine wp_loop_rounds 1 ?_
  rw [rounds_succ]
  go_wp2
  go_ret
  have hB := HB.out
  rw [← hB.2.2.1]
  have b1 := hB.1.set 0 (.int .i64 i)
  have b2 := b1.set 1 (.int .i64 k)
  have k1 : Keeps (fun x => x = g) w _ := hB.2.1.mono (T := fun x => x = g) (fun _ _ h => h.elim)
  have k2 : Keeps (fun x => x = g) w _ := k1.setCell (p := ⟨g, 0, none⟩) (fun _ => rfl) (.int .i64 i)
  have k3 : Keeps (fun x => x = g) w _ := k2.setCell (p := ⟨g, 1, none⟩) (fun _ => rfl) (.int .i64 k)
  exact ⟨rfl, k3, b2⟩
end Go.Proofs.YthhgnngpaagagaaDoor
