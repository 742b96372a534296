/-
  Values of many cells are loaded and stored whole, in one step.
-/
import Derived.Test.YthhgnngpaagagaaDoorOwn
import Derived.Deep.MidRow
import Derived.WalkKit
namespace Go.Proofs.YthhgnngpaagagaaDoor
open Go.RowKit
set_option linter.unusedVariables false
set_option linter.unusedSimpArgs false
theorem setCells_from : ∀ (vs : List Value) (k : Nat) (w : World) (g : Nat), w.setCells g k vs = setFrom w g k vs
  | [], _, _, _ => rfl
  | v :: vs, k, w, g => setCells_from vs (k + 1) _ g
/-- A value is stored over cells of a known block. -/
theorem store_blk {P : Program} {w : World} {g : Nat} {t : TypeId} {cs : Array Value} (hb : Blk w g t cs) (ty : TypeId) (k n : Nat) (vs : List Value) (hn : vs.length = n) (hk : k + n ≤ cs.size) (hi : (P.info? ty).map (·.size) = some n) (h1 : ∀ v ∈ vs, v.oneCell' = true) :
    (Instr.storeAt ty (.pointer (some ⟨g, k, none⟩)) (.agg vs.toArray)).run P w = .ok () (setFrom w g k vs) := by
  have h := run_storeAt_mid (P := P) w g k ty vs.toArray (fun j hj => ⟨by rw [hb.cell, Array.getElem?_eq_getElem (by simp at hj; omega)]; rfl, hb.frozen _⟩) (by simpa [hn] using hi) (all_oneCell_toArray h1)
  rw [← setCells_from]
  simpa using h
/-- .. and loaded. -/
theorem load_blk {P : Program} {w : World} {g : Nat} {t : TypeId} {cs : Array Value} (hb : Blk w g t cs) (ty : TypeId) (k n : Nat) (vs : List Value) (d : TypeDesc) (hu : P.underlying ty = some d) (hd : d.isRow = true) (hn : vs.length = n) (hi : (P.info? ty).map (·.size) = some n)
    (hc : ∀ j, j < n → cs[k + j]? = vs[j]?) : (Instr.loadAt ty (.pointer (some ⟨g, k, none⟩))).run P w = .ok (.agg vs.toArray) w :=
  run_loadAt_mid (P := P) w g k ty vs d (fun j v hj => by
    rw [hb.cell, hc j (by have := (List.getElem?_eq_some_iff.1 hj).1; omega)]
    exact hj) hu hd (by rw [hn]; exact hi)
theorem wpList_store_blk {P : Program} {w : World} {g : Nat} {t : TypeId} {cs : Array Value} (hb : Blk w g t cs) (ty : TypeId) (k n : Nat) (vs : List Value) (hn : vs.length = n) (hk : k + n ≤ cs.size) (hi : (P.info? ty).map (·.size) = some n) (h1 : ∀ v ∈ vs, v.oneCell' = true)
    {ops : Array Oper} {rest : List Oper} {op : Oper} {a : Act} {Q : Exit → Act → World → Prop} (hgd : op.guard = none) (x y : Operand) (ho : op.op = .store ty x y) (hx : a.eval x = .pointer (some ⟨g, k, none⟩)) (hy : a.eval y = .agg vs.toArray)
    (h : wpList P ops Q rest (a.put op.dst undef) (setFrom w g k vs)) : wpList P ops Q (op :: rest) a w := by
  refine wpList_store_mid (P := P) hgd ty x y ho g k vs.toArray hx hy (fun j hj => ⟨by rw [hb.cell, Array.getElem?_eq_getElem (by simp at hj; omega)]; rfl, hb.frozen _⟩) (by simpa [hn] using hi) (all_oneCell_toArray h1) ?_
  rw [← setCells_from] at h
  simpa using h
theorem wpList_load_blk {P : Program} {w : World} {g : Nat} {t : TypeId} {cs : Array Value} (hb : Blk w g t cs) (ty : TypeId) (k n : Nat) (vs : List Value) (d : TypeDesc) (hu : P.underlying ty = some d) (hd : d.isRow = true) (hn : vs.length = n) (hi : (P.info? ty).map (·.size) = some n)
    (hc : ∀ j, j < n → cs[k + j]? = vs[j]?) {ops : Array Oper} {rest : List Oper} {op : Oper} {a : Act} {Q : Exit → Act → World → Prop} (hgd : op.guard = none) (x : Operand) (ho : op.op = .load ty x) (hx : a.eval x = .pointer (some ⟨g, k, none⟩))
    (h : wpList P ops Q rest (a.put op.dst (.agg vs.toArray)) w) : wpList P ops Q (op :: rest) a w :=
  wpList_load_mid (P := P) hgd ty x ho g k hx vs d (fun j v hj => by
    rw [hb.cell, hc j (by have := (List.getElem?_eq_some_iff.1 hj).1; omega)]
    exact hj) hu hd (by rw [hn]; exact hi) h
/-- A result that is a variable of many cells, and one beside it. -/
theorem results_blk2 {P : Program} {fn : Func} {tmps : Array Value} {w : World} {g : Nat} {t ty : TypeId} {cs : Array Value} {r u : Tmp} (hf : fn.results = #[.cell r ty, .tmp u]) (hr : tmps.getD r undef = .pointer (some ⟨g, 0, none⟩)) (hb : Blk w g t cs) (n : Nat) (vs : List Value) (d : TypeDesc) (hu : P.underlying ty = some d) (hd : d.isRow = true)
    (hn : vs.length = n) (hi : (P.info? ty).map (·.size) = some n) (hc : ∀ j, j < n → cs[0 + j]? = vs[j]?) : (results fn tmps).run P w = .ok (.tuple #[.agg vs.toArray, tmps.getD u undef]) w := by
  have h := run_loadVar_mid (P := P) w g 0 ty vs d (fun j v hj => by
    rw [hb.cell, hc j (by have := (List.getElem?_eq_some_iff.1 hj).1; omega)]
    exact hj) hu hd (by rw [hn]; exact hi)
  have hr' : tmps[r]?.getD undef = .pointer (some ⟨g, 0, none⟩) := by simpa using hr
  simp [results, hf, hr', h, asAddr, Result.andThen]
theorem results_blk1 {P : Program} {fn : Func} {tmps : Array Value} {w : World} {g : Nat} {t ty : TypeId} {cs : Array Value} {r : Tmp} (hf : fn.results = #[.cell r ty]) (hr : tmps.getD r undef = .pointer (some ⟨g, 0, none⟩)) (hb : Blk w g t cs) (n : Nat) (vs : List Value) (d : TypeDesc) (hu : P.underlying ty = some d) (hd : d.isRow = true)
    (hn : vs.length = n) (hi : (P.info? ty).map (·.size) = some n) (hc : ∀ j, j < n → cs[0 + j]? = vs[j]?) : (results fn tmps).run P w = .ok (.agg vs.toArray) w := by
  have h := run_loadVar_mid (P := P) w g 0 ty vs d (fun j v hj => by
    rw [hb.cell, hc j (by have := (List.getElem?_eq_some_iff.1 hj).1; omega)]
    exact hj) hu hd (by rw [hn]; exact hi)
  have hr' : tmps[r]?.getD undef = .pointer (some ⟨g, 0, none⟩) := by simpa using hr
  simp [results, hf, hr', h, asAddr, Result.andThen]
theorem range_blk {w : World} {g : Nat} {t : TypeId} {cs : Array Value} (hb : Blk w g t cs) (k n : Nat) (vs : List Value) (hn : vs.length = n) (hc : ∀ j, j < n → cs[k + j]? = vs[j]?) : w.rangeAt g k vs := fun j v hj => by
  rw [hb.cell, hc j (by have := (List.getElem?_eq_some_iff.1 hj).1; omega)]
  exact hj
/-- A value is stored whole in a region that draws. -/
theorem step_store_blk {P : Program} {w : World} {g : Nat} {t : TypeId} {cs : Array Value} (hb : Blk w g t cs) (ty : TypeId) (k n : Nat) (vs : List Value) (hn : vs.length = n) (hk : k + n ≤ cs.size) (hi : (P.info? ty).map (·.size) = some n) (h1 : ∀ v ∈ vs, v.oneCell' = true)
    {ops : Array Oper} {op : Oper} {a : Act} {K : Act → World → Prop} {Q : Exit → Act → World → Prop} {E : Prop} (hgd : op.guard = none) (x y : Operand) (ho : op.op = .store ty x y) (hx : a.eval x = .pointer (some ⟨g, k, none⟩)) (hy : a.eval y = .agg vs.toArray)
    (h : K (a.put op.dst undef) (setFrom w g k vs)) : if Region.wanted op (yielded ops a.tmps) = true then Oper.wp P op a w K Q else E := by
  have hw : Region.wanted op (yielded ops a.tmps) = true := by simp [Region.wanted, hgd]
  rw [if_pos hw]
  refine wp_store_mid (P := P) ty x y ho g k vs.toArray hx hy (fun j hj => ⟨by rw [hb.cell, Array.getElem?_eq_getElem (by simp at hj; omega)]; rfl, hb.frozen _⟩) (by simpa [hn] using hi) (all_oneCell_toArray h1) ?_
  rw [← setCells_from] at h
  simpa using h
end Go.Proofs.YthhgnngpaagagaaDoor
