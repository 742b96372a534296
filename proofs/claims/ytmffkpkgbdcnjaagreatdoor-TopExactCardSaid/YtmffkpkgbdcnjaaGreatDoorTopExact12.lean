/-
  Texts of this proof, joined.
-/
import Derived.Test.YtmffkpkgbdcnjaaGreatDoorCards
import Derived.Test.YtmffkpkgbdcnjaaGreatDoorTie
import Derived.ShutString
import Derived.ChangeOld
import Derived.SizedLaws
import Derived.ChangeVars
import Derived.Lib.SmallJoins
import Derived.LaidLaws
import Derived.LaidHandle
import Derived.Stop.Joined
import Derived.Deep.DeepHandedRow
import Derived.Test.YtmffkpkgbdcnjaaGreatDoorTopExact01
set_option linter.unusedVariables false
set_option linter.unusedSimpArgs false
set_option maxRecDepth 100000
set_option maxHeartbeats 20000000
namespace Go.Proofs.YtmffkpkgbdcnjaaGreatDoor
section
theorem Lv{P:Program}(h:P.funcs.any Func.goes=false)(f:FuncId): P.goes f=false:=by
 have h':∀ fn ∈ P.funcs,Func.goes fn=false:=fun fn hm=>by
  cases e:Func.goes fn with
  | false=>rfl
  | true=>exact absurd (Array.any_eq_true'.2 ⟨fn,hm,e⟩) (by rw[h];decide)
 unfold Program.goes;rw[h,Bool.and_false,Bool.or_false];refine List.any_eq_false.2 fun g _=>?_
 cases e:P.funcs[g]? with
 | none=>simp
 | some fn=>simp[h' fn (Array.mem_of_getElem? e)]
theorem Lu{P:Program}(h:P.funcs.any Func.goes=false)(o:Option FuncId): o.any P.goes=false:=by
 cases o with
 | none=>rfl
 | some f=>exact Lv h f
theorem SC: Tryz.prog.funcs.any Func.goes=false:=by kernel_rfl
theorem QL{P:Program}{c:OpenClaim}(hs:c.start=.entering)(h:P.funcs.any Func.goes=false): false=c.goesBy P:=by
 unfold OpenClaim.goesBy Program.goesAt Program.goesFrom;rw[Lu h,hs];rfl
namespace topExact
open Go.ChangeShapes Go.WideShapes Go.ChangeAt Go.RowKit
open Go.ChangeMaps (open_string shut_string)
set_option maxHeartbeats 0 in
theorem closed: joinedFacts Tryz.pinned.checked.prog 4 Tryz.f4 (OpenSpec.ofChange Rows.topExactSpec).bare Rows.topExactRow=true:=by
 simp only[joinedFacts,Bool.and_eq_true]
 repeat' refine zN ?_ ?_
 all_goals as_aux_lemma=>kernel_rfl
end topExact
end
end Go.Proofs.YtmffkpkgbdcnjaaGreatDoor
