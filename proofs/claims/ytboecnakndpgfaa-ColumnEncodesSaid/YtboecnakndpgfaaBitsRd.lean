/-
  Contracts of bits.Reader's and tidemillref02.Reader's methods.
-/
import Derived.Test.YtboecnakndpgfaaRows
import Derived.Test.YtboecnakndpgfaaArgs
import Derived.Test.YtboecnakndpgfaaBitPl
import Derived.WalkKit
import Derived.WalkSpells
import Derived.WalkLawsBesides
import Derived.Deep.QuietTactic
import Derived.BigQuiet
import Derived.Outline
import Derived.Lib.Hide
namespace Go.Proofs.Ytboecnakndpgfaa
open Go.RowKit
theorem byteElem : Elem1 Try.prog 23 5 (.int .u8 0) 1 := Elem1.mk' Try.underlying23 rfl (by kernel_rfl)

end Go.Proofs.Ytboecnakndpgfaa
