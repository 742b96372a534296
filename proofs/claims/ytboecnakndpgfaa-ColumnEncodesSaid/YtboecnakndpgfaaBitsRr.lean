/-
  Contracts of tidemillref02.Reader's methods.
-/
import Derived.Test.YtboecnakndpgfaaBitsRd
namespace Go.Proofs.Ytboecnakndpgfaa
open Go.RowKit
end Go.Proofs.Ytboecnakndpgfaa
