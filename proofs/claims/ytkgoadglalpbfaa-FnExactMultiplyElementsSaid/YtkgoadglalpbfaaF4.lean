/- Contracts: entries for the elements of diagrams. -/
import Derived.Test.YtkgoadglalpbfaaAmC
import Derived.Test.YtkgoadglalpbfaaF3
namespace Go.Proofs.Ytkgoadglalpbfaa
open Go.Am Go.Dia
set_option linter.unusedSimpArgs false
set_option linter.unusedVariables false
set_option maxRecDepth 4000
set_option maxHeartbeats 1000000

def B24 : Book := B23

theorem B24_ok : BookOk Try.prog B24 := B23_ok

end Go.Proofs.Ytkgoadglalpbfaa
