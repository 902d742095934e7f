/- Contracts: the reference's element of a diagram. -/
import Derived.Test.YtkgoadglalpbfaaAmC
import Derived.Test.YtkgoadglalpbfaaF2
namespace Go.Proofs.Ytkgoadglalpbfaa
open Go.Am Go.Dia
set_option linter.unusedSimpArgs false
set_option linter.unusedVariables false
set_option maxRecDepth 4000
set_option maxHeartbeats 1000000

theorem over4_0 {a b c d x : AV} : over [a, b, c, d] 0 [x] = [x, b, c, d] := rfl
theorem over4_1 {a b c d x : AV} : over [a, b, c, d] 1 [x] = [a, x, c, d] := rfl
theorem over4_2 {a b c d x : AV} : over [a, b, c, d] 2 [x] = [a, b, x, d] := rfl
theorem over4_3 {a b c d x : AV} : over [a, b, c, d] 3 [x] = [a, b, c, x] := rfl
theorem over4_4 {a b c d x y z w : AV} : over [a, b, c, d] 0 [x, y, z, w] = [x, y, z, w] := rfl
theorem over4E : type_of% (And.intro @over4_0 (And.intro @over4_1 (And.intro @over4_2 (And.intro @over4_3 @over4_4)))) := (And.intro @over4_0 (And.intro @over4_1 (And.intro @over4_2 (And.intro @over4_3 @over4_4))))
end Go.Proofs.Ytkgoadglalpbfaa
