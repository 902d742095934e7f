/- Contracts: elements whose diagrams become others, whatever they become. -/
import Derived.Test.YtkgoadglalpbfaaH5
import Derived.Test.YtkgoadglalpbfaaH1
import Derived.Test.YtkgoadglalpbfaaG9
namespace Go.Proofs.Ytkgoadglalpbfaa
open Go.Am Go.Dia
set_option linter.unusedSimpArgs false
set_option linter.unusedVariables false
set_option maxRecDepth 4000
set_option maxHeartbeats 1000000

theorem dia_take1' {n : Int} {m : List Nat} : List.take 1 (dia n m) = [.int .i64 n] := rfl
theorem small16 {x : Nat} (h : x < 16) : ((0 : Int) ≤ (x : Int) ∧ (x : Int) < ((16 : Nat) : Int)) ∧ 1 + x < 17 := by omega
end Go.Proofs.Ytkgoadglalpbfaa
