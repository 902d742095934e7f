/- Contracts: elements whose diagrams become others, whatever they become. -/
import Derived.Test.YtkgoadglalpbfaaH5
import Derived.Test.YtkgoadglalpbfaaH1
import Derived.Test.YtkgoadglalpbfaaG9
namespace Go.Proofs.Ytkgoadglalpbfaa
open Go.Am Go.Dia
open Nat renaming reduceAdd → nA, reduceMul → nM, reduceSub → nS, reduceEqDiff → nE, reduceLT → nL, reduceLeDiff → nD, reduceBEq → nB
open Int renaming reduceEq → iE, reduceNe → iN, reduceBEq → iB, reduceBNe → iC, reduceLT → iL, reduceLE → iD, reduceAdd → iA, reduceSub → iS, reduceMul → iM
set_option linter.unusedSimpArgs false
set_option linter.unusedVariables false
set_option maxRecDepth 4000
set_option maxHeartbeats 1000000
theorem Gn {n : Int} {m : List Nat} : List.take 1 (dia n m) = [.int .i64 n] := rfl
theorem Xl {x : Nat} (h : x < 16) : ((0 : Int) ≤ (x : Int) ∧ (x : Int) < ((16 : Nat) : Int)) ∧ 1 + x < 17 := by omega
end Go.Proofs.Ytkgoadglalpbfaa
