/- Plain laws of diagrams: flips, a line at the right, and partial closures, as lists. -/
import Derived.Test.YtkgoadglalpbfaaH1
namespace Go.Proofs.Ytkgoadglalpbfaa
open Go.Am Go.Dia
open Nat renaming reduceAdd → nA, reduceMul → nM, reduceSub → nS, reduceEqDiff → nE, reduceLT → nL, reduceLeDiff → nD, reduceBEq → nB
open Int renaming reduceEq → iE, reduceNe → iN, reduceBEq → iB, reduceBNe → iC, reduceLT → iL, reduceLE → iD, reduceAdd → iA, reduceSub → iS, reduceMul → iM
set_option linter.unusedSimpArgs false
set_option linter.unusedVariables false
set_option maxRecDepth 4000
set_option maxHeartbeats 1000000
def fl (n i : Nat) : Nat := (i + n) % (2 * n)
def cl (n i : Nat) : Nat := if i < n then i else i - 1
end Go.Proofs.Ytkgoadglalpbfaa
