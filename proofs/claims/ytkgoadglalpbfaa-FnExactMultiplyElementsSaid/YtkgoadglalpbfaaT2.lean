/- The types of the elements that the laws are handed, and the top of a law of one element. -/
import Derived.Test.YtkgoadglalpbfaaT1
import Derived.KernelRfl
namespace Go.Proofs.Ytkgoadglalpbfaa
open Go.Am Go.Dia Go.ChangeShapes Go.WideShapes Go.ChangeAt Go.RowKit
open Nat renaming reduceAdd → nA, reduceMul → nM, reduceSub → nS, reduceEqDiff → nE, reduceLT → nL, reduceLeDiff → nD, reduceBEq → nB
open Int renaming reduceEq → iE, reduceNe → iN, reduceBEq → iB, reduceBNe → iC, reduceLT → iL, reduceLE → iD, reduceAdd → iA, reduceSub → iS, reduceMul → iM
set_option linter.unusedSimpArgs false
set_option linter.unusedVariables false
set_option maxRecDepth 100000
theorem qsz : qgs Try.prog 24 22 100 40 5 38 2 where
  e := ⟨_, _, _, _, Try.underlying24, rfl, rfl, rfl, rfl, rfl, rfl, rfl, rfl⟩
  x := Try.underlying22
  t := ⟨_, _, Try.underlying100, rfl, rfl, rfl, rfl⟩
  d := ⟨_, _, Try.underlying40, rfl, rfl, rfl, rfl⟩
  m := Try.underlying38
  b := by kernel_rfl
  i := by kernel_rfl
  ce := by kernel_rfl
  cx := by kernel_rfl
  ct := by kernel_rfl
  cd := by kernel_rfl
  cm := by kernel_rfl
  c8 := by kernel_rfl
  ci := by kernel_rfl
end Go.Proofs.Ytkgoadglalpbfaa
