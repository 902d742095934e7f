/- Contracts: multiples of elements. -/
import Derived.Test.YtkgoadglalpbfaaG8
namespace Go.Proofs.Ytkgoadglalpbfaa
open Go.Am Go.Dia
open Nat renaming reduceAdd → nA, reduceMul → nM, reduceSub → nS, reduceEqDiff → nE, reduceLT → nL, reduceLeDiff → nD, reduceBEq → nB
open Int renaming reduceEq → iE, reduceNe → iN, reduceBEq → iB, reduceBNe → iC, reduceLT → iL, reduceLE → iD, reduceAdd → iA, reduceSub → iS, reduceMul → iM
set_option linter.unusedSimpArgs false
set_option linter.unusedVariables false
set_option maxRecDepth 4000
set_option maxHeartbeats 1000000
abbrev qdx : AO := .cells [.int .i64 0, .int .i64 0, .int .i64 0, .v (.slice none 0 0)]
theorem Uu {p c n : Int} {a : List (Int × List Nat × Int)} (h : js p c n a = true) : (2 ≤ p ∧ p ≤ 97) ∧ (0 ≤ c ∧ c ≤ p - 1) ∧ (1 ≤ n ∧ n ≤ 8) ∧ a.length ≤ 140 := by
  simp only [js, Bool.and_eq_true, decide_eq_true_eq] at h
  have := qif h.1.1.1.1
  exact ⟨by omega, h.1.1.1.2, h.1.1.2, h.1.2⟩
abbrev ER := Int × Int × Int × List (Int × List Nat × Int) × Int
def qx3 (r : ER) : Prop := okT r.2.2.2.1 ∧ r.2.2.2.1.length ≤ 300
def B39 : z7 := B38
theorem qlp : ze Try.prog B39 := qxn
end Go.Proofs.Ytkgoadglalpbfaa
