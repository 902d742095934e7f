/- Contracts: the program's test of lists of diagrams. -/
import Derived.Test.YtkgoadglalpbfaaE9
namespace Go.Proofs.Ytkgoadglalpbfaa
open Go.Am Go.Dia
open Nat renaming reduceAdd → nA, reduceMul → nM, reduceSub → nS, reduceEqDiff → nE, reduceLT → nL, reduceLeDiff → nD, reduceBEq → nB
open Int renaming reduceEq → iE, reduceNe → iN, reduceBEq → iB, reduceBNe → iC, reduceLT → iL, reduceLE → iD, reduceAdd → iA, reduceSub → iS, reduceMul → iM
set_option linter.unusedSimpArgs false
set_option linter.unusedVariables false
set_option maxRecDepth 4000
set_option maxHeartbeats 1000000
theorem qdi (n : Int) (m : List Nat) (hm : okD m) : Am.Fn Try.prog 99 [.agg (dia n m)] [] (fun v H' => v = .bool (isS n.toNat m) ∧ H' = []) := by
  rw [Gf _ _ hm.1]; exact qe4 n m hm
theorem qef : Am.Callee Try.prog 99 (qu yd) :=
  Am.Callee.plain fun xs v he => by
    unfold yd at he
    split at he
    · split at he
      · rename_i n m hd
        cases he
        obtain ⟨rfl, hm⟩ := xa hd
        exact ⟨by simp only [AV.zs, AV.xb, qh, Bool.and_self], rfl, qdi n m hm⟩
      · cases he
    · cases he
def B18 : z7 := (B17.put 99 (qu yd))
theorem qwr : ze Try.prog B18 := (qxj.put (qef))
def B19 : z7 := B18
theorem qw2 : ze Try.prog B19 := qwr
def B20 : z7 := B19
theorem qw7 : ze Try.prog B20 := qw2
def B21 : z7 := B20
theorem qwu : ze Try.prog B21 := qw7
def B22 : z7 := B21
theorem qmr : ze Try.prog B22 := qwu
end Go.Proofs.Ytkgoadglalpbfaa
