/- Contracts: the spec's sum of elements. -/
import Derived.Test.YtkgoadglalpbfaaG5
namespace Go.Proofs.Ytkgoadglalpbfaa
open Go.Am Go.Dia
open Nat renaming reduceAdd → nA, reduceMul → nM, reduceSub → nS, reduceEqDiff → nE, reduceLT → nL, reduceLeDiff → nD, reduceBEq → nB
open Int renaming reduceEq → iE, reduceNe → iN, reduceBEq → iB, reduceBNe → iC, reduceLT → iL, reduceLE → iD, reduceAdd → iA, reduceSub → iS, reduceMul → iM
set_option linter.unusedSimpArgs false
set_option linter.unusedVariables false
set_option maxRecDepth 4000
set_option maxHeartbeats 1000000
def qdu (p n : Int) (ts : List (Int × List Nat × Int)) : Prop := (∀ t ∈ ts, t.1 = n ∧ isS n.toNat t.2.1 = true) ∧ (∀ t ∈ ts, 1 ≤ t.2.2 ∧ t.2.2 ≤ p - 1) ∧ (ts.Pairwise fun a b => ltT a b = true)
instance {p n : Int} {ts : List (Int × List Nat × Int)} : Decidable (qdu p n ts) := by unfold qdu; infer_instance
theorem qdu.qyd {p n : Int} {ts : List (Int × List Nat × Int)} (h : qdu p n ts) (ho : okT ts) : wk p n ts := ⟨ho, h.1, h.2.1, h.2.2⟩
theorem wk.dec {p n : Int} {ts : List (Int × List Nat × Int)} (h : wk p n ts) : qdu p n ts := ⟨h.dia, h.fac, h.up⟩
def B37 : z7 := B36
theorem qw0 : ze Try.prog B37 := qwl
end Go.Proofs.Ytkgoadglalpbfaa
