/- Contracts: the spec's sum of elements. -/
import Derived.Test.YtkgoadglalpbfaaG5
namespace Go.Proofs.Ytkgoadglalpbfaa
open Go.Am Go.Dia
set_option linter.unusedSimpArgs false
set_option linter.unusedVariables false
set_option maxRecDepth 4000
set_option maxHeartbeats 1000000

def goodT (p n : Int) (ts : List (Int × List Nat × Int)) : Prop := (∀ t ∈ ts, t.1 = n ∧ isS n.toNat t.2.1 = true) ∧ (∀ t ∈ ts, 1 ≤ t.2.2 ∧ t.2.2 ≤ p - 1) ∧ (ts.Pairwise fun a b => ltT a b = true)
instance {p n : Int} {ts : List (Int × List Nat × Int)} : Decidable (goodT p n ts) := by unfold goodT; infer_instance
theorem goodT.good {p n : Int} {ts : List (Int × List Nat × Int)} (h : goodT p n ts) (ho : okT ts) : GoodT p n ts := ⟨ho, h.1, h.2.1, h.2.2⟩
theorem GoodT.dec {p n : Int} {ts : List (Int × List Nat × Int)} (h : GoodT p n ts) : goodT p n ts := ⟨h.dia, h.fac, h.up⟩
def B37 : Book := B36

theorem B37_ok : BookOk Try.prog B37 := B36_ok

end Go.Proofs.Ytkgoadglalpbfaa
