/- Contracts: the program's sum of elements. -/
import Derived.Test.YtkgoadglalpbfaaG7
namespace Go.Proofs.Ytkgoadglalpbfaa
open Go.Am Go.Dia
open Nat renaming reduceAdd → nA, reduceMul → nM, reduceSub → nS, reduceEqDiff → nE, reduceLT → nL, reduceLeDiff → nD, reduceBEq → nB
open Int renaming reduceEq → iE, reduceNe → iN, reduceBEq → iB, reduceBNe → iC, reduceLT → iL, reduceLE → iD, reduceAdd → iA, reduceSub → iS, reduceMul → iM
set_option linter.unusedSimpArgs false
set_option linter.unusedVariables false
set_option maxRecDepth 4000
set_option maxHeartbeats 1000000
theorem b9 (P : Program) (B : z7) (cf : Bool) (K : St → Prop) (s : St) (a : AI) (t r : AT) : Y7 P B cf (.alt a t r) K s = (Kc P B cf a (Y7 P B cf t K) s ∧ Y7 P B cf r K s) := nrX rfl
theorem Qx (P : Program) (B : z7) (cf : Bool) (K : St → Prop) (s : St) : Y7 P B cf .none K s = True := nrX rfl
theorem qoj {n M : Int} {S : List (Int × List Nat × Int)} (h : qun n M S) : (S.map txt).Nodup := by
  unfold List.Nodup
  rw [List.pairwise_map]
  refine List.Pairwise.imp_of_mem ?_ h.one
  intro a b ha hb hne e
  unfold txt at e
  have h1 := h.dia a ha
  have h2 := h.dia b hb
  rw [h1.1, h2.1] at e
  exact hne (qdt h1.2 h2.2 (h.ok a ha).1 (h.ok b hb).1 e).2
theorem qxd {n M p : Int} {S : List (Int × List Nat × Int)} (hn : 0 ≤ n ∧ n ≤ 8) (h : qun n M S) : (0 ≤ qcw S ∧ qcw S ≤ 8) ∧ (∀ t ∈ S, t.1 = qcw S) ∧ (if xx p S = [] then n else qcw S) = n := by
  match S, h with
  | [], h => exact ⟨by simp [qcw], by simp, by simp [xx]⟩
  | t :: l, h =>
    have e : qcw (t :: l) = n := (h.dia t (List.mem_cons_self ..)).1
    rw [e]
    exact ⟨hn, fun u hu => (h.dia u hu).1, by split <;> rfl⟩
theorem qut {p n k : Int} {m : List Nat} {ts : List (Int × List Nat × Int)} (h : ∀ t ∈ ts, t.1 = n) : ∀ t ∈ yy p ts n m k, t.1 = n := fun t ht => by
  rw [Kd] at ht
  split at ht
  · exact h t ht
  · rcases Vs ht with h1 | ⟨h1, _⟩
    · exact h t h1
    · exact h1
def B38 : z7 := B37
theorem qxn : ze Try.prog B38 := qw0
end Go.Proofs.Ytkgoadglalpbfaa
