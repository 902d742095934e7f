/- Contracts: the program's sum of elements. -/
import Derived.Test.YtkgoadglalpbfaaG7
namespace Go.Proofs.Ytkgoadglalpbfaa
open Go.Am Go.Dia
set_option linter.unusedSimpArgs false
set_option linter.unusedVariables false
set_option maxRecDepth 4000
set_option maxHeartbeats 1000000

theorem wbTT_alt (P : Program) (B : Book) (cf : Bool) (K : St → Prop) (s : St) (a : AI) (t r : AT) : wbTT P B cf (.alt a t r) K s = (wbOne P B cf a (wbTT P B cf t K) s ∧ wbTT P B cf r K s) := nrX rfl
theorem wbTT_no (P : Program) (B : Book) (cf : Bool) (K : St → Prop) (s : St) : wbTT P B cf .none K s = True := nrX rfl
theorem sum_apart {n M : Int} {S : List (Int × List Nat × Int)} (h : SumT n M S) : (S.map txt).Nodup := by
  unfold List.Nodup
  rw [List.pairwise_map]
  refine List.Pairwise.imp_of_mem ?_ h.one
  intro a b ha hb hne e
  unfold txt at e
  have h1 := h.dia a ha
  have h2 := h.dia b hb
  rw [h1.1, h2.1] at e
  exact hne (text_inj h1.2 h2.2 (h.ok a ha).1 (h.ok b hb).1 e).2
theorem sum_sz {n M p : Int} {S : List (Int × List Nat × Int)} (hn : 0 ≤ n ∧ n ≤ 8) (h : SumT n M S) : (0 ≤ szOf S ∧ szOf S ≤ 8) ∧ (∀ t ∈ S, t.1 = szOf S) ∧ (if restT p S = [] then n else szOf S) = n := by
  match S, h with
  | [], h => exact ⟨by simp [szOf], by simp, by simp [restT]⟩
  | t :: l, h =>
    have e : szOf (t :: l) = n := (h.dia t (List.mem_cons_self ..)).1
    rw [e]
    exact ⟨hn, fun u hu => (h.dia u hu).1, by split <;> rfl⟩
theorem putT_sz {p n k : Int} {m : List Nat} {ts : List (Int × List Nat × Int)} (h : ∀ t ∈ ts, t.1 = n) : ∀ t ∈ putT p ts n m k, t.1 = n := fun t ht => by
  rw [putT_eq] at ht
  split at ht
  · exact h t ht
  · rcases putL_mem ht with h1 | ⟨h1, _⟩
    · exact h t h1
    · exact h1
def B38 : Book := B37

theorem B38_ok : BookOk Try.prog B38 := B37_ok

end Go.Proofs.Ytkgoadglalpbfaa
