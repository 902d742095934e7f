/- Contracts: multiples of elements. -/
import Derived.Test.YtkgoadglalpbfaaG8
namespace Go.Proofs.Ytkgoadglalpbfaa
open Go.Am Go.Dia
set_option linter.unusedSimpArgs false
set_option linter.unusedVariables false
set_option maxRecDepth 4000
set_option maxHeartbeats 1000000

abbrev nilE : AO := .cells [.int .i64 0, .int .i64 0, .int .i64 0, .v (.slice none 0 0)]
theorem elem_bd {p c n : Int} {a : List (Int × List Nat × Int)} (h : elemB p c n a = true) : (2 ≤ p ∧ p ≤ 97) ∧ (0 ≤ c ∧ c ≤ p - 1) ∧ (1 ≤ n ∧ n ≤ 8) ∧ a.length ≤ 140 := by
  simp only [elemB, Bool.and_eq_true, decide_eq_true_eq] at h
  have := prime_bd h.1.1.1.1
  exact ⟨by omega, h.1.1.1.2, h.1.1.2, h.1.2⟩
/-- The entries of functions of one element that hand back an element. -/
abbrev ER := Int × Int × Int × List (Int × List Nat × Int) × Int
def okER (r : ER) : Prop := okT r.2.2.2.1 ∧ r.2.2.2.1.length ≤ 300
def B39 : Book := B38

theorem B39_ok : BookOk Try.prog B39 := B38_ok

end Go.Proofs.Ytkgoadglalpbfaa
