/- 'FnExactIsProjection' comes to true for every element, whatever the order in which the program's operations are drawn, and its arguments read as before. No further condition. -/
import Derived.Test.YtfhckbbgmblhbaaZ7
namespace Go.Proofs.Ytfhckbbgmblhbaa.fnExactIsProjection
open Go.ChangeShapes Go.WideShapes Go.ChangeAt Go.RowKit Go.Am Go.Proofs.Ytfhckbbgmblhbaa
set_option linter.unusedVariables false
set_option maxRecDepth 100000
theorem q2f : joinedFacts Try.pinned.checked.prog 10 Try.f10 Rows.fnExactIsProjectionSpec Rows.fnExactIsProjectionRow = true := by
  simp only [joinedFacts, qty, qjr, qpj, qzc, q04, qzv, qt9, q2y, q1n, q2x, Bool.and_true]
  kernel_rfl
theorem proved : Rows.FnExactIsProjectionSaid :=
  OpenClaim.holds_of_wide 10 Try.f10 rfl rfl rfl rfl rfl rfl rfl ⟨rfl, rfl, rfl, rfl, rfl⟩ rfl rfl rfl rfl rfl (by kernel_rfl) Try.func10 q2f
    (of_decide_eq_true (by kernel_rfl)) (by unfold Func.isWrapper; first | (rw [if_pos (by decide +kernel)]; kernel_rfl) | (rw [if_neg (by decide +kernel)]; exact ⟨rfl, rfl⟩))
    (fun os started H enc _ => lifted os started H enc)
end Go.Proofs.Ytfhckbbgmblhbaa.fnExactIsProjection
