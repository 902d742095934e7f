/- 'FnExactProjectionOf' comes to true for every prime, number and size, whatever the order in which the program's operations are drawn, and its arguments read as before. No further condition. -/
import Derived.Test.YtfhckbbgmblhbaaZ7
namespace Go.Proofs.Ytfhckbbgmblhbaa.fnExactProjectionOf
open Go.ChangeShapes Go.WideShapes Go.ChangeAt Go.RowKit Go.Am Go.Proofs.Ytfhckbbgmblhbaa
set_option linter.unusedVariables false
set_option maxRecDepth 100000
theorem q6l : joinedFacts Try.pinned.checked.prog 12 Try.f12 Rows.fnExactProjectionOfSpec Rows.fnExactProjectionOfRow = true := by
  simp only [joinedFacts, qwi, qnj, qsp, q43, q47, q3z, qv9, q5z, q21, q6e, Bool.and_true]
  kernel_rfl
theorem proved : Rows.FnExactProjectionOfSaid :=
  OpenClaim.holds_of_wide 12 Try.f12 rfl rfl rfl rfl rfl rfl rfl ⟨rfl, rfl, rfl, rfl, rfl⟩ rfl rfl rfl rfl rfl (by kernel_rfl) Try.func12 q6l
    (of_decide_eq_true (by kernel_rfl)) (by unfold Func.isWrapper; first | (rw [if_pos (by decide +kernel)]; kernel_rfl) | (rw [if_neg (by decide +kernel)]; exact ⟨rfl, rfl⟩))
    (fun os started H enc _ => lifted os started H enc)
end Go.Proofs.Ytfhckbbgmblhbaa.fnExactProjectionOf
