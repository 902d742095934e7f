/- 'FnExactCoefficientOf' comes to true for every prime, number and diagram, whatever the order in which the program's operations are drawn, and its arguments read as before. No further condition. -/
import Derived.Test.YtfhckbbgmblhbaaZ8
namespace Go.Proofs.Ytfhckbbgmblhbaa.fnExactCoefficientOf
open Go.ChangeShapes Go.WideShapes Go.ChangeAt Go.RowKit Go.Am Go.Proofs.Ytfhckbbgmblhbaa
set_option linter.unusedVariables false
set_option maxRecDepth 100000
theorem q8r : joinedFacts Try.pinned.checked.prog 11 Try.f11 Rows.fnExactCoefficientOfSpec Rows.fnExactCoefficientOfRow = true := by
  simp only [joinedFacts, qx6, qn8, qui, q3m, q4g, q3q, qxd, q8t, q47, q68, Bool.and_true]
  kernel_rfl
theorem proved : Rows.FnExactCoefficientOfSaid :=
  OpenClaim.holds_of_wide 11 Try.f11 rfl rfl rfl rfl rfl rfl rfl ⟨rfl, rfl, rfl, rfl, rfl⟩ rfl rfl rfl rfl rfl (by kernel_rfl) Try.func11 q8r
    (of_decide_eq_true (by kernel_rfl)) (by unfold Func.isWrapper; first | (rw [if_pos (by decide +kernel)]; kernel_rfl) | (rw [if_neg (by decide +kernel)]; exact ⟨rfl, rfl⟩))
    (fun os started H enc _ => lifted os started H enc)
end Go.Proofs.Ytfhckbbgmblhbaa.fnExactCoefficientOf
