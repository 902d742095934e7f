/- 'FnExactTraceOfProjection' comes to true for every prime, number and size, whatever the order in which the program's operations are drawn, and its arguments read as before. No further condition. -/
import Derived.Test.YtfhckbbgmblhbaaZ7
namespace Go.Proofs.Ytfhckbbgmblhbaa.fnExactTraceOfProjection
open Go.ChangeShapes Go.WideShapes Go.ChangeAt Go.RowKit Go.Am Go.Proofs.Ytfhckbbgmblhbaa
set_option linter.unusedVariables false
set_option maxRecDepth 100000
theorem q5x : joinedFacts Try.pinned.checked.prog 9 Try.f9 Rows.fnExactTraceOfProjectionSpec Rows.fnExactTraceOfProjectionRow = true := by
  simp only [joinedFacts, qw3, qmk, qs5, q24, q3x, q2c, qu2, q6d, q32, q5f, Bool.and_true, Bool.true_and]
  kernel_rfl
theorem proved : Rows.FnExactTraceOfProjectionSaid :=
  OpenClaim.holds_of_wide 9 Try.f9 rfl rfl rfl rfl rfl rfl rfl ⟨rfl, rfl, rfl, rfl, rfl⟩ rfl rfl rfl rfl rfl (by kernel_rfl) Try.func9 q5x
    (of_decide_eq_true (by kernel_rfl)) (by unfold Func.isWrapper; first | (rw [if_pos (by decide +kernel)]; kernel_rfl) | (rw [if_neg (by decide +kernel)]; exact ⟨rfl, rfl⟩))
    (fun os started H enc _ => lifted os started H enc)
end Go.Proofs.Ytfhckbbgmblhbaa.fnExactTraceOfProjection
