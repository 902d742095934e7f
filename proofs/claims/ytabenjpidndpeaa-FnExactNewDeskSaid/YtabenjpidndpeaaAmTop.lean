/- The abstract machine: from a contract to the form in which a law is told. -/
import Derived.Test.YtabenjpidndpeaaAmTell
import Derived.ProofKit
namespace Go.Am
set_option linter.unusedVariables false

theorem hok_nil (ι : Nat → Loc) (heap : Array Obj) : HOk ι [] heap :=
  ⟨fun j o h => by simp at h, fun i j b ⟨o, h, _⟩ => by simp at h⟩

/-- A closed call that comes to true leaves all that was. -/
theorem closed_calls {P : Program} {f : FuncId} (h : Fn P f [] [] fun v _ => v = .bool true) (w : World) : Calls P f #[] w fun e w' => e = .returned (.bool true) ∧ w.keptBut w' (fun _ => False) := by
  refine (h.2 (fun _ => Loc.nil) w (hok_nil _ _) trivial).mono ?_
  rintro e w' ⟨v, H', ι', rfl, hv, _, _, _, _, _, _, _, hfr, hgrow, hos, hout, htape⟩
  subst hv
  refine ⟨rfl, World.keptBut_none_iff.2 ⟨hos, hout, fun i hi => hfr i hi fun ⟨j, o, hj, _⟩ => by simp at hj⟩⟩

end Go.Am
