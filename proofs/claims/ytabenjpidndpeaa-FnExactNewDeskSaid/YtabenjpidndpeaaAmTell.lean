/- The abstract machine run by itself: over the program as it is read. -/
import Derived.Test.YtabenjpidndpeaaAmRun2
namespace Go.Am
set_option linter.unusedVariables false

def readF (P : Program) (f : FuncId) : Option FI :=
  match P.funcs[f]? with
  | some fn => match fn.body with
    | some c => match (fn.name == "runtime.NumGoroutine"), cCode P fn.ntmps c, cRes P fn.results.toList with
      | false, some a, some r => some ⟨fn.ntmps, a, r⟩
      | _, _, _ => none
    | none => none
  | none => none

theorem told_read (P : Program) : Told P (readF P) := by
  intro f fi h
  unfold readF at h
  split at h
  · rename_i fn hf
    split at h
    · rename_i c hb
      split at h
      · rename_i a r h1 h2 h3
        cases h
        exact ⟨fn, c, hf, hb, h1, rfl, h2, h3⟩
      · cases h
    · cases h
  · cases h

def saysTrue : Option (AV × List AO) → Bool
  | some (.bool true, _) => true
  | _ => false

theorem saysTrue_ex {o : Option (AV × List AO)} (h : saysTrue o = true) : ∃ hp, o = some (.bool true, hp) := by
  unfold saysTrue at h
  split at h
  · exact ⟨_, rfl⟩
  · cases h

/-- A closed call that comes to true. -/
theorem closed_true {P : Program} {f : FuncId} {n : Nat} (hm : P.follows .mixedOrders = true) (h : saysTrue (runF (readF P) n f [] []) = true) : Fn P f [] [] fun v _ => v = .bool true := by
  obtain ⟨hp, h⟩ := saysTrue_ex h
  exact ((run_ok hm (told_read P) n).1 f [] [] _ _ h rfl).mono fun v H' ⟨e, _⟩ => e

end Go.Am
