/- 'FnExactIsCentralElement' comes to true for every element, whatever the order in which the program's operations are drawn, and its arguments read as before. No further condition. -/
import Derived.Test.YtkgoadglalpbfaaRows
import Derived.Test.YtkgoadglalpbfaaP6
namespace Go.Proofs.Ytkgoadglalpbfaa.fnExactIsCentralElement
open Go.ChangeShapes Go.WideShapes Go.ChangeAt Go.RowKit Go.Am
set_option linter.unusedVariables false
set_option maxRecDepth 100000
theorem own : ownKnob Try.prog.godebug = none := by kernel_rfl
theorem laidOut : laidOutB Try.prog = true := by kernel_rfl
theorem full : ∀ t e, t < Try.prog.types.size → Try.prog.underlying t = some (.slice e) → 0 < Try.prog.cellsOf e := slices_full_of _ (by kernel_rfl)
theorem quc (H : Type) (enc : TypeId × Value → H) (W : World) (args : Array Value) (ds gs : List (DataW H)) (before : List MemPlace)
    (hval : ∀ (j : Nat) (t : TypeId) (v : Value), Try.f10.params[j]? = some t → args[j]? = some v → Value.okWide Try.prog W .any 0 t v)
    (hW : DataW.Whole enc Try.prog Try.f10.params.toList Rows.fnExactIsCentralElementSpec.vars false W args.toList ds gs before) :
    Calls Try.prog 10 args W fun e W' => ∃ v, e = .returned v ∧ Rows.fnExactIsCentralElementSpec.post enc Try.prog Try.f10 false true false false W args v W' := by
  have hW' := hW
  obtain ⟨p, q, hA0, hV, rfl, hfz, hnd⟩ := hW
  have hA : DataW.TrodAll enc Try.prog W 0 (fun _ => true) true Try.f10.params.toList args.toList ds p := hA0
  rw [Try.params10] at hA
  obtain ⟨v1, vs1, d1, ds1, p1, q1, ea1, ed1, _, h1, hA⟩ := trodAll_cons hA
  obtain ⟨ea5, ed5, _⟩ := trodAll_nil hA
  have ea : args.toList = [v1] := by rw [ea1, ea5]
  have hds : ds = [d1] := by rw [ed1, ed5]
  obtain rfl : args = #[v1] := by rw [← Array.toArray_toList (xs := args), ea]
  obtain ⟨P, C, N, X, Hp, ts, l, hX, rfl, ho, hlen, _⟩ := qim qz7 (fun _ => rfl) h1
  have hlaw := (Bd Hp X P C N ts hX hlen).mono (R' := fun v _ => v = .bool true) fun v H' h => h.1
  have hc := qqy hlaw (fun o h => (ho o h).2) (ι := fun _ => l) (w := W) (qxe hX ho) ⟨⟨trivial, trivial, trivial, qlb hX, trivial⟩, trivial⟩
  refine Calls.mono hc fun e W' ⟨he, hk, hh⟩ => ⟨_, he, ?_⟩
  refine qw2 hW' rfl ?_ (t := 4) rfl (by kernel_rfl) laidOut full ?_ hk hh
  · subst hds
    obtain ⟨rfl, _⟩ := trodVars_none hV
    exact ⟨rfl, rfl, rfl⟩
  · rw [Try.params10]
    intro t ht
    simp only [List.mem_cons, List.not_mem_nil, or_false] at ht
    rcases ht with rfl
    exact ⟨by kernel_rfl, of_decide_eq_true (by kernel_rfl)⟩
theorem lifted (os : Os) (started : os.Started) (H : Type) (enc : TypeId × Value → H) :
    ReturnsInHanded {} Try.checked os 10 .any (Rows.fnExactIsCentralElementSpec.pre6 enc Try.prog Try.f10 Rows.fnExactIsCentralElementRow.domain false) (Rows.fnExactIsCentralElementSpec.post enc Try.prog Try.f10 false true false false) := by
  refine returnsInHanded_of_change (C := Try.checked) own started (by kernel_rfl) Try.func10
    (ChangeSpec.witness6 (enc := enc) (C := Try.checked) false ⟨#[], #[.agg #[.int .i64 0, .int .i64 0, .int .i64 0, .slice none 0 0]], []⟩ 8 (by kernel_rfl) (by kernel_rfl) (by kernel_rfl) (by kernel_rfl)) ?_
  intro W base args ds gs before hval hW hcnd _
  exact quc H enc W args ds gs before hval hW
theorem proved : Rows.FnExactIsCentralElementSaid :=
  OpenClaim.holds_of_wide 10 Try.f10 rfl rfl rfl rfl rfl rfl rfl ⟨rfl, rfl, rfl, rfl, rfl⟩ rfl rfl rfl rfl rfl (by kernel_rfl) Try.func10 (by kernel_rfl)
    (of_decide_eq_true (by kernel_rfl)) (by unfold Func.isWrapper; first | (rw [if_pos (by decide +kernel)]; kernel_rfl) | (rw [if_neg (by decide +kernel)]; exact ⟨rfl, rfl⟩))
    (fun os started H enc _ => lifted os started H enc)
end Go.Proofs.Ytkgoadglalpbfaa.fnExactIsCentralElement
