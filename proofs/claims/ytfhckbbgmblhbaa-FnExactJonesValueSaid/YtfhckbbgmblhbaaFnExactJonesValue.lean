/- 'FnExactJonesValue' comes to true for every prime, number, number of strands and word, whatever the order in which the program's operations are drawn, and its arguments read as before. No further condition. -/
import Derived.Test.YtfhckbbgmblhbaaRows
import Derived.Test.YtfhckbbgmblhbaaZ6
namespace Go.Proofs.Ytfhckbbgmblhbaa.fnExactJonesValue
open Go.ChangeShapes Go.WideShapes Go.ChangeAt Go.RowKit Go.Am
set_option linter.unusedVariables false
set_option maxRecDepth 100000
theorem own : ownKnob Try.prog.godebug = none := by kernel_rfl
theorem laidOut : laidOutB Try.prog = true := by kernel_rfl
theorem full : ∀ t e, t < Try.prog.types.size → Try.prog.underlying t = some (.slice e) → 0 < Try.prog.cellsOf e := slices_full_of _ (by kernel_rfl)
theorem qwk (H : Type) (enc : TypeId × Value → H) (W : World) (args : Array Value) (ds gs : List (DataW H)) (before : List MemPlace)
    (hval : ∀ (j : Nat) (t : TypeId) (v : Value), Try.f6.params[j]? = some t → args[j]? = some v → Value.okWide Try.prog W .any 0 t v)
    (hW : DataW.Whole enc Try.prog Try.f6.params.toList Rows.fnExactJonesValueSpec.vars false W args.toList ds gs before) :
    Calls Try.prog 6 args W fun e W' => ∃ v, e = .returned v ∧ Rows.fnExactJonesValueSpec.post enc Try.prog Try.f6 false true false false W args v W' := by
  have hW' := hW
  obtain ⟨p, q, hA0, hV, rfl, hfz, hnd⟩ := hW
  have hA : DataW.TrodAll enc Try.prog W 0 (fun _ => true) true Try.f6.params.toList args.toList ds p := hA0
  rw [Try.params6] at hA
  obtain ⟨v1, vs1, d1, ds1, p1, q1, ea1, ed1, _, h1, hA⟩ := trodAll_cons hA
  obtain ⟨v2, vs2, d2, ds2, p2, q2, ea2, ed2, _, h2, hA⟩ := trodAll_cons hA
  obtain ⟨v3, vs3, d3, ds3, p3, q3, ea3, ed3, _, h3, hA⟩ := trodAll_cons hA
  obtain ⟨v4, vs4, d4, ds4, p4, q4, ea4, ed4, _, h4, hA⟩ := trodAll_cons hA
  obtain ⟨ea5, ed5, _⟩ := trodAll_nil hA
  have ea : args.toList = [v1, v2, v3, v4] := by rw [ea1, ea2, ea3, ea4, ea5]
  have hds : ds = [d1, d2, d3, d4] := by rw [ed1, ed2, ed3, ed4, ed5]
  obtain rfl : args = #[v1, v2, v3, v4] := by rw [← Array.toArray_toList (xs := args), ea]
  obtain ⟨n1, rfl, -, -, w1⟩ := open_int (k := .i64) (by kernel_rfl) (hval 0 _ v1 rfl rfl) h1
  obtain ⟨n2, rfl, -, -, w2⟩ := open_int (k := .i64) (by kernel_rfl) (hval 1 _ v2 rfl rfl) h2
  obtain ⟨n3, rfl, -, -, w3⟩ := open_int (k := .i64) (by kernel_rfl) (hval 2 _ v3 rfl rfl) h3
  obtain ⟨a4, l4, c4, rfl⟩ := Go.WideShapes.okWide_slice Try.underlying34 (hval 3 _ v4 rfl rfl)
  obtain ⟨X, Hp, ts, l, hX, hx, ho, hlen⟩ := qsm Try.underlying34 (by kernel_rfl) (by kernel_rfl) (fun _ => rfl) h4
  rw [hx] at hW' ⊢
  have hlaw := (qgo Hp X n1 n2 n3 ts hX hlen).mono (R' := fun v _ => v = .bool true) fun v H' h => h.1
  have hc := qsn hlaw (fun o h => (ho o h).2) (ι := fun _ => l) (w := W) (qxh hX ho) ⟨trivial, trivial, trivial, qml hX, trivial⟩
  refine Calls.mono hc fun e W' ⟨he, hk, hh⟩ => ⟨_, he, ?_⟩
  refine qu8 hW' rfl ?_ (t := 4) rfl (by kernel_rfl) laidOut full ?_ hk hh
  · subst hds
    obtain ⟨rfl, _⟩ := trodVars_none hV
    exact ⟨rfl, rfl, rfl⟩
  · rw [Try.params6]
    intro t ht
    simp only [List.mem_cons, List.not_mem_nil, or_false] at ht
    rcases ht with rfl | rfl | rfl | rfl <;> exact ⟨by kernel_rfl, of_decide_eq_true (by kernel_rfl)⟩
theorem lifted (os : Os) (started : os.Started) (H : Type) (enc : TypeId × Value → H) :
    ReturnsInHanded {} Try.checked os 6 .any (Rows.fnExactJonesValueSpec.pre6 enc Try.prog Try.f6 Rows.fnExactJonesValueRow.domain false) (Rows.fnExactJonesValueSpec.post enc Try.prog Try.f6 false true false false) := by
  refine returnsInHanded_of_change (C := Try.checked) own started (by kernel_rfl) Try.func6
    (ChangeSpec.witness6 (enc := enc) (C := Try.checked) false ⟨#[], #[.int .i64 0, .int .i64 0, .int .i64 0, .slice none 0 0], []⟩ 8 (by kernel_rfl) (by kernel_rfl) (by kernel_rfl) (by kernel_rfl)) ?_
  intro W base args ds gs before hval hW hcnd _
  exact qwk H enc W args ds gs before hval hW
theorem proved : Rows.FnExactJonesValueSaid :=
  OpenClaim.holds_of_wide 6 Try.f6 rfl rfl rfl rfl rfl rfl rfl ⟨rfl, rfl, rfl, rfl, rfl⟩ rfl rfl rfl rfl rfl (by kernel_rfl) Try.func6 (by kernel_rfl)
    (of_decide_eq_true (by kernel_rfl)) (by unfold Func.isWrapper; first | (rw [if_pos (by decide +kernel)]; kernel_rfl) | (rw [if_neg (by decide +kernel)]; exact ⟨rfl, rfl⟩))
    (fun os started H enc _ => lifted os started H enc)
end Go.Proofs.Ytfhckbbgmblhbaa.fnExactJonesValue
