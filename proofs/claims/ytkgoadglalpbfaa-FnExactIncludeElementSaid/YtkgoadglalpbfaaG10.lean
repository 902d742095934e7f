/- Contracts: the statement FnExactScaleElement. -/
import Derived.Test.YtkgoadglalpbfaaG9
namespace Go.Proofs.Ytkgoadglalpbfaa
open Go.Am Go.Dia
set_option linter.unusedSimpArgs false
set_option linter.unusedVariables false
set_option maxRecDepth 4000
set_option maxHeartbeats 1000000

def okER (r : ER) : Prop := okT r.2.2.2.1 ∧ r.2.2.2.1.length ≤ 300
theorem scale_ok (p c n k : Int) (ts : List (Int × List Nat × Int)) (ho : okT ts) : okER (scaleOf p c n ts k) := by
  unfold scaleOf
  split
  · exact ⟨(fun t h => by cases h), by simp⟩
  · rename_i hE
    have hE' : elemB p c n ts = true := by cases h : elemB p c n ts <;> simp_all
    split
    · exact ⟨(fun t h => by cases h), by simp⟩
    · obtain ⟨h1, h2, h3, h4⟩ := elem_bd hE'
      have hg := sumL_good (k := k) (by omega) (goodT_nil.good (p := p) (n := n) (fun t h => by cases h)) (goodT_of ho hE')
      refine ⟨hg.1.ok, ?_⟩
      have := hg.2
      simp at this
      simp only; omega
theorem B39_i_ScaleElement_G10 : B39 28 = some (g_el1k scaleOf) := rfl
theorem B39_s_ScaleElement_G10 : B39 27 = some (g_el1k scaleOf) := rfl
theorem B39_w_eqElement_G10 : B39 19 = some (g_eqElement) := rfl
theorem B39_w_heldElement_G10 : B39 26 = some (g_heldElement) := rfl
theorem B39_w_markElement_G10 : B39 20 = some (g_markElement) := rfl
theorem B39_w_szElement_G10 : B39 14 = some (g_szElement) := rfl
theorem B39_w_toElement_G10 : B39 16 = some (g_toElement) := rfl

def a_w_FnExactScaleElement : AC := .seq (.region [⟨some 2, none, .op (.box (.t 0))⟩,
     ⟨some 4, none, .op (.mov (.c (.bool false)))⟩]) (.seq (.region [⟨some 5, none, .op (.mov (.c (.int .i64 1048576)))⟩]) (.seq (.region [⟨some 16, none, .op (.loadN 4 (.t 2))⟩,
     ⟨some 17, none, .op (.mov (.t 5))⟩,
     ⟨some 18, none, .call (.c (.fn 14 [] [])) [(.t 16), (.t 17)]⟩,
     ⟨some 5, none, .op (.mov (.t 18))⟩]) (.seq (.seq (.region [⟨some 19, none, .op (.mov (.t 5))⟩,
      ⟨some 20, none, .op (.bin .lss (.t 19) (.c (.int .i64 0)))⟩]) (.cond 20 (.seq (.region [⟨some 4, none, .op (.mov (.c (.bool true)))⟩]) .ret) .skip)) (.seq (.region [⟨some 22, none, .op (.loadN 4 (.t 2))⟩,
     ⟨some 23, none, .call (.c (.fn 16 [] [])) [(.t 22)]⟩,
     ⟨some 24, none, .op (.mov (.t 1))⟩,
     ⟨some 25, none, .call (.c (.fn 27 [] [])) [(.t 23), (.t 24)]⟩,
     ⟨some 21, none, .op (.mov (.t 25))⟩,
     ⟨some 26, none, .op (.ext 0 (.t 21))⟩,
     ⟨some 27, none, .op (.ext 1 (.t 21))⟩,
     ⟨some 6, none, .op (.alloc [(.int .i64 0), (.int .i64 0), (.int .i64 0), (.v (.slice none 0 0))])⟩,
     ⟨none, none, .op (.storeN 4 (.t 6) (.t 26))⟩,
     ⟨some 7, none, .op (.mov (.t 27))⟩]) (.seq (.region [⟨some 28, none, .op (.loadN 4 (.t 2))⟩,
     ⟨some 29, none, .call (.c (.fn 16 [] [])) [(.t 28)]⟩,
     ⟨some 8, none, .op (.alloc [(.int .i64 0), (.int .i64 0), (.int .i64 0), (.v (.slice none 0 0))])⟩,
     ⟨none, none, .op (.storeN 4 (.t 8) (.t 29))⟩]) (.seq (.region [⟨some 31, none, .op (.loadN 4 (.t 8))⟩,
     ⟨some 32, none, .op (.mov (.t 1))⟩,
     ⟨some 33, none, .call (.c (.fn 28 [] [])) [(.t 31), (.t 32)]⟩,
     ⟨some 30, none, .op (.mov (.t 33))⟩,
     ⟨some 34, none, .op (.ext 0 (.t 30))⟩,
     ⟨some 35, none, .op (.ext 1 (.t 30))⟩,
     ⟨some 9, none, .op (.alloc [(.int .i64 0), (.int .i64 0), (.int .i64 0), (.v (.slice none 0 0))])⟩,
     ⟨none, none, .op (.storeN 4 (.t 9) (.t 34))⟩,
     ⟨some 10, none, .op (.mov (.t 35))⟩]) (.seq (.seq (.region [⟨some 36, none, .op (.loadN 4 (.t 9))⟩,
      ⟨some 37, none, .op (.loadN 4 (.t 6))⟩,
      ⟨some 38, none, .call (.c (.fn 19 [] [])) [(.t 36), (.t 37)]⟩,
      ⟨some 39, none, .op (.un .not (.t 38))⟩,
      ⟨some 40, none, .op (.mov (.t 39))⟩,
      ⟨some 41, some (40, false), .op (.mov (.t 10))⟩,
      ⟨some 42, some (40, false), .op (.mov (.t 7))⟩,
      ⟨some 43, some (40, false), .op (.bin .neq (.t 41) (.t 42))⟩,
      ⟨some 44, none, .op (.pick (.t 40) (.c (.bool true)) (.t 43))⟩]) (.cond 44 (.seq (.region [⟨some 4, none, .op (.mov (.c (.bool false)))⟩]) .ret) .skip)) (.seq (.seq (.draw true [⟨some 45, none, .op (.loadN 4 (.t 8))⟩,
      ⟨some 46, none, .op (.loadN 4 (.t 2))⟩,
      ⟨some 47, none, .call (.c (.fn 16 [] [])) [(.t 46)]⟩,
      ⟨some 48, none, .call (.c (.fn 19 [] [])) [(.t 45), (.t 47)]⟩,
      ⟨some 49, none, .op (.un .not (.t 48))⟩]) (.cond 49 (.seq (.region [⟨some 4, none, .op (.mov (.c (.bool false)))⟩]) .ret) .skip)) (.seq (.region [⟨some 11, none, .op (.mov (.c (.int .i64 1)))⟩]) (.seq (.region [⟨some 50, none, .op (.loadN 4 (.t 8))⟩,
     ⟨some 51, none, .op (.mov (.t 11))⟩,
     ⟨some 52, none, .call (.c (.fn 20 [] [])) [(.t 50), (.t 51)]⟩,
     ⟨some 11, none, .op (.mov (.t 52))⟩]) (.seq (.seq (.region [⟨some 53, none, .op (.mov (.t 11))⟩,
      ⟨some 54, none, .op (.bin .lss (.t 53) (.c (.int .i64 0)))⟩,
      ⟨some 55, none, .op (.mov (.t 54))⟩,
      ⟨some 56, some (55, false), .op (.loadN 4 (.t 9))⟩,
      ⟨some 57, some (55, false), .op (.loadN 4 (.t 6))⟩,
      ⟨some 58, some (55, false), .call (.c (.fn 19 [] [])) [(.t 56), (.t 57)]⟩,
      ⟨some 59, some (55, false), .op (.un .not (.t 58))⟩,
      ⟨some 60, none, .op (.pick (.t 55) (.c (.bool true)) (.t 59))⟩,
      ⟨some 61, none, .op (.mov (.t 60))⟩,
      ⟨some 62, some (61, false), .op (.mov (.t 10))⟩,
      ⟨some 63, some (61, false), .op (.mov (.t 7))⟩,
      ⟨some 64, some (61, false), .op (.bin .neq (.t 62) (.t 63))⟩,
      ⟨some 65, none, .op (.pick (.t 61) (.c (.bool true)) (.t 64))⟩]) (.cond 65 (.seq (.region [⟨some 4, none, .op (.mov (.c (.bool false)))⟩]) .ret) .skip)) (.seq (.region [⟨some 12, none, .op (.mov (.c (.int .i64 1)))⟩]) (.seq (.region [⟨some 66, none, .op (.loadN 4 (.t 9))⟩,
     ⟨some 67, none, .op (.mov (.t 12))⟩,
     ⟨some 68, none, .call (.c (.fn 20 [] [])) [(.t 66), (.t 67)]⟩,
     ⟨some 12, none, .op (.mov (.t 68))⟩]) (.seq (.region [⟨some 13, none, .op (.mov (.c (.int .i64 1)))⟩]) (.seq (.region [⟨some 69, none, .op (.loadN 4 (.t 9))⟩,
     ⟨some 70, none, .op (.mov (.t 13))⟩,
     ⟨some 71, none, .call (.c (.fn 26 [] [])) [(.t 69), (.t 70)]⟩,
     ⟨some 13, none, .op (.mov (.t 71))⟩]) (.seq (.seq (.region [⟨some 72, none, .op (.mov (.t 13))⟩,
      ⟨some 73, none, .op (.bin .lss (.t 72) (.c (.int .i64 0)))⟩]) (.cond 73 (.seq (.region [⟨some 4, none, .op (.mov (.c (.bool false)))⟩]) .ret) .skip)) (.seq (.seq (.region [⟨some 74, none, .op (.mov (.t 13))⟩,
      ⟨some 75, none, .op (.mov (.t 12))⟩,
      ⟨some 76, none, .op (.bin .neq (.t 74) (.t 75))⟩]) (.cond 76 (.seq (.region [⟨some 4, none, .op (.mov (.c (.bool false)))⟩]) .ret) .skip)) (.seq (.region [⟨some 78, none, .op (.loadN 4 (.t 2))⟩,
     ⟨some 79, none, .call (.c (.fn 16 [] [])) [(.t 78)]⟩,
     ⟨some 80, none, .op (.mov (.t 1))⟩,
     ⟨some 81, none, .call (.c (.fn 28 [] [])) [(.t 79), (.t 80)]⟩,
     ⟨some 77, none, .op (.mov (.t 81))⟩,
     ⟨some 82, none, .op (.ext 0 (.t 77))⟩,
     ⟨some 83, none, .op (.ext 1 (.t 77))⟩,
     ⟨some 14, none, .op (.alloc [(.int .i64 0), (.int .i64 0), (.int .i64 0), (.v (.slice none 0 0))])⟩,
     ⟨none, none, .op (.storeN 4 (.t 14) (.t 82))⟩,
     ⟨some 15, none, .op (.mov (.t 83))⟩]) (.seq (.seq (.region [⟨some 84, none, .op (.loadN 4 (.t 14))⟩,
      ⟨some 85, none, .op (.loadN 4 (.t 6))⟩,
      ⟨some 86, none, .call (.c (.fn 19 [] [])) [(.t 84), (.t 85)]⟩,
      ⟨some 87, none, .op (.un .not (.t 86))⟩,
      ⟨some 88, none, .op (.mov (.t 87))⟩,
      ⟨some 89, some (88, false), .op (.mov (.t 15))⟩,
      ⟨some 90, some (88, false), .op (.mov (.t 7))⟩,
      ⟨some 91, some (88, false), .op (.bin .neq (.t 89) (.t 90))⟩,
      ⟨some 92, none, .op (.pick (.t 88) (.c (.bool true)) (.t 91))⟩]) (.cond 92 (.seq (.region [⟨some 4, none, .op (.mov (.c (.bool false)))⟩]) .ret) .skip)) (.seq (.region [⟨some 13, none, .op (.mov (.c (.int .i64 1)))⟩]) (.seq (.region [⟨some 93, none, .op (.loadN 4 (.t 9))⟩,
     ⟨some 94, none, .op (.mov (.t 13))⟩,
     ⟨some 95, none, .call (.c (.fn 26 [] [])) [(.t 93), (.t 94)]⟩,
     ⟨some 13, none, .op (.mov (.t 95))⟩]) (.seq (.seq (.region [⟨some 96, none, .op (.mov (.t 13))⟩,
      ⟨some 97, none, .op (.bin .lss (.t 96) (.c (.int .i64 0)))⟩]) (.cond 97 (.seq (.region [⟨some 4, none, .op (.mov (.c (.bool false)))⟩]) .ret) .skip)) (.seq (.seq (.region [⟨some 98, none, .op (.mov (.t 13))⟩,
      ⟨some 99, none, .op (.mov (.t 12))⟩,
      ⟨some 100, none, .op (.bin .neq (.t 98) (.t 99))⟩]) (.cond 100 (.seq (.region [⟨some 4, none, .op (.mov (.c (.bool false)))⟩]) .ret) .skip)) (.seq (.region [⟨some 4, none, .op (.mov (.c (.bool true)))⟩]) .ret))))))))))))))))))))))))
theorem r_w_FnExactScaleElement : readF Try.prog 5 = some ⟨101, a_w_FnExactScaleElement, [.slot 4]⟩ := by kernel_rfl
theorem law_ScaleElement (H : List AO) (X : AV) (p c n k : Int) (ts : List (Int × List Nat × Int)) (h : ArgX H X ts) (hl : ts.length ≤ 9223372036854775807) : Am.Fn Try.prog 5 [.agg [.int .i64 p, .int .i64 c, .int .i64 n, X], .int .i64 k] H (fun v H' => v = .bool true ∧ H' = H) := by
  refine Am.Fn.sameB (R := fun v => v = _) B39_ok mixed r_w_FnExactScaleElement (by simp) (argX_under h) ?_
  have hX := argX_arg h
  have ho := h.1
  have hH : H = [] ∨ ∃ o, H = [o] := by
    rcases h.2 with ⟨_, rfl, _⟩ | ⟨_, rfl, _⟩ | ⟨_, _, _, _, rfl, _⟩
    · exact .inl rfl
    · exact .inr ⟨_, rfl⟩
    · exact .inr ⟨_, rfl⟩
  by_cases hlt : (1048576 : Int) - ts.length < 0
  · have hif : (if (1048576 : Int) - ts.length < 0 then (-1 : Int) else 1048576 - ts.length) = -1 := if_pos hlt
    rcases hH with rfl | ⟨o, rfl⟩
    · simp only [List.nil_append] at hX
      simp (maxSteps := 3000000) only [over4E, heapL, fillA, rd, wrt, wrl, AO.withl, a_w_FnExactScaleElement, B39_i_ScaleElement_G10, B39_s_ScaleElement_G10, B39_w_eqElement_G10, B39_w_heldElement_G10, B39_w_markElement_G10, B39_w_szElement_G10, B39_w_toElement_G10, g_el1k, g_eqElement, g_heldElement, g_markElement, g_szElement, g_toElement, Int.reduceEq, Int.reduceNe, Int.reduceBEq, Int.reduceBNe, Int.reduceLT, Int.reduceLE, Int.reduceAdd, Int.reduceSub, Int.reduceMul, hX, hl, hif, idX_eq, wbE, ↓symP, symE, listE, AK.isCall, enumE, ev, putE, abin, aun, AV.cells, ↓reduceIte, reduceCtorEq, Nat.reduceAdd, Nat.reduceMul, Nat.reduceSub, Nat.reduceEqDiff, Nat.reduceLT, Nat.reduceLeDiff, implies_true, Back, retv, retV, AV.scal, AV.scals]; try simp only [idX_eq, ite_both, pickP_both, not_not_eq, Bool.not_eq_false, Bool.not_eq_true]
    · simp only [List.cons_append, List.nil_append] at hX
      simp (maxSteps := 3000000) only [over4E, heapL, fillA, rd, wrt, wrl, AO.withl, a_w_FnExactScaleElement, B39_i_ScaleElement_G10, B39_s_ScaleElement_G10, B39_w_eqElement_G10, B39_w_heldElement_G10, B39_w_markElement_G10, B39_w_szElement_G10, B39_w_toElement_G10, g_el1k, g_eqElement, g_heldElement, g_markElement, g_szElement, g_toElement, Int.reduceEq, Int.reduceNe, Int.reduceBEq, Int.reduceBNe, Int.reduceLT, Int.reduceLE, Int.reduceAdd, Int.reduceSub, Int.reduceMul, hX, hl, hif, idX_eq, wbE, ↓symP, symE, listE, AK.isCall, enumE, ev, putE, abin, aun, AV.cells, ↓reduceIte, reduceCtorEq, Nat.reduceAdd, Nat.reduceMul, Nat.reduceSub, Nat.reduceEqDiff, Nat.reduceLT, Nat.reduceLeDiff, implies_true, Back, retv, retV, AV.scal, AV.scals]; try simp only [idX_eq, ite_both, pickP_both, not_not_eq, Bool.not_eq_false, Bool.not_eq_true]
      exact ⟨_, rfl⟩
  · have hif : (if (1048576 : Int) - ts.length < 0 then (-1 : Int) else 1048576 - ts.length) = 1048576 - ts.length := if_neg hlt
    have hr := scale_ok p c n k ts ho
    generalize he : scaleOf p c n ts k = r at hr
    obtain ⟨P, C, N, L, E⟩ := r
    obtain ⟨hL, hLl⟩ := hr
    simp only at hL hLl
    have b0 := trms_length ho
    have b1 := tsOf_trms' ho
    have h1 := trms_length hL
    have h2 := tsOf_trms' hL
    have h3 : tsOf L.length (trms (marks L.length 1)) = some (marks L.length 1) := by have := tsOf_trms' (okT_marks L.length 1); rwa [marks_length] at this
    have h6 : ((1 + 18 * L.length : Nat) : Int) < 0 ↔ False := iff_false_intro (by omega)
    have h7 : ((1 + 18 * ts.length : Nat) : Int) < 0 ↔ False := iff_false_intro (by omega)
    have h4 : L.length ≤ 2000000 := by omega
    have h8 : ts.length ≤ 1100000 := by omega
    have h9 : ts.length ≤ 2000000 := by omega
    rcases hH with rfl | ⟨o, rfl⟩
    · simp only [List.nil_append] at hX
      simp (maxSteps := 3000000) only [over4E, heapL, fillA, rd, wrt, wrl, AO.withl, a_w_FnExactScaleElement, B39_i_ScaleElement_G10, B39_s_ScaleElement_G10, B39_w_eqElement_G10, B39_w_heldElement_G10, B39_w_markElement_G10, B39_w_szElement_G10, B39_w_toElement_G10, g_el1k, g_eqElement, g_heldElement, g_markElement, g_szElement, g_toElement, Int.reduceEq, Int.reduceNe, Int.reduceBEq, Int.reduceBNe, Int.reduceLT, Int.reduceLE, Int.reduceAdd, Int.reduceSub, Int.reduceMul, ren_el, elemV, rn_vec, rens_scal _ _ (scals_trms _), rens_scal _ _ (scals_dia _ _), hX, hl, hif, hlt, he, b0, b1, h1, h2, h3, h4, h6, h7, h8, h9, Int.toNat_one, ren_el2, idX_eq, wbE, ↓symP, symE, listE, AK.isCall, enumE, ev, putE, abin, aun, AV.cells, ↓reduceIte, reduceCtorEq, Nat.reduceAdd, Nat.reduceMul, Nat.reduceSub, Nat.reduceEqDiff, Nat.reduceLT, Nat.reduceLeDiff, implies_true, Back, retv, retV, AV.scal, AV.scals]; try simp only [idX_eq, ite_both, pickP_both, not_not_eq, Bool.not_eq_false, Bool.not_eq_true]
      exact ⟨rfl, rfl, rfl, ⟨_, rfl⟩, ⟨_, rfl⟩, rfl⟩
    · simp only [List.cons_append, List.nil_append] at hX
      simp (maxSteps := 3000000) only [over4E, heapL, fillA, rd, wrt, wrl, AO.withl, a_w_FnExactScaleElement, B39_i_ScaleElement_G10, B39_s_ScaleElement_G10, B39_w_eqElement_G10, B39_w_heldElement_G10, B39_w_markElement_G10, B39_w_szElement_G10, B39_w_toElement_G10, g_el1k, g_eqElement, g_heldElement, g_markElement, g_szElement, g_toElement, Int.reduceEq, Int.reduceNe, Int.reduceBEq, Int.reduceBNe, Int.reduceLT, Int.reduceLE, Int.reduceAdd, Int.reduceSub, Int.reduceMul, ren_el, elemV, rn_vec, rens_scal _ _ (scals_trms _), rens_scal _ _ (scals_dia _ _), hX, hl, hif, hlt, he, b0, b1, h1, h2, h3, h4, h6, h7, h8, h9, Int.toNat_one, ren_el2, idX_eq, wbE, ↓symP, symE, listE, AK.isCall, enumE, ev, putE, abin, aun, AV.cells, ↓reduceIte, reduceCtorEq, Nat.reduceAdd, Nat.reduceMul, Nat.reduceSub, Nat.reduceEqDiff, Nat.reduceLT, Nat.reduceLeDiff, implies_true, Back, retv, retV, AV.scal, AV.scals]; try simp only [idX_eq, ite_both, pickP_both, not_not_eq, Bool.not_eq_false, Bool.not_eq_true]
      exact ⟨rfl, rfl, rfl, ⟨_, rfl⟩, ⟨_, rfl⟩, rfl, ⟨_, rfl⟩⟩
end Go.Proofs.Ytkgoadglalpbfaa
