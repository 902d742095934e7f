/- Contracts: the statement FnExactElementOf. -/
import Derived.Test.YtkgoadglalpbfaaF8
namespace Go.Proofs.Ytkgoadglalpbfaa
open Go.Am Go.Dia
set_option linter.unusedSimpArgs false
set_option linter.unusedVariables false
set_option maxRecDepth 4000
set_option maxHeartbeats 1000000

theorem ren_el2 (p c n e : Int) (b k m : Nat) : AV.ren (shiftR m) (.tup [.agg [.int .i64 p, .int .i64 c, .int .i64 n, .slc b 0 k false 0], .int .i64 e]) = .tup [.agg [.int .i64 p, .int .i64 c, .int .i64 n, .slc (m + b) 0 k false 0], .int .i64 e] := rfl

theorem B30_i_ElementOf_F9 : B30 25 = some (newE g_elemOf) := rfl
theorem B30_s_ElementOf_F9 : B30 23 = some (newE g_elemOf) := rfl
theorem B30_w_eqElement_F9 : B30 19 = some (g_eqElement) := rfl
theorem B30_w_heldElement_F9 : B30 26 = some (g_heldElement) := rfl
theorem B30_w_markElement_F9 : B30 20 = some (g_markElement) := rfl
theorem B30_w_toDiagram_F9 : B30 24 = some (plainE g_dia) := rfl

def a_w_FnExactElementOf : AC := .seq (.region [⟨some 6, none, .op (.box (.t 2))⟩,
     ⟨some 8, none, .op (.mov (.c (.bool false)))⟩]) (.seq (.region [⟨some 18, none, .op (.mov (.t 0))⟩,
     ⟨some 19, none, .op (.mov (.t 1))⟩,
     ⟨some 20, none, .op (.loadN 17 (.t 6))⟩,
     ⟨some 21, none, .call (.c (.fn 24 [] [])) [(.t 20)]⟩,
     ⟨some 22, none, .op (.mov (.t 3))⟩,
     ⟨some 23, none, .call (.c (.fn 23 [] [])) [(.t 18), (.t 19), (.t 21), (.t 22)]⟩,
     ⟨some 17, none, .op (.mov (.t 23))⟩,
     ⟨some 24, none, .op (.ext 0 (.t 17))⟩,
     ⟨some 25, none, .op (.ext 1 (.t 17))⟩,
     ⟨some 9, none, .op (.alloc [(.int .i64 0), (.int .i64 0), (.int .i64 0), (.v (.slice none 0 0))])⟩,
     ⟨none, none, .op (.storeN 4 (.t 9) (.t 24))⟩,
     ⟨some 10, none, .op (.mov (.t 25))⟩]) (.seq (.region [⟨some 27, none, .op (.mov (.t 0))⟩,
     ⟨some 28, none, .op (.mov (.t 1))⟩,
     ⟨some 29, none, .op (.loadN 17 (.t 6))⟩,
     ⟨some 30, none, .call (.c (.fn 24 [] [])) [(.t 29)]⟩,
     ⟨some 31, none, .op (.mov (.t 3))⟩,
     ⟨some 32, none, .call (.c (.fn 25 [] [])) [(.t 27), (.t 28), (.t 30), (.t 31)]⟩,
     ⟨some 26, none, .op (.mov (.t 32))⟩,
     ⟨some 33, none, .op (.ext 0 (.t 26))⟩,
     ⟨some 34, none, .op (.ext 1 (.t 26))⟩,
     ⟨some 11, none, .op (.alloc [(.int .i64 0), (.int .i64 0), (.int .i64 0), (.v (.slice none 0 0))])⟩,
     ⟨none, none, .op (.storeN 4 (.t 11) (.t 33))⟩,
     ⟨some 12, none, .op (.mov (.t 34))⟩]) (.seq (.seq (.region [⟨some 35, none, .op (.loadN 4 (.t 11))⟩,
      ⟨some 36, none, .op (.loadN 4 (.t 9))⟩,
      ⟨some 37, none, .call (.c (.fn 19 [] [])) [(.t 35), (.t 36)]⟩,
      ⟨some 38, none, .op (.un .not (.t 37))⟩,
      ⟨some 39, none, .op (.mov (.t 38))⟩,
      ⟨some 40, some (39, false), .op (.mov (.t 12))⟩,
      ⟨some 41, some (39, false), .op (.mov (.t 10))⟩,
      ⟨some 42, some (39, false), .op (.bin .neq (.t 40) (.t 41))⟩,
      ⟨some 43, none, .op (.pick (.t 39) (.c (.bool true)) (.t 42))⟩]) (.cond 43 (.seq (.region [⟨some 8, none, .op (.mov (.c (.bool false)))⟩]) .ret) .skip)) (.seq (.region [⟨some 13, none, .op (.mov (.c (.int .i64 1)))⟩]) (.seq (.region [⟨some 44, none, .op (.loadN 4 (.t 11))⟩,
     ⟨some 45, none, .op (.mov (.t 13))⟩,
     ⟨some 46, none, .call (.c (.fn 20 [] [])) [(.t 44), (.t 45)]⟩,
     ⟨some 13, none, .op (.mov (.t 46))⟩]) (.seq (.region [⟨some 14, none, .op (.mov (.c (.int .i64 1)))⟩]) (.seq (.region [⟨some 47, none, .op (.loadN 4 (.t 11))⟩,
     ⟨some 48, none, .op (.mov (.t 14))⟩,
     ⟨some 49, none, .call (.c (.fn 26 [] [])) [(.t 47), (.t 48)]⟩,
     ⟨some 14, none, .op (.mov (.t 49))⟩]) (.seq (.seq (.region [⟨some 50, none, .op (.mov (.t 14))⟩,
      ⟨some 51, none, .op (.bin .lss (.t 50) (.c (.int .i64 0)))⟩]) (.cond 51 (.seq (.region [⟨some 8, none, .op (.mov (.c (.bool false)))⟩]) .ret) .skip)) (.seq (.seq (.region [⟨some 52, none, .op (.mov (.t 14))⟩,
      ⟨some 53, none, .op (.mov (.t 13))⟩,
      ⟨some 54, none, .op (.bin .neq (.t 52) (.t 53))⟩]) (.cond 54 (.seq (.region [⟨some 8, none, .op (.mov (.c (.bool false)))⟩]) .ret) .skip)) (.seq (.region [⟨some 56, none, .op (.mov (.t 0))⟩,
     ⟨some 57, none, .op (.mov (.t 1))⟩,
     ⟨some 58, none, .op (.loadN 17 (.t 6))⟩,
     ⟨some 59, none, .call (.c (.fn 24 [] [])) [(.t 58)]⟩,
     ⟨some 60, none, .op (.mov (.t 3))⟩,
     ⟨some 61, none, .call (.c (.fn 25 [] [])) [(.t 56), (.t 57), (.t 59), (.t 60)]⟩,
     ⟨some 55, none, .op (.mov (.t 61))⟩,
     ⟨some 62, none, .op (.ext 0 (.t 55))⟩,
     ⟨some 63, none, .op (.ext 1 (.t 55))⟩,
     ⟨some 15, none, .op (.alloc [(.int .i64 0), (.int .i64 0), (.int .i64 0), (.v (.slice none 0 0))])⟩,
     ⟨none, none, .op (.storeN 4 (.t 15) (.t 62))⟩,
     ⟨some 16, none, .op (.mov (.t 63))⟩]) (.seq (.seq (.region [⟨some 64, none, .op (.loadN 4 (.t 15))⟩,
      ⟨some 65, none, .op (.loadN 4 (.t 9))⟩,
      ⟨some 66, none, .call (.c (.fn 19 [] [])) [(.t 64), (.t 65)]⟩,
      ⟨some 67, none, .op (.un .not (.t 66))⟩,
      ⟨some 68, none, .op (.mov (.t 67))⟩,
      ⟨some 69, some (68, false), .op (.mov (.t 16))⟩,
      ⟨some 70, some (68, false), .op (.mov (.t 10))⟩,
      ⟨some 71, some (68, false), .op (.bin .neq (.t 69) (.t 70))⟩,
      ⟨some 72, none, .op (.pick (.t 68) (.c (.bool true)) (.t 71))⟩]) (.cond 72 (.seq (.region [⟨some 8, none, .op (.mov (.c (.bool false)))⟩]) .ret) .skip)) (.seq (.region [⟨some 14, none, .op (.mov (.c (.int .i64 1)))⟩]) (.seq (.region [⟨some 73, none, .op (.loadN 4 (.t 11))⟩,
     ⟨some 74, none, .op (.mov (.t 14))⟩,
     ⟨some 75, none, .call (.c (.fn 26 [] [])) [(.t 73), (.t 74)]⟩,
     ⟨some 14, none, .op (.mov (.t 75))⟩]) (.seq (.seq (.region [⟨some 76, none, .op (.mov (.t 14))⟩,
      ⟨some 77, none, .op (.bin .lss (.t 76) (.c (.int .i64 0)))⟩]) (.cond 77 (.seq (.region [⟨some 8, none, .op (.mov (.c (.bool false)))⟩]) .ret) .skip)) (.seq (.seq (.region [⟨some 78, none, .op (.mov (.t 14))⟩,
      ⟨some 79, none, .op (.mov (.t 13))⟩,
      ⟨some 80, none, .op (.bin .neq (.t 78) (.t 79))⟩]) (.cond 80 (.seq (.region [⟨some 8, none, .op (.mov (.c (.bool false)))⟩]) .ret) .skip)) (.seq (.region [⟨some 8, none, .op (.mov (.c (.bool true)))⟩]) .ret))))))))))))))))
theorem r_w_FnExactElementOf : readF Try.prog 4 = some ⟨81, a_w_FnExactElementOf, [.slot 8]⟩ := by kernel_rfl

theorem law_ElementOf (p c n : Int) (m : List Nat) (k : Int) (hm : okD m) : Am.Fn Try.prog 4 [.int .i64 p, .int .i64 c, .agg (dia n m), .int .i64 k] [] (fun v H' => v = .bool true ∧ H' = []) := by
  refine Am.Fn.sameB (R := fun v => v = _) B30_ok mixed r_w_FnExactElementOf (by simp) (by simp) ?_
  have hex : okT (elemOf p c n m k).2.2.2.1 ∧ (elemOf p c n m k).2.2.2.1.length ≤ 1 := by
    unfold elemOf
    split
    · simp [okT]
    · split
      · simp [okT]
      · simp only
        split
        · simp [okT]
        · simp [okT, hm]
  generalize he : elemOf p c n m k = r at hex
  obtain ⟨P, C, N, L, E⟩ := r
  obtain ⟨hL, hl⟩ := hex
  simp only at hL hl
  have h1 := trms_length hL
  have h2 := tsOf_trms' hL
  have h3 : tsOf L.length (trms (marks L.length 1)) = some (marks L.length 1) := by have := tsOf_trms' (okT_marks L.length 1); rwa [marks_length] at this
  have h6 : ((1 + 18 * L.length : Nat) : Int) < 0 ↔ False := iff_false_intro (by omega)
  have h4 : L.length ≤ 2000000 := by omega
  simp (maxSteps := 3000000) only [over4E, heapL, fillA, rd, wrt, wrl, AO.withl, a_w_FnExactElementOf, B30_i_ElementOf_F9, B30_s_ElementOf_F9, B30_w_eqElement_F9, B30_w_heldElement_F9, B30_w_markElement_F9, B30_w_toDiagram_F9, g_dia, g_elemOf, g_eqElement, g_heldElement, g_markElement, dia_length, hm.1, diaOf_dia hm, dia_take17 hm.1, dia_zero, dia_zero_len, over_dia0 hm.1, he, h1, h2, h3, h4, h6, Int.toNat_one, List.length_replicate, Int.reduceEq, Int.reduceNe, Int.reduceBEq, Int.reduceBNe, Int.reduceLT, Int.reduceLE, Int.reduceAdd, Int.reduceSub, Int.reduceMul, ren_el, elemV, rn_vec, rens_scal _ _ (scals_trms _), rens_scal _ _ (scals_dia _ _), ren_el2, idX_eq, wbE, ↓symP, symE, listE, AK.isCall, enumE, ev, putE, abin, aun, AV.cells, ↓reduceIte, reduceCtorEq, Nat.reduceAdd, Nat.reduceMul, Nat.reduceSub, Nat.reduceEqDiff, Nat.reduceLT, Nat.reduceLeDiff, implies_true, Back, retv, retV, AV.scal, AV.scals]; try simp only [idX_eq, ite_both, pickP_both, not_not_eq, Bool.not_eq_false, Bool.not_eq_true]
  exact ⟨rfl, rfl, rfl⟩
end Go.Proofs.Ytkgoadglalpbfaa
