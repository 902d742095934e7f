/- Contracts: the statement FnExactMultiplyElements. -/
import Derived.Test.YtkgoadglalpbfaaM4
namespace Go.Proofs.Ytkgoadglalpbfaa
open Go.Am Go.Dia
set_option linter.unusedSimpArgs false
set_option linter.unusedVariables false
set_option maxRecDepth 4000
set_option maxHeartbeats 1000000

theorem B89_i_MultiplyElements_M5 : B89 40 = some (g_el2 mulOf) := rfl
theorem B89_s_MultiplyElements_M5 : B89 39 = some (g_el2 mulOf) := rfl
theorem B89_w_eqElement_M5 : B89 19 = some (g_eqElement) := rfl
theorem B89_w_heldElement_M5 : B89 26 = some (g_heldElement) := rfl
theorem B89_w_markElement_M5 : B89 20 = some (g_markElement) := rfl
theorem B89_w_szElement_M5 : B89 14 = some (g_szElement) := rfl
theorem B89_w_toElement_M5 : B89 16 = some (g_toElement) := rfl
def a_w_FnExactMultiplyElements_t1 : AT := (.one ⟨some 28, none, .op (.loadN 4 (.t 2))⟩
     (.one ⟨some 30, none, .op (.loadN 4 (.t 3))⟩
     (.alt ⟨some 29, none, .call (.c (.fn 16 [] [])) [(.t 28)]⟩
     (.alt ⟨some 31, none, .call (.c (.fn 16 [] [])) [(.t 30)]⟩
      (.alt ⟨some 32, none, .call (.c (.fn 39 [] [])) [(.t 29), (.t 31)]⟩
       (.one ⟨some 27, none, .op (.mov (.t 32))⟩
        (.one ⟨some 33, none, .op (.ext 0 (.t 27))⟩
        (.one ⟨some 34, none, .op (.ext 1 (.t 27))⟩
        (.one ⟨some 6, none, .op (.alloc [(.int .i64 0), (.int .i64 0), (.int .i64 0), (.v (.slice none 0 0))])⟩
        (.one ⟨none, none, .op (.storeN 4 (.t 6) (.t 33))⟩
        (.one ⟨some 7, none, .op (.mov (.t 34))⟩
        (.nil)))))))
       (.alt ⟨some 6, none, .op (.alloc [(.int .i64 0), (.int .i64 0), (.int .i64 0), (.v (.slice none 0 0))])⟩
       (.one ⟨some 32, none, .call (.c (.fn 39 [] [])) [(.t 29), (.t 31)]⟩
        (.one ⟨some 27, none, .op (.mov (.t 32))⟩
        (.one ⟨some 33, none, .op (.ext 0 (.t 27))⟩
        (.one ⟨some 34, none, .op (.ext 1 (.t 27))⟩
        (.one ⟨none, none, .op (.storeN 4 (.t 6) (.t 33))⟩
        (.one ⟨some 7, none, .op (.mov (.t 34))⟩
        (.nil)))))))
       (.none)))
      (.alt ⟨some 6, none, .op (.alloc [(.int .i64 0), (.int .i64 0), (.int .i64 0), (.v (.slice none 0 0))])⟩
      (.one ⟨some 31, none, .call (.c (.fn 16 [] [])) [(.t 30)]⟩
       (.one ⟨some 32, none, .call (.c (.fn 39 [] [])) [(.t 29), (.t 31)]⟩
       (.one ⟨some 27, none, .op (.mov (.t 32))⟩
       (.one ⟨some 33, none, .op (.ext 0 (.t 27))⟩
       (.one ⟨some 34, none, .op (.ext 1 (.t 27))⟩
       (.one ⟨none, none, .op (.storeN 4 (.t 6) (.t 33))⟩
       (.one ⟨some 7, none, .op (.mov (.t 34))⟩
       (.nil))))))))
      (.none)))
     (.alt ⟨some 6, none, .op (.alloc [(.int .i64 0), (.int .i64 0), (.int .i64 0), (.v (.slice none 0 0))])⟩
     (.one ⟨some 29, none, .call (.c (.fn 16 [] [])) [(.t 28)]⟩
      (.one ⟨some 31, none, .call (.c (.fn 16 [] [])) [(.t 30)]⟩
      (.one ⟨some 32, none, .call (.c (.fn 39 [] [])) [(.t 29), (.t 31)]⟩
      (.one ⟨some 27, none, .op (.mov (.t 32))⟩
      (.one ⟨some 33, none, .op (.ext 0 (.t 27))⟩
      (.one ⟨some 34, none, .op (.ext 1 (.t 27))⟩
      (.one ⟨none, none, .op (.storeN 4 (.t 6) (.t 33))⟩
      (.one ⟨some 7, none, .op (.mov (.t 34))⟩
      (.nil)))))))))
     (.none)))))
def a_w_FnExactMultiplyElements_t2 : AT := (.one ⟨some 95, none, .op (.loadN 4 (.t 2))⟩
     (.one ⟨some 97, none, .op (.loadN 4 (.t 3))⟩
     (.alt ⟨some 96, none, .call (.c (.fn 16 [] [])) [(.t 95)]⟩
     (.alt ⟨some 98, none, .call (.c (.fn 16 [] [])) [(.t 97)]⟩
      (.alt ⟨some 99, none, .call (.c (.fn 40 [] [])) [(.t 96), (.t 98)]⟩
       (.one ⟨some 94, none, .op (.mov (.t 99))⟩
        (.one ⟨some 100, none, .op (.ext 0 (.t 94))⟩
        (.one ⟨some 101, none, .op (.ext 1 (.t 94))⟩
        (.one ⟨some 15, none, .op (.alloc [(.int .i64 0), (.int .i64 0), (.int .i64 0), (.v (.slice none 0 0))])⟩
        (.one ⟨none, none, .op (.storeN 4 (.t 15) (.t 100))⟩
        (.one ⟨some 16, none, .op (.mov (.t 101))⟩
        (.nil)))))))
       (.alt ⟨some 15, none, .op (.alloc [(.int .i64 0), (.int .i64 0), (.int .i64 0), (.v (.slice none 0 0))])⟩
       (.one ⟨some 99, none, .call (.c (.fn 40 [] [])) [(.t 96), (.t 98)]⟩
        (.one ⟨some 94, none, .op (.mov (.t 99))⟩
        (.one ⟨some 100, none, .op (.ext 0 (.t 94))⟩
        (.one ⟨some 101, none, .op (.ext 1 (.t 94))⟩
        (.one ⟨none, none, .op (.storeN 4 (.t 15) (.t 100))⟩
        (.one ⟨some 16, none, .op (.mov (.t 101))⟩
        (.nil)))))))
       (.none)))
      (.alt ⟨some 15, none, .op (.alloc [(.int .i64 0), (.int .i64 0), (.int .i64 0), (.v (.slice none 0 0))])⟩
      (.one ⟨some 98, none, .call (.c (.fn 16 [] [])) [(.t 97)]⟩
       (.one ⟨some 99, none, .call (.c (.fn 40 [] [])) [(.t 96), (.t 98)]⟩
       (.one ⟨some 94, none, .op (.mov (.t 99))⟩
       (.one ⟨some 100, none, .op (.ext 0 (.t 94))⟩
       (.one ⟨some 101, none, .op (.ext 1 (.t 94))⟩
       (.one ⟨none, none, .op (.storeN 4 (.t 15) (.t 100))⟩
       (.one ⟨some 16, none, .op (.mov (.t 101))⟩
       (.nil))))))))
      (.none)))
     (.alt ⟨some 15, none, .op (.alloc [(.int .i64 0), (.int .i64 0), (.int .i64 0), (.v (.slice none 0 0))])⟩
     (.one ⟨some 96, none, .call (.c (.fn 16 [] [])) [(.t 95)]⟩
      (.one ⟨some 98, none, .call (.c (.fn 16 [] [])) [(.t 97)]⟩
      (.one ⟨some 99, none, .call (.c (.fn 40 [] [])) [(.t 96), (.t 98)]⟩
      (.one ⟨some 94, none, .op (.mov (.t 99))⟩
      (.one ⟨some 100, none, .op (.ext 0 (.t 94))⟩
      (.one ⟨some 101, none, .op (.ext 1 (.t 94))⟩
      (.one ⟨none, none, .op (.storeN 4 (.t 15) (.t 100))⟩
      (.one ⟨some 16, none, .op (.mov (.t 101))⟩
      (.nil)))))))))
     (.none)))))
def a_w_FnExactMultiplyElements_k1 : AC := .seq (.seq (.region [⟨some 102, none, .op (.loadN 4 (.t 15))⟩,
      ⟨some 103, none, .op (.loadN 4 (.t 6))⟩,
      ⟨some 104, none, .call (.c (.fn 19 [] [])) [(.t 102), (.t 103)]⟩,
      ⟨some 105, none, .op (.un .not (.t 104))⟩,
      ⟨some 106, none, .op (.mov (.t 105))⟩,
      ⟨some 107, some (106, false), .op (.mov (.t 16))⟩,
      ⟨some 108, some (106, false), .op (.mov (.t 7))⟩,
      ⟨some 109, some (106, false), .op (.bin .neq (.t 107) (.t 108))⟩,
      ⟨some 110, none, .op (.pick (.t 106) (.c (.bool true)) (.t 109))⟩]) (.cond 110 (.seq (.region [⟨some 4, none, .op (.mov (.c (.bool false)))⟩]) .ret) .skip)) (.seq (.region [⟨some 14, none, .op (.mov (.c (.int .i64 1)))⟩]) (.seq (.region [⟨some 111, none, .op (.loadN 4 (.t 10))⟩,
     ⟨some 112, none, .op (.mov (.t 14))⟩,
     ⟨some 113, none, .call (.c (.fn 26 [] [])) [(.t 111), (.t 112)]⟩,
     ⟨some 14, none, .op (.mov (.t 113))⟩]) (.seq (.seq (.region [⟨some 114, none, .op (.mov (.t 14))⟩,
      ⟨some 115, none, .op (.bin .lss (.t 114) (.c (.int .i64 0)))⟩]) (.cond 115 (.seq (.region [⟨some 4, none, .op (.mov (.c (.bool false)))⟩]) .ret) .skip)) (.seq (.seq (.region [⟨some 116, none, .op (.mov (.t 14))⟩,
      ⟨some 117, none, .op (.mov (.t 13))⟩,
      ⟨some 118, none, .op (.bin .neq (.t 116) (.t 117))⟩]) (.cond 118 (.seq (.region [⟨some 4, none, .op (.mov (.c (.bool false)))⟩]) .ret) .skip)) (.seq (.region [⟨some 4, none, .op (.mov (.c (.bool true)))⟩]) .ret)))))
def a_w_FnExactMultiplyElements_k2 : AC := .seq (.region [⟨some 35, none, .op (.loadN 4 (.t 2))⟩,
     ⟨some 36, none, .call (.c (.fn 16 [] [])) [(.t 35)]⟩,
     ⟨some 8, none, .op (.alloc [(.int .i64 0), (.int .i64 0), (.int .i64 0), (.v (.slice none 0 0))])⟩,
     ⟨none, none, .op (.storeN 4 (.t 8) (.t 36))⟩]) (.seq (.region [⟨some 37, none, .op (.loadN 4 (.t 3))⟩,
     ⟨some 38, none, .call (.c (.fn 16 [] [])) [(.t 37)]⟩,
     ⟨some 9, none, .op (.alloc [(.int .i64 0), (.int .i64 0), (.int .i64 0), (.v (.slice none 0 0))])⟩,
     ⟨none, none, .op (.storeN 4 (.t 9) (.t 38))⟩]) (.seq (.region [⟨some 40, none, .op (.loadN 4 (.t 8))⟩,
     ⟨some 41, none, .op (.loadN 4 (.t 9))⟩,
     ⟨some 42, none, .call (.c (.fn 40 [] [])) [(.t 40), (.t 41)]⟩,
     ⟨some 39, none, .op (.mov (.t 42))⟩,
     ⟨some 43, none, .op (.ext 0 (.t 39))⟩,
     ⟨some 44, none, .op (.ext 1 (.t 39))⟩,
     ⟨some 10, none, .op (.alloc [(.int .i64 0), (.int .i64 0), (.int .i64 0), (.v (.slice none 0 0))])⟩,
     ⟨none, none, .op (.storeN 4 (.t 10) (.t 43))⟩,
     ⟨some 11, none, .op (.mov (.t 44))⟩]) (.seq (.seq (.region [⟨some 45, none, .op (.loadN 4 (.t 10))⟩,
      ⟨some 46, none, .op (.loadN 4 (.t 6))⟩,
      ⟨some 47, none, .call (.c (.fn 19 [] [])) [(.t 45), (.t 46)]⟩,
      ⟨some 48, none, .op (.un .not (.t 47))⟩,
      ⟨some 49, none, .op (.mov (.t 48))⟩,
      ⟨some 50, some (49, false), .op (.mov (.t 11))⟩,
      ⟨some 51, some (49, false), .op (.mov (.t 7))⟩,
      ⟨some 52, some (49, false), .op (.bin .neq (.t 50) (.t 51))⟩,
      ⟨some 53, none, .op (.pick (.t 49) (.c (.bool true)) (.t 52))⟩]) (.cond 53 (.seq (.region [⟨some 4, none, .op (.mov (.c (.bool false)))⟩]) .ret) .skip)) (.seq (.seq (.draw true [⟨some 54, none, .op (.loadN 4 (.t 8))⟩,
      ⟨some 55, none, .op (.loadN 4 (.t 2))⟩,
      ⟨some 56, none, .call (.c (.fn 16 [] [])) [(.t 55)]⟩,
      ⟨some 57, none, .call (.c (.fn 19 [] [])) [(.t 54), (.t 56)]⟩,
      ⟨some 58, none, .op (.un .not (.t 57))⟩]) (.cond 58 (.seq (.region [⟨some 4, none, .op (.mov (.c (.bool false)))⟩]) .ret) .skip)) (.seq (.seq (.draw true [⟨some 59, none, .op (.loadN 4 (.t 9))⟩,
      ⟨some 60, none, .op (.loadN 4 (.t 3))⟩,
      ⟨some 61, none, .call (.c (.fn 16 [] [])) [(.t 60)]⟩,
      ⟨some 62, none, .call (.c (.fn 19 [] [])) [(.t 59), (.t 61)]⟩,
      ⟨some 63, none, .op (.un .not (.t 62))⟩]) (.cond 63 (.seq (.region [⟨some 4, none, .op (.mov (.c (.bool false)))⟩]) .ret) .skip)) (.seq (.region [⟨some 12, none, .op (.mov (.c (.int .i64 1)))⟩]) (.seq (.region [⟨some 64, none, .op (.loadN 4 (.t 8))⟩,
     ⟨some 65, none, .op (.mov (.t 12))⟩,
     ⟨some 66, none, .call (.c (.fn 20 [] [])) [(.t 64), (.t 65)]⟩,
     ⟨some 12, none, .op (.mov (.t 66))⟩]) (.seq (.region [⟨some 67, none, .op (.loadN 4 (.t 9))⟩,
     ⟨some 68, none, .op (.mov (.t 12))⟩,
     ⟨some 69, none, .call (.c (.fn 20 [] [])) [(.t 67), (.t 68)]⟩,
     ⟨some 12, none, .op (.mov (.t 69))⟩]) (.seq (.seq (.region [⟨some 70, none, .op (.mov (.t 12))⟩,
      ⟨some 71, none, .op (.bin .lss (.t 70) (.c (.int .i64 0)))⟩,
      ⟨some 72, none, .op (.mov (.t 71))⟩,
      ⟨some 73, some (72, false), .op (.loadN 4 (.t 10))⟩,
      ⟨some 74, some (72, false), .op (.loadN 4 (.t 6))⟩,
      ⟨some 75, some (72, false), .call (.c (.fn 19 [] [])) [(.t 73), (.t 74)]⟩,
      ⟨some 76, some (72, false), .op (.un .not (.t 75))⟩,
      ⟨some 77, none, .op (.pick (.t 72) (.c (.bool true)) (.t 76))⟩,
      ⟨some 78, none, .op (.mov (.t 77))⟩,
      ⟨some 79, some (78, false), .op (.mov (.t 11))⟩,
      ⟨some 80, some (78, false), .op (.mov (.t 7))⟩,
      ⟨some 81, some (78, false), .op (.bin .neq (.t 79) (.t 80))⟩,
      ⟨some 82, none, .op (.pick (.t 78) (.c (.bool true)) (.t 81))⟩]) (.cond 82 (.seq (.region [⟨some 4, none, .op (.mov (.c (.bool false)))⟩]) .ret) .skip)) (.seq (.region [⟨some 13, none, .op (.mov (.c (.int .i64 1)))⟩]) (.seq (.region [⟨some 83, none, .op (.loadN 4 (.t 10))⟩,
     ⟨some 84, none, .op (.mov (.t 13))⟩,
     ⟨some 85, none, .call (.c (.fn 20 [] [])) [(.t 83), (.t 84)]⟩,
     ⟨some 13, none, .op (.mov (.t 85))⟩]) (.seq (.region [⟨some 14, none, .op (.mov (.c (.int .i64 1)))⟩]) (.seq (.region [⟨some 86, none, .op (.loadN 4 (.t 10))⟩,
     ⟨some 87, none, .op (.mov (.t 14))⟩,
     ⟨some 88, none, .call (.c (.fn 26 [] [])) [(.t 86), (.t 87)]⟩,
     ⟨some 14, none, .op (.mov (.t 88))⟩]) (.seq (.seq (.region [⟨some 89, none, .op (.mov (.t 14))⟩,
      ⟨some 90, none, .op (.bin .lss (.t 89) (.c (.int .i64 0)))⟩]) (.cond 90 (.seq (.region [⟨some 4, none, .op (.mov (.c (.bool false)))⟩]) .ret) .skip)) (.seq (.seq (.region [⟨some 91, none, .op (.mov (.t 14))⟩,
      ⟨some 92, none, .op (.mov (.t 13))⟩,
      ⟨some 93, none, .op (.bin .neq (.t 91) (.t 92))⟩]) (.cond 93 (.seq (.region [⟨some 4, none, .op (.mov (.c (.bool false)))⟩]) .ret) .skip)) (.seq (.tree true a_w_FnExactMultiplyElements_t2) a_w_FnExactMultiplyElements_k1))))))))))))))))
def a_w_FnExactMultiplyElements : AC := .seq (.region [⟨some 2, none, .op (.box (.t 0))⟩,
     ⟨some 3, none, .op (.box (.t 1))⟩,
     ⟨some 4, none, .op (.mov (.c (.bool false)))⟩]) (.seq (.region [⟨some 5, none, .op (.mov (.c (.int .i64 1048576)))⟩]) (.seq (.region [⟨some 17, none, .op (.loadN 4 (.t 2))⟩,
     ⟨some 18, none, .op (.mov (.t 5))⟩,
     ⟨some 19, none, .call (.c (.fn 14 [] [])) [(.t 17), (.t 18)]⟩,
     ⟨some 5, none, .op (.mov (.t 19))⟩]) (.seq (.seq (.region [⟨some 20, none, .op (.mov (.t 5))⟩,
      ⟨some 21, none, .op (.bin .lss (.t 20) (.c (.int .i64 0)))⟩]) (.cond 21 (.seq (.region [⟨some 4, none, .op (.mov (.c (.bool true)))⟩]) .ret) .skip)) (.seq (.region [⟨some 22, none, .op (.loadN 4 (.t 3))⟩,
     ⟨some 23, none, .op (.mov (.t 5))⟩,
     ⟨some 24, none, .call (.c (.fn 14 [] [])) [(.t 22), (.t 23)]⟩,
     ⟨some 5, none, .op (.mov (.t 24))⟩]) (.seq (.seq (.region [⟨some 25, none, .op (.mov (.t 5))⟩,
      ⟨some 26, none, .op (.bin .lss (.t 25) (.c (.int .i64 0)))⟩]) (.cond 26 (.seq (.region [⟨some 4, none, .op (.mov (.c (.bool true)))⟩]) .ret) .skip)) (.seq (.tree true a_w_FnExactMultiplyElements_t1) a_w_FnExactMultiplyElements_k2))))))
theorem r_w_FnExactMultiplyElements : readF Try.prog 11 = some ⟨119, a_w_FnExactMultiplyElements, [.slot 4]⟩ := by kernel_rfl
theorem law_MultiplyElements (H : List AO) (X Y : AV) (p c n p' c' n' : Int) (ts us : List (Int × List Nat × Int)) (h : ArgXY H X Y ts us) (hl : ts.length ≤ 9223372036854775807 ∧ us.length ≤ 9223372036854775807) :
    Am.Fn Try.prog 11 [.agg [.int .i64 p, .int .i64 c, .int .i64 n, X], .agg [.int .i64 p', .int .i64 c', .int .i64 n', Y]] H (fun v H' => v = .bool true ∧ H' = H) := by
  refine Am.Fn.sameB (R := fun v => v = _) B89_ok mixed r_w_FnExactMultiplyElements (by simp) h.un ?_
  have hX := h.x
  have hY := h.y
  have ho := h.ok.1
  have ho2 := h.ok.2
  have hl1 := hl.1
  have hl2 := hl.2
  by_cases hlt : (1048576 : Int) - ts.length < 0
  · have hif : (if (1048576 : Int) - ts.length < 0 then (-1 : Int) else 1048576 - ts.length) = -1 := if_pos hlt
    rcases h.h with rfl | ⟨o, rfl⟩ | ⟨o, o', rfl⟩
    · simp only [List.nil_append] at hX
      simp (maxSteps := 3000000) only [over4E, heapL, fillA, rd, wrt, wrl, AO.withl, a_w_FnExactMultiplyElements, B89_i_MultiplyElements_M5, B89_s_MultiplyElements_M5, B89_w_eqElement_M5, B89_w_heldElement_M5, B89_w_markElement_M5, B89_w_szElement_M5, B89_w_toElement_M5, g_el2, g_eqElement, g_heldElement, g_markElement, g_szElement, g_toElement, Int.reduceEq, Int.reduceNe, Int.reduceBEq, Int.reduceBNe, Int.reduceLT, Int.reduceLE, Int.reduceAdd, Int.reduceSub, Int.reduceMul, hX, hl1, hif, idX_eq, wbE, ↓symP, symE, listE, AK.isCall, enumE, ev, putE, abin, aun, AV.cells, ↓reduceIte, reduceCtorEq, Nat.reduceAdd, Nat.reduceMul, Nat.reduceSub, Nat.reduceEqDiff, Nat.reduceLT, Nat.reduceLeDiff, implies_true, Back, retv, retV, AV.scal, AV.scals]; try simp only [idX_eq, ite_both, pickP_both, not_not_eq, Bool.not_eq_false, Bool.not_eq_true]
    · simp only [List.cons_append, List.nil_append] at hX
      simp (maxSteps := 3000000) only [over4E, heapL, fillA, rd, wrt, wrl, AO.withl, a_w_FnExactMultiplyElements, B89_i_MultiplyElements_M5, B89_s_MultiplyElements_M5, B89_w_eqElement_M5, B89_w_heldElement_M5, B89_w_markElement_M5, B89_w_szElement_M5, B89_w_toElement_M5, g_el2, g_eqElement, g_heldElement, g_markElement, g_szElement, g_toElement, Int.reduceEq, Int.reduceNe, Int.reduceBEq, Int.reduceBNe, Int.reduceLT, Int.reduceLE, Int.reduceAdd, Int.reduceSub, Int.reduceMul, hX, hl1, hif, idX_eq, wbE, ↓symP, symE, listE, AK.isCall, enumE, ev, putE, abin, aun, AV.cells, ↓reduceIte, reduceCtorEq, Nat.reduceAdd, Nat.reduceMul, Nat.reduceSub, Nat.reduceEqDiff, Nat.reduceLT, Nat.reduceLeDiff, implies_true, Back, retv, retV, AV.scal, AV.scals]; try simp only [idX_eq, ite_both, pickP_both, not_not_eq, Bool.not_eq_false, Bool.not_eq_true]
      exact ⟨_, rfl⟩
    · simp only [List.cons_append, List.nil_append] at hX
      simp (maxSteps := 3000000) only [over4E, heapL, fillA, rd, wrt, wrl, AO.withl, a_w_FnExactMultiplyElements, B89_i_MultiplyElements_M5, B89_s_MultiplyElements_M5, B89_w_eqElement_M5, B89_w_heldElement_M5, B89_w_markElement_M5, B89_w_szElement_M5, B89_w_toElement_M5, g_el2, g_eqElement, g_heldElement, g_markElement, g_szElement, g_toElement, Int.reduceEq, Int.reduceNe, Int.reduceBEq, Int.reduceBNe, Int.reduceLT, Int.reduceLE, Int.reduceAdd, Int.reduceSub, Int.reduceMul, hX, hl1, hif, idX_eq, wbE, ↓symP, symE, listE, AK.isCall, enumE, ev, putE, abin, aun, AV.cells, ↓reduceIte, reduceCtorEq, Nat.reduceAdd, Nat.reduceMul, Nat.reduceSub, Nat.reduceEqDiff, Nat.reduceLT, Nat.reduceLeDiff, implies_true, Back, retv, retV, AV.scal, AV.scals]; try simp only [idX_eq, ite_both, pickP_both, not_not_eq, Bool.not_eq_false, Bool.not_eq_true]
      exact ⟨_, rfl⟩
  have hif : (if (1048576 : Int) - ts.length < 0 then (-1 : Int) else 1048576 - ts.length) = 1048576 - ts.length := if_neg hlt
  have c1 : (0 : Int) ≤ 1048576 - ts.length ∧ 1048576 - (ts.length : Int) ≤ 1000000000 := by omega
  by_cases hlt2 : (1048576 : Int) - ts.length - us.length < 0
  · have hif2 : (if (1048576 : Int) - ts.length - us.length < 0 then (-1 : Int) else 1048576 - ts.length - us.length) = -1 := if_pos hlt2
    rcases h.h with rfl | ⟨o, rfl⟩ | ⟨o, o', rfl⟩
    · simp only [List.nil_append] at hX hY
      simp (maxSteps := 3000000) only [over4E, heapL, fillA, rd, wrt, wrl, AO.withl, a_w_FnExactMultiplyElements, B89_i_MultiplyElements_M5, B89_s_MultiplyElements_M5, B89_w_eqElement_M5, B89_w_heldElement_M5, B89_w_markElement_M5, B89_w_szElement_M5, B89_w_toElement_M5, g_el2, g_eqElement, g_heldElement, g_markElement, g_szElement, g_toElement, Int.reduceEq, Int.reduceNe, Int.reduceBEq, Int.reduceBNe, Int.reduceLT, Int.reduceLE, Int.reduceAdd, Int.reduceSub, Int.reduceMul, hX, hY, hl1, hl2, hif, hlt, hif2, c1, idX_eq, wbE, ↓symP, symE, listE, AK.isCall, enumE, ev, putE, abin, aun, AV.cells, ↓reduceIte, reduceCtorEq, Nat.reduceAdd, Nat.reduceMul, Nat.reduceSub, Nat.reduceEqDiff, Nat.reduceLT, Nat.reduceLeDiff, implies_true, Back, retv, retV, AV.scal, AV.scals]; try simp only [idX_eq, ite_both, pickP_both, not_not_eq, Bool.not_eq_false, Bool.not_eq_true]
    · simp only [List.cons_append, List.nil_append] at hX hY
      simp (maxSteps := 3000000) only [over4E, heapL, fillA, rd, wrt, wrl, AO.withl, a_w_FnExactMultiplyElements, B89_i_MultiplyElements_M5, B89_s_MultiplyElements_M5, B89_w_eqElement_M5, B89_w_heldElement_M5, B89_w_markElement_M5, B89_w_szElement_M5, B89_w_toElement_M5, g_el2, g_eqElement, g_heldElement, g_markElement, g_szElement, g_toElement, Int.reduceEq, Int.reduceNe, Int.reduceBEq, Int.reduceBNe, Int.reduceLT, Int.reduceLE, Int.reduceAdd, Int.reduceSub, Int.reduceMul, hX, hY, hl1, hl2, hif, hlt, hif2, c1, idX_eq, wbE, ↓symP, symE, listE, AK.isCall, enumE, ev, putE, abin, aun, AV.cells, ↓reduceIte, reduceCtorEq, Nat.reduceAdd, Nat.reduceMul, Nat.reduceSub, Nat.reduceEqDiff, Nat.reduceLT, Nat.reduceLeDiff, implies_true, Back, retv, retV, AV.scal, AV.scals]; try simp only [idX_eq, ite_both, pickP_both, not_not_eq, Bool.not_eq_false, Bool.not_eq_true]
      exact ⟨_, rfl⟩
    · simp only [List.cons_append, List.nil_append] at hX hY
      simp (maxSteps := 3000000) only [over4E, heapL, fillA, rd, wrt, wrl, AO.withl, a_w_FnExactMultiplyElements, B89_i_MultiplyElements_M5, B89_s_MultiplyElements_M5, B89_w_eqElement_M5, B89_w_heldElement_M5, B89_w_markElement_M5, B89_w_szElement_M5, B89_w_toElement_M5, g_el2, g_eqElement, g_heldElement, g_markElement, g_szElement, g_toElement, Int.reduceEq, Int.reduceNe, Int.reduceBEq, Int.reduceBNe, Int.reduceLT, Int.reduceLE, Int.reduceAdd, Int.reduceSub, Int.reduceMul, hX, hY, hl1, hl2, hif, hlt, hif2, c1, idX_eq, wbE, ↓symP, symE, listE, AK.isCall, enumE, ev, putE, abin, aun, AV.cells, ↓reduceIte, reduceCtorEq, Nat.reduceAdd, Nat.reduceMul, Nat.reduceSub, Nat.reduceEqDiff, Nat.reduceLT, Nat.reduceLeDiff, implies_true, Back, retv, retV, AV.scal, AV.scals]; try simp only [idX_eq, ite_both, pickP_both, not_not_eq, Bool.not_eq_false, Bool.not_eq_true]
      exact ⟨_, rfl⟩
  have hif2 : (if (1048576 : Int) - ts.length - us.length < 0 then (-1 : Int) else 1048576 - ts.length - us.length) = 1048576 - ts.length - us.length := if_neg hlt2
  have hr := mul_okE p c n p' c' n' ts us ho ho2
  generalize he : mulOf p c n ts p' c' n' us = r at hr
  obtain ⟨P, C, N, L, E⟩ := r
  obtain ⟨hL, hLl⟩ := hr
  simp only at hL hLl
  have b0 := trms_length ho
  have b1 := tsOf_trms' ho
  have b2 := trms_length ho2
  have b3 := tsOf_trms' ho2
  have h1 := trms_length hL
  have h2 := tsOf_trms' hL
  have h3 : tsOf L.length (trms (marks L.length 1)) = some (marks L.length 1) := by have := tsOf_trms' (okT_marks L.length 1); rwa [marks_length] at this
  have h6 : ((1 + 18 * L.length : Nat) : Int) < 0 ↔ False := iff_false_intro (by omega)
  have h7 : ((1 + 18 * ts.length + 18 * us.length : Nat) : Int) < 0 ↔ False := iff_false_intro (by omega)
  have h4 : L.length ≤ 2000000 := by omega
  have h8 : ts.length ≤ 1100000 ∧ us.length ≤ 1100000 := by omega
  have h9 : ts.length ≤ 2000000 ∧ us.length ≤ 2000000 := by omega
  have c2 : (0 : Int) ≤ ((1 + 18 * ts.length : Nat) : Int) ∧ ((1 + 18 * ts.length : Nat) : Int) ≤ 100000000 := by omega
  rcases h.sh with ⟨rfl, rfl, rfl⟩ | ⟨o, nx, cx, rfl, rfl, rfl, hg1, hg2⟩ | ⟨o, ny, cy, rfl, rfl, rfl, hg1, hg2⟩ | ⟨o, o', nx, cx, ny, cy, rfl, rfl, rfl, hg1, hg2, hg3, hg4⟩
  · simp only [List.nil_append] at hX hY
    obtain rfl : us = ts := Option.some.inj ((hY []).symm.trans (hX []))
    simp (maxSteps := 3000000) only [over4E, heapL, fillA, rd, wrt, wrl, AO.withl, a_w_FnExactMultiplyElements, B89_i_MultiplyElements_M5, B89_s_MultiplyElements_M5, B89_w_eqElement_M5, B89_w_heldElement_M5, B89_w_markElement_M5, B89_w_szElement_M5, B89_w_toElement_M5, g_el2, g_eqElement, g_heldElement, g_markElement, g_szElement, g_toElement, Int.reduceEq, Int.reduceNe, Int.reduceBEq, Int.reduceBNe, Int.reduceLT, Int.reduceLE, Int.reduceAdd, Int.reduceSub, Int.reduceMul, hX, hY, hl1, hl2, hif, hlt, hif2, hlt2, c1, idX_eq, wbE, ↓symP, symE, listE, AK.isCall, enumE, ev, putE, abin, aun, AV.cells, ↓reduceIte, reduceCtorEq, Nat.reduceAdd, Nat.reduceMul, Nat.reduceSub, Nat.reduceEqDiff, Nat.reduceLT, Nat.reduceLeDiff, implies_true, Back, retv, retV, AV.scal, AV.scals]; try simp only [idX_eq, ite_both, pickP_both, not_not_eq, Bool.not_eq_false, Bool.not_eq_true]
    refine WA.treeB B89_ok (fun s => s = ⟨[(7, .int .i64 E), (6, .ptr 2 0), (3, .ptr 1 0), (2, .ptr 0 0)], [.cells [.int .i64 p, .int .i64 c, .int .i64 n, .v (.slice none 0 0)], .cells [.int .i64 p', .int .i64 c', .int .i64 n', .v (.slice none 0 0)], .cells [.int .i64 P, .int .i64 C, .int .i64 N, .slc 3 0 L.length false 0], .vec 18 (trms L)]⟩) ?_ ?_
    · unfold a_w_FnExactMultiplyElements_t1
      simp (maxSteps := 3000000) only [over4E, heapL, fillA, rd, wrt, wrl, AO.withl, B89_i_MultiplyElements_M5, B89_s_MultiplyElements_M5, B89_w_eqElement_M5, B89_w_heldElement_M5, B89_w_markElement_M5, B89_w_szElement_M5, B89_w_toElement_M5, g_el2, g_eqElement, g_heldElement, g_markElement, g_szElement, g_toElement, Int.reduceEq, Int.reduceNe, Int.reduceBEq, Int.reduceBNe, Int.reduceLT, Int.reduceLE, Int.reduceAdd, Int.reduceSub, Int.reduceMul, ren_el, elemV, rn_vec, rens_scal _ _ (scals_trms _), rens_scal _ _ (scals_dia _ _), wbTT_alt, wbTT_no, hX, hY, he, b0, b1, b2, b3, h1, h2, h8, and_self, ren_el2, idX_eq, wbE, ↓symP, symE, listE, AK.isCall, enumE, ev, putE, abin, aun, AV.cells, ↓reduceIte, reduceCtorEq, Nat.reduceAdd, Nat.reduceMul, Nat.reduceSub, Nat.reduceEqDiff, Nat.reduceLT, Nat.reduceLeDiff, implies_true, Back, retv, retV, AV.scal, AV.scals]; try simp only [idX_eq, ite_both, pickP_both, not_not_eq, Bool.not_eq_false, Bool.not_eq_true]
      repeat' first | (with_reducible exact ⟨_, rfl⟩) | (exact rfl) | (with_reducible refine And.intro ?_ ?_)
      · refine ⟨_, Weak.keep [0, 1, 5, 4] [7, 6, 3, 2] ⟨by decide, ?_⟩ ?_, ?_⟩
        · simp only [withins_scal _ _ (scals_trms _), keepW, keepL, AV.within, AV.withins, ↓reduceIte, reduceCtorEq, Nat.reduceEqDiff, Nat.reduceBEq, implies_true, Nat.reduceAdd]
        · simp only [withins_scal _ _ (scals_trms _), keepW, keepL, AV.within, AV.withins, ↓reduceIte, reduceCtorEq, Nat.reduceEqDiff, Nat.reduceBEq, implies_true, Nat.reduceAdd]
        · simp only [rens_scal _ _ (scals_trms _), keptL, keptW, keptE, kepts, slots, ↓reduceIte, reduceCtorEq, Nat.reduceEqDiff, AV.ren, AV.rens, pos, Nat.reduceAdd]
      · refine ⟨_, Weak.keep [0, 1, 4, 5] [7, 6, 3, 2] ⟨by decide, ?_⟩ ?_, ?_⟩
        · simp only [withins_scal _ _ (scals_trms _), keepW, keepL, AV.within, AV.withins, ↓reduceIte, reduceCtorEq, Nat.reduceEqDiff, Nat.reduceBEq, implies_true, Nat.reduceAdd]
        · simp only [withins_scal _ _ (scals_trms _), keepW, keepL, AV.within, AV.withins, ↓reduceIte, reduceCtorEq, Nat.reduceEqDiff, Nat.reduceBEq, implies_true, Nat.reduceAdd]
        · simp only [rens_scal _ _ (scals_trms _), keptL, keptW, keptE, kepts, slots, ↓reduceIte, reduceCtorEq, Nat.reduceEqDiff, AV.ren, AV.rens, pos, Nat.reduceAdd]
      · refine ⟨_, Weak.keep [0, 1, 3, 5] [7, 6, 3, 2] ⟨by decide, ?_⟩ ?_, ?_⟩
        · simp only [withins_scal _ _ (scals_trms _), keepW, keepL, AV.within, AV.withins, ↓reduceIte, reduceCtorEq, Nat.reduceEqDiff, Nat.reduceBEq, implies_true, Nat.reduceAdd]
        · simp only [withins_scal _ _ (scals_trms _), keepW, keepL, AV.within, AV.withins, ↓reduceIte, reduceCtorEq, Nat.reduceEqDiff, Nat.reduceBEq, implies_true, Nat.reduceAdd]
        · simp only [rens_scal _ _ (scals_trms _), keptL, keptW, keptE, kepts, slots, ↓reduceIte, reduceCtorEq, Nat.reduceEqDiff, AV.ren, AV.rens, pos, Nat.reduceAdd]
      · refine ⟨_, Weak.keep [0, 1, 2, 5] [7, 6, 3, 2] ⟨by decide, ?_⟩ ?_, ?_⟩
        · simp only [withins_scal _ _ (scals_trms _), keepW, keepL, AV.within, AV.withins, ↓reduceIte, reduceCtorEq, Nat.reduceEqDiff, Nat.reduceBEq, implies_true, Nat.reduceAdd]
        · simp only [withins_scal _ _ (scals_trms _), keepW, keepL, AV.within, AV.withins, ↓reduceIte, reduceCtorEq, Nat.reduceEqDiff, Nat.reduceBEq, implies_true, Nat.reduceAdd]
        · simp only [rens_scal _ _ (scals_trms _), keptL, keptW, keptE, kepts, slots, ↓reduceIte, reduceCtorEq, Nat.reduceEqDiff, AV.ren, AV.rens, pos, Nat.reduceAdd]
    rintro s rfl
    simp (maxSteps := 3000000) only [over4E, heapL, fillA, rd, wrt, wrl, AO.withl, a_w_FnExactMultiplyElements_k2, B89_i_MultiplyElements_M5, B89_s_MultiplyElements_M5, B89_w_eqElement_M5, B89_w_heldElement_M5, B89_w_markElement_M5, B89_w_szElement_M5, B89_w_toElement_M5, g_el2, g_eqElement, g_heldElement, g_markElement, g_szElement, g_toElement, Int.reduceEq, Int.reduceNe, Int.reduceBEq, Int.reduceBNe, Int.reduceLT, Int.reduceLE, Int.reduceAdd, Int.reduceSub, Int.reduceMul, ren_el, elemV, rn_vec, rens_scal _ _ (scals_trms _), rens_scal _ _ (scals_dia _ _), hX, hY, he, b0, b1, b2, b3, h1, h2, h3, h4, h6, h7, h8, h9, c2, and_self, Int.toNat_one, Int.toNat_natCast, ren_el2, idX_eq, wbE, ↓symP, symE, listE, AK.isCall, enumE, ev, putE, abin, aun, AV.cells, ↓reduceIte, reduceCtorEq, Nat.reduceAdd, Nat.reduceMul, Nat.reduceSub, Nat.reduceEqDiff, Nat.reduceLT, Nat.reduceLeDiff, implies_true, Back, retv, retV, AV.scal, AV.scals]; try simp only [idX_eq, ite_both, pickP_both, not_not_eq, Bool.not_eq_false, Bool.not_eq_true]
    repeat' first | (with_reducible exact ⟨_, rfl⟩) | (exact rfl) | (with_reducible refine And.intro ?_ ?_)
    refine WA.treeB B89_ok (fun s => s = ⟨[(16, .int .i64 E), (15, .ptr 4 0), (13, .int .i64 (1 + 18 * L.length : Nat)), (10, .ptr 2 0), (7, .int .i64 E), (6, .ptr 0 0)], [.cells [.int .i64 P, .int .i64 C, .int .i64 N, .slc 1 0 L.length false 0], .vec 18 (trms L), .cells [.int .i64 P, .int .i64 C, .int .i64 N, .slc 3 0 L.length false 0], .vec 18 (trms (marks L.length 1)), .cells [.int .i64 P, .int .i64 C, .int .i64 N, .slc 5 0 L.length false 0], .vec 18 (trms L)]⟩) ?_ ?_
    · unfold a_w_FnExactMultiplyElements_t2
      simp (maxSteps := 3000000) only [over4E, heapL, fillA, rd, wrt, wrl, AO.withl, B89_i_MultiplyElements_M5, B89_s_MultiplyElements_M5, B89_w_eqElement_M5, B89_w_heldElement_M5, B89_w_markElement_M5, B89_w_szElement_M5, B89_w_toElement_M5, g_el2, g_eqElement, g_heldElement, g_markElement, g_szElement, g_toElement, Int.reduceEq, Int.reduceNe, Int.reduceBEq, Int.reduceBNe, Int.reduceLT, Int.reduceLE, Int.reduceAdd, Int.reduceSub, Int.reduceMul, ren_el, elemV, rn_vec, rens_scal _ _ (scals_trms _), rens_scal _ _ (scals_dia _ _), wbTT_alt, wbTT_no, hX, hY, he, b0, b1, b2, b3, h1, h2, h8, and_self, ren_el2, idX_eq, wbE, ↓symP, symE, listE, AK.isCall, enumE, ev, putE, abin, aun, AV.cells, ↓reduceIte, reduceCtorEq, Nat.reduceAdd, Nat.reduceMul, Nat.reduceSub, Nat.reduceEqDiff, Nat.reduceLT, Nat.reduceLeDiff, implies_true, Back, retv, retV, AV.scal, AV.scals]; try simp only [idX_eq, ite_both, pickP_both, not_not_eq, Bool.not_eq_false, Bool.not_eq_true]
      repeat' first | (with_reducible exact ⟨_, rfl⟩) | (exact rfl) | (with_reducible refine And.intro ?_ ?_)
      · refine ⟨_, Weak.keep [2, 3, 9, 8, 15, 14] [16, 15, 13, 10, 7, 6] ⟨by decide, ?_⟩ ?_, ?_⟩
        · simp only [withins_scal _ _ (scals_trms _), keepW, keepL, AV.within, AV.withins, ↓reduceIte, reduceCtorEq, Nat.reduceEqDiff, Nat.reduceBEq, implies_true, Nat.reduceAdd]
        · simp only [withins_scal _ _ (scals_trms _), keepW, keepL, AV.within, AV.withins, ↓reduceIte, reduceCtorEq, Nat.reduceEqDiff, Nat.reduceBEq, implies_true, Nat.reduceAdd]
        · simp only [rens_scal _ _ (scals_trms _), keptL, keptW, keptE, kepts, slots, ↓reduceIte, reduceCtorEq, Nat.reduceEqDiff, AV.ren, AV.rens, pos, Nat.reduceAdd]
      · refine ⟨_, Weak.keep [2, 3, 9, 8, 14, 15] [16, 15, 13, 10, 7, 6] ⟨by decide, ?_⟩ ?_, ?_⟩
        · simp only [withins_scal _ _ (scals_trms _), keepW, keepL, AV.within, AV.withins, ↓reduceIte, reduceCtorEq, Nat.reduceEqDiff, Nat.reduceBEq, implies_true, Nat.reduceAdd]
        · simp only [withins_scal _ _ (scals_trms _), keepW, keepL, AV.within, AV.withins, ↓reduceIte, reduceCtorEq, Nat.reduceEqDiff, Nat.reduceBEq, implies_true, Nat.reduceAdd]
        · simp only [rens_scal _ _ (scals_trms _), keptL, keptW, keptE, kepts, slots, ↓reduceIte, reduceCtorEq, Nat.reduceEqDiff, AV.ren, AV.rens, pos, Nat.reduceAdd]
      · refine ⟨_, Weak.keep [2, 3, 9, 8, 13, 15] [16, 15, 13, 10, 7, 6] ⟨by decide, ?_⟩ ?_, ?_⟩
        · simp only [withins_scal _ _ (scals_trms _), keepW, keepL, AV.within, AV.withins, ↓reduceIte, reduceCtorEq, Nat.reduceEqDiff, Nat.reduceBEq, implies_true, Nat.reduceAdd]
        · simp only [withins_scal _ _ (scals_trms _), keepW, keepL, AV.within, AV.withins, ↓reduceIte, reduceCtorEq, Nat.reduceEqDiff, Nat.reduceBEq, implies_true, Nat.reduceAdd]
        · simp only [rens_scal _ _ (scals_trms _), keptL, keptW, keptE, kepts, slots, ↓reduceIte, reduceCtorEq, Nat.reduceEqDiff, AV.ren, AV.rens, pos, Nat.reduceAdd]
      · refine ⟨_, Weak.keep [2, 3, 9, 8, 12, 15] [16, 15, 13, 10, 7, 6] ⟨by decide, ?_⟩ ?_, ?_⟩
        · simp only [withins_scal _ _ (scals_trms _), keepW, keepL, AV.within, AV.withins, ↓reduceIte, reduceCtorEq, Nat.reduceEqDiff, Nat.reduceBEq, implies_true, Nat.reduceAdd]
        · simp only [withins_scal _ _ (scals_trms _), keepW, keepL, AV.within, AV.withins, ↓reduceIte, reduceCtorEq, Nat.reduceEqDiff, Nat.reduceBEq, implies_true, Nat.reduceAdd]
        · simp only [rens_scal _ _ (scals_trms _), keptL, keptW, keptE, kepts, slots, ↓reduceIte, reduceCtorEq, Nat.reduceEqDiff, AV.ren, AV.rens, pos, Nat.reduceAdd]
    rintro s rfl
    simp (maxSteps := 3000000) only [over4E, heapL, fillA, rd, wrt, wrl, AO.withl, a_w_FnExactMultiplyElements_k1, B89_i_MultiplyElements_M5, B89_s_MultiplyElements_M5, B89_w_eqElement_M5, B89_w_heldElement_M5, B89_w_markElement_M5, B89_w_szElement_M5, B89_w_toElement_M5, g_el2, g_eqElement, g_heldElement, g_markElement, g_szElement, g_toElement, Int.reduceEq, Int.reduceNe, Int.reduceBEq, Int.reduceBNe, Int.reduceLT, Int.reduceLE, Int.reduceAdd, Int.reduceSub, Int.reduceMul, ren_el, elemV, rn_vec, rens_scal _ _ (scals_trms _), rens_scal _ _ (scals_dia _ _), h1, h2, h3, h4, h6, Int.toNat_one, ren_el2, idX_eq, wbE, ↓symP, symE, listE, AK.isCall, enumE, ev, putE, abin, aun, AV.cells, ↓reduceIte, reduceCtorEq, Nat.reduceAdd, Nat.reduceMul, Nat.reduceSub, Nat.reduceEqDiff, Nat.reduceLT, Nat.reduceLeDiff, implies_true, Back, retv, retV, AV.scal, AV.scals]; try simp only [idX_eq, ite_both, pickP_both, not_not_eq, Bool.not_eq_false, Bool.not_eq_true]
  · simp only [List.cons_append, List.nil_append] at hX hY
    simp (maxSteps := 3000000) only [over4E, heapL, fillA, rd, wrt, wrl, AO.withl, a_w_FnExactMultiplyElements, B89_i_MultiplyElements_M5, B89_s_MultiplyElements_M5, B89_w_eqElement_M5, B89_w_heldElement_M5, B89_w_markElement_M5, B89_w_szElement_M5, B89_w_toElement_M5, g_el2, g_eqElement, g_heldElement, g_markElement, g_szElement, g_toElement, Int.reduceEq, Int.reduceNe, Int.reduceBEq, Int.reduceBNe, Int.reduceLT, Int.reduceLE, Int.reduceAdd, Int.reduceSub, Int.reduceMul, hX, hY, hl1, hl2, hif, hlt, hif2, hlt2, c1, idX_eq, wbE, ↓symP, symE, listE, AK.isCall, enumE, ev, putE, abin, aun, AV.cells, ↓reduceIte, reduceCtorEq, Nat.reduceAdd, Nat.reduceMul, Nat.reduceSub, Nat.reduceEqDiff, Nat.reduceLT, Nat.reduceLeDiff, implies_true, Back, retv, retV, AV.scal, AV.scals]; try simp only [idX_eq, ite_both, pickP_both, not_not_eq, Bool.not_eq_false, Bool.not_eq_true]
    refine WA.treeB B89_ok (fun s => s = ⟨[(7, .int .i64 E), (6, .ptr 3 0), (3, .ptr 2 0), (2, .ptr 1 0)], [o, .cells [.int .i64 p, .int .i64 c, .int .i64 n, .slc 0 0 nx true cx], .cells [.int .i64 p', .int .i64 c', .int .i64 n', .v (.slice none 0 0)], .cells [.int .i64 P, .int .i64 C, .int .i64 N, .slc 4 0 L.length false 0], .vec 18 (trms L)]⟩) ?_ ?_
    · unfold a_w_FnExactMultiplyElements_t1
      simp (maxSteps := 3000000) only [over4E, heapL, fillA, rd, wrt, wrl, AO.withl, B89_i_MultiplyElements_M5, B89_s_MultiplyElements_M5, B89_w_eqElement_M5, B89_w_heldElement_M5, B89_w_markElement_M5, B89_w_szElement_M5, B89_w_toElement_M5, g_el2, g_eqElement, g_heldElement, g_markElement, g_szElement, g_toElement, Int.reduceEq, Int.reduceNe, Int.reduceBEq, Int.reduceBNe, Int.reduceLT, Int.reduceLE, Int.reduceAdd, Int.reduceSub, Int.reduceMul, ren_el, elemV, rn_vec, rens_scal _ _ (scals_trms _), rens_scal _ _ (scals_dia _ _), wbTT_alt, wbTT_no, hX, hY, he, b0, b1, b2, b3, h1, h2, h8, and_self, ren_el2, idX_eq, wbE, ↓symP, symE, listE, AK.isCall, enumE, ev, putE, abin, aun, AV.cells, ↓reduceIte, reduceCtorEq, Nat.reduceAdd, Nat.reduceMul, Nat.reduceSub, Nat.reduceEqDiff, Nat.reduceLT, Nat.reduceLeDiff, implies_true, Back, retv, retV, AV.scal, AV.scals]; try simp only [idX_eq, ite_both, pickP_both, not_not_eq, Bool.not_eq_false, Bool.not_eq_true]
      repeat' first | (with_reducible exact ⟨_, rfl⟩) | (exact rfl) | (with_reducible refine And.intro ?_ ?_)
      · refine ⟨_, Weak.keep [0, 1, 2, 6, 5] [7, 6, 3, 2] ⟨by decide, ?_⟩ ?_, ?_⟩
        · simp only [hg1, hg2, withins_scal _ _ (scals_trms _), keepW, keepL, AV.within, AV.withins, ↓reduceIte, reduceCtorEq, Nat.reduceEqDiff, Nat.reduceBEq, implies_true, Nat.reduceAdd]
        · simp only [hg1, hg2, withins_scal _ _ (scals_trms _), keepW, keepL, AV.within, AV.withins, ↓reduceIte, reduceCtorEq, Nat.reduceEqDiff, Nat.reduceBEq, implies_true, Nat.reduceAdd]
        · simp only [hg1, hg2, rens_scal _ _ (scals_trms _), keptL, keptW, keptE, kepts, slots, ↓reduceIte, reduceCtorEq, Nat.reduceEqDiff, AV.ren, AV.rens, pos, Nat.reduceAdd]
      · refine ⟨_, Weak.keep [0, 1, 2, 5, 6] [7, 6, 3, 2] ⟨by decide, ?_⟩ ?_, ?_⟩
        · simp only [hg1, hg2, withins_scal _ _ (scals_trms _), keepW, keepL, AV.within, AV.withins, ↓reduceIte, reduceCtorEq, Nat.reduceEqDiff, Nat.reduceBEq, implies_true, Nat.reduceAdd]
        · simp only [hg1, hg2, withins_scal _ _ (scals_trms _), keepW, keepL, AV.within, AV.withins, ↓reduceIte, reduceCtorEq, Nat.reduceEqDiff, Nat.reduceBEq, implies_true, Nat.reduceAdd]
        · simp only [hg1, hg2, rens_scal _ _ (scals_trms _), keptL, keptW, keptE, kepts, slots, ↓reduceIte, reduceCtorEq, Nat.reduceEqDiff, AV.ren, AV.rens, pos, Nat.reduceAdd]
      · refine ⟨_, Weak.keep [0, 1, 2, 4, 6] [7, 6, 3, 2] ⟨by decide, ?_⟩ ?_, ?_⟩
        · simp only [hg1, hg2, withins_scal _ _ (scals_trms _), keepW, keepL, AV.within, AV.withins, ↓reduceIte, reduceCtorEq, Nat.reduceEqDiff, Nat.reduceBEq, implies_true, Nat.reduceAdd]
        · simp only [hg1, hg2, withins_scal _ _ (scals_trms _), keepW, keepL, AV.within, AV.withins, ↓reduceIte, reduceCtorEq, Nat.reduceEqDiff, Nat.reduceBEq, implies_true, Nat.reduceAdd]
        · simp only [hg1, hg2, rens_scal _ _ (scals_trms _), keptL, keptW, keptE, kepts, slots, ↓reduceIte, reduceCtorEq, Nat.reduceEqDiff, AV.ren, AV.rens, pos, Nat.reduceAdd]
      · refine ⟨_, Weak.keep [0, 1, 2, 3, 6] [7, 6, 3, 2] ⟨by decide, ?_⟩ ?_, ?_⟩
        · simp only [hg1, hg2, withins_scal _ _ (scals_trms _), keepW, keepL, AV.within, AV.withins, ↓reduceIte, reduceCtorEq, Nat.reduceEqDiff, Nat.reduceBEq, implies_true, Nat.reduceAdd]
        · simp only [hg1, hg2, withins_scal _ _ (scals_trms _), keepW, keepL, AV.within, AV.withins, ↓reduceIte, reduceCtorEq, Nat.reduceEqDiff, Nat.reduceBEq, implies_true, Nat.reduceAdd]
        · simp only [hg1, hg2, rens_scal _ _ (scals_trms _), keptL, keptW, keptE, kepts, slots, ↓reduceIte, reduceCtorEq, Nat.reduceEqDiff, AV.ren, AV.rens, pos, Nat.reduceAdd]
    rintro s rfl
    simp (maxSteps := 3000000) only [over4E, heapL, fillA, rd, wrt, wrl, AO.withl, a_w_FnExactMultiplyElements_k2, B89_i_MultiplyElements_M5, B89_s_MultiplyElements_M5, B89_w_eqElement_M5, B89_w_heldElement_M5, B89_w_markElement_M5, B89_w_szElement_M5, B89_w_toElement_M5, g_el2, g_eqElement, g_heldElement, g_markElement, g_szElement, g_toElement, Int.reduceEq, Int.reduceNe, Int.reduceBEq, Int.reduceBNe, Int.reduceLT, Int.reduceLE, Int.reduceAdd, Int.reduceSub, Int.reduceMul, ren_el, elemV, rn_vec, rens_scal _ _ (scals_trms _), rens_scal _ _ (scals_dia _ _), hX, hY, he, b0, b1, b2, b3, h1, h2, h3, h4, h6, h7, h8, h9, c2, and_self, Int.toNat_one, Int.toNat_natCast, ren_el2, idX_eq, wbE, ↓symP, symE, listE, AK.isCall, enumE, ev, putE, abin, aun, AV.cells, ↓reduceIte, reduceCtorEq, Nat.reduceAdd, Nat.reduceMul, Nat.reduceSub, Nat.reduceEqDiff, Nat.reduceLT, Nat.reduceLeDiff, implies_true, Back, retv, retV, AV.scal, AV.scals]; try simp only [idX_eq, ite_both, pickP_both, not_not_eq, Bool.not_eq_false, Bool.not_eq_true]
    repeat' first | (with_reducible exact ⟨_, rfl⟩) | (exact rfl) | (with_reducible refine And.intro ?_ ?_)
    refine WA.treeB B89_ok (fun s => s = ⟨[(16, .int .i64 E), (15, .ptr 5 0), (13, .int .i64 (1 + 18 * L.length : Nat)), (10, .ptr 3 0), (7, .int .i64 E), (6, .ptr 1 0)], [o, .cells [.int .i64 P, .int .i64 C, .int .i64 N, .slc 2 0 L.length false 0], .vec 18 (trms L), .cells [.int .i64 P, .int .i64 C, .int .i64 N, .slc 4 0 L.length false 0], .vec 18 (trms (marks L.length 1)), .cells [.int .i64 P, .int .i64 C, .int .i64 N, .slc 6 0 L.length false 0], .vec 18 (trms L)]⟩) ?_ ?_
    · unfold a_w_FnExactMultiplyElements_t2
      simp (maxSteps := 3000000) only [over4E, heapL, fillA, rd, wrt, wrl, AO.withl, B89_i_MultiplyElements_M5, B89_s_MultiplyElements_M5, B89_w_eqElement_M5, B89_w_heldElement_M5, B89_w_markElement_M5, B89_w_szElement_M5, B89_w_toElement_M5, g_el2, g_eqElement, g_heldElement, g_markElement, g_szElement, g_toElement, Int.reduceEq, Int.reduceNe, Int.reduceBEq, Int.reduceBNe, Int.reduceLT, Int.reduceLE, Int.reduceAdd, Int.reduceSub, Int.reduceMul, ren_el, elemV, rn_vec, rens_scal _ _ (scals_trms _), rens_scal _ _ (scals_dia _ _), wbTT_alt, wbTT_no, hX, hY, he, b0, b1, b2, b3, h1, h2, h8, and_self, ren_el2, idX_eq, wbE, ↓symP, symE, listE, AK.isCall, enumE, ev, putE, abin, aun, AV.cells, ↓reduceIte, reduceCtorEq, Nat.reduceAdd, Nat.reduceMul, Nat.reduceSub, Nat.reduceEqDiff, Nat.reduceLT, Nat.reduceLeDiff, implies_true, Back, retv, retV, AV.scal, AV.scals]; try simp only [idX_eq, ite_both, pickP_both, not_not_eq, Bool.not_eq_false, Bool.not_eq_true]
      repeat' first | (with_reducible exact ⟨_, rfl⟩) | (exact rfl) | (with_reducible refine And.intro ?_ ?_)
      · refine ⟨_, Weak.keep [0, 3, 4, 10, 9, 16, 15] [16, 15, 13, 10, 7, 6] ⟨by decide, ?_⟩ ?_, ?_⟩
        · simp only [hg1, hg2, withins_scal _ _ (scals_trms _), keepW, keepL, AV.within, AV.withins, ↓reduceIte, reduceCtorEq, Nat.reduceEqDiff, Nat.reduceBEq, implies_true, Nat.reduceAdd]
        · simp only [hg1, hg2, withins_scal _ _ (scals_trms _), keepW, keepL, AV.within, AV.withins, ↓reduceIte, reduceCtorEq, Nat.reduceEqDiff, Nat.reduceBEq, implies_true, Nat.reduceAdd]
        · simp only [hg1, hg2, rens_scal _ _ (scals_trms _), keptL, keptW, keptE, kepts, slots, ↓reduceIte, reduceCtorEq, Nat.reduceEqDiff, AV.ren, AV.rens, pos, Nat.reduceAdd]
      · refine ⟨_, Weak.keep [0, 3, 4, 10, 9, 15, 16] [16, 15, 13, 10, 7, 6] ⟨by decide, ?_⟩ ?_, ?_⟩
        · simp only [hg1, hg2, withins_scal _ _ (scals_trms _), keepW, keepL, AV.within, AV.withins, ↓reduceIte, reduceCtorEq, Nat.reduceEqDiff, Nat.reduceBEq, implies_true, Nat.reduceAdd]
        · simp only [hg1, hg2, withins_scal _ _ (scals_trms _), keepW, keepL, AV.within, AV.withins, ↓reduceIte, reduceCtorEq, Nat.reduceEqDiff, Nat.reduceBEq, implies_true, Nat.reduceAdd]
        · simp only [hg1, hg2, rens_scal _ _ (scals_trms _), keptL, keptW, keptE, kepts, slots, ↓reduceIte, reduceCtorEq, Nat.reduceEqDiff, AV.ren, AV.rens, pos, Nat.reduceAdd]
      · refine ⟨_, Weak.keep [0, 3, 4, 10, 9, 14, 16] [16, 15, 13, 10, 7, 6] ⟨by decide, ?_⟩ ?_, ?_⟩
        · simp only [hg1, hg2, withins_scal _ _ (scals_trms _), keepW, keepL, AV.within, AV.withins, ↓reduceIte, reduceCtorEq, Nat.reduceEqDiff, Nat.reduceBEq, implies_true, Nat.reduceAdd]
        · simp only [hg1, hg2, withins_scal _ _ (scals_trms _), keepW, keepL, AV.within, AV.withins, ↓reduceIte, reduceCtorEq, Nat.reduceEqDiff, Nat.reduceBEq, implies_true, Nat.reduceAdd]
        · simp only [hg1, hg2, rens_scal _ _ (scals_trms _), keptL, keptW, keptE, kepts, slots, ↓reduceIte, reduceCtorEq, Nat.reduceEqDiff, AV.ren, AV.rens, pos, Nat.reduceAdd]
      · refine ⟨_, Weak.keep [0, 3, 4, 10, 9, 13, 16] [16, 15, 13, 10, 7, 6] ⟨by decide, ?_⟩ ?_, ?_⟩
        · simp only [hg1, hg2, withins_scal _ _ (scals_trms _), keepW, keepL, AV.within, AV.withins, ↓reduceIte, reduceCtorEq, Nat.reduceEqDiff, Nat.reduceBEq, implies_true, Nat.reduceAdd]
        · simp only [hg1, hg2, withins_scal _ _ (scals_trms _), keepW, keepL, AV.within, AV.withins, ↓reduceIte, reduceCtorEq, Nat.reduceEqDiff, Nat.reduceBEq, implies_true, Nat.reduceAdd]
        · simp only [hg1, hg2, rens_scal _ _ (scals_trms _), keptL, keptW, keptE, kepts, slots, ↓reduceIte, reduceCtorEq, Nat.reduceEqDiff, AV.ren, AV.rens, pos, Nat.reduceAdd]
    rintro s rfl
    simp (maxSteps := 3000000) only [over4E, heapL, fillA, rd, wrt, wrl, AO.withl, a_w_FnExactMultiplyElements_k1, B89_i_MultiplyElements_M5, B89_s_MultiplyElements_M5, B89_w_eqElement_M5, B89_w_heldElement_M5, B89_w_markElement_M5, B89_w_szElement_M5, B89_w_toElement_M5, g_el2, g_eqElement, g_heldElement, g_markElement, g_szElement, g_toElement, Int.reduceEq, Int.reduceNe, Int.reduceBEq, Int.reduceBNe, Int.reduceLT, Int.reduceLE, Int.reduceAdd, Int.reduceSub, Int.reduceMul, ren_el, elemV, rn_vec, rens_scal _ _ (scals_trms _), rens_scal _ _ (scals_dia _ _), h1, h2, h3, h4, h6, Int.toNat_one, ren_el2, idX_eq, wbE, ↓symP, symE, listE, AK.isCall, enumE, ev, putE, abin, aun, AV.cells, ↓reduceIte, reduceCtorEq, Nat.reduceAdd, Nat.reduceMul, Nat.reduceSub, Nat.reduceEqDiff, Nat.reduceLT, Nat.reduceLeDiff, implies_true, Back, retv, retV, AV.scal, AV.scals]; try simp only [idX_eq, ite_both, pickP_both, not_not_eq, Bool.not_eq_false, Bool.not_eq_true]
    exact ⟨_, rfl⟩
  · simp only [List.cons_append, List.nil_append] at hX hY
    simp (maxSteps := 3000000) only [over4E, heapL, fillA, rd, wrt, wrl, AO.withl, a_w_FnExactMultiplyElements, B89_i_MultiplyElements_M5, B89_s_MultiplyElements_M5, B89_w_eqElement_M5, B89_w_heldElement_M5, B89_w_markElement_M5, B89_w_szElement_M5, B89_w_toElement_M5, g_el2, g_eqElement, g_heldElement, g_markElement, g_szElement, g_toElement, Int.reduceEq, Int.reduceNe, Int.reduceBEq, Int.reduceBNe, Int.reduceLT, Int.reduceLE, Int.reduceAdd, Int.reduceSub, Int.reduceMul, hX, hY, hl1, hl2, hif, hlt, hif2, hlt2, c1, idX_eq, wbE, ↓symP, symE, listE, AK.isCall, enumE, ev, putE, abin, aun, AV.cells, ↓reduceIte, reduceCtorEq, Nat.reduceAdd, Nat.reduceMul, Nat.reduceSub, Nat.reduceEqDiff, Nat.reduceLT, Nat.reduceLeDiff, implies_true, Back, retv, retV, AV.scal, AV.scals]; try simp only [idX_eq, ite_both, pickP_both, not_not_eq, Bool.not_eq_false, Bool.not_eq_true]
    refine WA.treeB B89_ok (fun s => s = ⟨[(7, .int .i64 E), (6, .ptr 3 0), (3, .ptr 2 0), (2, .ptr 1 0)], [o, .cells [.int .i64 p, .int .i64 c, .int .i64 n, .v (.slice none 0 0)], .cells [.int .i64 p', .int .i64 c', .int .i64 n', .slc 0 0 ny true cy], .cells [.int .i64 P, .int .i64 C, .int .i64 N, .slc 4 0 L.length false 0], .vec 18 (trms L)]⟩) ?_ ?_
    · unfold a_w_FnExactMultiplyElements_t1
      simp (maxSteps := 3000000) only [over4E, heapL, fillA, rd, wrt, wrl, AO.withl, B89_i_MultiplyElements_M5, B89_s_MultiplyElements_M5, B89_w_eqElement_M5, B89_w_heldElement_M5, B89_w_markElement_M5, B89_w_szElement_M5, B89_w_toElement_M5, g_el2, g_eqElement, g_heldElement, g_markElement, g_szElement, g_toElement, Int.reduceEq, Int.reduceNe, Int.reduceBEq, Int.reduceBNe, Int.reduceLT, Int.reduceLE, Int.reduceAdd, Int.reduceSub, Int.reduceMul, ren_el, elemV, rn_vec, rens_scal _ _ (scals_trms _), rens_scal _ _ (scals_dia _ _), wbTT_alt, wbTT_no, hX, hY, he, b0, b1, b2, b3, h1, h2, h8, and_self, ren_el2, idX_eq, wbE, ↓symP, symE, listE, AK.isCall, enumE, ev, putE, abin, aun, AV.cells, ↓reduceIte, reduceCtorEq, Nat.reduceAdd, Nat.reduceMul, Nat.reduceSub, Nat.reduceEqDiff, Nat.reduceLT, Nat.reduceLeDiff, implies_true, Back, retv, retV, AV.scal, AV.scals]; try simp only [idX_eq, ite_both, pickP_both, not_not_eq, Bool.not_eq_false, Bool.not_eq_true]
      repeat' first | (with_reducible exact ⟨_, rfl⟩) | (exact rfl) | (with_reducible refine And.intro ?_ ?_)
      · refine ⟨_, Weak.keep [0, 1, 2, 6, 5] [7, 6, 3, 2] ⟨by decide, ?_⟩ ?_, ?_⟩
        · simp only [hg1, hg2, withins_scal _ _ (scals_trms _), keepW, keepL, AV.within, AV.withins, ↓reduceIte, reduceCtorEq, Nat.reduceEqDiff, Nat.reduceBEq, implies_true, Nat.reduceAdd]
        · simp only [hg1, hg2, withins_scal _ _ (scals_trms _), keepW, keepL, AV.within, AV.withins, ↓reduceIte, reduceCtorEq, Nat.reduceEqDiff, Nat.reduceBEq, implies_true, Nat.reduceAdd]
        · simp only [hg1, hg2, rens_scal _ _ (scals_trms _), keptL, keptW, keptE, kepts, slots, ↓reduceIte, reduceCtorEq, Nat.reduceEqDiff, AV.ren, AV.rens, pos, Nat.reduceAdd]
      · refine ⟨_, Weak.keep [0, 1, 2, 5, 6] [7, 6, 3, 2] ⟨by decide, ?_⟩ ?_, ?_⟩
        · simp only [hg1, hg2, withins_scal _ _ (scals_trms _), keepW, keepL, AV.within, AV.withins, ↓reduceIte, reduceCtorEq, Nat.reduceEqDiff, Nat.reduceBEq, implies_true, Nat.reduceAdd]
        · simp only [hg1, hg2, withins_scal _ _ (scals_trms _), keepW, keepL, AV.within, AV.withins, ↓reduceIte, reduceCtorEq, Nat.reduceEqDiff, Nat.reduceBEq, implies_true, Nat.reduceAdd]
        · simp only [hg1, hg2, rens_scal _ _ (scals_trms _), keptL, keptW, keptE, kepts, slots, ↓reduceIte, reduceCtorEq, Nat.reduceEqDiff, AV.ren, AV.rens, pos, Nat.reduceAdd]
      · refine ⟨_, Weak.keep [0, 1, 2, 4, 6] [7, 6, 3, 2] ⟨by decide, ?_⟩ ?_, ?_⟩
        · simp only [hg1, hg2, withins_scal _ _ (scals_trms _), keepW, keepL, AV.within, AV.withins, ↓reduceIte, reduceCtorEq, Nat.reduceEqDiff, Nat.reduceBEq, implies_true, Nat.reduceAdd]
        · simp only [hg1, hg2, withins_scal _ _ (scals_trms _), keepW, keepL, AV.within, AV.withins, ↓reduceIte, reduceCtorEq, Nat.reduceEqDiff, Nat.reduceBEq, implies_true, Nat.reduceAdd]
        · simp only [hg1, hg2, rens_scal _ _ (scals_trms _), keptL, keptW, keptE, kepts, slots, ↓reduceIte, reduceCtorEq, Nat.reduceEqDiff, AV.ren, AV.rens, pos, Nat.reduceAdd]
      · refine ⟨_, Weak.keep [0, 1, 2, 3, 6] [7, 6, 3, 2] ⟨by decide, ?_⟩ ?_, ?_⟩
        · simp only [hg1, hg2, withins_scal _ _ (scals_trms _), keepW, keepL, AV.within, AV.withins, ↓reduceIte, reduceCtorEq, Nat.reduceEqDiff, Nat.reduceBEq, implies_true, Nat.reduceAdd]
        · simp only [hg1, hg2, withins_scal _ _ (scals_trms _), keepW, keepL, AV.within, AV.withins, ↓reduceIte, reduceCtorEq, Nat.reduceEqDiff, Nat.reduceBEq, implies_true, Nat.reduceAdd]
        · simp only [hg1, hg2, rens_scal _ _ (scals_trms _), keptL, keptW, keptE, kepts, slots, ↓reduceIte, reduceCtorEq, Nat.reduceEqDiff, AV.ren, AV.rens, pos, Nat.reduceAdd]
    rintro s rfl
    simp (maxSteps := 3000000) only [over4E, heapL, fillA, rd, wrt, wrl, AO.withl, a_w_FnExactMultiplyElements_k2, B89_i_MultiplyElements_M5, B89_s_MultiplyElements_M5, B89_w_eqElement_M5, B89_w_heldElement_M5, B89_w_markElement_M5, B89_w_szElement_M5, B89_w_toElement_M5, g_el2, g_eqElement, g_heldElement, g_markElement, g_szElement, g_toElement, Int.reduceEq, Int.reduceNe, Int.reduceBEq, Int.reduceBNe, Int.reduceLT, Int.reduceLE, Int.reduceAdd, Int.reduceSub, Int.reduceMul, ren_el, elemV, rn_vec, rens_scal _ _ (scals_trms _), rens_scal _ _ (scals_dia _ _), hX, hY, he, b0, b1, b2, b3, h1, h2, h3, h4, h6, h7, h8, h9, c2, and_self, Int.toNat_one, Int.toNat_natCast, ren_el2, idX_eq, wbE, ↓symP, symE, listE, AK.isCall, enumE, ev, putE, abin, aun, AV.cells, ↓reduceIte, reduceCtorEq, Nat.reduceAdd, Nat.reduceMul, Nat.reduceSub, Nat.reduceEqDiff, Nat.reduceLT, Nat.reduceLeDiff, implies_true, Back, retv, retV, AV.scal, AV.scals]; try simp only [idX_eq, ite_both, pickP_both, not_not_eq, Bool.not_eq_false, Bool.not_eq_true]
    repeat' first | (with_reducible exact ⟨_, rfl⟩) | (exact rfl) | (with_reducible refine And.intro ?_ ?_)
    refine WA.treeB B89_ok (fun s => s = ⟨[(16, .int .i64 E), (15, .ptr 5 0), (13, .int .i64 (1 + 18 * L.length : Nat)), (10, .ptr 3 0), (7, .int .i64 E), (6, .ptr 1 0)], [o, .cells [.int .i64 P, .int .i64 C, .int .i64 N, .slc 2 0 L.length false 0], .vec 18 (trms L), .cells [.int .i64 P, .int .i64 C, .int .i64 N, .slc 4 0 L.length false 0], .vec 18 (trms (marks L.length 1)), .cells [.int .i64 P, .int .i64 C, .int .i64 N, .slc 6 0 L.length false 0], .vec 18 (trms L)]⟩) ?_ ?_
    · unfold a_w_FnExactMultiplyElements_t2
      simp (maxSteps := 3000000) only [over4E, heapL, fillA, rd, wrt, wrl, AO.withl, B89_i_MultiplyElements_M5, B89_s_MultiplyElements_M5, B89_w_eqElement_M5, B89_w_heldElement_M5, B89_w_markElement_M5, B89_w_szElement_M5, B89_w_toElement_M5, g_el2, g_eqElement, g_heldElement, g_markElement, g_szElement, g_toElement, Int.reduceEq, Int.reduceNe, Int.reduceBEq, Int.reduceBNe, Int.reduceLT, Int.reduceLE, Int.reduceAdd, Int.reduceSub, Int.reduceMul, ren_el, elemV, rn_vec, rens_scal _ _ (scals_trms _), rens_scal _ _ (scals_dia _ _), wbTT_alt, wbTT_no, hX, hY, he, b0, b1, b2, b3, h1, h2, h8, and_self, ren_el2, idX_eq, wbE, ↓symP, symE, listE, AK.isCall, enumE, ev, putE, abin, aun, AV.cells, ↓reduceIte, reduceCtorEq, Nat.reduceAdd, Nat.reduceMul, Nat.reduceSub, Nat.reduceEqDiff, Nat.reduceLT, Nat.reduceLeDiff, implies_true, Back, retv, retV, AV.scal, AV.scals]; try simp only [idX_eq, ite_both, pickP_both, not_not_eq, Bool.not_eq_false, Bool.not_eq_true]
      repeat' first | (with_reducible exact ⟨_, rfl⟩) | (exact rfl) | (with_reducible refine And.intro ?_ ?_)
      · refine ⟨_, Weak.keep [0, 3, 4, 10, 9, 16, 15] [16, 15, 13, 10, 7, 6] ⟨by decide, ?_⟩ ?_, ?_⟩
        · simp only [hg1, hg2, withins_scal _ _ (scals_trms _), keepW, keepL, AV.within, AV.withins, ↓reduceIte, reduceCtorEq, Nat.reduceEqDiff, Nat.reduceBEq, implies_true, Nat.reduceAdd]
        · simp only [hg1, hg2, withins_scal _ _ (scals_trms _), keepW, keepL, AV.within, AV.withins, ↓reduceIte, reduceCtorEq, Nat.reduceEqDiff, Nat.reduceBEq, implies_true, Nat.reduceAdd]
        · simp only [hg1, hg2, rens_scal _ _ (scals_trms _), keptL, keptW, keptE, kepts, slots, ↓reduceIte, reduceCtorEq, Nat.reduceEqDiff, AV.ren, AV.rens, pos, Nat.reduceAdd]
      · refine ⟨_, Weak.keep [0, 3, 4, 10, 9, 15, 16] [16, 15, 13, 10, 7, 6] ⟨by decide, ?_⟩ ?_, ?_⟩
        · simp only [hg1, hg2, withins_scal _ _ (scals_trms _), keepW, keepL, AV.within, AV.withins, ↓reduceIte, reduceCtorEq, Nat.reduceEqDiff, Nat.reduceBEq, implies_true, Nat.reduceAdd]
        · simp only [hg1, hg2, withins_scal _ _ (scals_trms _), keepW, keepL, AV.within, AV.withins, ↓reduceIte, reduceCtorEq, Nat.reduceEqDiff, Nat.reduceBEq, implies_true, Nat.reduceAdd]
        · simp only [hg1, hg2, rens_scal _ _ (scals_trms _), keptL, keptW, keptE, kepts, slots, ↓reduceIte, reduceCtorEq, Nat.reduceEqDiff, AV.ren, AV.rens, pos, Nat.reduceAdd]
      · refine ⟨_, Weak.keep [0, 3, 4, 10, 9, 14, 16] [16, 15, 13, 10, 7, 6] ⟨by decide, ?_⟩ ?_, ?_⟩
        · simp only [hg1, hg2, withins_scal _ _ (scals_trms _), keepW, keepL, AV.within, AV.withins, ↓reduceIte, reduceCtorEq, Nat.reduceEqDiff, Nat.reduceBEq, implies_true, Nat.reduceAdd]
        · simp only [hg1, hg2, withins_scal _ _ (scals_trms _), keepW, keepL, AV.within, AV.withins, ↓reduceIte, reduceCtorEq, Nat.reduceEqDiff, Nat.reduceBEq, implies_true, Nat.reduceAdd]
        · simp only [hg1, hg2, rens_scal _ _ (scals_trms _), keptL, keptW, keptE, kepts, slots, ↓reduceIte, reduceCtorEq, Nat.reduceEqDiff, AV.ren, AV.rens, pos, Nat.reduceAdd]
      · refine ⟨_, Weak.keep [0, 3, 4, 10, 9, 13, 16] [16, 15, 13, 10, 7, 6] ⟨by decide, ?_⟩ ?_, ?_⟩
        · simp only [hg1, hg2, withins_scal _ _ (scals_trms _), keepW, keepL, AV.within, AV.withins, ↓reduceIte, reduceCtorEq, Nat.reduceEqDiff, Nat.reduceBEq, implies_true, Nat.reduceAdd]
        · simp only [hg1, hg2, withins_scal _ _ (scals_trms _), keepW, keepL, AV.within, AV.withins, ↓reduceIte, reduceCtorEq, Nat.reduceEqDiff, Nat.reduceBEq, implies_true, Nat.reduceAdd]
        · simp only [hg1, hg2, rens_scal _ _ (scals_trms _), keptL, keptW, keptE, kepts, slots, ↓reduceIte, reduceCtorEq, Nat.reduceEqDiff, AV.ren, AV.rens, pos, Nat.reduceAdd]
    rintro s rfl
    simp (maxSteps := 3000000) only [over4E, heapL, fillA, rd, wrt, wrl, AO.withl, a_w_FnExactMultiplyElements_k1, B89_i_MultiplyElements_M5, B89_s_MultiplyElements_M5, B89_w_eqElement_M5, B89_w_heldElement_M5, B89_w_markElement_M5, B89_w_szElement_M5, B89_w_toElement_M5, g_el2, g_eqElement, g_heldElement, g_markElement, g_szElement, g_toElement, Int.reduceEq, Int.reduceNe, Int.reduceBEq, Int.reduceBNe, Int.reduceLT, Int.reduceLE, Int.reduceAdd, Int.reduceSub, Int.reduceMul, ren_el, elemV, rn_vec, rens_scal _ _ (scals_trms _), rens_scal _ _ (scals_dia _ _), h1, h2, h3, h4, h6, Int.toNat_one, ren_el2, idX_eq, wbE, ↓symP, symE, listE, AK.isCall, enumE, ev, putE, abin, aun, AV.cells, ↓reduceIte, reduceCtorEq, Nat.reduceAdd, Nat.reduceMul, Nat.reduceSub, Nat.reduceEqDiff, Nat.reduceLT, Nat.reduceLeDiff, implies_true, Back, retv, retV, AV.scal, AV.scals]; try simp only [idX_eq, ite_both, pickP_both, not_not_eq, Bool.not_eq_false, Bool.not_eq_true]
    exact ⟨_, rfl⟩
  · simp only [List.cons_append, List.nil_append] at hX hY
    simp (maxSteps := 3000000) only [over4E, heapL, fillA, rd, wrt, wrl, AO.withl, a_w_FnExactMultiplyElements, B89_i_MultiplyElements_M5, B89_s_MultiplyElements_M5, B89_w_eqElement_M5, B89_w_heldElement_M5, B89_w_markElement_M5, B89_w_szElement_M5, B89_w_toElement_M5, g_el2, g_eqElement, g_heldElement, g_markElement, g_szElement, g_toElement, Int.reduceEq, Int.reduceNe, Int.reduceBEq, Int.reduceBNe, Int.reduceLT, Int.reduceLE, Int.reduceAdd, Int.reduceSub, Int.reduceMul, hX, hY, hl1, hl2, hif, hlt, hif2, hlt2, c1, idX_eq, wbE, ↓symP, symE, listE, AK.isCall, enumE, ev, putE, abin, aun, AV.cells, ↓reduceIte, reduceCtorEq, Nat.reduceAdd, Nat.reduceMul, Nat.reduceSub, Nat.reduceEqDiff, Nat.reduceLT, Nat.reduceLeDiff, implies_true, Back, retv, retV, AV.scal, AV.scals]; try simp only [idX_eq, ite_both, pickP_both, not_not_eq, Bool.not_eq_false, Bool.not_eq_true]
    refine WA.treeB B89_ok (fun s => s = ⟨[(7, .int .i64 E), (6, .ptr 4 0), (3, .ptr 3 0), (2, .ptr 2 0)], [o, o', .cells [.int .i64 p, .int .i64 c, .int .i64 n, .slc 0 0 nx true cx], .cells [.int .i64 p', .int .i64 c', .int .i64 n', .slc 1 0 ny true cy], .cells [.int .i64 P, .int .i64 C, .int .i64 N, .slc 5 0 L.length false 0], .vec 18 (trms L)]⟩) ?_ ?_
    · unfold a_w_FnExactMultiplyElements_t1
      simp (maxSteps := 3000000) only [over4E, heapL, fillA, rd, wrt, wrl, AO.withl, B89_i_MultiplyElements_M5, B89_s_MultiplyElements_M5, B89_w_eqElement_M5, B89_w_heldElement_M5, B89_w_markElement_M5, B89_w_szElement_M5, B89_w_toElement_M5, g_el2, g_eqElement, g_heldElement, g_markElement, g_szElement, g_toElement, Int.reduceEq, Int.reduceNe, Int.reduceBEq, Int.reduceBNe, Int.reduceLT, Int.reduceLE, Int.reduceAdd, Int.reduceSub, Int.reduceMul, ren_el, elemV, rn_vec, rens_scal _ _ (scals_trms _), rens_scal _ _ (scals_dia _ _), wbTT_alt, wbTT_no, hX, hY, he, b0, b1, b2, b3, h1, h2, h8, and_self, ren_el2, idX_eq, wbE, ↓symP, symE, listE, AK.isCall, enumE, ev, putE, abin, aun, AV.cells, ↓reduceIte, reduceCtorEq, Nat.reduceAdd, Nat.reduceMul, Nat.reduceSub, Nat.reduceEqDiff, Nat.reduceLT, Nat.reduceLeDiff, implies_true, Back, retv, retV, AV.scal, AV.scals]; try simp only [idX_eq, ite_both, pickP_both, not_not_eq, Bool.not_eq_false, Bool.not_eq_true]
      repeat' first | (with_reducible exact ⟨_, rfl⟩) | (exact rfl) | (with_reducible refine And.intro ?_ ?_)
      · refine ⟨_, Weak.keep [0, 1, 2, 3, 7, 6] [7, 6, 3, 2] ⟨by decide, ?_⟩ ?_, ?_⟩
        · simp only [hg1, hg2, hg3, hg4, withins_scal _ _ (scals_trms _), keepW, keepL, AV.within, AV.withins, ↓reduceIte, reduceCtorEq, Nat.reduceEqDiff, Nat.reduceBEq, implies_true, Nat.reduceAdd]
        · simp only [hg1, hg2, hg3, hg4, withins_scal _ _ (scals_trms _), keepW, keepL, AV.within, AV.withins, ↓reduceIte, reduceCtorEq, Nat.reduceEqDiff, Nat.reduceBEq, implies_true, Nat.reduceAdd]
        · simp only [hg1, hg2, hg3, hg4, rens_scal _ _ (scals_trms _), keptL, keptW, keptE, kepts, slots, ↓reduceIte, reduceCtorEq, Nat.reduceEqDiff, AV.ren, AV.rens, pos, Nat.reduceAdd]
      · refine ⟨_, Weak.keep [0, 1, 2, 3, 6, 7] [7, 6, 3, 2] ⟨by decide, ?_⟩ ?_, ?_⟩
        · simp only [hg1, hg2, hg3, hg4, withins_scal _ _ (scals_trms _), keepW, keepL, AV.within, AV.withins, ↓reduceIte, reduceCtorEq, Nat.reduceEqDiff, Nat.reduceBEq, implies_true, Nat.reduceAdd]
        · simp only [hg1, hg2, hg3, hg4, withins_scal _ _ (scals_trms _), keepW, keepL, AV.within, AV.withins, ↓reduceIte, reduceCtorEq, Nat.reduceEqDiff, Nat.reduceBEq, implies_true, Nat.reduceAdd]
        · simp only [hg1, hg2, hg3, hg4, rens_scal _ _ (scals_trms _), keptL, keptW, keptE, kepts, slots, ↓reduceIte, reduceCtorEq, Nat.reduceEqDiff, AV.ren, AV.rens, pos, Nat.reduceAdd]
      · refine ⟨_, Weak.keep [0, 1, 2, 3, 5, 7] [7, 6, 3, 2] ⟨by decide, ?_⟩ ?_, ?_⟩
        · simp only [hg1, hg2, hg3, hg4, withins_scal _ _ (scals_trms _), keepW, keepL, AV.within, AV.withins, ↓reduceIte, reduceCtorEq, Nat.reduceEqDiff, Nat.reduceBEq, implies_true, Nat.reduceAdd]
        · simp only [hg1, hg2, hg3, hg4, withins_scal _ _ (scals_trms _), keepW, keepL, AV.within, AV.withins, ↓reduceIte, reduceCtorEq, Nat.reduceEqDiff, Nat.reduceBEq, implies_true, Nat.reduceAdd]
        · simp only [hg1, hg2, hg3, hg4, rens_scal _ _ (scals_trms _), keptL, keptW, keptE, kepts, slots, ↓reduceIte, reduceCtorEq, Nat.reduceEqDiff, AV.ren, AV.rens, pos, Nat.reduceAdd]
      · refine ⟨_, Weak.keep [0, 1, 2, 3, 4, 7] [7, 6, 3, 2] ⟨by decide, ?_⟩ ?_, ?_⟩
        · simp only [hg1, hg2, hg3, hg4, withins_scal _ _ (scals_trms _), keepW, keepL, AV.within, AV.withins, ↓reduceIte, reduceCtorEq, Nat.reduceEqDiff, Nat.reduceBEq, implies_true, Nat.reduceAdd]
        · simp only [hg1, hg2, hg3, hg4, withins_scal _ _ (scals_trms _), keepW, keepL, AV.within, AV.withins, ↓reduceIte, reduceCtorEq, Nat.reduceEqDiff, Nat.reduceBEq, implies_true, Nat.reduceAdd]
        · simp only [hg1, hg2, hg3, hg4, rens_scal _ _ (scals_trms _), keptL, keptW, keptE, kepts, slots, ↓reduceIte, reduceCtorEq, Nat.reduceEqDiff, AV.ren, AV.rens, pos, Nat.reduceAdd]
    rintro s rfl
    simp (maxSteps := 3000000) only [over4E, heapL, fillA, rd, wrt, wrl, AO.withl, a_w_FnExactMultiplyElements_k2, B89_i_MultiplyElements_M5, B89_s_MultiplyElements_M5, B89_w_eqElement_M5, B89_w_heldElement_M5, B89_w_markElement_M5, B89_w_szElement_M5, B89_w_toElement_M5, g_el2, g_eqElement, g_heldElement, g_markElement, g_szElement, g_toElement, Int.reduceEq, Int.reduceNe, Int.reduceBEq, Int.reduceBNe, Int.reduceLT, Int.reduceLE, Int.reduceAdd, Int.reduceSub, Int.reduceMul, ren_el, elemV, rn_vec, rens_scal _ _ (scals_trms _), rens_scal _ _ (scals_dia _ _), hX, hY, he, b0, b1, b2, b3, h1, h2, h3, h4, h6, h7, h8, h9, c2, and_self, Int.toNat_one, Int.toNat_natCast, ren_el2, idX_eq, wbE, ↓symP, symE, listE, AK.isCall, enumE, ev, putE, abin, aun, AV.cells, ↓reduceIte, reduceCtorEq, Nat.reduceAdd, Nat.reduceMul, Nat.reduceSub, Nat.reduceEqDiff, Nat.reduceLT, Nat.reduceLeDiff, implies_true, Back, retv, retV, AV.scal, AV.scals]; try simp only [idX_eq, ite_both, pickP_both, not_not_eq, Bool.not_eq_false, Bool.not_eq_true]
    repeat' first | (with_reducible exact ⟨_, rfl⟩) | (exact rfl) | (with_reducible refine And.intro ?_ ?_)
    refine WA.treeB B89_ok (fun s => s = ⟨[(16, .int .i64 E), (15, .ptr 6 0), (13, .int .i64 (1 + 18 * L.length : Nat)), (10, .ptr 4 0), (7, .int .i64 E), (6, .ptr 2 0)], [o, o', .cells [.int .i64 P, .int .i64 C, .int .i64 N, .slc 3 0 L.length false 0], .vec 18 (trms L), .cells [.int .i64 P, .int .i64 C, .int .i64 N, .slc 5 0 L.length false 0], .vec 18 (trms (marks L.length 1)), .cells [.int .i64 P, .int .i64 C, .int .i64 N, .slc 7 0 L.length false 0], .vec 18 (trms L)]⟩) ?_ ?_
    · unfold a_w_FnExactMultiplyElements_t2
      simp (maxSteps := 3000000) only [over4E, heapL, fillA, rd, wrt, wrl, AO.withl, B89_i_MultiplyElements_M5, B89_s_MultiplyElements_M5, B89_w_eqElement_M5, B89_w_heldElement_M5, B89_w_markElement_M5, B89_w_szElement_M5, B89_w_toElement_M5, g_el2, g_eqElement, g_heldElement, g_markElement, g_szElement, g_toElement, Int.reduceEq, Int.reduceNe, Int.reduceBEq, Int.reduceBNe, Int.reduceLT, Int.reduceLE, Int.reduceAdd, Int.reduceSub, Int.reduceMul, ren_el, elemV, rn_vec, rens_scal _ _ (scals_trms _), rens_scal _ _ (scals_dia _ _), wbTT_alt, wbTT_no, hX, hY, he, b0, b1, b2, b3, h1, h2, h8, and_self, ren_el2, idX_eq, wbE, ↓symP, symE, listE, AK.isCall, enumE, ev, putE, abin, aun, AV.cells, ↓reduceIte, reduceCtorEq, Nat.reduceAdd, Nat.reduceMul, Nat.reduceSub, Nat.reduceEqDiff, Nat.reduceLT, Nat.reduceLeDiff, implies_true, Back, retv, retV, AV.scal, AV.scals]; try simp only [idX_eq, ite_both, pickP_both, not_not_eq, Bool.not_eq_false, Bool.not_eq_true]
      repeat' first | (with_reducible exact ⟨_, rfl⟩) | (exact rfl) | (with_reducible refine And.intro ?_ ?_)
      · refine ⟨_, Weak.keep [0, 1, 4, 5, 11, 10, 17, 16] [16, 15, 13, 10, 7, 6] ⟨by decide, ?_⟩ ?_, ?_⟩
        · simp only [hg1, hg2, hg3, hg4, withins_scal _ _ (scals_trms _), keepW, keepL, AV.within, AV.withins, ↓reduceIte, reduceCtorEq, Nat.reduceEqDiff, Nat.reduceBEq, implies_true, Nat.reduceAdd]
        · simp only [hg1, hg2, hg3, hg4, withins_scal _ _ (scals_trms _), keepW, keepL, AV.within, AV.withins, ↓reduceIte, reduceCtorEq, Nat.reduceEqDiff, Nat.reduceBEq, implies_true, Nat.reduceAdd]
        · simp only [hg1, hg2, hg3, hg4, rens_scal _ _ (scals_trms _), keptL, keptW, keptE, kepts, slots, ↓reduceIte, reduceCtorEq, Nat.reduceEqDiff, AV.ren, AV.rens, pos, Nat.reduceAdd]
      · refine ⟨_, Weak.keep [0, 1, 4, 5, 11, 10, 16, 17] [16, 15, 13, 10, 7, 6] ⟨by decide, ?_⟩ ?_, ?_⟩
        · simp only [hg1, hg2, hg3, hg4, withins_scal _ _ (scals_trms _), keepW, keepL, AV.within, AV.withins, ↓reduceIte, reduceCtorEq, Nat.reduceEqDiff, Nat.reduceBEq, implies_true, Nat.reduceAdd]
        · simp only [hg1, hg2, hg3, hg4, withins_scal _ _ (scals_trms _), keepW, keepL, AV.within, AV.withins, ↓reduceIte, reduceCtorEq, Nat.reduceEqDiff, Nat.reduceBEq, implies_true, Nat.reduceAdd]
        · simp only [hg1, hg2, hg3, hg4, rens_scal _ _ (scals_trms _), keptL, keptW, keptE, kepts, slots, ↓reduceIte, reduceCtorEq, Nat.reduceEqDiff, AV.ren, AV.rens, pos, Nat.reduceAdd]
      · refine ⟨_, Weak.keep [0, 1, 4, 5, 11, 10, 15, 17] [16, 15, 13, 10, 7, 6] ⟨by decide, ?_⟩ ?_, ?_⟩
        · simp only [hg1, hg2, hg3, hg4, withins_scal _ _ (scals_trms _), keepW, keepL, AV.within, AV.withins, ↓reduceIte, reduceCtorEq, Nat.reduceEqDiff, Nat.reduceBEq, implies_true, Nat.reduceAdd]
        · simp only [hg1, hg2, hg3, hg4, withins_scal _ _ (scals_trms _), keepW, keepL, AV.within, AV.withins, ↓reduceIte, reduceCtorEq, Nat.reduceEqDiff, Nat.reduceBEq, implies_true, Nat.reduceAdd]
        · simp only [hg1, hg2, hg3, hg4, rens_scal _ _ (scals_trms _), keptL, keptW, keptE, kepts, slots, ↓reduceIte, reduceCtorEq, Nat.reduceEqDiff, AV.ren, AV.rens, pos, Nat.reduceAdd]
      · refine ⟨_, Weak.keep [0, 1, 4, 5, 11, 10, 14, 17] [16, 15, 13, 10, 7, 6] ⟨by decide, ?_⟩ ?_, ?_⟩
        · simp only [hg1, hg2, hg3, hg4, withins_scal _ _ (scals_trms _), keepW, keepL, AV.within, AV.withins, ↓reduceIte, reduceCtorEq, Nat.reduceEqDiff, Nat.reduceBEq, implies_true, Nat.reduceAdd]
        · simp only [hg1, hg2, hg3, hg4, withins_scal _ _ (scals_trms _), keepW, keepL, AV.within, AV.withins, ↓reduceIte, reduceCtorEq, Nat.reduceEqDiff, Nat.reduceBEq, implies_true, Nat.reduceAdd]
        · simp only [hg1, hg2, hg3, hg4, rens_scal _ _ (scals_trms _), keptL, keptW, keptE, kepts, slots, ↓reduceIte, reduceCtorEq, Nat.reduceEqDiff, AV.ren, AV.rens, pos, Nat.reduceAdd]
    rintro s rfl
    simp (maxSteps := 3000000) only [over4E, heapL, fillA, rd, wrt, wrl, AO.withl, a_w_FnExactMultiplyElements_k1, B89_i_MultiplyElements_M5, B89_s_MultiplyElements_M5, B89_w_eqElement_M5, B89_w_heldElement_M5, B89_w_markElement_M5, B89_w_szElement_M5, B89_w_toElement_M5, g_el2, g_eqElement, g_heldElement, g_markElement, g_szElement, g_toElement, Int.reduceEq, Int.reduceNe, Int.reduceBEq, Int.reduceBNe, Int.reduceLT, Int.reduceLE, Int.reduceAdd, Int.reduceSub, Int.reduceMul, ren_el, elemV, rn_vec, rens_scal _ _ (scals_trms _), rens_scal _ _ (scals_dia _ _), h1, h2, h3, h4, h6, Int.toNat_one, ren_el2, idX_eq, wbE, ↓symP, symE, listE, AK.isCall, enumE, ev, putE, abin, aun, AV.cells, ↓reduceIte, reduceCtorEq, Nat.reduceAdd, Nat.reduceMul, Nat.reduceSub, Nat.reduceEqDiff, Nat.reduceLT, Nat.reduceLeDiff, implies_true, Back, retv, retV, AV.scal, AV.scals]; try simp only [idX_eq, ite_both, pickP_both, not_not_eq, Bool.not_eq_false, Bool.not_eq_true]
    exact ⟨_, rfl⟩
end Go.Proofs.Ytkgoadglalpbfaa
