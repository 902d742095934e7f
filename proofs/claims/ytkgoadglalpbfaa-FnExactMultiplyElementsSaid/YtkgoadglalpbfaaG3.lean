/- Contracts: elements that are right, the program's side. -/
import Derived.Test.YtkgoadglalpbfaaG2
namespace Go.Proofs.Ytkgoadglalpbfaa
open Go.Am Go.Dia
set_option linter.unusedSimpArgs false
set_option linter.unusedVariables false
set_option maxRecDepth 4000
set_option maxHeartbeats 1000000

theorem trm_get0 {t : Int × List Nat × Int} : (trm t)[0]? = some (.int .i64 t.1) := rfl
theorem trm_dia' {t : Int × List Nat × Int} (h : okD t.2.1) : List.take 17 (trm t) = dia t.1 t.2.1 := by
  have := trm_dia h
  rwa [List.drop_zero] at this

theorem B33_i_Diagram_text_G3 : B33 100 = some (readE 17 g_text) := rfl
theorem B33_i_IsDiagram_G3 : B33 99 = some (plainE g_isS) := rfl
theorem B33_i_fieldOk_G3 : B33 64 = some (plainE g_fieldOk) := rfl
theorem B33_i_in_G3 : B33 93 = some (plainE g_in) := rfl
def a_i_IsElement_l1 : AC := .seq (.region [⟨some 27, none, .op (.bin .lss (.t 26) (.t 25))⟩]) (.seq (.cond 27 .skip (.exit 0)) (.seq (.block 1 (.seq (.region [⟨some 28, none, .op (.mov (.t 26))⟩,
          ⟨some 29, none, .op (.iaddrS 18 (.t 24) (.t 26))⟩,
          ⟨some 30, none, .op (.loadN 18 (.t 29))⟩,
          ⟨some 4, none, .op (.alloc [(.int .i64 0), (.int .u8 0), (.int .u8 0), (.int .u8 0), (.int .u8 0), (.int .u8 0), (.int .u8 0), (.int .u8 0), (.int .u8 0), (.int .u8 0), (.int .u8 0), (.int .u8 0), (.int .u8 0), (.int .u8 0), (.int .u8 0), (.int .u8 0), (.int .u8 0), (.int .i64 0)])⟩,
          ⟨some 3, none, .op (.mov (.t 28))⟩,
          ⟨none, none, .op (.storeN 18 (.t 4) (.t 30))⟩]) (.seq (.seq (.region [⟨some 31, none, .op (.faddr 0 (.t 4))⟩,
           ⟨some 32, none, .op (.faddr 0 (.t 31))⟩,
           ⟨some 33, none, .op (.load1 (.t 32))⟩,
           ⟨some 34, none, .op (.faddr 2 (.t 1))⟩,
           ⟨some 35, none, .op (.load1 (.t 34))⟩,
           ⟨some 36, none, .op (.bin .neq (.t 33) (.t 35))⟩,
           ⟨some 37, none, .op (.mov (.t 36))⟩,
           ⟨some 38, some (37, false), .op (.faddr 0 (.t 4))⟩,
           ⟨some 39, some (37, false), .op (.loadN 17 (.t 38))⟩,
           ⟨some 40, some (37, false), .call (.c (.fn 99 [] [])) [(.t 39)]⟩,
           ⟨some 41, some (37, false), .op (.un .not (.t 40))⟩,
           ⟨some 42, none, .op (.pick (.t 37) (.c (.bool true)) (.t 41))⟩,
           ⟨some 43, none, .op (.mov (.t 42))⟩,
           ⟨some 44, some (43, false), .op (.faddr 17 (.t 4))⟩,
           ⟨some 45, some (43, false), .op (.load1 (.t 44))⟩,
           ⟨some 46, some (43, false), .op (.faddr 0 (.t 1))⟩,
           ⟨some 47, some (43, false), .op (.load1 (.t 46))⟩,
           ⟨some 48, some (43, false), .op (.bin .sub (.t 47) (.c (.int .i64 1)))⟩,
           ⟨some 49, some (43, false), .call (.c (.fn 93 [] [])) [(.t 45), (.c (.int .i64 1)), (.t 48)]⟩,
           ⟨some 50, some (43, false), .op (.un .not (.t 49))⟩,
           ⟨some 51, none, .op (.pick (.t 43) (.c (.bool true)) (.t 50))⟩]) (.cond 51 (.seq (.region [⟨some 2, none, .op (.mov (.c (.bool false)))⟩]) .ret) .skip)) (.seq (.region [⟨some 52, none, .op (.mov (.t 3))⟩,
          ⟨some 53, none, .op (.bin .gtr (.t 52) (.c (.int .i64 0)))⟩,
          ⟨some 54, none, .op (.mov (.t 53))⟩,
          ⟨some 55, some (54, true), .op (.faddr 3 (.t 1))⟩,
          ⟨some 56, some (54, true), .op (.load1 (.t 55))⟩,
          ⟨some 57, some (54, true), .op (.mov (.t 3))⟩,
          ⟨some 58, some (54, true), .op (.bin .sub (.t 57) (.c (.int .i64 1)))⟩,
          ⟨some 59, some (54, true), .op (.iaddrS 18 (.t 56) (.t 58))⟩,
          ⟨some 60, some (54, true), .op (.faddr 0 (.t 59))⟩,
          ⟨some 61, some (54, true), .call (.c (.fn 100 [] [])) [(.t 60)]⟩,
          ⟨some 62, some (54, true), .op (.faddr 0 (.t 4))⟩,
          ⟨some 63, some (54, true), .call (.c (.fn 100 [] [])) [(.t 62)]⟩,
          ⟨some 64, some (54, true), .op (.bin .geq (.t 61) (.t 63))⟩,
          ⟨some 65, none, .op (.pick (.t 54) (.t 64) (.c (.bool false)))⟩]) (.cond 65 (.seq (.region [⟨some 2, none, .op (.mov (.c (.bool false)))⟩]) .ret) .skip))))) (.region [⟨some 66, none, .op (.bin .add (.t 26) (.c (.int .i64 1)))⟩,
       ⟨some 26, none, .op (.mov (.t 66))⟩])))
def a_i_IsElement_k1 : AC := .seq (.region [⟨some 2, none, .op (.mov (.c (.bool true)))⟩]) .ret
def a_i_IsElement : AC := .seq (.region [⟨some 1, none, .op (.box (.t 0))⟩,
     ⟨some 2, none, .op (.mov (.c (.bool false)))⟩]) (.seq (.seq (.region [⟨some 5, none, .op (.faddr 0 (.t 1))⟩,
      ⟨some 6, none, .op (.load1 (.t 5))⟩,
      ⟨some 7, none, .op (.faddr 1 (.t 1))⟩,
      ⟨some 8, none, .op (.load1 (.t 7))⟩,
      ⟨some 9, none, .call (.c (.fn 64 [] [])) [(.t 6), (.t 8)]⟩,
      ⟨some 10, none, .op (.un .not (.t 9))⟩,
      ⟨some 11, none, .op (.mov (.t 10))⟩,
      ⟨some 12, some (11, false), .op (.faddr 2 (.t 1))⟩,
      ⟨some 13, some (11, false), .op (.load1 (.t 12))⟩,
      ⟨some 14, some (11, false), .call (.c (.fn 93 [] [])) [(.t 13), (.c (.int .i64 1)), (.c (.int .i64 8))]⟩,
      ⟨some 15, some (11, false), .op (.un .not (.t 14))⟩,
      ⟨some 16, none, .op (.pick (.t 11) (.c (.bool true)) (.t 15))⟩,
      ⟨some 17, none, .op (.mov (.t 16))⟩,
      ⟨some 18, some (17, false), .op (.faddr 3 (.t 1))⟩,
      ⟨some 19, some (17, false), .op (.load1 (.t 18))⟩,
      ⟨some 20, some (17, false), .op (.len .slc (.t 19))⟩,
      ⟨some 21, some (17, false), .op (.bin .gtr (.t 20) (.c (.int .i64 140)))⟩,
      ⟨some 22, none, .op (.pick (.t 17) (.c (.bool true)) (.t 21))⟩]) (.cond 22 (.seq (.region [⟨some 2, none, .op (.mov (.c (.bool false)))⟩]) .ret) .skip)) (.seq (.seq (.region [⟨some 23, none, .op (.faddr 3 (.t 1))⟩,
      ⟨some 24, none, .op (.load1 (.t 23))⟩,
      ⟨some 25, none, .op (.len .slc (.t 24))⟩,
      ⟨some 26, none, .op (.mov (.c (.int .i64 0)))⟩]) (.block 0 (.loop a_i_IsElement_l1))) a_i_IsElement_k1))
theorem r_i_IsElement : readF Try.prog 48 = some ⟨67, a_i_IsElement, [.slot 2]⟩ := by kernel_rfl
theorem c_i_IsElement (p c n : Int) (ts : List (Int × List Nat × Int)) (ht : okT ts) (hl : ts.length ≤ 1000000000) :
    Am.Fn Try.prog 48 [elemV p c n 0 ts.length] [.ro (trms ts)] (fun v H' => v = .bool (elemB p c n ts) ∧ H' = [.ro (trms ts)]) := by
  refine Am.Fn.sameB (R := fun v => v = _) B33_ok mixed r_i_IsElement (by simp) (ro_under (scals_trms _)) ?_
  have htl := trms_length ht
  cases hP : primeB p && decide (0 ≤ c ∧ c ≤ p - 1) with
  | false =>
    have : elemB p c n ts = false := by simp only [elemB, hP, Bool.false_and]
    simp (maxSteps := 3000000) only [over4E, heapL, fillA, rd, wrt, wrl, AO.withl, a_i_IsElement, B33_i_Diagram_text_G3, B33_i_IsDiagram_G3, B33_i_fieldOk_G3, B33_i_in_G3, g_fieldOk, g_in, g_isS, g_text, elemV, hP, Int.reduceEq, Int.reduceNe, Int.reduceBEq, Int.reduceBNe, Int.reduceLT, Int.reduceLE, Int.reduceAdd, Int.reduceSub, Int.reduceMul, this, idX_eq, wbE, ↓symP, symE, listE, AK.isCall, enumE, ev, putE, abin, aun, AV.cells, ↓reduceIte, reduceCtorEq, Nat.reduceAdd, Nat.reduceMul, Nat.reduceSub, Nat.reduceEqDiff, Nat.reduceLT, Nat.reduceLeDiff, implies_true, Back, retv, retV, AV.scal, AV.scals]; try simp only [idX_eq, ite_both, pickP_both, not_not_eq, Bool.not_eq_false, Bool.not_eq_true]
    exact ⟨_, rfl⟩
  | true =>
  have hP' := hP
  rw [Bool.and_eq_true, decide_eq_true_eq] at hP'
  obtain ⟨hpb, hc⟩ := hP'
  have hpr := prime_range hpb
  have hwp : wrapK .i64 (p - 1) = p - 1 := wrap64 (by omega) (by omega)
  by_cases hn : 1 ≤ n ∧ n ≤ 8
  case neg =>
    have : elemB p c n ts = false := by simp only [elemB, decide_eq_false hn, Bool.and_false, Bool.false_and]
    simp (maxSteps := 3000000) only [over4E, heapL, fillA, rd, wrt, wrl, AO.withl, a_i_IsElement, B33_i_Diagram_text_G3, B33_i_IsDiagram_G3, B33_i_fieldOk_G3, B33_i_in_G3, g_fieldOk, g_in, g_isS, g_text, elemV, hP, hwp, hn, and_self, Int.reduceEq, Int.reduceNe, Int.reduceBEq, Int.reduceBNe, Int.reduceLT, Int.reduceLE, Int.reduceAdd, Int.reduceSub, Int.reduceMul, this, idX_eq, wbE, ↓symP, symE, listE, AK.isCall, enumE, ev, putE, abin, aun, AV.cells, ↓reduceIte, reduceCtorEq, Nat.reduceAdd, Nat.reduceMul, Nat.reduceSub, Nat.reduceEqDiff, Nat.reduceLT, Nat.reduceLeDiff, implies_true, Back, retv, retV, AV.scal, AV.scals]; try simp only [idX_eq, ite_both, pickP_both, not_not_eq, Bool.not_eq_false, Bool.not_eq_true]
    exact ⟨_, rfl⟩
  by_cases h140 : ts.length ≤ 140
  case neg =>
    have : elemB p c n ts = false := by simp only [elemB, decide_eq_false h140, Bool.and_false, Bool.false_and]
    have h140' : (140 : Int) < ts.length := by omega
    simp (maxSteps := 3000000) only [over4E, heapL, fillA, rd, wrt, wrl, AO.withl, a_i_IsElement, B33_i_Diagram_text_G3, B33_i_IsDiagram_G3, B33_i_fieldOk_G3, B33_i_in_G3, g_fieldOk, g_in, g_isS, g_text, elemV, hP, hwp, hn, and_self, h140', gt_iff_lt, Int.reduceEq, Int.reduceNe, Int.reduceBEq, Int.reduceBNe, Int.reduceLT, Int.reduceLE, Int.reduceAdd, Int.reduceSub, Int.reduceMul, this, idX_eq, wbE, ↓symP, symE, listE, AK.isCall, enumE, ev, putE, abin, aun, AV.cells, ↓reduceIte, reduceCtorEq, Nat.reduceAdd, Nat.reduceMul, Nat.reduceSub, Nat.reduceEqDiff, Nat.reduceLT, Nat.reduceLeDiff, implies_true, Back, retv, retV, AV.scal, AV.scals]; try simp only [idX_eq, ite_both, pickP_both, not_not_eq, Bool.not_eq_false, Bool.not_eq_true]
    exact ⟨_, rfl⟩
  have h140' : ¬ ((140 : Int) < ts.length) := by omega
  simp (maxSteps := 3000000) only [over4E, heapL, fillA, rd, wrt, wrl, AO.withl, a_i_IsElement, B33_i_Diagram_text_G3, B33_i_IsDiagram_G3, B33_i_fieldOk_G3, B33_i_in_G3, g_fieldOk, g_in, g_isS, g_text, elemV, hP, hwp, hn, and_self, h140', gt_iff_lt, Int.reduceEq, Int.reduceNe, Int.reduceBEq, Int.reduceBNe, Int.reduceLT, Int.reduceLE, Int.reduceAdd, Int.reduceSub, Int.reduceMul, idX_eq, wbE, ↓symP, symE, listE, AK.isCall, enumE, ev, putE, abin, aun, AV.cells, ↓reduceIte, reduceCtorEq, Nat.reduceAdd, Nat.reduceMul, Nat.reduceSub, Nat.reduceEqDiff, Nat.reduceLT, Nat.reduceLeDiff, implies_true, Back, retv, retV, AV.scal, AV.scals]; try simp only [idX_eq, ite_both, pickP_both, not_not_eq, Bool.not_eq_false, Bool.not_eq_true]
  refine WA.loopB B33_ok (fun s => ∃ i : Nat, s = ⟨[(26, .int .i64 i), (25, .int .i64 ts.length), (24, .slc 0 0 ts.length false 0), (1, .ptr 1 0)], [.ro (trms ts), .cells [.int .i64 p, .int .i64 c, .int .i64 n, .slc 0 0 ts.length false 0]]⟩ ∧ i ≤ ts.length ∧ ∀ j, j < i → goodB p n ts j = true)
    (fun s => match get s.env 26 with | .int _ k => (200 - k).toNat | _ => 0) ⟨_, Weak.slots [26, 25, 24, 1], 0, rfl, by omega, by intros; omega⟩ ?_
  rintro s ⟨i, rfl, hi, hgood⟩
  by_cases hlt : i < ts.length
  case neg =>
    have hli : ¬ ((i : Int) < ts.length) := by omega
    simp (maxSteps := 3000000) only [over4E, heapL, fillA, rd, wrt, wrl, AO.withl, a_i_IsElement_l1, a_i_IsElement_k1, hli, Int.reduceEq, Int.reduceNe, Int.reduceBEq, Int.reduceBNe, Int.reduceLT, Int.reduceLE, Int.reduceAdd, Int.reduceSub, Int.reduceMul, idX_eq, wbE, ↓symP, symE, listE, AK.isCall, enumE, ev, putE, abin, aun, AV.cells, ↓reduceIte, reduceCtorEq, Nat.reduceAdd, Nat.reduceMul, Nat.reduceSub, Nat.reduceEqDiff, Nat.reduceLT, Nat.reduceLeDiff, implies_true, Back, retv, retV, AV.scal, AV.scals]; try simp only [idX_eq, ite_both, pickP_both, not_not_eq, Bool.not_eq_false, Bool.not_eq_true]
    exact ⟨⟨_, rfl⟩, elemB_yes hpb hc hn h140 fun j hj => hgood j (by omega)⟩
  have hli : (i : Int) < ts.length := by omega
  have hli' : (0 : Int) ≤ i := by omega
  have hw : wrapK .i64 ((i : Int) + 1) = ((i + 1 : Nat) : Int) := by rw [wrap64 (by omega) (by omega)]; rfl
  have hd := trms_get ht hlt
  have hok := ht _ (List.getElem_mem hlt)
  have hb1 : i * 18 < ts.length * 18 := by omega
  have hb2 : i * 18 + 18 ≤ ts.length * 18 := by omega
  have hG : goodB p n ts i = (isS ts[i].1.toNat ts[i].2.1 && (ts[i].1 == n) && decide (1 ≤ ts[i].2.2 ∧ ts[i].2.2 ≤ p - 1) && (i == 0 || ltT (ts.getD (i - 1) zT) ts[i])) := by
    simp only [goodB, getD_at hlt]
  generalize hT : ts[i] = T at hd hok hG
  have hu1 : List.take 17 (trm T) = dia T.1 T.2.1 := trm_dia' hok
  have hu2 : (trm T)[17]? = some (.int .i64 T.2.2) := trm_factor hok
  have hu3 := trm_length hok
  have hu4 : over (trm (0, List.replicate 16 0, 0)) 0 (trm T) = trm T := over_trm (by simp) hok.1
  obtain ⟨a, m, k⟩ := T
  simp only at hd hok hG hu1 hu2
  by_cases han : a = n
  case neg =>
    have hr := elemB_no (c := c) (p := p) (n := n) hlt (by rw [hG, beq_false_of_ne han]; simp)
    simp (maxSteps := 3000000) only [over4E, heapL, fillA, rd, wrt, wrl, AO.withl, a_i_IsElement_l1, B33_i_Diagram_text_G3, B33_i_IsDiagram_G3, B33_i_fieldOk_G3, B33_i_in_G3, g_fieldOk, g_in, g_isS, g_text, hli, hli', hd, htl, hb1, hb2, han, trm_zero, trm_zero_len, hu1, hu2, hu3, hu4, trm_get0, ones_trm, hwp, gt_iff_lt, Int.reduceEq, Int.reduceNe, Int.reduceBEq, Int.reduceBNe, Int.reduceLT, Int.reduceLE, Int.reduceAdd, Int.reduceSub, Int.reduceMul, and_self, idX_eq, wbE, ↓symP, symE, listE, AK.isCall, enumE, ev, putE, abin, aun, AV.cells, ↓reduceIte, reduceCtorEq, Nat.reduceAdd, Nat.reduceMul, Nat.reduceSub, Nat.reduceEqDiff, Nat.reduceLT, Nat.reduceLeDiff, implies_true, Back, retv, retV, AV.scal, AV.scals]; try simp only [idX_eq, ite_both, pickP_both, not_not_eq, Bool.not_eq_false, Bool.not_eq_true]
    exact ⟨⟨_, rfl⟩, hr⟩
  subst han
  cases hA : isS a.toNat m with
  | false =>
    have hr := elemB_no (c := c) (p := p) (n := a) hlt (by rw [hG, hA]; rfl)
    simp (maxSteps := 3000000) only [over4E, heapL, fillA, rd, wrt, wrl, AO.withl, a_i_IsElement_l1, a_i_IsElement_k1, B33_i_Diagram_text_G3, B33_i_IsDiagram_G3, B33_i_fieldOk_G3, B33_i_in_G3, g_fieldOk, g_in, g_isS, g_text, hli, hli', hd, htl, hb1, hb2, trm_zero, trm_zero_len, hu1, hu2, hu3, hu4, trm_get0, ones_trm, hwp, gt_iff_lt, diaOf_dia hok, hA, Int.reduceEq, Int.reduceNe, Int.reduceBEq, Int.reduceBNe, Int.reduceLT, Int.reduceLE, Int.reduceAdd, Int.reduceSub, Int.reduceMul, and_self, idX_eq, wbE, ↓symP, symE, listE, AK.isCall, enumE, ev, putE, abin, aun, AV.cells, ↓reduceIte, reduceCtorEq, Nat.reduceAdd, Nat.reduceMul, Nat.reduceSub, Nat.reduceEqDiff, Nat.reduceLT, Nat.reduceLeDiff, implies_true, Back, retv, retV, AV.scal, AV.scals]; try simp only [idX_eq, ite_both, pickP_both, not_not_eq, Bool.not_eq_false, Bool.not_eq_true]
    exact ⟨⟨_, rfl⟩, hr⟩
  | true =>
  by_cases hk : 1 ≤ k ∧ k ≤ p - 1
  case neg =>
    have hr := elemB_no (c := c) (p := p) (n := a) hlt (by rw [hG, hA, beq_self_eq_true, decide_eq_false hk]; rfl)
    simp (maxSteps := 3000000) only [over4E, heapL, fillA, rd, wrt, wrl, AO.withl, a_i_IsElement_l1, a_i_IsElement_k1, B33_i_Diagram_text_G3, B33_i_IsDiagram_G3, B33_i_fieldOk_G3, B33_i_in_G3, g_fieldOk, g_in, g_isS, g_text, hli, hli', hd, htl, hb1, hb2, trm_zero, trm_zero_len, hu1, hu2, hu3, hu4, trm_get0, ones_trm, hwp, gt_iff_lt, diaOf_dia hok, hA, hk, Int.reduceEq, Int.reduceNe, Int.reduceBEq, Int.reduceBNe, Int.reduceLT, Int.reduceLE, Int.reduceAdd, Int.reduceSub, Int.reduceMul, and_self, idX_eq, wbE, ↓symP, symE, listE, AK.isCall, enumE, ev, putE, abin, aun, AV.cells, ↓reduceIte, reduceCtorEq, Nat.reduceAdd, Nat.reduceMul, Nat.reduceSub, Nat.reduceEqDiff, Nat.reduceLT, Nat.reduceLeDiff, implies_true, Back, retv, retV, AV.scal, AV.scals]; try simp only [idX_eq, ite_both, pickP_both, not_not_eq, Bool.not_eq_false, Bool.not_eq_true]
    exact ⟨⟨_, rfl⟩, hr⟩
  have hnext : (i == 0 || ltT (ts.getD (i - 1) zT) (a, m, k)) = true → ∀ j, j < i + 1 → goodB p a ts j = true := by
    intro h j hj
    by_cases e : j = i
    · subst e; rw [hG, hA, beq_self_eq_true, decide_eq_true hk, h]; rfl
    · exact hgood j (by omega)
  by_cases hpos : 0 < i
  case neg =>
    have hk0 : ¬ ((0 : Int) < (i : Int)) := by omega
    simp (maxSteps := 3000000) only [over4E, heapL, fillA, rd, wrt, wrl, AO.withl, a_i_IsElement_l1, a_i_IsElement_k1, B33_i_Diagram_text_G3, B33_i_IsDiagram_G3, B33_i_fieldOk_G3, B33_i_in_G3, g_fieldOk, g_in, g_isS, g_text, hli, hli', hd, htl, hb1, hb2, trm_zero, trm_zero_len, hu1, hu2, hu3, hu4, trm_get0, ones_trm, hwp, gt_iff_lt, diaOf_dia hok, hA, hk, hk0, hw, Int.reduceEq, Int.reduceNe, Int.reduceBEq, Int.reduceBNe, Int.reduceLT, Int.reduceLE, Int.reduceAdd, Int.reduceSub, Int.reduceMul, and_self, idX_eq, wbE, ↓symP, symE, listE, AK.isCall, enumE, ev, putE, abin, aun, AV.cells, ↓reduceIte, reduceCtorEq, Nat.reduceAdd, Nat.reduceMul, Nat.reduceSub, Nat.reduceEqDiff, Nat.reduceLT, Nat.reduceLeDiff, implies_true, Back, retv, retV, AV.scal, AV.scals]; try simp only [idX_eq, ite_both, pickP_both, not_not_eq, Bool.not_eq_false, Bool.not_eq_true]
    refine ⟨_, Weak.keep [0, 1] [26, 25, 24, 1] ⟨by decide, ?_⟩ ?_, ⟨i + 1, ?_, by omega, hnext (by simp; omega)⟩, ?_⟩
    · simp only [withins_scal _ _ (scals_trms _), keepW, keepL, AV.within, AV.withins, ↓reduceIte, reduceCtorEq, Nat.reduceEqDiff, Nat.reduceBEq, implies_true, Nat.reduceAdd]
    · simp only [withins_scal _ _ (scals_trms _), keepW, keepL, AV.within, AV.withins, ↓reduceIte, reduceCtorEq, Nat.reduceEqDiff, Nat.reduceBEq, implies_true, Nat.reduceAdd]
    · simp only [rens_scal _ _ (scals_trms _), keptL, keptW, keptE, kepts, slots, ↓reduceIte, reduceCtorEq, Nat.reduceEqDiff, AV.ren, AV.rens, pos, Nat.reduceAdd]
    · simp only [keptL, keptW, keptE, kepts, slots, ↓reduceIte, reduceCtorEq, Nat.reduceEqDiff, AV.ren, AV.rens, pos, Nat.reduceAdd]; omega
  have hk0 : (0 : Int) < (i : Int) := by omega
  have hprev := hgood (i - 1) (by omega)
  have hlt' : i - 1 < ts.length := by omega
  have hw' : wrapK .i64 ((i : Int) - 1) = ((i - 1 : Nat) : Int) := by rw [wrap64 (by omega) (by omega)]; omega
  have hd' := trms_dia17 ht hlt'
  have hok' := ht _ (List.getElem_mem hlt')
  simp only [getD_at hlt'] at hnext hprev
  have hlt0 : ts.getD (i - 1) zT = ts[i - 1] := getD_at hlt'
  generalize hT' : ts[i - 1] = T' at hd' hok' hprev hnext hlt0
  obtain ⟨a', m', k'⟩ := T'
  simp only at hd' hok' hprev hnext hlt0
  have ha' : a' = a := by
    simp only [goodB, hlt0, Bool.and_eq_true, beq_iff_eq] at hprev
    exact hprev.1.1.2
  subst ha'
  have hc1 : (((i - 1 : Nat) : Int)) < ts.length := by omega
  have hc2 : (0 : Int) ≤ ((i - 1 : Nat) : Int) := by omega
  have hc3 : (i - 1) * 18 < ts.length * 18 := by omega
  have hc4 : (i - 1) * 18 + 18 ≤ ts.length * 18 := by omega
  have hc5 : (i - 1) * 18 + 17 ≤ ts.length * 18 := by omega
  have hn8 : 0 ≤ a' ∧ a' ≤ 8 := by omega
  cases hL : ltT (a', m', k') (a', m, k) with
  | false =>
    have hr := elemB_no (c := c) (p := p) (n := a') hlt (by rw [hG, hA, beq_self_eq_true, decide_eq_true hk, hlt0, hL]; simp; omega)
    have hL' : Op.bytesLess (textOf a'.toNat m') (textOf a'.toNat m) = false := hL
    simp (maxSteps := 3000000) only [over4E, heapL, fillA, rd, wrt, wrl, AO.withl, a_i_IsElement_l1, a_i_IsElement_k1, B33_i_Diagram_text_G3, B33_i_IsDiagram_G3, B33_i_fieldOk_G3, B33_i_in_G3, g_fieldOk, g_in, g_isS, g_text, hli, hli', hd, htl, hb1, hb2, trm_zero, trm_zero_len, hu1, hu2, hu3, hu4, trm_get0, ones_trm, hwp, gt_iff_lt, diaOf_dia hok, hA, hk, hk0, hw, hw', hd', hc1, hc2, hc3, hc4, hc5, diaOf_dia hok', hn8, hL', Int.reduceEq, Int.reduceNe, Int.reduceBEq, Int.reduceBNe, Int.reduceLT, Int.reduceLE, Int.reduceAdd, Int.reduceSub, Int.reduceMul, and_self, idX_eq, wbE, ↓symP, symE, listE, AK.isCall, enumE, ev, putE, abin, aun, AV.cells, ↓reduceIte, reduceCtorEq, Nat.reduceAdd, Nat.reduceMul, Nat.reduceSub, Nat.reduceEqDiff, Nat.reduceLT, Nat.reduceLeDiff, implies_true, Back, retv, retV, AV.scal, AV.scals]; try simp only [idX_eq, ite_both, pickP_both, not_not_eq, Bool.not_eq_false, Bool.not_eq_true]
    exact ⟨⟨_, rfl⟩, hr⟩
  | true =>
    have hL' : Op.bytesLess (textOf a'.toNat m') (textOf a'.toNat m) = true := hL
    simp (maxSteps := 3000000) only [over4E, heapL, fillA, rd, wrt, wrl, AO.withl, a_i_IsElement_l1, a_i_IsElement_k1, B33_i_Diagram_text_G3, B33_i_IsDiagram_G3, B33_i_fieldOk_G3, B33_i_in_G3, g_fieldOk, g_in, g_isS, g_text, hli, hli', hd, htl, hb1, hb2, trm_zero, trm_zero_len, hu1, hu2, hu3, hu4, trm_get0, ones_trm, hwp, gt_iff_lt, diaOf_dia hok, hA, hk, hk0, hw, hw', hd', hc1, hc2, hc3, hc4, hc5, diaOf_dia hok', hn8, hL', Int.reduceEq, Int.reduceNe, Int.reduceBEq, Int.reduceBNe, Int.reduceLT, Int.reduceLE, Int.reduceAdd, Int.reduceSub, Int.reduceMul, and_self, idX_eq, wbE, ↓symP, symE, listE, AK.isCall, enumE, ev, putE, abin, aun, AV.cells, ↓reduceIte, reduceCtorEq, Nat.reduceAdd, Nat.reduceMul, Nat.reduceSub, Nat.reduceEqDiff, Nat.reduceLT, Nat.reduceLeDiff, implies_true, Back, retv, retV, AV.scal, AV.scals]; try simp only [idX_eq, ite_both, pickP_both, not_not_eq, Bool.not_eq_false, Bool.not_eq_true]
    refine ⟨_, Weak.keep [0, 1] [26, 25, 24, 1] ⟨by decide, ?_⟩ ?_, ⟨i + 1, ?_, by omega, hnext (by rw [hL]; simp)⟩, ?_⟩
    · simp only [withins_scal _ _ (scals_trms _), keepW, keepL, AV.within, AV.withins, ↓reduceIte, reduceCtorEq, Nat.reduceEqDiff, Nat.reduceBEq, implies_true, Nat.reduceAdd]
    · simp only [withins_scal _ _ (scals_trms _), keepW, keepL, AV.within, AV.withins, ↓reduceIte, reduceCtorEq, Nat.reduceEqDiff, Nat.reduceBEq, implies_true, Nat.reduceAdd]
    · simp only [rens_scal _ _ (scals_trms _), keptL, keptW, keptE, kepts, slots, ↓reduceIte, reduceCtorEq, Nat.reduceEqDiff, AV.ren, AV.rens, pos, Nat.reduceAdd]
    · simp only [keptL, keptW, keptE, kepts, slots, ↓reduceIte, reduceCtorEq, Nat.reduceEqDiff, AV.ren, AV.rens, pos, Nat.reduceAdd]; omega
def B34 : Book := (B33.put 48 (g_isElem))

theorem B34_ok : BookOk Try.prog B34 := (B33_ok.put (k_isElem_of c_i_IsElement))

end Go.Proofs.Ytkgoadglalpbfaa
