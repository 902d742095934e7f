/- Contracts: elements that are right. -/
import Derived.Test.YtkgoadglalpbfaaG1
namespace Go.Proofs.Ytkgoadglalpbfaa
open Go.Am Go.Dia
set_option linter.unusedSimpArgs false
set_option linter.unusedVariables false
set_option maxRecDepth 4000
set_option maxHeartbeats 1000000

theorem take_take_drop {α : Type} (l : List α) (a b k : Nat) (h : a ≤ b) : List.take a (List.drop k l) = List.take a (List.take b (List.drop k l)) := by
  rw [List.take_take, Nat.min_eq_left h]
theorem trms_dia17 {ts : List (Int × List Nat × Int)} {i : Nat} (h : okT ts) (hi : i < ts.length) : List.take 17 (List.drop (i * 18) (trms ts)) = dia ts[i].1 ts[i].2.1 := by
  rw [take_take_drop _ 17 18 _ (by decide), trms_get h hi]
  have := trm_dia (h _ (List.getElem_mem hi))
  rwa [List.drop_zero] at this
theorem trms_fac {ts : List (Int × List Nat × Int)} {i : Nat} (h : okT ts) (hi : i < ts.length) : (trms ts)[i * 18 + 17]? = some (.int .i64 ts[i].2.2) := by
  have h1 := trm_factor (h _ (List.getElem_mem hi))
  rw [← trms_get h hi, List.getElem?_take, if_pos (by decide), List.getElem?_drop] at h1
  exact h1

def g_less : List AV → Option AV
  | [.agg l, .agg l'] => match diaOf l, diaOf l' with
    | some (n, m), some (n', m') => chk ((0 ≤ n ∧ n ≤ 8) ∧ 0 ≤ n' ∧ n' ≤ 8) (some (.bool (Op.bytesLess (textOf n.toNat m) (textOf n'.toNat m'))))
    | _, _ => none
  | _ => none
theorem B30_s_l01In_G2 : B30 60 = some (plainE g_in) := rfl
theorem B30_s_l01Is_G2 : B30 58 = some (plainE g_isS) := rfl
theorem B30_s_l01Prime_G2 : B30 59 = some (plainE g_prime) := rfl
theorem B30_s_l01Text_G2 : B30 109 = some (plainE g_textS) := rfl

def a_s_l01Less : AC := .seq (.region [⟨some 2, none, .op (.box (.t 0))⟩,
     ⟨some 3, none, .op (.box (.t 1))⟩,
     ⟨some 4, none, .op (.mov (.c (.bool false)))⟩]) (.seq (.draw true [⟨some 5, none, .op (.loadN 17 (.t 2))⟩,
     ⟨some 7, none, .op (.loadN 17 (.t 3))⟩,
     ⟨some 6, none, .call (.c (.fn 109 [] [])) [(.t 5)]⟩,
     ⟨some 8, none, .call (.c (.fn 109 [] [])) [(.t 7)]⟩,
     ⟨some 9, none, .op (.bin .lss (.t 6) (.t 8))⟩,
     ⟨some 4, none, .op (.mov (.t 9))⟩]) .ret)
theorem r_s_l01Less : readF Try.prog 114 = some ⟨10, a_s_l01Less, [.slot 4]⟩ := by kernel_rfl
theorem c_less (n n' : Int) (m m' : List Nat) (hm : okD m) (hm' : okD m') (hn : 0 ≤ n ∧ n ≤ 8) (hn' : 0 ≤ n' ∧ n' ≤ 8) :
    Am.Fn Try.prog 114 [.agg (dia n m), .agg (dia n' m')] [] (fun v H' => v = .bool (Op.bytesLess (textOf n.toNat m) (textOf n'.toNat m')) ∧ H' = []) := by
  refine Am.Fn.sameB (R := fun v => v = _) B30_ok mixed r_s_l01Less (by simp) (by simp) ?_
  simp (maxSteps := 3000000) only [over4E, heapL, fillA, rd, wrt, wrl, AO.withl, a_s_l01Less, B30_s_l01In_G2, B30_s_l01Is_G2, B30_s_l01Prime_G2, B30_s_l01Text_G2, g_in, g_isS, g_prime, g_textS, dia_length, hm.1, hm'.1, diaOf_dia hm, diaOf_dia hm', dia_take17 hm.1, dia_take17 hm'.1, hn, hn', Int.reduceEq, Int.reduceNe, Int.reduceBEq, Int.reduceBNe, Int.reduceLT, Int.reduceLE, Int.reduceAdd, Int.reduceSub, Int.reduceMul, idX_eq, wbE, ↓symP, symE, listE, AK.isCall, enumE, ev, putE, abin, aun, AV.cells, ↓reduceIte, reduceCtorEq, Nat.reduceAdd, Nat.reduceMul, Nat.reduceSub, Nat.reduceEqDiff, Nat.reduceLT, Nat.reduceLeDiff, implies_true, Back, retv, retV, AV.scal, AV.scals]; try simp only [idX_eq, ite_both, pickP_both, not_not_eq, Bool.not_eq_false, Bool.not_eq_true]
  exact ⟨⟨_, rfl⟩, _, rfl⟩
theorem k_less : Am.Callee Try.prog 114 (plainE g_less) := Am.Callee.plain fun xs v he => by
  unfold g_less at he
  split at he
  · split at he
    · rename_i l l' n m n' m' hd hd'
      obtain ⟨⟨h1, h2⟩, he⟩ := chk_some he
      cases he
      obtain ⟨rfl, hm⟩ := diaOf_some hd
      obtain ⟨rfl, hm'⟩ := diaOf_some hd'
      exact ⟨by simp only [AV.scals, AV.scal, scals_dia, Bool.and_self], rfl, c_less _ _ _ _ hm hm' h1 h2⟩
    · cases he
  · cases he
def B32 : Book := (B31.put 114 (plainE g_less))

theorem B32_ok : BookOk Try.prog B32 := (B31_ok.put (k_less))

theorem B32_s_l01In_G2 : B32 60 = some (plainE g_in) := rfl
theorem B32_s_l01Is_G2 : B32 58 = some (plainE g_isS) := rfl
theorem B32_s_l01Prime_G2 : B32 59 = some (plainE g_prime) := rfl
theorem B32_s_l01Text_G2 : B32 109 = some (plainE g_textS) := rfl
theorem B32_s_l01Less_G2 : B32 114 = some (plainE g_less) := rfl


def zT : Int × List Nat × Int := (0, [], 0)
def goodB (p n : Int) (ts : List (Int × List Nat × Int)) (i : Nat) : Bool :=
  isS (ts.getD i zT).1.toNat (ts.getD i zT).2.1 && ((ts.getD i zT).1 == n) && decide (1 ≤ (ts.getD i zT).2.2 ∧ (ts.getD i zT).2.2 ≤ p - 1) && (i == 0 || ltT (ts.getD (i - 1) zT) (ts.getD i zT))
def elemB (p c n : Int) (ts : List (Int × List Nat × Int)) : Bool :=
  primeB p && decide (0 ≤ c ∧ c ≤ p - 1) && decide (1 ≤ n ∧ n ≤ 8) && decide (ts.length ≤ 140) && (List.range ts.length).all (goodB p n ts)
theorem getD_at {ts : List (Int × List Nat × Int)} {i : Nat} (h : i < ts.length) : ts.getD i zT = ts[i] := by
  rw [List.getD_eq_getElem?_getD, List.getElem?_eq_getElem h]; rfl
theorem elemB_no {p c n : Int} {ts : List (Int × List Nat × Int)} {i : Nat} (h : i < ts.length) (hg : goodB p n ts i = false) : false = elemB p c n ts := by
  have : (List.range ts.length).all (goodB p n ts) = false := by
    rw [← Bool.not_eq_true, List.all_eq_true]
    intro h2
    have := h2 i (List.mem_range.2 h)
    rw [hg] at this; cases this
  simp [elemB, this]
theorem elemB_yes {p c n : Int} {ts : List (Int × List Nat × Int)} (hp : primeB p = true) (hc : 0 ≤ c ∧ c ≤ p - 1) (hn : 1 ≤ n ∧ n ≤ 8) (hl : ts.length ≤ 140) (h : ∀ i, i < ts.length → goodB p n ts i = true) : true = elemB p c n ts := by
  have : (List.range ts.length).all (goodB p n ts) = true := by
    rw [List.all_eq_true]
    exact fun i hi => h i (List.mem_range.1 hi)
  simp only [elemB, this, hp, decide_eq_true hc, decide_eq_true hn, decide_eq_true hl, Bool.and_self]
theorem prime_range {p : Int} (h : primeB p = true) : 2 ≤ p ∧ p ≤ 97 := by
  simp only [primeB, Bool.and_eq_true, decide_eq_true_eq] at h
  exact h.1

def a_s_l02Is_k1 : AC := .cond 81 (.seq (.region [⟨some 2, none, .op (.mov (.c (.bool false)))⟩]) .ret) .skip
def a_s_l02Is_k2 : AC := .region [⟨some 35, none, .op (.mov (.t 3))⟩,
       ⟨some 36, none, .op (.bin .add (.t 35) (.c (.int .i64 1)))⟩,
       ⟨some 3, none, .op (.mov (.t 36))⟩]
def a_s_l02Is_l1 : AC := .seq (.seq (.region [⟨some 30, none, .op (.mov (.t 3))⟩,
         ⟨some 31, none, .op (.faddr 3 (.t 1))⟩,
         ⟨some 32, none, .op (.load1 (.t 31))⟩,
         ⟨some 33, none, .op (.len .slc (.t 32))⟩,
         ⟨some 34, none, .op (.bin .lss (.t 30) (.t 33))⟩]) (.cond 34 .skip (.exit 0))) (.seq (.block 1 (.seq (.region [⟨some 37, none, .op (.faddr 3 (.t 1))⟩,
          ⟨some 38, none, .op (.load1 (.t 37))⟩,
          ⟨some 39, none, .op (.mov (.t 3))⟩,
          ⟨some 40, none, .op (.iaddrS 18 (.t 38) (.t 39))⟩,
          ⟨some 41, none, .op (.faddr 0 (.t 40))⟩,
          ⟨some 42, none, .op (.loadN 17 (.t 41))⟩,
          ⟨some 4, none, .op (.alloc [(.int .i64 0), (.int .u8 0), (.int .u8 0), (.int .u8 0), (.int .u8 0), (.int .u8 0), (.int .u8 0), (.int .u8 0), (.int .u8 0), (.int .u8 0), (.int .u8 0), (.int .u8 0), (.int .u8 0), (.int .u8 0), (.int .u8 0), (.int .u8 0), (.int .u8 0)])⟩,
          ⟨none, none, .op (.storeN 17 (.t 4) (.t 42))⟩]) (.seq (.draw false [⟨some 43, none, .op (.loadN 17 (.t 4))⟩,
          ⟨some 44, none, .call (.c (.fn 58 [] [])) [(.t 43)]⟩,
          ⟨some 45, none, .op (.un .not (.t 44))⟩,
          ⟨some 46, none, .op (.mov (.t 45))⟩,
          ⟨some 47, some (46, false), .op (.faddr 0 (.t 4))⟩,
          ⟨some 48, some (46, false), .op (.load1 (.t 47))⟩,
          ⟨some 49, some (46, false), .op (.faddr 2 (.t 1))⟩,
          ⟨some 50, some (46, false), .op (.load1 (.t 49))⟩,
          ⟨some 51, some (46, false), .op (.bin .neq (.t 48) (.t 50))⟩,
          ⟨some 52, none, .op (.pick (.t 46) (.c (.bool true)) (.t 51))⟩,
          ⟨some 53, none, .op (.mov (.t 52))⟩,
          ⟨some 54, some (53, false), .op (.faddr 3 (.t 1))⟩,
          ⟨some 55, some (53, false), .op (.load1 (.t 54))⟩,
          ⟨some 56, some (53, false), .op (.mov (.t 3))⟩,
          ⟨some 57, some (53, false), .op (.iaddrS 18 (.t 55) (.t 56))⟩,
          ⟨some 58, some (53, false), .op (.faddr 17 (.t 57))⟩,
          ⟨some 59, some (53, false), .op (.load1 (.t 58))⟩,
          ⟨some 60, some (53, false), .op (.faddr 0 (.t 1))⟩,
          ⟨some 61, some (53, false), .op (.load1 (.t 60))⟩,
          ⟨some 62, some (53, false), .op (.bin .sub (.t 61) (.c (.int .i64 1)))⟩,
          ⟨some 63, some (53, false), .call (.c (.fn 60 [] [])) [(.t 59), (.c (.int .i64 1)), (.t 62)]⟩,
          ⟨some 64, some (53, false), .op (.un .not (.t 63))⟩,
          ⟨some 65, none, .op (.pick (.t 53) (.c (.bool true)) (.t 64))⟩,
          ⟨some 66, none, .op (.mov (.t 65))⟩,
          ⟨some 67, some (66, false), .op (.mov (.t 3))⟩,
          ⟨some 68, some (66, false), .op (.bin .gtr (.t 67) (.c (.int .i64 0)))⟩,
          ⟨some 69, some (66, false), .op (.mov (.t 68))⟩,
          ⟨some 70, some (69, true), .op (.faddr 3 (.t 1))⟩,
          ⟨some 71, some (69, true), .op (.load1 (.t 70))⟩,
          ⟨some 72, some (69, true), .op (.mov (.t 3))⟩,
          ⟨some 73, some (69, true), .op (.bin .sub (.t 72) (.c (.int .i64 1)))⟩,
          ⟨some 74, some (69, true), .op (.iaddrS 18 (.t 71) (.t 73))⟩,
          ⟨some 75, some (69, true), .op (.faddr 0 (.t 74))⟩,
          ⟨some 76, some (69, true), .op (.loadN 17 (.t 75))⟩,
          ⟨some 77, some (69, true), .op (.loadN 17 (.t 4))⟩,
          ⟨some 78, some (69, true), .call (.c (.fn 114 [] [])) [(.t 76), (.t 77)]⟩,
          ⟨some 79, some (69, true), .op (.un .not (.t 78))⟩,
          ⟨some 80, some (66, false), .op (.pick (.t 69) (.t 79) (.c (.bool false)))⟩,
          ⟨some 81, none, .op (.pick (.t 66) (.c (.bool true)) (.t 80))⟩]) a_s_l02Is_k1))) a_s_l02Is_k2)
def a_s_l02Is_k3 : AC := .seq (.region [⟨some 2, none, .op (.mov (.c (.bool true)))⟩]) .ret
def a_s_l02Is : AC := .seq (.region [⟨some 1, none, .op (.box (.t 0))⟩,
     ⟨some 2, none, .op (.mov (.c (.bool false)))⟩]) (.seq (.seq (.region [⟨some 5, none, .op (.faddr 0 (.t 1))⟩,
      ⟨some 6, none, .op (.load1 (.t 5))⟩,
      ⟨some 7, none, .call (.c (.fn 59 [] [])) [(.t 6)]⟩,
      ⟨some 8, none, .op (.un .not (.t 7))⟩,
      ⟨some 9, none, .op (.mov (.t 8))⟩,
      ⟨some 10, some (9, false), .op (.faddr 1 (.t 1))⟩,
      ⟨some 11, some (9, false), .op (.load1 (.t 10))⟩,
      ⟨some 12, some (9, false), .op (.faddr 0 (.t 1))⟩,
      ⟨some 13, some (9, false), .op (.load1 (.t 12))⟩,
      ⟨some 14, some (9, false), .op (.bin .sub (.t 13) (.c (.int .i64 1)))⟩,
      ⟨some 15, some (9, false), .call (.c (.fn 60 [] [])) [(.t 11), (.c (.int .i64 0)), (.t 14)]⟩,
      ⟨some 16, some (9, false), .op (.un .not (.t 15))⟩,
      ⟨some 17, none, .op (.pick (.t 9) (.c (.bool true)) (.t 16))⟩,
      ⟨some 18, none, .op (.mov (.t 17))⟩,
      ⟨some 19, some (18, false), .op (.faddr 2 (.t 1))⟩,
      ⟨some 20, some (18, false), .op (.load1 (.t 19))⟩,
      ⟨some 21, some (18, false), .call (.c (.fn 60 [] [])) [(.t 20), (.c (.int .i64 1)), (.c (.int .i64 8))]⟩,
      ⟨some 22, some (18, false), .op (.un .not (.t 21))⟩,
      ⟨some 23, none, .op (.pick (.t 18) (.c (.bool true)) (.t 22))⟩,
      ⟨some 24, none, .op (.mov (.t 23))⟩,
      ⟨some 25, some (24, false), .op (.faddr 3 (.t 1))⟩,
      ⟨some 26, some (24, false), .op (.load1 (.t 25))⟩,
      ⟨some 27, some (24, false), .op (.len .slc (.t 26))⟩,
      ⟨some 28, some (24, false), .op (.bin .gtr (.t 27) (.c (.int .i64 140)))⟩,
      ⟨some 29, none, .op (.pick (.t 24) (.c (.bool true)) (.t 28))⟩]) (.cond 29 (.seq (.region [⟨some 2, none, .op (.mov (.c (.bool false)))⟩]) .ret) .skip)) (.seq (.seq (.region [⟨some 3, none, .op (.mov (.c (.int .i64 0)))⟩]) (.block 0 (.loop a_s_l02Is_l1))) a_s_l02Is_k3))
theorem r_s_l02Is : readF Try.prog 68 = some ⟨82, a_s_l02Is, [.slot 2]⟩ := by kernel_rfl
theorem c_s_l02Is (p c n : Int) (ts : List (Int × List Nat × Int)) (ht : okT ts) (hl : ts.length ≤ 1000000000) :
    Am.Fn Try.prog 68 [elemV p c n 0 ts.length] [.ro (trms ts)] (fun v H' => v = .bool (elemB p c n ts) ∧ H' = [.ro (trms ts)]) := by
  refine Am.Fn.sameB (R := fun v => v = _) B32_ok mixed r_s_l02Is (by simp) (ro_under (scals_trms _)) ?_
  have htl := trms_length ht
  cases hP : primeB p with
  | false =>
    have : elemB p c n ts = false := by simp [elemB, hP]
    simp (maxSteps := 3000000) only [over4E, heapL, fillA, rd, wrt, wrl, AO.withl, a_s_l02Is, B32_s_l01In_G2, B32_s_l01Is_G2, B32_s_l01Prime_G2, B32_s_l01Text_G2, B32_s_l01Less_G2, g_in, g_isS, g_less, g_prime, g_textS, elemV, hP, Int.reduceEq, Int.reduceNe, Int.reduceBEq, Int.reduceBNe, Int.reduceLT, Int.reduceLE, Int.reduceAdd, Int.reduceSub, Int.reduceMul, this, idX_eq, wbE, ↓symP, symE, listE, AK.isCall, enumE, ev, putE, abin, aun, AV.cells, ↓reduceIte, reduceCtorEq, Nat.reduceAdd, Nat.reduceMul, Nat.reduceSub, Nat.reduceEqDiff, Nat.reduceLT, Nat.reduceLeDiff, implies_true, Back, retv, retV, AV.scal, AV.scals]; try simp only [idX_eq, ite_both, pickP_both, not_not_eq, Bool.not_eq_false, Bool.not_eq_true]
    exact ⟨_, rfl⟩
  | true =>
  have hpr := prime_range hP
  have hwp : wrapK .i64 (p - 1) = p - 1 := wrap64 (by omega) (by omega)
  by_cases hc : 0 ≤ c ∧ c ≤ p - 1
  case neg =>
    have : elemB p c n ts = false := by simp only [elemB, decide_eq_false hc, Bool.and_false, Bool.false_and]
    simp (maxSteps := 3000000) only [over4E, heapL, fillA, rd, wrt, wrl, AO.withl, a_s_l02Is, B32_s_l01In_G2, B32_s_l01Is_G2, B32_s_l01Prime_G2, B32_s_l01Text_G2, B32_s_l01Less_G2, g_in, g_isS, g_less, g_prime, g_textS, elemV, hP, hwp, hc, Int.reduceEq, Int.reduceNe, Int.reduceBEq, Int.reduceBNe, Int.reduceLT, Int.reduceLE, Int.reduceAdd, Int.reduceSub, Int.reduceMul, this, idX_eq, wbE, ↓symP, symE, listE, AK.isCall, enumE, ev, putE, abin, aun, AV.cells, ↓reduceIte, reduceCtorEq, Nat.reduceAdd, Nat.reduceMul, Nat.reduceSub, Nat.reduceEqDiff, Nat.reduceLT, Nat.reduceLeDiff, implies_true, Back, retv, retV, AV.scal, AV.scals]; try simp only [idX_eq, ite_both, pickP_both, not_not_eq, Bool.not_eq_false, Bool.not_eq_true]
    exact ⟨_, rfl⟩
  by_cases hn : 1 ≤ n ∧ n ≤ 8
  case neg =>
    have : elemB p c n ts = false := by simp only [elemB, decide_eq_false hn, Bool.and_false, Bool.false_and]
    simp (maxSteps := 3000000) only [over4E, heapL, fillA, rd, wrt, wrl, AO.withl, a_s_l02Is, B32_s_l01In_G2, B32_s_l01Is_G2, B32_s_l01Prime_G2, B32_s_l01Text_G2, B32_s_l01Less_G2, g_in, g_isS, g_less, g_prime, g_textS, elemV, hP, hwp, hc, hn, and_self, Int.reduceEq, Int.reduceNe, Int.reduceBEq, Int.reduceBNe, Int.reduceLT, Int.reduceLE, Int.reduceAdd, Int.reduceSub, Int.reduceMul, this, idX_eq, wbE, ↓symP, symE, listE, AK.isCall, enumE, ev, putE, abin, aun, AV.cells, ↓reduceIte, reduceCtorEq, Nat.reduceAdd, Nat.reduceMul, Nat.reduceSub, Nat.reduceEqDiff, Nat.reduceLT, Nat.reduceLeDiff, implies_true, Back, retv, retV, AV.scal, AV.scals]; try simp only [idX_eq, ite_both, pickP_both, not_not_eq, Bool.not_eq_false, Bool.not_eq_true]
    exact ⟨_, rfl⟩
  by_cases h140 : ts.length ≤ 140
  case neg =>
    have : elemB p c n ts = false := by simp only [elemB, decide_eq_false h140, Bool.and_false, Bool.false_and]
    have h140' : (140 : Int) < ts.length := by omega
    simp (maxSteps := 3000000) only [over4E, heapL, fillA, rd, wrt, wrl, AO.withl, a_s_l02Is, B32_s_l01In_G2, B32_s_l01Is_G2, B32_s_l01Prime_G2, B32_s_l01Text_G2, B32_s_l01Less_G2, g_in, g_isS, g_less, g_prime, g_textS, elemV, hP, hwp, hc, hn, and_self, h140', gt_iff_lt, Int.reduceEq, Int.reduceNe, Int.reduceBEq, Int.reduceBNe, Int.reduceLT, Int.reduceLE, Int.reduceAdd, Int.reduceSub, Int.reduceMul, this, idX_eq, wbE, ↓symP, symE, listE, AK.isCall, enumE, ev, putE, abin, aun, AV.cells, ↓reduceIte, reduceCtorEq, Nat.reduceAdd, Nat.reduceMul, Nat.reduceSub, Nat.reduceEqDiff, Nat.reduceLT, Nat.reduceLeDiff, implies_true, Back, retv, retV, AV.scal, AV.scals]; try simp only [idX_eq, ite_both, pickP_both, not_not_eq, Bool.not_eq_false, Bool.not_eq_true]
    exact ⟨_, rfl⟩
  have h140' : ¬ ((140 : Int) < ts.length) := by omega
  simp (maxSteps := 3000000) only [over4E, heapL, fillA, rd, wrt, wrl, AO.withl, a_s_l02Is, B32_s_l01In_G2, B32_s_l01Is_G2, B32_s_l01Prime_G2, B32_s_l01Text_G2, B32_s_l01Less_G2, g_in, g_isS, g_less, g_prime, g_textS, elemV, hP, hwp, hc, hn, and_self, h140', gt_iff_lt, Int.reduceEq, Int.reduceNe, Int.reduceBEq, Int.reduceBNe, Int.reduceLT, Int.reduceLE, Int.reduceAdd, Int.reduceSub, Int.reduceMul, idX_eq, wbE, ↓symP, symE, listE, AK.isCall, enumE, ev, putE, abin, aun, AV.cells, ↓reduceIte, reduceCtorEq, Nat.reduceAdd, Nat.reduceMul, Nat.reduceSub, Nat.reduceEqDiff, Nat.reduceLT, Nat.reduceLeDiff, implies_true, Back, retv, retV, AV.scal, AV.scals]; try simp only [idX_eq, ite_both, pickP_both, not_not_eq, Bool.not_eq_false, Bool.not_eq_true]
  refine WA.loopB B32_ok (fun s => ∃ i : Nat, s = ⟨[(3, .int .i64 i), (1, .ptr 1 0)], [.ro (trms ts), .cells [.int .i64 p, .int .i64 c, .int .i64 n, .slc 0 0 ts.length false 0]]⟩ ∧ i ≤ ts.length ∧ ∀ j, j < i → goodB p n ts j = true)
    (fun s => match get s.env 3 with | .int _ k => (200 - k).toNat | _ => 0) ⟨_, Weak.slots [3, 1], 0, rfl, by omega, by intros; omega⟩ ?_
  rintro s ⟨i, rfl, hi, hgood⟩
  by_cases hlt : i < ts.length
  case neg =>
    have hli : ¬ ((i : Int) < ts.length) := by omega
    simp (maxSteps := 3000000) only [over4E, heapL, fillA, rd, wrt, wrl, AO.withl, a_s_l02Is_l1, a_s_l02Is_k3, hli, Int.reduceEq, Int.reduceNe, Int.reduceBEq, Int.reduceBNe, Int.reduceLT, Int.reduceLE, Int.reduceAdd, Int.reduceSub, Int.reduceMul, idX_eq, wbE, ↓symP, symE, listE, AK.isCall, enumE, ev, putE, abin, aun, AV.cells, ↓reduceIte, reduceCtorEq, Nat.reduceAdd, Nat.reduceMul, Nat.reduceSub, Nat.reduceEqDiff, Nat.reduceLT, Nat.reduceLeDiff, implies_true, Back, retv, retV, AV.scal, AV.scals]; try simp only [idX_eq, ite_both, pickP_both, not_not_eq, Bool.not_eq_false, Bool.not_eq_true]
    exact ⟨⟨_, rfl⟩, elemB_yes hP hc hn h140 fun j hj => hgood j (by omega)⟩
  have hli : (i : Int) < ts.length := by omega
  have hli' : (0 : Int) ≤ i := by omega
  have hw : wrapK .i64 ((i : Int) + 1) = ((i + 1 : Nat) : Int) := by rw [wrap64 (by omega) (by omega)]; rfl
  have hd := trms_dia17 ht hlt
  have hf := trms_fac ht hlt
  have hok := ht _ (List.getElem_mem hlt)
  have hb1 : i * 18 < ts.length * 18 := by omega
  have hb2 : i * 18 + 18 ≤ ts.length * 18 := by omega
  have hb3 : i * 18 + 17 ≤ ts.length * 18 := by omega
  have hb4 : i * 18 + 17 < ts.length * 18 := by omega
  have hG : goodB p n ts i = (isS ts[i].1.toNat ts[i].2.1 && (ts[i].1 == n) && decide (1 ≤ ts[i].2.2 ∧ ts[i].2.2 ≤ p - 1) && (i == 0 || ltT (ts.getD (i - 1) zT) ts[i])) := by
    simp only [goodB, getD_at hlt]
  generalize hT : ts[i] = T at hd hf hok hG
  obtain ⟨a, m, k⟩ := T
  simp only at hd hf hok hG
  cases hA : isS a.toNat m with
  | false =>
    have hr := elemB_no (c := c) (p := p) (n := n) hlt (by rw [hG, hA]; rfl)
    simp (maxSteps := 3000000) only [over4E, heapL, fillA, rd, wrt, wrl, AO.withl, a_s_l02Is_l1, a_s_l02Is_k1, a_s_l02Is_k2, B32_s_l01In_G2, B32_s_l01Is_G2, B32_s_l01Prime_G2, B32_s_l01Text_G2, B32_s_l01Less_G2, g_in, g_isS, g_less, g_prime, g_textS, hli, hli', hd, hf, htl, hb1, hb2, hb3, hb4, hA, diaOf_dia hok, dia_take17 hok.1, dia_length, hok.1, ones_dia, dia_zero, List.length_replicate, Nat.le_refl, over_dia0 hok.1, dia_get0, hwp, gt_iff_lt, Int.reduceEq, Int.reduceNe, Int.reduceBEq, Int.reduceBNe, Int.reduceLT, Int.reduceLE, Int.reduceAdd, Int.reduceSub, Int.reduceMul, and_self, idX_eq, wbE, ↓symP, symE, listE, AK.isCall, enumE, ev, putE, abin, aun, AV.cells, ↓reduceIte, reduceCtorEq, Nat.reduceAdd, Nat.reduceMul, Nat.reduceSub, Nat.reduceEqDiff, Nat.reduceLT, Nat.reduceLeDiff, implies_true, Back, retv, retV, AV.scal, AV.scals]; try simp only [idX_eq, ite_both, pickP_both, not_not_eq, Bool.not_eq_false, Bool.not_eq_true]
    first | exact hr | exact hr.symm | exact ⟨⟨_, rfl⟩, hr⟩ | trace_state
  | true =>
  by_cases han : a = n
  case neg =>
    have hr := elemB_no (c := c) (p := p) (n := n) hlt (by rw [hG, hA, beq_false_of_ne han]; rfl)
    simp (maxSteps := 3000000) only [over4E, heapL, fillA, rd, wrt, wrl, AO.withl, a_s_l02Is_l1, a_s_l02Is_k1, a_s_l02Is_k2, B32_s_l01In_G2, B32_s_l01Is_G2, B32_s_l01Prime_G2, B32_s_l01Text_G2, B32_s_l01Less_G2, g_in, g_isS, g_less, g_prime, g_textS, hli, hli', hd, hf, htl, hb1, hb2, hb3, hb4, hA, diaOf_dia hok, dia_take17 hok.1, dia_length, hok.1, ones_dia, dia_zero, List.length_replicate, Nat.le_refl, over_dia0 hok.1, dia_get0, hwp, gt_iff_lt, han, Int.reduceEq, Int.reduceNe, Int.reduceBEq, Int.reduceBNe, Int.reduceLT, Int.reduceLE, Int.reduceAdd, Int.reduceSub, Int.reduceMul, and_self, idX_eq, wbE, ↓symP, symE, listE, AK.isCall, enumE, ev, putE, abin, aun, AV.cells, ↓reduceIte, reduceCtorEq, Nat.reduceAdd, Nat.reduceMul, Nat.reduceSub, Nat.reduceEqDiff, Nat.reduceLT, Nat.reduceLeDiff, implies_true, Back, retv, retV, AV.scal, AV.scals]; try simp only [idX_eq, ite_both, pickP_both, not_not_eq, Bool.not_eq_false, Bool.not_eq_true]
    first | exact hr | exact hr.symm | exact ⟨⟨_, rfl⟩, hr⟩ | trace_state
  subst han
  by_cases hk : 1 ≤ k ∧ k ≤ p - 1
  case neg =>
    have hr := elemB_no (c := c) (p := p) (n := a) hlt (by rw [hG, hA, beq_self_eq_true, decide_eq_false hk]; rfl)
    simp (maxSteps := 3000000) only [over4E, heapL, fillA, rd, wrt, wrl, AO.withl, a_s_l02Is_l1, a_s_l02Is_k1, a_s_l02Is_k2, B32_s_l01In_G2, B32_s_l01Is_G2, B32_s_l01Prime_G2, B32_s_l01Text_G2, B32_s_l01Less_G2, g_in, g_isS, g_less, g_prime, g_textS, hli, hli', hd, hf, htl, hb1, hb2, hb3, hb4, hA, diaOf_dia hok, dia_take17 hok.1, dia_length, hok.1, ones_dia, dia_zero, List.length_replicate, Nat.le_refl, over_dia0 hok.1, dia_get0, hwp, gt_iff_lt, hk, Int.reduceEq, Int.reduceNe, Int.reduceBEq, Int.reduceBNe, Int.reduceLT, Int.reduceLE, Int.reduceAdd, Int.reduceSub, Int.reduceMul, and_self, idX_eq, wbE, ↓symP, symE, listE, AK.isCall, enumE, ev, putE, abin, aun, AV.cells, ↓reduceIte, reduceCtorEq, Nat.reduceAdd, Nat.reduceMul, Nat.reduceSub, Nat.reduceEqDiff, Nat.reduceLT, Nat.reduceLeDiff, implies_true, Back, retv, retV, AV.scal, AV.scals]; try simp only [idX_eq, ite_both, pickP_both, not_not_eq, Bool.not_eq_false, Bool.not_eq_true]
    first | exact hr | exact hr.symm | exact ⟨⟨_, rfl⟩, hr⟩ | trace_state
  have hnext : (i == 0 || ltT (ts.getD (i - 1) zT) (a, m, k)) = true → ∀ j, j < i + 1 → goodB p a ts j = true := by
    intro h j hj
    by_cases e : j = i
    · subst e; rw [hG, hA, beq_self_eq_true, decide_eq_true hk, h]; rfl
    · exact hgood j (by omega)
  by_cases hpos : 0 < i
  case neg =>
    have hk0 : ¬ ((0 : Int) < (i : Int)) := by omega
    simp (maxSteps := 3000000) only [over4E, heapL, fillA, rd, wrt, wrl, AO.withl, a_s_l02Is_l1, a_s_l02Is_k1, a_s_l02Is_k2, B32_s_l01In_G2, B32_s_l01Is_G2, B32_s_l01Prime_G2, B32_s_l01Text_G2, B32_s_l01Less_G2, g_in, g_isS, g_less, g_prime, g_textS, hli, hli', hd, hf, htl, hb1, hb2, hb3, hb4, hA, diaOf_dia hok, dia_take17 hok.1, dia_length, hok.1, ones_dia, dia_zero, List.length_replicate, Nat.le_refl, over_dia0 hok.1, dia_get0, hwp, gt_iff_lt, hk, hk0, hw, Int.reduceEq, Int.reduceNe, Int.reduceBEq, Int.reduceBNe, Int.reduceLT, Int.reduceLE, Int.reduceAdd, Int.reduceSub, Int.reduceMul, and_self, idX_eq, wbE, ↓symP, symE, listE, AK.isCall, enumE, ev, putE, abin, aun, AV.cells, ↓reduceIte, reduceCtorEq, Nat.reduceAdd, Nat.reduceMul, Nat.reduceSub, Nat.reduceEqDiff, Nat.reduceLT, Nat.reduceLeDiff, implies_true, Back, retv, retV, AV.scal, AV.scals]; try simp only [idX_eq, ite_both, pickP_both, not_not_eq, Bool.not_eq_false, Bool.not_eq_true]
    refine ⟨_, Weak.keep [0, 1] [3, 1] ⟨by decide, ?_⟩ ?_, ⟨i + 1, ?_, by omega, hnext (by simp; omega)⟩, ?_⟩
    · simp only [withins_scal _ _ (scals_trms _), keepW, keepL, AV.within, AV.withins, ↓reduceIte, reduceCtorEq, Nat.reduceEqDiff, Nat.reduceBEq, implies_true, Nat.reduceAdd]
    · simp only [withins_scal _ _ (scals_trms _), keepW, keepL, AV.within, AV.withins, ↓reduceIte, reduceCtorEq, Nat.reduceEqDiff, Nat.reduceBEq, implies_true, Nat.reduceAdd]
    · simp only [rens_scal _ _ (scals_trms _), keptL, keptW, keptE, kepts, slots, ↓reduceIte, reduceCtorEq, Nat.reduceEqDiff, AV.ren, AV.rens, pos, Nat.reduceAdd]
    · simp only [keptL, keptW, keptE, kepts, slots, ↓reduceIte, reduceCtorEq, Nat.reduceEqDiff, AV.ren, AV.rens, pos, Nat.reduceAdd]; omega
  have hk0 : (0 : Int) < (i : Int) := by omega
  have hprev := hgood (i - 1) (by omega)
  have hlt' : i - 1 < ts.length := by omega
  have hw' : wrapK .i64 ((i : Int) - 1) = ((i - 1 : Nat) : Int) := by rw [wrap64 (by omega) (by omega)]; omega
  have hd' := trms_dia17 ht hlt'
  have hok' := ht _ (List.getElem_mem hlt')
  simp only [getD_at hlt'] at hnext hprev
  have hlt0 : ts.getD (i - 1) zT = ts[i - 1] := getD_at hlt'
  generalize hT' : ts[i - 1] = T' at hd' hok' hprev hnext hlt0
  obtain ⟨a', m', k'⟩ := T'
  simp only at hd' hok' hprev hnext hlt0
  have ha' : a' = a := by
    simp only [goodB, hlt0, Bool.and_eq_true, beq_iff_eq] at hprev
    exact hprev.1.1.2
  subst ha'
  have hc1 : (((i - 1 : Nat) : Int)) < ts.length := by omega
  have hc2 : (0 : Int) ≤ ((i - 1 : Nat) : Int) := by omega
  have hc3 : (i - 1) * 18 < ts.length * 18 := by omega
  have hc4 : (i - 1) * 18 + 18 ≤ ts.length * 18 := by omega
  have hc5 : (i - 1) * 18 + 17 ≤ ts.length * 18 := by omega
  have hn8 : 0 ≤ a' ∧ a' ≤ 8 := by omega
  cases hL : ltT (a', m', k') (a', m, k) with
  | false =>
    have hr := elemB_no (c := c) (p := p) (n := a') hlt (by rw [hG, hA, beq_self_eq_true, decide_eq_true hk, hlt0, hL]; simp; omega)
    have hL' : Op.bytesLess (textOf a'.toNat m') (textOf a'.toNat m) = false := hL
    simp (maxSteps := 3000000) only [over4E, heapL, fillA, rd, wrt, wrl, AO.withl, a_s_l02Is_l1, a_s_l02Is_k1, a_s_l02Is_k2, B32_s_l01In_G2, B32_s_l01Is_G2, B32_s_l01Prime_G2, B32_s_l01Text_G2, B32_s_l01Less_G2, g_in, g_isS, g_less, g_prime, g_textS, hli, hli', hd, hf, htl, hb1, hb2, hb3, hb4, hA, diaOf_dia hok, dia_take17 hok.1, dia_length, hok.1, ones_dia, dia_zero, List.length_replicate, Nat.le_refl, over_dia0 hok.1, dia_get0, hwp, gt_iff_lt, hk, hk0, hw, hw', hd', hc1, hc2, hc3, hc4, hc5, diaOf_dia hok', hn8, hL', Int.reduceEq, Int.reduceNe, Int.reduceBEq, Int.reduceBNe, Int.reduceLT, Int.reduceLE, Int.reduceAdd, Int.reduceSub, Int.reduceMul, and_self, idX_eq, wbE, ↓symP, symE, listE, AK.isCall, enumE, ev, putE, abin, aun, AV.cells, ↓reduceIte, reduceCtorEq, Nat.reduceAdd, Nat.reduceMul, Nat.reduceSub, Nat.reduceEqDiff, Nat.reduceLT, Nat.reduceLeDiff, implies_true, Back, retv, retV, AV.scal, AV.scals]; try simp only [idX_eq, ite_both, pickP_both, not_not_eq, Bool.not_eq_false, Bool.not_eq_true]
    first | exact hr | exact hr.symm | exact ⟨⟨_, rfl⟩, hr⟩ | trace_state
  | true =>
    have hL' : Op.bytesLess (textOf a'.toNat m') (textOf a'.toNat m) = true := hL
    simp (maxSteps := 3000000) only [over4E, heapL, fillA, rd, wrt, wrl, AO.withl, a_s_l02Is_l1, a_s_l02Is_k1, a_s_l02Is_k2, B32_s_l01In_G2, B32_s_l01Is_G2, B32_s_l01Prime_G2, B32_s_l01Text_G2, B32_s_l01Less_G2, g_in, g_isS, g_less, g_prime, g_textS, hli, hli', hd, hf, htl, hb1, hb2, hb3, hb4, hA, diaOf_dia hok, dia_take17 hok.1, dia_length, hok.1, ones_dia, dia_zero, List.length_replicate, Nat.le_refl, over_dia0 hok.1, dia_get0, hwp, gt_iff_lt, hk, hk0, hw, hw', hd', hc1, hc2, hc3, hc4, hc5, diaOf_dia hok', hn8, hL', Int.reduceEq, Int.reduceNe, Int.reduceBEq, Int.reduceBNe, Int.reduceLT, Int.reduceLE, Int.reduceAdd, Int.reduceSub, Int.reduceMul, and_self, idX_eq, wbE, ↓symP, symE, listE, AK.isCall, enumE, ev, putE, abin, aun, AV.cells, ↓reduceIte, reduceCtorEq, Nat.reduceAdd, Nat.reduceMul, Nat.reduceSub, Nat.reduceEqDiff, Nat.reduceLT, Nat.reduceLeDiff, implies_true, Back, retv, retV, AV.scal, AV.scals]; try simp only [idX_eq, ite_both, pickP_both, not_not_eq, Bool.not_eq_false, Bool.not_eq_true]
    refine ⟨_, Weak.keep [0, 1] [3, 1] ⟨by decide, ?_⟩ ?_, ⟨i + 1, ?_, by omega, hnext (by rw [hL]; simp)⟩, ?_⟩
    · simp only [withins_scal _ _ (scals_trms _), keepW, keepL, AV.within, AV.withins, ↓reduceIte, reduceCtorEq, Nat.reduceEqDiff, Nat.reduceBEq, implies_true, Nat.reduceAdd]
    · simp only [withins_scal _ _ (scals_trms _), keepW, keepL, AV.within, AV.withins, ↓reduceIte, reduceCtorEq, Nat.reduceEqDiff, Nat.reduceBEq, implies_true, Nat.reduceAdd]
    · simp only [rens_scal _ _ (scals_trms _), keptL, keptW, keptE, kepts, slots, ↓reduceIte, reduceCtorEq, Nat.reduceEqDiff, AV.ren, AV.rens, pos, Nat.reduceAdd]
    · simp only [keptL, keptW, keptE, kepts, slots, ↓reduceIte, reduceCtorEq, Nat.reduceEqDiff, AV.ren, AV.rens, pos, Nat.reduceAdd]; omega

def g_isElem : BE := fun hp xs => match xs with
  | [.agg [.int .i64 p, .int .i64 c, .int .i64 n, .slc b 0 k false 0]] => match rd hp b with
    | some L => match tsOf k L with
      | some ts => chk (k ≤ 1000000000) (some (.bool (elemB p c n ts), hp))
      | none => none
    | _ => none
  | _ => none
theorem k_isElem_of {f : FuncId} (h : ∀ p c n ts, okT ts → ts.length ≤ 1000000000 → Am.Fn Try.prog f [elemV p c n 0 ts.length] [.ro (trms ts)] (fun v H' => v = .bool (elemB p c n ts) ∧ H' = [.ro (trms ts)])) : Am.Callee Try.prog f g_isElem := Callee.ro1 fun hp xs v hp' he => by
  unfold g_isElem at he
  split at he
  · rename_i p c n b k
    split at he
    · rename_i L hL
      split at he
      · rename_i ts hts
        obtain ⟨h0, he⟩ := chk_some he
        simp only [Option.some.injEq, Prod.mk.injEq] at he
        obtain ⟨rfl, rfl⟩ := he
        obtain ⟨e1, e2, e3, e4⟩ := tsOf_some hts
        have g1 := trms_length e2
        refine ⟨trms ts, b, [elemV p c n 0 ts.length], rfl, ⟨L, hL, by omega, by rw [g1, e1]; exact e3⟩, scals_trms _, ?_, rfl, ⟨⟨trivial, trivial, trivial, by simp [AV.under], trivial⟩, trivial⟩, rfl, h p c n ts e2 (by omega)⟩
        simp only [elemV, AV.rens, AV.ren, one, if_true, e1, Nat.zero_add]
      · cases he
    · cases he
  · cases he
def B33 : Book := (B32.put 68 (g_isElem))

theorem B33_ok : BookOk Try.prog B33 := (B32_ok.put (k_isElem_of c_s_l02Is))

end Go.Proofs.Ytkgoadglalpbfaa
