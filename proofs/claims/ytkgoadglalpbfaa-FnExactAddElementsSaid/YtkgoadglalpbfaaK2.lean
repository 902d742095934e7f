/- Contracts: sums of elements. -/
import Derived.Test.YtkgoadglalpbfaaK1
namespace Go.Proofs.Ytkgoadglalpbfaa
open Go.Am Go.Dia
set_option linter.unusedSimpArgs false
set_option linter.unusedVariables false
set_option maxRecDepth 4000
set_option maxHeartbeats 1000000

def limOf (p c n : Int) (L : List (Int × List Nat × Int)) : ER := if L.length ≤ 140 then (p, c, n, L, 0) else (0, 0, 0, [], 3)
def addOf (p c n : Int) (a : List (Int × List Nat × Int)) (p' c' n' : Int) (b : List (Int × List Nat × Int)) : ER :=
  if bothOf p c n a p' c' n' b = 0 then limOf p c n (sumL p n 1 a b) else (0, 0, 0, [], bothOf p c n a p' c' n' b)
theorem both_zero {p c n p' c' n' : Int} {a b : List (Int × List Nat × Int)} (h : bothOf p c n a p' c' n' b = 0) : (elemB p c n a = true ∧ elemB p' c' n' b = true) ∧ p' = p ∧ c' = c ∧ n' = n := by
  unfold bothOf at h
  split at h
  · cases h
  · rename_i h1
    split at h
    · cases h
    · rename_i h2
      have h2' : p = p' ∧ c = c' ∧ n = n' := Classical.byContradiction fun x => h2 x
      refine ⟨⟨?_, ?_⟩, h2'.1.symm, h2'.2.1.symm, h2'.2.2.symm⟩
      · cases hh : elemB p c n a with
        | true => rfl
        | false => exact absurd (.inl hh) h1
      · cases hh : elemB p' c' n' b with
        | true => rfl
        | false => exact absurd (.inr hh) h1
theorem B79_i_limited_K2 : B79 79 = some (g_lim) := rfl
theorem B79_i_plus_K2 : B79 71 = some (g_plus) := rfl
theorem B79_i_wrong_K2 : B79 78 = some (g_wrong) := rfl
theorem B79_s_l02Both_K2 : B79 76 = some (g_both) := rfl
theorem B79_s_l02Sum_K2 : B79 69 = some (g_sum) := rfl
theorem B79_s_l02Told_K2 : B79 77 = some (g_lim) := rfl

def a_s_AddElements : AC := .seq (.region [⟨some 2, none, .op (.box (.t 0))⟩,
     ⟨some 3, none, .op (.box (.t 1))⟩,
     ⟨some 4, none, .op (.alloc [(.int .i64 0), (.int .i64 0), (.int .i64 0), (.v (.slice none 0 0))])⟩,
     ⟨some 5, none, .op (.mov (.c (.int .i64 0)))⟩]) (.seq (.seq (.region [⟨some 9, none, .op (.loadN 4 (.t 2))⟩,
      ⟨some 10, none, .op (.loadN 4 (.t 3))⟩,
      ⟨some 11, none, .call (.c (.fn 76 [] [])) [(.t 9), (.t 10)]⟩,
      ⟨some 6, none, .op (.mov (.t 11))⟩]) (.seq (.region [⟨some 12, none, .op (.mov (.t 6))⟩,
      ⟨some 13, none, .op (.bin .neq (.t 12) (.c (.int .i64 0)))⟩]) (.cond 13 (.seq (.region [⟨some 14, none, .op (.build [(.int .i64 0), (.int .i64 0), (.int .i64 0), (.v (.slice none 0 0))] [])⟩,
        ⟨some 15, none, .op (.mov (.t 6))⟩,
        ⟨none, none, .op (.storeN 4 (.t 4) (.t 14))⟩,
        ⟨some 5, none, .op (.mov (.t 15))⟩]) .ret) .skip))) (.seq (.region [⟨some 17, none, .op (.loadN 4 (.t 2))⟩,
     ⟨some 18, none, .op (.loadN 4 (.t 3))⟩,
     ⟨some 19, none, .call (.c (.fn 69 [] [])) [(.t 17), (.t 18), (.c (.int .i64 1))]⟩,
     ⟨some 20, none, .call (.c (.fn 77 [] [])) [(.t 19)]⟩,
     ⟨some 16, none, .op (.mov (.t 20))⟩,
     ⟨some 21, none, .op (.ext 0 (.t 16))⟩,
     ⟨some 22, none, .op (.ext 1 (.t 16))⟩,
     ⟨some 7, none, .op (.alloc [(.int .i64 0), (.int .i64 0), (.int .i64 0), (.v (.slice none 0 0))])⟩,
     ⟨none, none, .op (.storeN 4 (.t 7) (.t 21))⟩,
     ⟨some 8, none, .op (.mov (.t 22))⟩]) (.seq (.region [⟨some 23, none, .op (.loadN 4 (.t 7))⟩,
     ⟨some 24, none, .op (.mov (.t 8))⟩,
     ⟨none, none, .op (.storeN 4 (.t 4) (.t 23))⟩,
     ⟨some 5, none, .op (.mov (.t 24))⟩]) .ret)))
theorem r_s_AddElements : readF Try.prog 31 = some ⟨25, a_s_AddElements, [.cellN 4 4, .slot 5]⟩ := by kernel_rfl
theorem c_s_AddElements (p c n p' c' n' : Int) (a b : List (Int × List Nat × Int)) (ha : okT a) (hb : okT b) (hl : a.length ≤ 1100000 ∧ b.length ≤ 1100000) :
    Am.Fn Try.prog 31 [elemV p c n 0 a.length, elemV p' c' n' 1 b.length] [.ro (trms a), .ro (trms b)] (Elem2 (trms a) (trms b) (addOf p c n a p' c' n' b)) := by
  refine Am.Fn.ofW B79_ok mixed r_s_AddElements (by simp [elemV, AV.unders, AV.under]) (ro_under2 (scals_trms _) (scals_trms _)) ?_
  have hal := trms_length ha
  have hbl := trms_length hb
  have hta := tsOf_trms' ha
  have htb := tsOf_trms' hb
  have hl1 := hl.1
  have hl2 := hl.2
  by_cases h0 : bothOf p c n a p' c' n' b = 0
  · obtain ⟨⟨hE, hE2⟩, rfl, rfl, rfl⟩ := both_zero h0
    obtain ⟨b1, b2, b3, b4⟩ := elem_bd hE
    obtain ⟨_, _, _, b5⟩ := elem_bd hE2
    have hga := goodT_of ha hE
    have hgb := goodT_of hb hE2
    have hg1 := hga.dec
    have hg2 := hgb.dec
    have hs := sumL_good (k := 1) (by omega) hga hgb
    have hsl := hs.2
    have e1 : addOf p' c' n' a p' c' n' b = limOf p' c' n' (sumL p' n' 1 a b) := by unfold addOf; rw [if_pos h0]
    have c1 : 0 ≤ n' ∧ n' ≤ 8 := by omega
    have c2 : a.length ≤ 100000 ∧ b.length ≤ 100000 := by omega
    have c3 : (-1000000 : Int) ≤ 1 ∧ (1 : Int) ≤ 1000000 := by omega
    have c4 : (sumL p' n' 1 a b).length ≤ 1100000 := by omega
    rw [e1]
    generalize hSe : sumL p' n' 1 a b = S at *
    have hq0 : ((0 : Int) != 0) = false := rfl
    by_cases hle : S.length ≤ 140
    · have e2 : limOf p' c' n' S = (p', c', n', S, 0) := if_pos hle
      rw [e2]
      simp (maxSteps := 3000000) only [over4E, heapL, fillA, rd, wrt, wrl, AO.withl, a_s_AddElements, B79_i_limited_K2, B79_i_plus_K2, B79_i_wrong_K2, B79_s_l02Both_K2, B79_s_l02Sum_K2, B79_s_l02Told_K2, g_both, g_lim, g_plus, g_sum, g_wrong, elemV, hal, hbl, hta, htb, hl1, hl2, h0, hq0, b1, c1, c2, c3, c4, hg1, hg2, hSe, hle, and_self, Int.reduceEq, Int.reduceNe, Int.reduceBEq, Int.reduceBNe, Int.reduceLT, Int.reduceLE, Int.reduceAdd, Int.reduceSub, Int.reduceMul, idX_eq, wbE, ↓symP, symE, listE, AK.isCall, enumE, ev, putE, abin, aun, AV.cells, ↓reduceIte, reduceCtorEq, Nat.reduceAdd, Nat.reduceMul, Nat.reduceSub, Nat.reduceEqDiff, Nat.reduceLT, Nat.reduceLeDiff, implies_true, Back, retv, retV, AV.scal, AV.scals]; try simp only [idX_eq, ite_both, pickP_both, not_not_eq, Bool.not_eq_false, Bool.not_eq_true]
      exact ⟨rfl, rfl, _, Weak.refl _, okRet2 (scals_trms a) (scals_trms b) (scals_trms _) rfl rfl rfl rfl rfl rfl⟩
    · have e2 : limOf p' c' n' S = (0, 0, 0, [], 3) := if_neg hle
      rw [e2]
      simp (maxSteps := 3000000) only [over4E, heapL, fillA, rd, wrt, wrl, AO.withl, a_s_AddElements, B79_i_limited_K2, B79_i_plus_K2, B79_i_wrong_K2, B79_s_l02Both_K2, B79_s_l02Sum_K2, B79_s_l02Told_K2, g_both, g_lim, g_plus, g_sum, g_wrong, elemV, hal, hbl, hta, htb, hl1, hl2, h0, hq0, b1, c1, c2, c3, c4, hg1, hg2, hSe, hle, and_self, Int.reduceEq, Int.reduceNe, Int.reduceBEq, Int.reduceBNe, Int.reduceLT, Int.reduceLE, Int.reduceAdd, Int.reduceSub, Int.reduceMul, idX_eq, wbE, ↓symP, symE, listE, AK.isCall, enumE, ev, putE, abin, aun, AV.cells, ↓reduceIte, reduceCtorEq, Nat.reduceAdd, Nat.reduceMul, Nat.reduceSub, Nat.reduceEqDiff, Nat.reduceLT, Nat.reduceLeDiff, implies_true, Back, retv, retV, AV.scal, AV.scals]; try simp only [idX_eq, ite_both, pickP_both, not_not_eq, Bool.not_eq_false, Bool.not_eq_true]
      exact ⟨rfl, rfl, _, Weak.refl _, okRet2 (scals_trms a) (scals_trms b) (scals_trms _) rfl rfl rfl rfl rfl rfl⟩
  · have e1 : addOf p c n a p' c' n' b = (0, 0, 0, [], bothOf p c n a p' c' n' b) := by unfold addOf; rw [if_neg h0]
    have hq0 : (bothOf p c n a p' c' n' b != 0) = true := by simpa using h0
    rw [e1]
    simp (maxSteps := 3000000) only [over4E, heapL, fillA, rd, wrt, wrl, AO.withl, a_s_AddElements, B79_i_limited_K2, B79_i_plus_K2, B79_i_wrong_K2, B79_s_l02Both_K2, B79_s_l02Sum_K2, B79_s_l02Told_K2, g_both, g_lim, g_plus, g_sum, g_wrong, elemV, hal, hbl, hta, htb, hl1, hl2, hq0, and_self, Int.reduceEq, Int.reduceNe, Int.reduceBEq, Int.reduceBNe, Int.reduceLT, Int.reduceLE, Int.reduceAdd, Int.reduceSub, Int.reduceMul, idX_eq, wbE, ↓symP, symE, listE, AK.isCall, enumE, ev, putE, abin, aun, AV.cells, ↓reduceIte, reduceCtorEq, Nat.reduceAdd, Nat.reduceMul, Nat.reduceSub, Nat.reduceEqDiff, Nat.reduceLT, Nat.reduceLeDiff, implies_true, Back, retv, retV, AV.scal, AV.scals]; try simp only [idX_eq, ite_both, pickP_both, not_not_eq, Bool.not_eq_false, Bool.not_eq_true]
    exact ⟨rfl, errRet2 (scals_trms a) (scals_trms b) rfl rfl rfl rfl rfl (by decide)⟩
theorem over8_0 {a b c d e f g h x y z w : AV} : over [a, b, c, d, e, f, g, h] 0 [x, y, z, w] = [x, y, z, w, e, f, g, h] := rfl
theorem over8_4 {a b c d e f g h x y z w : AV} : over [a, b, c, d, e, f, g, h] 4 [x, y, z, w] = [a, b, c, d, x, y, z, w] := rfl

def a_i_AddElements : AC := .seq (.region [⟨some 2, none, .op (.box (.t 0))⟩,
     ⟨some 3, none, .op (.box (.t 1))⟩,
     ⟨some 4, none, .op (.alloc [(.int .i64 0), (.int .i64 0), (.int .i64 0), (.v (.slice none 0 0))])⟩,
     ⟨some 5, none, .op (.mov (.c (.int .i64 0)))⟩]) (.seq (.seq (.region [⟨some 7, none, .op (.loadN 4 (.t 2))⟩,
      ⟨some 8, none, .op (.loadN 4 (.t 3))⟩,
      ⟨some 9, none, .op (.mkslc 2 [(.int .i64 0), (.int .i64 0), (.int .i64 0), (.v (.slice none 0 0)), (.int .i64 0), (.int .i64 0), (.int .i64 0), (.v (.slice none 0 0))] [(0, 4, (.t 7)), (4, 4, (.t 8))])⟩,
      ⟨some 10, none, .call (.c (.fn 78 [] [])) [(.t 9)]⟩,
      ⟨some 6, none, .op (.mov (.t 10))⟩]) (.seq (.region [⟨some 11, none, .op (.mov (.t 6))⟩,
      ⟨some 12, none, .op (.bin .neq (.t 11) (.c (.int .i64 0)))⟩]) (.cond 12 (.seq (.region [⟨some 13, none, .op (.build [(.int .i64 0), (.int .i64 0), (.int .i64 0), (.v (.slice none 0 0))] [])⟩,
        ⟨some 14, none, .op (.mov (.t 6))⟩,
        ⟨none, none, .op (.storeN 4 (.t 4) (.t 13))⟩,
        ⟨some 5, none, .op (.mov (.t 14))⟩]) .ret) .skip))) (.seq (.region [⟨some 15, none, .op (.loadN 4 (.t 2))⟩,
     ⟨some 16, none, .op (.loadN 4 (.t 3))⟩,
     ⟨some 17, none, .call (.c (.fn 71 [] [])) [(.t 15), (.t 16), (.c (.int .i64 1))]⟩,
     ⟨some 18, none, .call (.c (.fn 79 [] [])) [(.t 17)]⟩,
     ⟨some 19, none, .op (.ext 0 (.t 18))⟩,
     ⟨some 20, none, .op (.ext 1 (.t 18))⟩,
     ⟨none, none, .op (.storeN 4 (.t 4) (.t 19))⟩,
     ⟨some 5, none, .op (.mov (.t 20))⟩]) .ret))
theorem r_i_AddElements : readF Try.prog 32 = some ⟨21, a_i_AddElements, [.cellN 4 4, .slot 5]⟩ := by kernel_rfl
theorem c_i_AddElements (p c n p' c' n' : Int) (a b : List (Int × List Nat × Int)) (ha : okT a) (hb : okT b) (hl : a.length ≤ 1100000 ∧ b.length ≤ 1100000) :
    Am.Fn Try.prog 32 [elemV p c n 0 a.length, elemV p' c' n' 1 b.length] [.ro (trms a), .ro (trms b)] (Elem2 (trms a) (trms b) (addOf p c n a p' c' n' b)) := by
  refine Am.Fn.ofW B79_ok mixed r_i_AddElements (by simp [elemV, AV.unders, AV.under]) (ro_under2 (scals_trms _) (scals_trms _)) ?_
  have hal := trms_length ha
  have hbl := trms_length hb
  have hta := tsOf_trms' ha
  have htb := tsOf_trms' hb
  have hl1 := hl.1
  have hl2 := hl.2
  by_cases h0 : bothOf p c n a p' c' n' b = 0
  · obtain ⟨⟨hE, hE2⟩, rfl, rfl, rfl⟩ := both_zero h0
    obtain ⟨b1, b2, b3, b4⟩ := elem_bd hE
    obtain ⟨_, _, _, b5⟩ := elem_bd hE2
    have hga := goodT_of ha hE
    have hgb := goodT_of hb hE2
    have hg1 := hga.dec
    have hg2 := hgb.dec
    have hs := sumL_good (k := 1) (by omega) hga hgb
    have hsl := hs.2
    have e1 : addOf p' c' n' a p' c' n' b = limOf p' c' n' (sumL p' n' 1 a b) := by unfold addOf; rw [if_pos h0]
    have c1 : 0 ≤ n' ∧ n' ≤ 8 := by omega
    have c2 : a.length ≤ 100000 ∧ b.length ≤ 100000 := by omega
    have c3 : (-1000001 : Int) ≤ 1 ∧ (1 : Int) ≤ 1000001 := by omega
    have c4 : (sumL p' n' 1 a b).length ≤ 1100000 := by omega
    rw [e1]
    generalize hSe : sumL p' n' 1 a b = S at *
    have hq0 : ((0 : Int) != 0) = false := rfl
    by_cases hle : S.length ≤ 140
    · have e2 : limOf p' c' n' S = (p', c', n', S, 0) := if_pos hle
      rw [e2]
      simp (maxSteps := 3000000) only [over4E, heapL, fillA, rd, wrt, wrl, AO.withl, a_i_AddElements, B79_i_limited_K2, B79_i_plus_K2, B79_i_wrong_K2, B79_s_l02Both_K2, B79_s_l02Sum_K2, B79_s_l02Told_K2, g_both, g_lim, g_plus, g_sum, g_wrong, over8_0, over8_4, elemV, hal, hbl, hta, htb, hl1, hl2, h0, hq0, b1, c1, c2, c3, c4, hg1, hg2, hSe, hle, and_self, Int.reduceEq, Int.reduceNe, Int.reduceBEq, Int.reduceBNe, Int.reduceLT, Int.reduceLE, Int.reduceAdd, Int.reduceSub, Int.reduceMul, idX_eq, wbE, ↓symP, symE, listE, AK.isCall, enumE, ev, putE, abin, aun, AV.cells, ↓reduceIte, reduceCtorEq, Nat.reduceAdd, Nat.reduceMul, Nat.reduceSub, Nat.reduceEqDiff, Nat.reduceLT, Nat.reduceLeDiff, implies_true, Back, retv, retV, AV.scal, AV.scals]; try simp only [idX_eq, ite_both, pickP_both, not_not_eq, Bool.not_eq_false, Bool.not_eq_true]
      exact ⟨rfl, _, Weak.refl _, okRet2 (scals_trms a) (scals_trms b) (scals_trms _) rfl rfl rfl rfl rfl rfl⟩
    · have e2 : limOf p' c' n' S = (0, 0, 0, [], 3) := if_neg hle
      rw [e2]
      simp (maxSteps := 3000000) only [over4E, heapL, fillA, rd, wrt, wrl, AO.withl, a_i_AddElements, B79_i_limited_K2, B79_i_plus_K2, B79_i_wrong_K2, B79_s_l02Both_K2, B79_s_l02Sum_K2, B79_s_l02Told_K2, g_both, g_lim, g_plus, g_sum, g_wrong, over8_0, over8_4, elemV, hal, hbl, hta, htb, hl1, hl2, h0, hq0, b1, c1, c2, c3, c4, hg1, hg2, hSe, hle, and_self, Int.reduceEq, Int.reduceNe, Int.reduceBEq, Int.reduceBNe, Int.reduceLT, Int.reduceLE, Int.reduceAdd, Int.reduceSub, Int.reduceMul, idX_eq, wbE, ↓symP, symE, listE, AK.isCall, enumE, ev, putE, abin, aun, AV.cells, ↓reduceIte, reduceCtorEq, Nat.reduceAdd, Nat.reduceMul, Nat.reduceSub, Nat.reduceEqDiff, Nat.reduceLT, Nat.reduceLeDiff, implies_true, Back, retv, retV, AV.scal, AV.scals]; try simp only [idX_eq, ite_both, pickP_both, not_not_eq, Bool.not_eq_false, Bool.not_eq_true]
      exact ⟨rfl, _, Weak.refl _, okRet2 (scals_trms a) (scals_trms b) (scals_trms _) rfl rfl rfl rfl rfl rfl⟩
  · have e1 : addOf p c n a p' c' n' b = (0, 0, 0, [], bothOf p c n a p' c' n' b) := by unfold addOf; rw [if_neg h0]
    have hq0 : (bothOf p c n a p' c' n' b != 0) = true := by simpa using h0
    rw [e1]
    simp (maxSteps := 3000000) only [over4E, heapL, fillA, rd, wrt, wrl, AO.withl, a_i_AddElements, B79_i_limited_K2, B79_i_plus_K2, B79_i_wrong_K2, B79_s_l02Both_K2, B79_s_l02Sum_K2, B79_s_l02Told_K2, g_both, g_lim, g_plus, g_sum, g_wrong, over8_0, over8_4, elemV, hal, hbl, hta, htb, hl1, hl2, hq0, and_self, Int.reduceEq, Int.reduceNe, Int.reduceBEq, Int.reduceBNe, Int.reduceLT, Int.reduceLE, Int.reduceAdd, Int.reduceSub, Int.reduceMul, idX_eq, wbE, ↓symP, symE, listE, AK.isCall, enumE, ev, putE, abin, aun, AV.cells, ↓reduceIte, reduceCtorEq, Nat.reduceAdd, Nat.reduceMul, Nat.reduceSub, Nat.reduceEqDiff, Nat.reduceLT, Nat.reduceLeDiff, implies_true, Back, retv, retV, AV.scal, AV.scals]; try simp only [idX_eq, ite_both, pickP_both, not_not_eq, Bool.not_eq_false, Bool.not_eq_true]
    exact ⟨rfl, errRet2 (scals_trms a) (scals_trms b) rfl rfl rfl rfl rfl (by decide)⟩
theorem lim_ok {p c n : Int} {L : List (Int × List Nat × Int)} (h : okT L) : okER (limOf p c n L) := by
  unfold limOf
  split
  · rename_i hle; exact ⟨h, by simp only; omega⟩
  · exact ⟨(fun t h => by cases h), by simp⟩
theorem add_ok (p c n p' c' n' : Int) (a b : List (Int × List Nat × Int)) (ha : okT a) (hb : okT b) : okER (addOf p c n a p' c' n' b) := by
  unfold addOf
  split
  · rename_i h0
    obtain ⟨⟨hE, hE2⟩, rfl, rfl, rfl⟩ := both_zero h0
    obtain ⟨b1, _⟩ := elem_bd hE
    exact lim_ok (sumL_good (by omega) (goodT_of ha hE) (goodT_of hb hE2)).1.ok
  · exact ⟨(fun t h => by cases h), by simp⟩
def B78 : Book := ((B79.put 31 (g_el2 addOf)).put 32 (g_el2 addOf))
theorem B78_ok : BookOk Try.prog B78 := ((B79_ok.put (k_el2 c_s_AddElements)).put (k_el2 c_i_AddElements))

end Go.Proofs.Ytkgoadglalpbfaa
