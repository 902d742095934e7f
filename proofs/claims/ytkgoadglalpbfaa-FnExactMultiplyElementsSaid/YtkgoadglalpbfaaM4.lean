/- Contracts: products of elements. -/
import Derived.Test.YtkgoadglalpbfaaM3
import Derived.Test.YtkgoadglalpbfaaK5
namespace Go.Proofs.Ytkgoadglalpbfaa
open Go.Am Go.Dia
set_option linter.unusedSimpArgs false
set_option linter.unusedVariables false
set_option maxRecDepth 4000
set_option maxHeartbeats 1000000

theorem mp_good {p c n : Int} (hp : 2 ≤ p ∧ p ≤ 97) (hc : 0 ≤ c ∧ c ≤ p - 1) {a b : List (Int × List Nat × Int)} (ha : GoodT p n a) (hb : GoodT p n b) (hl : a.length ≤ 300 ∧ b.length ≤ 300) : GoodT p n (MP p n (mulT p c n a b)) ∧ (MP p n (mulT p c n a b)).length ≤ 100000 := by
  have h0 : GoodT p n [] := ⟨(fun t h => by cases h), (fun t h => by cases h), (fun t h => by cases h), .nil⟩
  have h := chP_good (p := p) (F := 10000) (φ := id) (κ := fun _ => 1) (by omega) h0 (mul_ok (c := c) hp hc ha hb)
  refine ⟨h.1, Nat.le_trans h.2 ?_⟩
  rw [List.length_nil, mulT_len]
  have h1 : a.length * b.length ≤ 300 * 300 := Nat.mul_le_mul hl.1 hl.2
  omega
noncomputable def mulOf (p c n : Int) (a : List (Int × List Nat × Int)) (p' c' n' : Int) (b : List (Int × List Nat × Int)) : ER :=
  if bothOf p c n a p' c' n' b = 0 then limOf p c n (MP p n (mulT p c n a b)) else (0, 0, 0, [], bothOf p c n a p' c' n' b)
theorem B88_i_limited_M4 : B88 79 = some (g_lim) := rfl
theorem B88_i_multiplied_M4 : B88 90 = some (g_mul) := rfl
theorem B88_i_wrong_M4 : B88 78 = some (g_wrong) := rfl
theorem B88_s_l02Both_M4 : B88 76 = some (g_both) := rfl
theorem B88_s_l02Times_M4 : B88 88 = some (g_mul) := rfl
theorem B88_s_l02Told_M4 : B88 77 = some (g_lim) := rfl

def a_s_MultiplyElements : AC := .seq (.region [⟨some 2, none, .op (.box (.t 0))⟩,
     ⟨some 3, none, .op (.box (.t 1))⟩,
     ⟨some 4, none, .op (.alloc [(.int .i64 0), (.int .i64 0), (.int .i64 0), (.v (.slice none 0 0))])⟩,
     ⟨some 5, none, .op (.mov (.c (.int .i64 0)))⟩]) (.seq (.seq (.region [⟨some 9, none, .op (.loadN 4 (.t 2))⟩,
      ⟨some 10, none, .op (.loadN 4 (.t 3))⟩,
      ⟨some 11, none, .call (.c (.fn 76 [] [])) [(.t 9), (.t 10)]⟩,
      ⟨some 6, none, .op (.mov (.t 11))⟩]) (.seq (.region [⟨some 12, none, .op (.mov (.t 6))⟩,
      ⟨some 13, none, .op (.bin .neq (.t 12) (.c (.int .i64 0)))⟩]) (.cond 13 (.seq (.region [⟨some 14, none, .op (.build [(.int .i64 0), (.int .i64 0), (.int .i64 0), (.v (.slice none 0 0))] [])⟩,
        ⟨some 15, none, .op (.mov (.t 6))⟩,
        ⟨none, none, .op (.storeN 4 (.t 4) (.t 14))⟩,
        ⟨some 5, none, .op (.mov (.t 15))⟩]) .ret) .skip))) (.seq (.region [⟨some 17, none, .op (.loadN 4 (.t 2))⟩,
     ⟨some 18, none, .op (.loadN 4 (.t 3))⟩,
     ⟨some 19, none, .call (.c (.fn 88 [] [])) [(.t 17), (.t 18)]⟩,
     ⟨some 20, none, .call (.c (.fn 77 [] [])) [(.t 19)]⟩,
     ⟨some 16, none, .op (.mov (.t 20))⟩,
     ⟨some 21, none, .op (.ext 0 (.t 16))⟩,
     ⟨some 22, none, .op (.ext 1 (.t 16))⟩,
     ⟨some 7, none, .op (.alloc [(.int .i64 0), (.int .i64 0), (.int .i64 0), (.v (.slice none 0 0))])⟩,
     ⟨none, none, .op (.storeN 4 (.t 7) (.t 21))⟩,
     ⟨some 8, none, .op (.mov (.t 22))⟩]) (.seq (.region [⟨some 23, none, .op (.loadN 4 (.t 7))⟩,
     ⟨some 24, none, .op (.mov (.t 8))⟩,
     ⟨none, none, .op (.storeN 4 (.t 4) (.t 23))⟩,
     ⟨some 5, none, .op (.mov (.t 24))⟩]) .ret)))
theorem r_s_MultiplyElements : readF Try.prog 39 = some ⟨25, a_s_MultiplyElements, [.cellN 4 4, .slot 5]⟩ := by kernel_rfl
theorem c_s_MultiplyElements (p c n p' c' n' : Int) (a b : List (Int × List Nat × Int)) (ha : okT a) (hb : okT b) (hl : a.length ≤ 1100000 ∧ b.length ≤ 1100000) :
    Am.Fn Try.prog 39 [elemV p c n 0 a.length, elemV p' c' n' 1 b.length] [.ro (trms a), .ro (trms b)] (Elem2 (trms a) (trms b) (mulOf p c n a p' c' n' b)) := by
  refine Am.Fn.ofW B88_ok mixed r_s_MultiplyElements (by simp [elemV, AV.unders, AV.under]) (ro_under2 (scals_trms _) (scals_trms _)) ?_
  have hal := trms_length ha
  have hbl := trms_length hb
  have hta := tsOf_trms' ha
  have htb := tsOf_trms' hb
  have hl1 := hl.1
  have hl2 := hl.2
  by_cases h0 : bothOf p c n a p' c' n' b = 0
  · obtain ⟨⟨hE, hE2⟩, rfl, rfl, rfl⟩ := both_zero h0
    obtain ⟨b1, b2, b3, b4⟩ := elem_bd hE
    obtain ⟨_, _, _, b5⟩ := elem_bd hE2
    have hga := goodT_of ha hE
    have hgb := goodT_of hb hE2
    have hg1 := hga.dec
    have hg2 := hgb.dec
    have hs := mp_good (c := c') b1 b2 hga hgb (by omega)
    have hsl := hs.2
    have e1 : mulOf p' c' n' a p' c' n' b = limOf p' c' n' (MP p' n' (mulT p' c' n' a b)) := by unfold mulOf; rw [if_pos h0]
    have c1 : 0 ≤ n' ∧ n' ≤ 8 := by omega
    have c2 : a.length ≤ 300 ∧ b.length ≤ 300 := by omega
    have c4 : (MP p' n' (mulT p' c' n' a b)).length ≤ 1100000 := by omega
    rw [e1]
    generalize hSe : MP p' n' (mulT p' c' n' a b) = S at *
    have hq0 : ((0 : Int) != 0) = false := rfl
    by_cases hle : S.length ≤ 140
    · have e2 : limOf p' c' n' S = (p', c', n', S, 0) := if_pos hle
      rw [e2]
      simp (maxSteps := 3000000) only [over4E, heapL, fillA, rd, wrt, wrl, AO.withl, a_s_MultiplyElements, B88_i_limited_M4, B88_i_multiplied_M4, B88_i_wrong_M4, B88_s_l02Both_M4, B88_s_l02Times_M4, B88_s_l02Told_M4, g_both, g_lim, g_mul, g_wrong, elemV, hal, hbl, hta, htb, hl1, hl2, h0, hq0, b1, c1, c2, b2, c4, hg1, hg2, hSe, hle, and_self, Int.reduceEq, Int.reduceNe, Int.reduceBEq, Int.reduceBNe, Int.reduceLT, Int.reduceLE, Int.reduceAdd, Int.reduceSub, Int.reduceMul, idX_eq, wbE, ↓symP, symE, listE, AK.isCall, enumE, ev, putE, abin, aun, AV.cells, ↓reduceIte, reduceCtorEq, Nat.reduceAdd, Nat.reduceMul, Nat.reduceSub, Nat.reduceEqDiff, Nat.reduceLT, Nat.reduceLeDiff, implies_true, Back, retv, retV, AV.scal, AV.scals]; try simp only [idX_eq, ite_both, pickP_both, not_not_eq, Bool.not_eq_false, Bool.not_eq_true]
      exact ⟨rfl, rfl, _, Weak.refl _, okRet2 (scals_trms a) (scals_trms b) (scals_trms _) rfl rfl rfl rfl rfl rfl⟩
    · have e2 : limOf p' c' n' S = (0, 0, 0, [], 3) := if_neg hle
      rw [e2]
      simp (maxSteps := 3000000) only [over4E, heapL, fillA, rd, wrt, wrl, AO.withl, a_s_MultiplyElements, B88_i_limited_M4, B88_i_multiplied_M4, B88_i_wrong_M4, B88_s_l02Both_M4, B88_s_l02Times_M4, B88_s_l02Told_M4, g_both, g_lim, g_mul, g_wrong, elemV, hal, hbl, hta, htb, hl1, hl2, h0, hq0, b1, c1, c2, b2, c4, hg1, hg2, hSe, hle, and_self, Int.reduceEq, Int.reduceNe, Int.reduceBEq, Int.reduceBNe, Int.reduceLT, Int.reduceLE, Int.reduceAdd, Int.reduceSub, Int.reduceMul, idX_eq, wbE, ↓symP, symE, listE, AK.isCall, enumE, ev, putE, abin, aun, AV.cells, ↓reduceIte, reduceCtorEq, Nat.reduceAdd, Nat.reduceMul, Nat.reduceSub, Nat.reduceEqDiff, Nat.reduceLT, Nat.reduceLeDiff, implies_true, Back, retv, retV, AV.scal, AV.scals]; try simp only [idX_eq, ite_both, pickP_both, not_not_eq, Bool.not_eq_false, Bool.not_eq_true]
      exact ⟨rfl, rfl, _, Weak.refl _, okRet2 (scals_trms a) (scals_trms b) (scals_trms _) rfl rfl rfl rfl rfl rfl⟩
  · have e1 : mulOf p c n a p' c' n' b = (0, 0, 0, [], bothOf p c n a p' c' n' b) := by unfold mulOf; rw [if_neg h0]
    have hq0 : (bothOf p c n a p' c' n' b != 0) = true := by simpa using h0
    rw [e1]
    simp (maxSteps := 3000000) only [over4E, heapL, fillA, rd, wrt, wrl, AO.withl, a_s_MultiplyElements, B88_i_limited_M4, B88_i_multiplied_M4, B88_i_wrong_M4, B88_s_l02Both_M4, B88_s_l02Times_M4, B88_s_l02Told_M4, g_both, g_lim, g_mul, g_wrong, elemV, hal, hbl, hta, htb, hl1, hl2, hq0, and_self, Int.reduceEq, Int.reduceNe, Int.reduceBEq, Int.reduceBNe, Int.reduceLT, Int.reduceLE, Int.reduceAdd, Int.reduceSub, Int.reduceMul, idX_eq, wbE, ↓symP, symE, listE, AK.isCall, enumE, ev, putE, abin, aun, AV.cells, ↓reduceIte, reduceCtorEq, Nat.reduceAdd, Nat.reduceMul, Nat.reduceSub, Nat.reduceEqDiff, Nat.reduceLT, Nat.reduceLeDiff, implies_true, Back, retv, retV, AV.scal, AV.scals]; try simp only [idX_eq, ite_both, pickP_both, not_not_eq, Bool.not_eq_false, Bool.not_eq_true]
    exact ⟨rfl, errRet2 (scals_trms a) (scals_trms b) rfl rfl rfl rfl rfl (by decide)⟩

def a_i_MultiplyElements : AC := .seq (.region [⟨some 2, none, .op (.box (.t 0))⟩,
     ⟨some 3, none, .op (.box (.t 1))⟩,
     ⟨some 4, none, .op (.alloc [(.int .i64 0), (.int .i64 0), (.int .i64 0), (.v (.slice none 0 0))])⟩,
     ⟨some 5, none, .op (.mov (.c (.int .i64 0)))⟩]) (.seq (.seq (.region [⟨some 7, none, .op (.loadN 4 (.t 2))⟩,
      ⟨some 8, none, .op (.loadN 4 (.t 3))⟩,
      ⟨some 9, none, .op (.mkslc 2 [(.int .i64 0), (.int .i64 0), (.int .i64 0), (.v (.slice none 0 0)), (.int .i64 0), (.int .i64 0), (.int .i64 0), (.v (.slice none 0 0))] [(0, 4, (.t 7)), (4, 4, (.t 8))])⟩,
      ⟨some 10, none, .call (.c (.fn 78 [] [])) [(.t 9)]⟩,
      ⟨some 6, none, .op (.mov (.t 10))⟩]) (.seq (.region [⟨some 11, none, .op (.mov (.t 6))⟩,
      ⟨some 12, none, .op (.bin .neq (.t 11) (.c (.int .i64 0)))⟩]) (.cond 12 (.seq (.region [⟨some 13, none, .op (.build [(.int .i64 0), (.int .i64 0), (.int .i64 0), (.v (.slice none 0 0))] [])⟩,
        ⟨some 14, none, .op (.mov (.t 6))⟩,
        ⟨none, none, .op (.storeN 4 (.t 4) (.t 13))⟩,
        ⟨some 5, none, .op (.mov (.t 14))⟩]) .ret) .skip))) (.seq (.region [⟨some 15, none, .op (.loadN 4 (.t 2))⟩,
     ⟨some 16, none, .op (.loadN 4 (.t 3))⟩,
     ⟨some 17, none, .call (.c (.fn 90 [] [])) [(.t 15), (.t 16)]⟩,
     ⟨some 18, none, .call (.c (.fn 79 [] [])) [(.t 17)]⟩,
     ⟨some 19, none, .op (.ext 0 (.t 18))⟩,
     ⟨some 20, none, .op (.ext 1 (.t 18))⟩,
     ⟨none, none, .op (.storeN 4 (.t 4) (.t 19))⟩,
     ⟨some 5, none, .op (.mov (.t 20))⟩]) .ret))
theorem r_i_MultiplyElements : readF Try.prog 40 = some ⟨21, a_i_MultiplyElements, [.cellN 4 4, .slot 5]⟩ := by kernel_rfl
theorem c_i_MultiplyElements (p c n p' c' n' : Int) (a b : List (Int × List Nat × Int)) (ha : okT a) (hb : okT b) (hl : a.length ≤ 1100000 ∧ b.length ≤ 1100000) :
    Am.Fn Try.prog 40 [elemV p c n 0 a.length, elemV p' c' n' 1 b.length] [.ro (trms a), .ro (trms b)] (Elem2 (trms a) (trms b) (mulOf p c n a p' c' n' b)) := by
  refine Am.Fn.ofW B88_ok mixed r_i_MultiplyElements (by simp [elemV, AV.unders, AV.under]) (ro_under2 (scals_trms _) (scals_trms _)) ?_
  have hal := trms_length ha
  have hbl := trms_length hb
  have hta := tsOf_trms' ha
  have htb := tsOf_trms' hb
  have hl1 := hl.1
  have hl2 := hl.2
  by_cases h0 : bothOf p c n a p' c' n' b = 0
  · obtain ⟨⟨hE, hE2⟩, rfl, rfl, rfl⟩ := both_zero h0
    obtain ⟨b1, b2, b3, b4⟩ := elem_bd hE
    obtain ⟨_, _, _, b5⟩ := elem_bd hE2
    have hga := goodT_of ha hE
    have hgb := goodT_of hb hE2
    have hg1 := hga.dec
    have hg2 := hgb.dec
    have hs := mp_good (c := c') b1 b2 hga hgb (by omega)
    have hsl := hs.2
    have e1 : mulOf p' c' n' a p' c' n' b = limOf p' c' n' (MP p' n' (mulT p' c' n' a b)) := by unfold mulOf; rw [if_pos h0]
    have c1 : 0 ≤ n' ∧ n' ≤ 8 := by omega
    have c2 : a.length ≤ 300 ∧ b.length ≤ 300 := by omega
    have c4 : (MP p' n' (mulT p' c' n' a b)).length ≤ 1100000 := by omega
    rw [e1]
    generalize hSe : MP p' n' (mulT p' c' n' a b) = S at *
    have hq0 : ((0 : Int) != 0) = false := rfl
    by_cases hle : S.length ≤ 140
    · have e2 : limOf p' c' n' S = (p', c', n', S, 0) := if_pos hle
      rw [e2]
      simp (maxSteps := 3000000) only [over4E, heapL, fillA, rd, wrt, wrl, AO.withl, a_i_MultiplyElements, B88_i_limited_M4, B88_i_multiplied_M4, B88_i_wrong_M4, B88_s_l02Both_M4, B88_s_l02Times_M4, B88_s_l02Told_M4, g_both, g_lim, g_mul, g_wrong, over8_0, over8_4, elemV, hal, hbl, hta, htb, hl1, hl2, h0, hq0, b1, c1, c2, b2, c4, hg1, hg2, hSe, hle, and_self, Int.reduceEq, Int.reduceNe, Int.reduceBEq, Int.reduceBNe, Int.reduceLT, Int.reduceLE, Int.reduceAdd, Int.reduceSub, Int.reduceMul, idX_eq, wbE, ↓symP, symE, listE, AK.isCall, enumE, ev, putE, abin, aun, AV.cells, ↓reduceIte, reduceCtorEq, Nat.reduceAdd, Nat.reduceMul, Nat.reduceSub, Nat.reduceEqDiff, Nat.reduceLT, Nat.reduceLeDiff, implies_true, Back, retv, retV, AV.scal, AV.scals]; try simp only [idX_eq, ite_both, pickP_both, not_not_eq, Bool.not_eq_false, Bool.not_eq_true]
      exact ⟨rfl, _, Weak.refl _, okRet2 (scals_trms a) (scals_trms b) (scals_trms _) rfl rfl rfl rfl rfl rfl⟩
    · have e2 : limOf p' c' n' S = (0, 0, 0, [], 3) := if_neg hle
      rw [e2]
      simp (maxSteps := 3000000) only [over4E, heapL, fillA, rd, wrt, wrl, AO.withl, a_i_MultiplyElements, B88_i_limited_M4, B88_i_multiplied_M4, B88_i_wrong_M4, B88_s_l02Both_M4, B88_s_l02Times_M4, B88_s_l02Told_M4, g_both, g_lim, g_mul, g_wrong, over8_0, over8_4, elemV, hal, hbl, hta, htb, hl1, hl2, h0, hq0, b1, c1, c2, b2, c4, hg1, hg2, hSe, hle, and_self, Int.reduceEq, Int.reduceNe, Int.reduceBEq, Int.reduceBNe, Int.reduceLT, Int.reduceLE, Int.reduceAdd, Int.reduceSub, Int.reduceMul, idX_eq, wbE, ↓symP, symE, listE, AK.isCall, enumE, ev, putE, abin, aun, AV.cells, ↓reduceIte, reduceCtorEq, Nat.reduceAdd, Nat.reduceMul, Nat.reduceSub, Nat.reduceEqDiff, Nat.reduceLT, Nat.reduceLeDiff, implies_true, Back, retv, retV, AV.scal, AV.scals]; try simp only [idX_eq, ite_both, pickP_both, not_not_eq, Bool.not_eq_false, Bool.not_eq_true]
      exact ⟨rfl, _, Weak.refl _, okRet2 (scals_trms a) (scals_trms b) (scals_trms _) rfl rfl rfl rfl rfl rfl⟩
  · have e1 : mulOf p c n a p' c' n' b = (0, 0, 0, [], bothOf p c n a p' c' n' b) := by unfold mulOf; rw [if_neg h0]
    have hq0 : (bothOf p c n a p' c' n' b != 0) = true := by simpa using h0
    rw [e1]
    simp (maxSteps := 3000000) only [over4E, heapL, fillA, rd, wrt, wrl, AO.withl, a_i_MultiplyElements, B88_i_limited_M4, B88_i_multiplied_M4, B88_i_wrong_M4, B88_s_l02Both_M4, B88_s_l02Times_M4, B88_s_l02Told_M4, g_both, g_lim, g_mul, g_wrong, over8_0, over8_4, elemV, hal, hbl, hta, htb, hl1, hl2, hq0, and_self, Int.reduceEq, Int.reduceNe, Int.reduceBEq, Int.reduceBNe, Int.reduceLT, Int.reduceLE, Int.reduceAdd, Int.reduceSub, Int.reduceMul, idX_eq, wbE, ↓symP, symE, listE, AK.isCall, enumE, ev, putE, abin, aun, AV.cells, ↓reduceIte, reduceCtorEq, Nat.reduceAdd, Nat.reduceMul, Nat.reduceSub, Nat.reduceEqDiff, Nat.reduceLT, Nat.reduceLeDiff, implies_true, Back, retv, retV, AV.scal, AV.scals]; try simp only [idX_eq, ite_both, pickP_both, not_not_eq, Bool.not_eq_false, Bool.not_eq_true]
    exact ⟨rfl, errRet2 (scals_trms a) (scals_trms b) rfl rfl rfl rfl rfl (by decide)⟩
theorem mul_okE (p c n p' c' n' : Int) (a b : List (Int × List Nat × Int)) (ha : okT a) (hb : okT b) : okER (mulOf p c n a p' c' n' b) := by
  unfold mulOf
  split
  · rename_i h0
    obtain ⟨⟨hE, hE2⟩, rfl, rfl, rfl⟩ := both_zero h0
    obtain ⟨b1, b2, b3, b4⟩ := elem_bd hE
    obtain ⟨_, _, _, b5⟩ := elem_bd hE2
    exact lim_ok (mp_good (c := c') b1 b2 (goodT_of ha hE) (goodT_of hb hE2) (by omega)).1.ok
  · exact ⟨(fun t h => by cases h), by simp⟩
noncomputable def B89 : Book := ((B88.put 39 (g_el2 mulOf)).put 40 (g_el2 mulOf))

theorem B89_ok : BookOk Try.prog B89 := ((B88_ok.put (k_el2 c_s_MultiplyElements)).put (k_el2 c_i_MultiplyElements))

end Go.Proofs.Ytkgoadglalpbfaa
