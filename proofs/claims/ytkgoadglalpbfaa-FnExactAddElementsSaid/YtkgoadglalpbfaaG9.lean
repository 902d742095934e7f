/- Contracts: multiples of elements. -/
import Derived.Test.YtkgoadglalpbfaaG8
namespace Go.Proofs.Ytkgoadglalpbfaa
open Go.Am Go.Dia
set_option linter.unusedSimpArgs false
set_option linter.unusedVariables false
set_option maxRecDepth 4000
set_option maxHeartbeats 1000000

abbrev nilE : AO := .cells [.int .i64 0, .int .i64 0, .int .i64 0, .v (.slice none 0 0)]
/-- An error, handed back with the zero element. -/
theorem errRet1 {l : List AV} (hl : AV.scals l = true) {env : Env} {hp : List AO} {s t j : Nat} {e : Int} (h0 : hp[0]? = some (.ro l)) (hs : get env s = .ptr j 0) (hj : hp[j]? = some nilE) (ht : get env t = .int .i64 e) (hst : s ≠ t) :
    ∃ s', Weak 1 ⟨env, hp⟩ s' ∧ Ret [.cellN s 4, .slot t] [.ro l] (fun v H' => v = .tup [elemV 0 0 0 1 0, .int .i64 e] ∧ H' = [.ro l, .vec 18 []]) s' := by
  have hj0 : j ≠ 0 := fun e => by subst e; rw [h0] at hj; cases hj
  have hj0' : 0 ≠ j := fun e => hj0 e.symm
  have hk := Weak.keep (n0 := 1) (e := env) (hp := hp) [0, j] [s, t] ⟨⟨by simp, rfl, by simp [hj0']⟩, fun i hi => by
    simp only [List.mem_cons, List.not_mem_nil, or_false] at hi
    rcases hi with rfl | rfl
    · rw [h0]; exact withins_scal _ _ hl
    · rw [hj]; rfl⟩ fun u hu => by
    simp only [List.mem_cons, List.not_mem_nil, or_false] at hu
    rcases hu with rfl | rfl
    · rw [hs]; simp [AV.within]
    · rw [ht]; rfl
  have e1 : keptE [0, j] env [s, t] = [(s, .ptr 1 0), (t, .int .i64 e)] := by
    simp only [keptE, List.map_cons, List.map_nil, hs, ht, AV.ren, backR_eq, pos, if_neg hj0', if_true, Nat.zero_add, Nat.add_zero]
  have e2 : kepts [0, j] hp = [.ro l, nilE] := by
    simp only [kepts, List.map_cons, List.map_nil, h0, hj, AO.ren, rens_scal _ _ hl]
    rfl
  rw [e1, e2] at hk
  have hn := Weak.nilH (n0 := 1) (hp := [.ro l, nilE]) (e := [(s, .ptr 1 0), (t, .int .i64 e)]) 1 3 18 rfl rfl (by simp) (fun p hp => by
    simp only [List.mem_cons, List.not_mem_nil, or_false] at hp
    rcases hp with rfl | rfl
    · simp [AV.under]
    · trivial) (fun o ho => by
    simp only [List.mem_cons, List.not_mem_nil, or_false] at ho
    rcases ho with rfl | rfl
    · exact unders_scal _ _ hl
    · exact ⟨trivial, trivial, trivial, trivial, trivial⟩)
  refine ⟨_, Weak.trans hk hn, ?_⟩
  refine Ret.keep [0, 2] ⟨⟨by simp, rfl, by decide⟩, ?_⟩ (rs := [.agg [.int .i64 0, .int .i64 0, .int .i64 0, .slc 2 0 0 false 0], .int .i64 e]) ?_ rfl (by simp [retV]) ?_ ⟨?_, ?_⟩
  · intro i hi
    simp only [List.mem_cons, List.not_mem_nil, or_false] at hi
    rcases hi with rfl | rfl
    · exact withins_scal _ _ hl
    · rfl
  · have hts : t ≠ s := fun e => hst e.symm
    simp [retv, Am.get, get_put, hst, hts, astep, ev, rd, chk]
  · intro i m; match i with
    | 0 => exact fun _ => ⟨_, rfl⟩
    | 1 => simp [kepts, AO.ren]
    | i + 2 => simp [kepts]
  · simp only [retV]
    rfl
  · simp [kepts, AO.ren, rens_scal _ _ hl, AV.rens]

/-- An element, handed back without an error. -/
theorem okRet1 {l L : List AV} (hl : AV.scals l = true) (hL : AV.scals L = true) {env : Env} {hp : List AO} {s t j b k : Nat} {p c n e : Int} (h0 : hp[0]? = some (.ro l)) (hs : get env s = .ptr j 0)
    (hj : hp[j]? = some (.cells [.int .i64 p, .int .i64 c, .int .i64 n, .slc b 0 k false 0])) (hb : hp[b]? = some (.vec 18 L)) (ht : get env t = .int .i64 e) :
    Ret [.cellN s 4, .slot t] [.ro l] (fun v H' => v = .tup [elemV p c n 1 k, .int .i64 e] ∧ H' = [.ro l, .vec 18 L]) ⟨env, hp⟩ := by
  have hb0 : 0 ≠ b := fun e => by subst e; rw [h0] at hb; cases hb
  refine Ret.keep [0, b] ⟨⟨by simp, rfl, by simp [hb0]⟩, ?_⟩ (rs := [.agg [.int .i64 p, .int .i64 c, .int .i64 n, .slc b 0 k false 0], .int .i64 e]) ?_ (by simp [retV, AV.within, AV.withins]) (by simp [retV]) ?_ ⟨?_, ?_⟩
  · intro i hi
    simp only [List.mem_cons, List.not_mem_nil, or_false] at hi
    rcases hi with rfl | rfl
    · rw [h0]; exact withins_scal _ _ hl
    · rw [hb]; exact withins_scal _ _ hL
  · simp [retv, hs, ht, astep, ev, rd, hj, chk]
  · intro i m; match i with
    | 0 => exact fun _ => ⟨_, rfl⟩
    | 1 => simp [kepts, hb, AO.ren]
    | i + 2 => simp [kepts]
  · simp only [retV, AV.ren, AV.rens, backR_eq, pos, if_neg hb0, if_true]
    rfl
  · simp [kepts, h0, hb, AO.ren, rens_scal _ _ hl, rens_scal _ _ hL]

def scaleOf (p c n : Int) (a : List (Int × List Nat × Int)) (k : Int) : Int × Int × Int × List (Int × List Nat × Int) × Int :=
  if elemB p c n a = false then (0, 0, 0, [], 1) else if ¬ (-1000000 ≤ k ∧ k ≤ 1000000) then (0, 0, 0, [], 2) else (p, c, n, sumL p n k [] a, 0)
/-- What a function of one element that hands back an element is told to do. -/
def Elem1 (l : List AV) (r : Int × Int × Int × List (Int × List Nat × Int) × Int) (v : AV) (H' : List AO) : Prop :=
  v = .tup [elemV r.1 r.2.1 r.2.2.1 1 r.2.2.2.1.length, .int .i64 r.2.2.2.2] ∧ H' = [.ro l, .vec 18 (trms r.2.2.2.1)]
theorem elem_bd {p c n : Int} {a : List (Int × List Nat × Int)} (h : elemB p c n a = true) : (2 ≤ p ∧ p ≤ 97) ∧ (0 ≤ c ∧ c ≤ p - 1) ∧ (1 ≤ n ∧ n ≤ 8) ∧ a.length ≤ 140 := by
  simp only [elemB, Bool.and_eq_true, decide_eq_true_eq] at h
  have := prime_bd h.1.1.1.1
  exact ⟨by omega, h.1.1.1.2, h.1.1.2, h.1.2⟩
theorem goodT_nil {p n : Int} : goodT p n [] := ⟨(fun t h => by cases h), (fun t h => by cases h), .nil⟩
theorem B38_i_IsElement_G9 : B38 48 = some (g_isElem) := rfl
theorem B38_i_plus_G9 : B38 71 = some (g_plus) := rfl
theorem B38_i_scaleOk_G9 : B38 65 = some (plainE g_scaleOk) := rfl
theorem B38_s_l01In_G9 : B38 60 = some (plainE g_in) := rfl
theorem B38_s_l02Empty_G9 : B38 70 = some (g_empty) := rfl
theorem B38_s_l02Is_G9 : B38 68 = some (g_isElem) := rfl
theorem B38_s_l02Sum_G9 : B38 69 = some (g_sum) := rfl

def a_s_ScaleElement : AC := .seq (.region [⟨some 2, none, .op (.box (.t 0))⟩,
     ⟨some 4, none, .op (.alloc [(.int .i64 0), (.int .i64 0), (.int .i64 0), (.v (.slice none 0 0))])⟩,
     ⟨some 5, none, .op (.mov (.c (.int .i64 0)))⟩]) (.seq (.block 0 (.seq (.region [⟨some 7, none, .op (.loadN 4 (.t 2))⟩,
       ⟨some 8, none, .call (.c (.fn 68 [] [])) [(.t 7)]⟩,
       ⟨some 9, none, .op (.un .not (.t 8))⟩,
       ⟨some 6, none, .op (.mov (.t 9))⟩]) (.cond 6 (.seq (.region [⟨some 10, none, .op (.build [(.int .i64 0), (.int .i64 0), (.int .i64 0), (.v (.slice none 0 0))] [])⟩,
         ⟨none, none, .op (.storeN 4 (.t 4) (.t 10))⟩,
         ⟨some 5, none, .op (.mov (.c (.int .i64 1)))⟩]) .ret) (.seq (.region [⟨some 12, none, .op (.mov (.t 1))⟩,
         ⟨some 13, none, .call (.c (.fn 60 [] [])) [(.t 12), (.c (.int .i64 (-1000000))), (.c (.int .i64 1000000))]⟩,
         ⟨some 14, none, .op (.un .not (.t 13))⟩,
         ⟨some 11, none, .op (.mov (.t 14))⟩]) (.cond 11 (.seq (.region [⟨some 15, none, .op (.build [(.int .i64 0), (.int .i64 0), (.int .i64 0), (.v (.slice none 0 0))] [])⟩,
           ⟨none, none, .op (.storeN 4 (.t 4) (.t 15))⟩,
           ⟨some 5, none, .op (.mov (.c (.int .i64 2)))⟩]) .ret) .skip))))) (.seq (.draw true [⟨some 16, none, .op (.loadN 4 (.t 2))⟩,
     ⟨some 18, none, .op (.loadN 4 (.t 2))⟩,
     ⟨some 19, none, .op (.mov (.t 1))⟩,
     ⟨some 17, none, .call (.c (.fn 70 [] [])) [(.t 16)]⟩,
     ⟨some 20, none, .call (.c (.fn 69 [] [])) [(.t 17), (.t 18), (.t 19)]⟩,
     ⟨none, none, .op (.storeN 4 (.t 4) (.t 20))⟩,
     ⟨some 5, none, .op (.mov (.c (.int .i64 0)))⟩]) .ret))
theorem r_s_ScaleElement : readF Try.prog 27 = some ⟨21, a_s_ScaleElement, [.cellN 4 4, .slot 5]⟩ := by kernel_rfl
theorem c_s_ScaleElement (p c n k : Int) (a : List (Int × List Nat × Int)) (ha : okT a) (hl : a.length ≤ 1100000) :
    Am.Fn Try.prog 27 [elemV p c n 0 a.length, .int .i64 k] [.ro (trms a)] (Elem1 (trms a) (scaleOf p c n a k)) := by
  refine Am.Fn.ofW B38_ok mixed r_s_ScaleElement (by simp) (ro_under (scals_trms _)) ?_
  have hal := trms_length ha
  have hts := tsOf_trms' ha
  have hle : a.length ≤ 1000000000 := by omega
  cases hE : elemB p c n a with
  | false =>
    simp (maxSteps := 3000000) only [over4E, heapL, fillA, rd, wrt, wrl, AO.withl, a_s_ScaleElement, B38_i_IsElement_G9, B38_i_plus_G9, B38_i_scaleOk_G9, B38_s_l01In_G9, B38_s_l02Empty_G9, B38_s_l02Is_G9, B38_s_l02Sum_G9, g_empty, g_in, g_isElem, g_plus, g_scaleOk, g_sum, elemV, hal, hts, hle, hE, Int.reduceEq, Int.reduceNe, Int.reduceBEq, Int.reduceBNe, Int.reduceLT, Int.reduceLE, Int.reduceAdd, Int.reduceSub, Int.reduceMul, idX_eq, wbE, ↓symP, symE, listE, AK.isCall, enumE, ev, putE, abin, aun, AV.cells, ↓reduceIte, reduceCtorEq, Nat.reduceAdd, Nat.reduceMul, Nat.reduceSub, Nat.reduceEqDiff, Nat.reduceLT, Nat.reduceLeDiff, implies_true, Back, retv, retV, AV.scal, AV.scals]; try simp only [idX_eq, ite_both, pickP_both, not_not_eq, Bool.not_eq_false, Bool.not_eq_true]
    have e : scaleOf p c n a k = (0, 0, 0, [], 1) := by unfold scaleOf; rw [if_pos hE]
    rw [e]
    exact ⟨rfl, errRet1 (scals_trms a) rfl rfl rfl rfl (by decide)⟩
  | true =>
    by_cases hk : -1000000 ≤ k ∧ k ≤ 1000000
    · obtain ⟨h1, h2, h3, h4⟩ := elem_bd hE
      have hg := (goodT_of ha hE).dec
      have hn8 : 0 ≤ n ∧ n ≤ 8 := by omega
      have h0 : tsOf 0 [] = some [] := rfl
      have hl1 : a.length ≤ 100000 := by omega
      simp (maxSteps := 3000000) only [over4E, heapL, fillA, rd, wrt, wrl, AO.withl, a_s_ScaleElement, B38_i_IsElement_G9, B38_i_plus_G9, B38_i_scaleOk_G9, B38_s_l01In_G9, B38_s_l02Empty_G9, B38_s_l02Is_G9, B38_s_l02Sum_G9, g_empty, g_in, g_isElem, g_plus, g_scaleOk, g_sum, elemV, hal, hts, hle, hE, hk, h0, hg, goodT_nil, h1, hn8, hl1, and_self, Nat.zero_le, Int.reduceEq, Int.reduceNe, Int.reduceBEq, Int.reduceBNe, Int.reduceLT, Int.reduceLE, Int.reduceAdd, Int.reduceSub, Int.reduceMul, idX_eq, wbE, ↓symP, symE, listE, AK.isCall, enumE, ev, putE, abin, aun, AV.cells, ↓reduceIte, reduceCtorEq, Nat.reduceAdd, Nat.reduceMul, Nat.reduceSub, Nat.reduceEqDiff, Nat.reduceLT, Nat.reduceLeDiff, implies_true, Back, retv, retV, AV.scal, AV.scals]; try simp only [idX_eq, ite_both, pickP_both, not_not_eq, Bool.not_eq_false, Bool.not_eq_true]
      have e : scaleOf p c n a k = (p, c, n, sumL p n k [] a, 0) := by unfold scaleOf; rw [if_neg (by rw [hE]; simp), if_neg (fun h => h hk)]
      rw [e]
      exact ⟨⟨_, rfl⟩, ⟨_, rfl⟩, rfl, _, Weak.refl _, okRet1 (scals_trms a) (scals_trms _) rfl rfl rfl rfl rfl⟩
    · simp (maxSteps := 3000000) only [over4E, heapL, fillA, rd, wrt, wrl, AO.withl, a_s_ScaleElement, B38_i_IsElement_G9, B38_i_plus_G9, B38_i_scaleOk_G9, B38_s_l01In_G9, B38_s_l02Empty_G9, B38_s_l02Is_G9, B38_s_l02Sum_G9, g_empty, g_in, g_isElem, g_plus, g_scaleOk, g_sum, elemV, hal, hts, hle, hE, hk, Int.reduceEq, Int.reduceNe, Int.reduceBEq, Int.reduceBNe, Int.reduceLT, Int.reduceLE, Int.reduceAdd, Int.reduceSub, Int.reduceMul, idX_eq, wbE, ↓symP, symE, listE, AK.isCall, enumE, ev, putE, abin, aun, AV.cells, ↓reduceIte, reduceCtorEq, Nat.reduceAdd, Nat.reduceMul, Nat.reduceSub, Nat.reduceEqDiff, Nat.reduceLT, Nat.reduceLeDiff, implies_true, Back, retv, retV, AV.scal, AV.scals]; try simp only [idX_eq, ite_both, pickP_both, not_not_eq, Bool.not_eq_false, Bool.not_eq_true]
      have e : scaleOf p c n a k = (0, 0, 0, [], 2) := by unfold scaleOf; rw [if_neg (by rw [hE]; simp), if_pos hk]
      rw [e]
      exact ⟨rfl, errRet1 (scals_trms a) rfl rfl rfl rfl (by decide)⟩

def a_i_ScaleElement : AC := .seq (.region [⟨some 2, none, .op (.box (.t 0))⟩,
     ⟨some 4, none, .op (.alloc [(.int .i64 0), (.int .i64 0), (.int .i64 0), (.v (.slice none 0 0))])⟩,
     ⟨some 5, none, .op (.mov (.c (.int .i64 0)))⟩]) (.seq (.block 0 (.seq (.region [⟨some 7, none, .op (.loadN 4 (.t 2))⟩,
       ⟨some 8, none, .call (.c (.fn 48 [] [])) [(.t 7)]⟩,
       ⟨some 9, none, .op (.un .not (.t 8))⟩,
       ⟨some 6, none, .op (.mov (.t 9))⟩]) (.cond 6 (.seq (.region [⟨some 10, none, .op (.build [(.int .i64 0), (.int .i64 0), (.int .i64 0), (.v (.slice none 0 0))] [])⟩,
         ⟨none, none, .op (.storeN 4 (.t 4) (.t 10))⟩,
         ⟨some 5, none, .op (.mov (.c (.int .i64 1)))⟩]) .ret) (.seq (.region [⟨some 12, none, .op (.mov (.t 1))⟩,
         ⟨some 13, none, .call (.c (.fn 65 [] [])) [(.t 12)]⟩,
         ⟨some 14, none, .op (.un .not (.t 13))⟩,
         ⟨some 11, none, .op (.mov (.t 14))⟩]) (.cond 11 (.seq (.region [⟨some 15, none, .op (.build [(.int .i64 0), (.int .i64 0), (.int .i64 0), (.v (.slice none 0 0))] [])⟩,
           ⟨none, none, .op (.storeN 4 (.t 4) (.t 15))⟩,
           ⟨some 5, none, .op (.mov (.c (.int .i64 2)))⟩]) .ret) .skip))))) (.seq (.region [⟨some 16, none, .op (.loadN 4 (.t 2))⟩,
     ⟨some 17, none, .op (.loadN 4 (.t 2))⟩,
     ⟨some 18, none, .op (.mov (.t 1))⟩,
     ⟨some 19, none, .op (.bin .sub (.t 18) (.c (.int .i64 1)))⟩,
     ⟨some 20, none, .call (.c (.fn 71 [] [])) [(.t 16), (.t 17), (.t 19)]⟩,
     ⟨none, none, .op (.storeN 4 (.t 4) (.t 20))⟩,
     ⟨some 5, none, .op (.mov (.c (.int .i64 0)))⟩]) .ret))
theorem r_i_ScaleElement : readF Try.prog 28 = some ⟨21, a_i_ScaleElement, [.cellN 4 4, .slot 5]⟩ := by kernel_rfl
theorem c_i_ScaleElement (p c n k : Int) (a : List (Int × List Nat × Int)) (ha : okT a) (hl : a.length ≤ 1100000) :
    Am.Fn Try.prog 28 [elemV p c n 0 a.length, .int .i64 k] [.ro (trms a)] (Elem1 (trms a) (scaleOf p c n a k)) := by
  refine Am.Fn.ofW B38_ok mixed r_i_ScaleElement (by simp) (ro_under (scals_trms _)) ?_
  have hal := trms_length ha
  have hts := tsOf_trms' ha
  have hle : a.length ≤ 1000000000 := by omega
  cases hE : elemB p c n a with
  | false =>
    simp (maxSteps := 3000000) only [over4E, heapL, fillA, rd, wrt, wrl, AO.withl, a_i_ScaleElement, B38_i_IsElement_G9, B38_i_plus_G9, B38_i_scaleOk_G9, B38_s_l01In_G9, B38_s_l02Empty_G9, B38_s_l02Is_G9, B38_s_l02Sum_G9, g_empty, g_in, g_isElem, g_plus, g_scaleOk, g_sum, elemV, hal, hts, hle, hE, Int.reduceEq, Int.reduceNe, Int.reduceBEq, Int.reduceBNe, Int.reduceLT, Int.reduceLE, Int.reduceAdd, Int.reduceSub, Int.reduceMul, idX_eq, wbE, ↓symP, symE, listE, AK.isCall, enumE, ev, putE, abin, aun, AV.cells, ↓reduceIte, reduceCtorEq, Nat.reduceAdd, Nat.reduceMul, Nat.reduceSub, Nat.reduceEqDiff, Nat.reduceLT, Nat.reduceLeDiff, implies_true, Back, retv, retV, AV.scal, AV.scals]; try simp only [idX_eq, ite_both, pickP_both, not_not_eq, Bool.not_eq_false, Bool.not_eq_true]
    have e : scaleOf p c n a k = (0, 0, 0, [], 1) := by unfold scaleOf; rw [if_pos hE]
    rw [e]
    exact ⟨rfl, errRet1 (scals_trms a) rfl rfl rfl rfl (by decide)⟩
  | true =>
    by_cases hk : -1000000 ≤ k ∧ k ≤ 1000000
    · obtain ⟨h1, h2, h3, h4⟩ := elem_bd hE
      have hgg := goodT_of ha hE
      have hg := hgg.dec
      have hn8 : 0 ≤ n ∧ n ≤ 8 := by omega
      have hl1 : a.length ≤ 100000 := by omega
      have hw : wrapK .i64 (k - 1) = k - 1 := wrap64 (by omega) (by omega)
      have hk1 : -1000001 ≤ k - 1 ∧ k - 1 ≤ 1000001 := by omega
      have hlaw := scale_law (k := k) (by omega) hgg
      simp (maxSteps := 3000000) only [over4E, heapL, fillA, rd, wrt, wrl, AO.withl, a_i_ScaleElement, B38_i_IsElement_G9, B38_i_plus_G9, B38_i_scaleOk_G9, B38_s_l01In_G9, B38_s_l02Empty_G9, B38_s_l02Is_G9, B38_s_l02Sum_G9, g_empty, g_in, g_isElem, g_plus, g_scaleOk, g_sum, elemV, hal, hts, hle, hE, hk, hg, h1, hn8, hl1, hw, hk1, hlaw, and_self, Nat.zero_le, Int.reduceEq, Int.reduceNe, Int.reduceBEq, Int.reduceBNe, Int.reduceLT, Int.reduceLE, Int.reduceAdd, Int.reduceSub, Int.reduceMul, idX_eq, wbE, ↓symP, symE, listE, AK.isCall, enumE, ev, putE, abin, aun, AV.cells, ↓reduceIte, reduceCtorEq, Nat.reduceAdd, Nat.reduceMul, Nat.reduceSub, Nat.reduceEqDiff, Nat.reduceLT, Nat.reduceLeDiff, implies_true, Back, retv, retV, AV.scal, AV.scals]; try simp only [idX_eq, ite_both, pickP_both, not_not_eq, Bool.not_eq_false, Bool.not_eq_true]
      have e : scaleOf p c n a k = (p, c, n, sumL p n k [] a, 0) := by unfold scaleOf; rw [if_neg (by rw [hE]; simp), if_neg (fun h => h hk)]
      rw [e]
      exact ⟨rfl, _, Weak.refl _, okRet1 (scals_trms a) (scals_trms _) rfl rfl rfl rfl rfl⟩
    · simp (maxSteps := 3000000) only [over4E, heapL, fillA, rd, wrt, wrl, AO.withl, a_i_ScaleElement, B38_i_IsElement_G9, B38_i_plus_G9, B38_i_scaleOk_G9, B38_s_l01In_G9, B38_s_l02Empty_G9, B38_s_l02Is_G9, B38_s_l02Sum_G9, g_empty, g_in, g_isElem, g_plus, g_scaleOk, g_sum, elemV, hal, hts, hle, hE, hk, Int.reduceEq, Int.reduceNe, Int.reduceBEq, Int.reduceBNe, Int.reduceLT, Int.reduceLE, Int.reduceAdd, Int.reduceSub, Int.reduceMul, idX_eq, wbE, ↓symP, symE, listE, AK.isCall, enumE, ev, putE, abin, aun, AV.cells, ↓reduceIte, reduceCtorEq, Nat.reduceAdd, Nat.reduceMul, Nat.reduceSub, Nat.reduceEqDiff, Nat.reduceLT, Nat.reduceLeDiff, implies_true, Back, retv, retV, AV.scal, AV.scals]; try simp only [idX_eq, ite_both, pickP_both, not_not_eq, Bool.not_eq_false, Bool.not_eq_true]
      have e : scaleOf p c n a k = (0, 0, 0, [], 2) := by unfold scaleOf; rw [if_neg (by rw [hE]; simp), if_pos hk]
      rw [e]
      exact ⟨rfl, errRet1 (scals_trms a) rfl rfl rfl rfl (by decide)⟩

/-- The entries of functions of one element that hand back an element. -/
abbrev ER := Int × Int × Int × List (Int × List Nat × Int) × Int
def okER (r : ER) : Prop := okT r.2.2.2.1 ∧ r.2.2.2.1.length ≤ 300
def g_el1 (R : Int → Int → Int → List (Int × List Nat × Int) → ER) : BE := fun hp xs => match xs with
  | [.agg [.int .i64 p, .int .i64 c, .int .i64 n, .slc b 0 la false 0]] => match rd hp b with
    | some L => match tsOf la L with
      | some a => chk (la ≤ 1100000) (some (.tup [elemV (R p c n a).1 (R p c n a).2.1 (R p c n a).2.2.1 hp.length (R p c n a).2.2.2.1.length, .int .i64 (R p c n a).2.2.2.2], hp ++ [.vec 18 (trms (R p c n a).2.2.2.1)]))
      | none => none
    | none => none
  | _ => none
def g_el1k (R : Int → Int → Int → List (Int × List Nat × Int) → Int → ER) : BE := fun hp xs => match xs with
  | [.agg [.int .i64 p, .int .i64 c, .int .i64 n, .slc b 0 la false 0], .int .i64 k] => match rd hp b with
    | some L => match tsOf la L with
      | some a => chk (la ≤ 1100000) (some (.tup [elemV (R p c n a k).1 (R p c n a k).2.1 (R p c n a k).2.2.1 hp.length (R p c n a k).2.2.2.1.length, .int .i64 (R p c n a k).2.2.2.2], hp ++ [.vec 18 (trms (R p c n a k).2.2.2.1)]))
      | none => none
    | none => none
  | _ => none
theorem k_el1 {f : FuncId} {R : Int → Int → Int → List (Int × List Nat × Int) → ER} (h : ∀ p c n a, okT a → a.length ≤ 1100000 → Am.Fn Try.prog f [elemV p c n 0 a.length] [.ro (trms a)] (Elem1 (trms a) (R p c n a))) : Am.Callee Try.prog f (g_el1 R) := Callee.fp fun hp xs v hp' he => by
  unfold g_el1 at he
  split at he
  · rename_i p c n b la
    split at he
    · rename_i L hL
      split at he
      · rename_i a h1
        obtain ⟨a1, he2⟩ := chk_some he
        simp only [Option.some.injEq, Prod.mk.injEq] at he2
        obtain ⟨rfl, rfl⟩ := he2
        obtain ⟨e1, e2, e3, e4⟩ := tsOf_some h1
        have g1 := trms_length e2
        have hfn := h p c n a e2 (by omega)
        unfold Elem1 at hfn
        refine ⟨[(b, 0)], [elemV p c n 0 a.length], _, _, _, hfn, by simp [elemV, AV.ren, AV.rens, ofL, e1], rfl,
          ⟨⟨L, hL, by omega, by rw [List.drop_zero, rens_scal _ _ (scals_trms _), g1, e1]; exact e3⟩, trivial⟩, rfl,
          ⟨unders_scal _ _ (scals_trms _), trivial⟩, ⟨⟨trivial, trivial, trivial, by simp [AV.under], trivial⟩, trivial⟩, by simp [elemV, AV.ren, AV.rens, Ren.ext], ?_⟩
        simp [after, upd, AO.wr, AO.ren, rens_scal _ _ (scals_trms _)]
      · cases he
    · cases he
  · cases he
theorem k_el1k {f : FuncId} {R : Int → Int → Int → List (Int × List Nat × Int) → Int → ER} (h : ∀ p c n k a, okT a → a.length ≤ 1100000 → Am.Fn Try.prog f [elemV p c n 0 a.length, .int .i64 k] [.ro (trms a)] (Elem1 (trms a) (R p c n a k))) : Am.Callee Try.prog f (g_el1k R) := Callee.fp fun hp xs v hp' he => by
  unfold g_el1k at he
  split at he
  · rename_i p c n b la k
    split at he
    · rename_i L hL
      split at he
      · rename_i a h1
        obtain ⟨a1, he2⟩ := chk_some he
        simp only [Option.some.injEq, Prod.mk.injEq] at he2
        obtain ⟨rfl, rfl⟩ := he2
        obtain ⟨e1, e2, e3, e4⟩ := tsOf_some h1
        have g1 := trms_length e2
        have hfn := h p c n k a e2 (by omega)
        unfold Elem1 at hfn
        refine ⟨[(b, 0)], [elemV p c n 0 a.length, .int .i64 k], _, _, _, hfn, by simp [elemV, AV.ren, AV.rens, ofL, e1], rfl,
          ⟨⟨L, hL, by omega, by rw [List.drop_zero, rens_scal _ _ (scals_trms _), g1, e1]; exact e3⟩, trivial⟩, rfl,
          ⟨unders_scal _ _ (scals_trms _), trivial⟩, ⟨⟨trivial, trivial, trivial, by simp [AV.under], trivial⟩, trivial, trivial⟩, by simp [elemV, AV.ren, AV.rens, Ren.ext], ?_⟩
        simp [after, upd, AO.wr, AO.ren, rens_scal _ _ (scals_trms _)]
      · cases he
    · cases he
  · cases he
def B39 : Book := ((B38.put 27 (g_el1k scaleOf)).put 28 (g_el1k scaleOf))
theorem B39_ok : BookOk Try.prog B39 := ((B38_ok.put (k_el1k c_s_ScaleElement)).put (k_el1k c_i_ScaleElement))

end Go.Proofs.Ytkgoadglalpbfaa
