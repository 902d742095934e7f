/- Contracts: two elements that are alike, and elements with not too many terms. -/
import Derived.Test.YtkgoadglalpbfaaJ0
namespace Go.Proofs.Ytkgoadglalpbfaa
open Go.Am Go.Dia
set_option linter.unusedSimpArgs false
set_option linter.unusedVariables false
set_option maxRecDepth 4000
set_option maxHeartbeats 1000000

/-- An error, handed back with the zero element. -/
theorem errRet2 {l l' : List AV} (hl : AV.scals l = true) (hl' : AV.scals l' = true) {env : Env} {hp : List AO} {s t j : Nat} {e : Int} (h0 : hp[0]? = some (.ro l)) (h1 : hp[1]? = some (.ro l')) (hs : get env s = .ptr j 0) (hj : hp[j]? = some nilE) (ht : get env t = .int .i64 e) (hst : s ≠ t) :
    ∃ s', Weak 2 ⟨env, hp⟩ s' ∧ Ret [.cellN s 4, .slot t] [.ro l, .ro l'] (fun v H' => v = .tup [elemV 0 0 0 2 0, .int .i64 e] ∧ H' = [.ro l, .ro l', .vec 18 []]) s' := by
  have hj0 : 0 ≠ j := fun e => by subst e; rw [h0] at hj; cases hj
  have hj1 : 1 ≠ j := fun e => by subst e; rw [h1] at hj; cases hj
  have hk := Weak.keep (n0 := 2) (e := env) (hp := hp) [0, 1, j] [s, t] ⟨⟨by simp, rfl, by simp [hj0, hj1]⟩, fun i hi => by
    simp only [List.mem_cons, List.not_mem_nil, or_false] at hi
    rcases hi with rfl | rfl | rfl
    · rw [h0]; exact withins_scal _ _ hl
    · rw [h1]; exact withins_scal _ _ hl'
    · rw [hj]; rfl⟩ fun u hu => by
    simp only [List.mem_cons, List.not_mem_nil, or_false] at hu
    rcases hu with rfl | rfl
    · rw [hs]; simp [AV.within]
    · rw [ht]; rfl
  have e1 : keptE [0, 1, j] env [s, t] = [(s, .ptr 2 0), (t, .int .i64 e)] := by
    simp only [keptE, List.map_cons, List.map_nil, hs, ht, AV.ren, backR_eq, pos, if_neg hj0, if_neg hj1, if_true, Nat.zero_add, Nat.add_zero]
  have e2 : kepts [0, 1, j] hp = [.ro l, .ro l', nilE] := by
    simp only [kepts, List.map_cons, List.map_nil, h0, h1, hj, AO.ren, rens_scal _ _ hl, rens_scal _ _ hl']
    rfl
  rw [e1, e2] at hk
  have hn := Weak.nilH (n0 := 2) (hp := [.ro l, .ro l', nilE]) (e := [(s, .ptr 2 0), (t, .int .i64 e)]) 2 3 18 rfl rfl (by simp) (fun p hp => by
    simp only [List.mem_cons, List.not_mem_nil, or_false] at hp
    rcases hp with rfl | rfl
    · simp [AV.under]
    · trivial) (fun o ho => by
    simp only [List.mem_cons, List.not_mem_nil, or_false] at ho
    rcases ho with rfl | rfl | rfl
    · exact unders_scal _ _ hl
    · exact unders_scal _ _ hl'
    · exact ⟨trivial, trivial, trivial, trivial, trivial⟩)
  refine ⟨_, Weak.trans hk hn, ?_⟩
  refine Ret.keep [0, 1, 3] ⟨⟨by simp, rfl, by decide⟩, ?_⟩ (rs := [.agg [.int .i64 0, .int .i64 0, .int .i64 0, .slc 3 0 0 false 0], .int .i64 e]) ?_ rfl (by simp [retV]) ?_ ⟨?_, ?_⟩
  · intro i hi
    simp only [List.mem_cons, List.not_mem_nil, or_false] at hi
    rcases hi with rfl | rfl | rfl
    · exact withins_scal _ _ hl
    · exact withins_scal _ _ hl'
    · rfl
  · have hts : t ≠ s := fun e => hst e.symm
    simp [retv, Am.get, get_put, hst, hts, astep, ev, rd, chk]
  · intro i m; match i with
    | 0 => exact fun _ => ⟨_, rfl⟩
    | 1 => exact fun _ => ⟨_, rfl⟩
    | 2 => simp [kepts, AO.ren]
    | i + 3 => simp [kepts]
  · simp only [retV]
    rfl
  · simp [kepts, AO.ren, rens_scal _ _ hl, rens_scal _ _ hl', AV.rens]
/-- An element, handed back without an error. -/
theorem okRet2 {l l' L : List AV} (hl : AV.scals l = true) (hl' : AV.scals l' = true) (hL : AV.scals L = true) {env : Env} {hp : List AO} {s t j b k : Nat} {p c n e : Int} (h0 : hp[0]? = some (.ro l)) (h1 : hp[1]? = some (.ro l')) (hs : get env s = .ptr j 0)
    (hj : hp[j]? = some (.cells [.int .i64 p, .int .i64 c, .int .i64 n, .slc b 0 k false 0])) (hb : hp[b]? = some (.vec 18 L)) (ht : get env t = .int .i64 e) :
    Ret [.cellN s 4, .slot t] [.ro l, .ro l'] (fun v H' => v = .tup [elemV p c n 2 k, .int .i64 e] ∧ H' = [.ro l, .ro l', .vec 18 L]) ⟨env, hp⟩ := by
  have hb0 : 0 ≠ b := fun e => by subst e; rw [h0] at hb; cases hb
  have hb1 : 1 ≠ b := fun e => by subst e; rw [h1] at hb; cases hb
  refine Ret.keep [0, 1, b] ⟨⟨by simp, rfl, by simp [hb0, hb1]⟩, ?_⟩ (rs := [.agg [.int .i64 p, .int .i64 c, .int .i64 n, .slc b 0 k false 0], .int .i64 e]) ?_ (by simp [retV, AV.within, AV.withins]) (by simp [retV]) ?_ ⟨?_, ?_⟩
  · intro i hi
    simp only [List.mem_cons, List.not_mem_nil, or_false] at hi
    rcases hi with rfl | rfl | rfl
    · rw [h0]; exact withins_scal _ _ hl
    · rw [h1]; exact withins_scal _ _ hl'
    · rw [hb]; exact withins_scal _ _ hL
  · simp [retv, hs, ht, astep, ev, rd, hj, chk]
  · intro i m; match i with
    | 0 => exact fun _ => ⟨_, rfl⟩
    | 1 => exact fun _ => ⟨_, rfl⟩
    | 2 => simp [kepts, hb, AO.ren]
    | i + 3 => simp [kepts]
  · simp only [retV, AV.ren, AV.rens, backR_eq, pos, if_neg hb0, if_neg hb1, if_true]
    rfl
  · simp [kepts, h0, h1, hb, AO.ren, rens_scal _ _ hl, rens_scal _ _ hl', rens_scal _ _ hL]

def bothOf (p c n : Int) (a : List (Int × List Nat × Int)) (p' c' n' : Int) (b : List (Int × List Nat × Int)) : Int :=
  if elemB p c n a = false ∨ elemB p' c' n' b = false then 1 else if ¬ (p = p' ∧ c = c' ∧ n = n') then 2 else 0
theorem B53_i_IsElement_K1 : B53 48 = some (g_isElem) := rfl
theorem B53_s_l02Is_K1 : B53 68 = some (g_isElem) := rfl

def a_s_l02Both : AC := .seq (.region [⟨some 2, none, .op (.box (.t 0))⟩,
     ⟨some 3, none, .op (.box (.t 1))⟩,
     ⟨some 4, none, .op (.mov (.c (.int .i64 0)))⟩]) (.seq (.block 0 (.seq (.region [⟨some 6, none, .op (.loadN 4 (.t 2))⟩,
       ⟨some 7, none, .call (.c (.fn 68 [] [])) [(.t 6)]⟩,
       ⟨some 8, none, .op (.un .not (.t 7))⟩,
       ⟨some 9, none, .op (.mov (.t 8))⟩,
       ⟨some 10, some (9, false), .op (.loadN 4 (.t 3))⟩,
       ⟨some 11, some (9, false), .call (.c (.fn 68 [] [])) [(.t 10)]⟩,
       ⟨some 12, some (9, false), .op (.un .not (.t 11))⟩,
       ⟨some 13, none, .op (.pick (.t 9) (.c (.bool true)) (.t 12))⟩,
       ⟨some 5, none, .op (.mov (.t 13))⟩]) (.cond 5 (.seq (.region [⟨some 4, none, .op (.mov (.c (.int .i64 1)))⟩]) .ret) (.seq (.region [⟨some 15, none, .op (.faddr 0 (.t 2))⟩,
         ⟨some 16, none, .op (.load1 (.t 15))⟩,
         ⟨some 17, none, .op (.faddr 0 (.t 3))⟩,
         ⟨some 18, none, .op (.load1 (.t 17))⟩,
         ⟨some 19, none, .op (.bin .neq (.t 16) (.t 18))⟩,
         ⟨some 20, none, .op (.mov (.t 19))⟩,
         ⟨some 21, some (20, false), .op (.faddr 1 (.t 2))⟩,
         ⟨some 22, some (20, false), .op (.load1 (.t 21))⟩,
         ⟨some 23, some (20, false), .op (.faddr 1 (.t 3))⟩,
         ⟨some 24, some (20, false), .op (.load1 (.t 23))⟩,
         ⟨some 25, some (20, false), .op (.bin .neq (.t 22) (.t 24))⟩,
         ⟨some 26, none, .op (.pick (.t 20) (.c (.bool true)) (.t 25))⟩,
         ⟨some 27, none, .op (.mov (.t 26))⟩,
         ⟨some 28, some (27, false), .op (.faddr 2 (.t 2))⟩,
         ⟨some 29, some (27, false), .op (.load1 (.t 28))⟩,
         ⟨some 30, some (27, false), .op (.faddr 2 (.t 3))⟩,
         ⟨some 31, some (27, false), .op (.load1 (.t 30))⟩,
         ⟨some 32, some (27, false), .op (.bin .neq (.t 29) (.t 31))⟩,
         ⟨some 33, none, .op (.pick (.t 27) (.c (.bool true)) (.t 32))⟩,
         ⟨some 14, none, .op (.mov (.t 33))⟩]) (.cond 14 (.seq (.region [⟨some 4, none, .op (.mov (.c (.int .i64 2)))⟩]) .ret) .skip))))) (.seq (.region [⟨some 4, none, .op (.mov (.c (.int .i64 0)))⟩]) .ret))
theorem r_s_l02Both : readF Try.prog 76 = some ⟨34, a_s_l02Both, [.slot 4]⟩ := by kernel_rfl
theorem c_s_l02Both (p c n p' c' n' : Int) (a b : List (Int × List Nat × Int)) (ha : okT a) (hb : okT b) (hl : a.length ≤ 1100000 ∧ b.length ≤ 1100000) :
    Am.Fn Try.prog 76 [elemV p c n 0 a.length, elemV p' c' n' 1 b.length] [.ro (trms a), .ro (trms b)] (fun v H' => v = .int .i64 (bothOf p c n a p' c' n' b) ∧ H' = [.ro (trms a), .ro (trms b)]) := by
  refine Am.Fn.sameB (R := fun v => v = _) B53_ok mixed r_s_l02Both (by simp [elemV, AV.unders, AV.under]) (ro_under2 (scals_trms _) (scals_trms _)) ?_
  have hal := trms_length ha
  have hbl := trms_length hb
  have hta := tsOf_trms' ha
  have htb := tsOf_trms' hb
  have hl1 : a.length ≤ 1000000000 := by omega
  have hl2 : b.length ≤ 1000000000 := by omega
  cases hE : elemB p c n a with
  | false =>
    have e : bothOf p c n a p' c' n' b = 1 := by unfold bothOf; rw [if_pos (.inl hE)]
    simp (maxSteps := 3000000) only [over4E, heapL, fillA, rd, wrt, wrl, AO.withl, a_s_l02Both, B53_i_IsElement_K1, B53_s_l02Is_K1, g_isElem, elemV, hal, hbl, hta, htb, hl1, hl2, hE, e, Int.reduceEq, Int.reduceNe, Int.reduceBEq, Int.reduceBNe, Int.reduceLT, Int.reduceLE, Int.reduceAdd, Int.reduceSub, Int.reduceMul, idX_eq, wbE, ↓symP, symE, listE, AK.isCall, enumE, ev, putE, abin, aun, AV.cells, ↓reduceIte, reduceCtorEq, Nat.reduceAdd, Nat.reduceMul, Nat.reduceSub, Nat.reduceEqDiff, Nat.reduceLT, Nat.reduceLeDiff, implies_true, Back, retv, retV, AV.scal, AV.scals]; try simp only [idX_eq, ite_both, pickP_both, not_not_eq, Bool.not_eq_false, Bool.not_eq_true]
    exact ⟨_, rfl⟩
  | true =>
    cases hE2 : elemB p' c' n' b with
    | false =>
      have e : bothOf p c n a p' c' n' b = 1 := by unfold bothOf; rw [if_pos (.inr hE2)]
      simp (maxSteps := 3000000) only [over4E, heapL, fillA, rd, wrt, wrl, AO.withl, a_s_l02Both, B53_i_IsElement_K1, B53_s_l02Is_K1, g_isElem, elemV, hal, hbl, hta, htb, hl1, hl2, hE, hE2, e, Int.reduceEq, Int.reduceNe, Int.reduceBEq, Int.reduceBNe, Int.reduceLT, Int.reduceLE, Int.reduceAdd, Int.reduceSub, Int.reduceMul, idX_eq, wbE, ↓symP, symE, listE, AK.isCall, enumE, ev, putE, abin, aun, AV.cells, ↓reduceIte, reduceCtorEq, Nat.reduceAdd, Nat.reduceMul, Nat.reduceSub, Nat.reduceEqDiff, Nat.reduceLT, Nat.reduceLeDiff, implies_true, Back, retv, retV, AV.scal, AV.scals]; try simp only [idX_eq, ite_both, pickP_both, not_not_eq, Bool.not_eq_false, Bool.not_eq_true]
      exact ⟨_, rfl⟩
    | true =>
      have e0 : ¬ (elemB p c n a = false ∨ elemB p' c' n' b = false) := by rw [hE, hE2]; simp
      by_cases h1 : p = p'
      · have q1 : (p != p') = false := by simp [h1]
        by_cases h2 : c = c'
        · have q2 : (c != c') = false := by simp [h2]
          by_cases h3 : n = n'
          · have q3 : (n != n') = false := by simp [h3]
            have e : bothOf p c n a p' c' n' b = 0 := by unfold bothOf; rw [if_neg e0, if_neg (fun h => h ⟨h1, h2, h3⟩)]
            simp (maxSteps := 3000000) only [over4E, heapL, fillA, rd, wrt, wrl, AO.withl, a_s_l02Both, B53_i_IsElement_K1, B53_s_l02Is_K1, g_isElem, elemV, hal, hbl, hta, htb, hl1, hl2, hE, hE2, q1, q2, q3, e, Int.reduceEq, Int.reduceNe, Int.reduceBEq, Int.reduceBNe, Int.reduceLT, Int.reduceLE, Int.reduceAdd, Int.reduceSub, Int.reduceMul, idX_eq, wbE, ↓symP, symE, listE, AK.isCall, enumE, ev, putE, abin, aun, AV.cells, ↓reduceIte, reduceCtorEq, Nat.reduceAdd, Nat.reduceMul, Nat.reduceSub, Nat.reduceEqDiff, Nat.reduceLT, Nat.reduceLeDiff, implies_true, Back, retv, retV, AV.scal, AV.scals]; try simp only [idX_eq, ite_both, pickP_both, not_not_eq, Bool.not_eq_false, Bool.not_eq_true]
            exact ⟨_, rfl⟩
          · have q3 : (n != n') = true := by simp [h3]
            have e : bothOf p c n a p' c' n' b = 2 := by unfold bothOf; rw [if_neg e0, if_pos (fun h => h3 h.2.2)]
            simp (maxSteps := 3000000) only [over4E, heapL, fillA, rd, wrt, wrl, AO.withl, a_s_l02Both, B53_i_IsElement_K1, B53_s_l02Is_K1, g_isElem, elemV, hal, hbl, hta, htb, hl1, hl2, hE, hE2, q1, q2, q3, e, Int.reduceEq, Int.reduceNe, Int.reduceBEq, Int.reduceBNe, Int.reduceLT, Int.reduceLE, Int.reduceAdd, Int.reduceSub, Int.reduceMul, idX_eq, wbE, ↓symP, symE, listE, AK.isCall, enumE, ev, putE, abin, aun, AV.cells, ↓reduceIte, reduceCtorEq, Nat.reduceAdd, Nat.reduceMul, Nat.reduceSub, Nat.reduceEqDiff, Nat.reduceLT, Nat.reduceLeDiff, implies_true, Back, retv, retV, AV.scal, AV.scals]; try simp only [idX_eq, ite_both, pickP_both, not_not_eq, Bool.not_eq_false, Bool.not_eq_true]
            exact ⟨_, rfl⟩
        · have q2 : (c != c') = true := by simp [h2]
          have e : bothOf p c n a p' c' n' b = 2 := by unfold bothOf; rw [if_neg e0, if_pos (fun h => h2 h.2.1)]
          simp (maxSteps := 3000000) only [over4E, heapL, fillA, rd, wrt, wrl, AO.withl, a_s_l02Both, B53_i_IsElement_K1, B53_s_l02Is_K1, g_isElem, elemV, hal, hbl, hta, htb, hl1, hl2, hE, hE2, q1, q2, e, Int.reduceEq, Int.reduceNe, Int.reduceBEq, Int.reduceBNe, Int.reduceLT, Int.reduceLE, Int.reduceAdd, Int.reduceSub, Int.reduceMul, idX_eq, wbE, ↓symP, symE, listE, AK.isCall, enumE, ev, putE, abin, aun, AV.cells, ↓reduceIte, reduceCtorEq, Nat.reduceAdd, Nat.reduceMul, Nat.reduceSub, Nat.reduceEqDiff, Nat.reduceLT, Nat.reduceLeDiff, implies_true, Back, retv, retV, AV.scal, AV.scals]; try simp only [idX_eq, ite_both, pickP_both, not_not_eq, Bool.not_eq_false, Bool.not_eq_true]
          exact ⟨_, rfl⟩
      · have q1 : (p != p') = true := by simp [h1]
        have e : bothOf p c n a p' c' n' b = 2 := by unfold bothOf; rw [if_neg e0, if_pos (fun h => h1 h.1)]
        simp (maxSteps := 3000000) only [over4E, heapL, fillA, rd, wrt, wrl, AO.withl, a_s_l02Both, B53_i_IsElement_K1, B53_s_l02Is_K1, g_isElem, elemV, hal, hbl, hta, htb, hl1, hl2, hE, hE2, q1, e, Int.reduceEq, Int.reduceNe, Int.reduceBEq, Int.reduceBNe, Int.reduceLT, Int.reduceLE, Int.reduceAdd, Int.reduceSub, Int.reduceMul, idX_eq, wbE, ↓symP, symE, listE, AK.isCall, enumE, ev, putE, abin, aun, AV.cells, ↓reduceIte, reduceCtorEq, Nat.reduceAdd, Nat.reduceMul, Nat.reduceSub, Nat.reduceEqDiff, Nat.reduceLT, Nat.reduceLeDiff, implies_true, Back, retv, retV, AV.scal, AV.scals]; try simp only [idX_eq, ite_both, pickP_both, not_not_eq, Bool.not_eq_false, Bool.not_eq_true]
        exact ⟨_, rfl⟩

def g_both : BE := fun hp xs => match xs with
  | [.agg [.int .i64 p, .int .i64 c, .int .i64 n, .slc b 0 la false 0], .agg [.int .i64 p', .int .i64 c', .int .i64 n', .slc b' 0 lb false 0]] => match rd hp b, rd hp b' with
    | some L, some L' => match tsOf la L, tsOf lb L' with
      | some ta, some tb => chk (la ≤ 1100000 ∧ lb ≤ 1100000) (some (.int .i64 (bothOf p c n ta p' c' n' tb), hp))
      | _, _ => none
    | _, _ => none
  | _ => none
theorem k_both : Am.Callee Try.prog 76 g_both := Callee.fp fun hp xs v hp' he => by
  unfold g_both at he
  split at he
  · rename_i p c n b la p' c' n' b' lb
    split at he
    · rename_i L L' hL hL'
      split at he
      · rename_i ta tb h1 h1'
        obtain ⟨⟨a1, a2⟩, he2⟩ := chk_some he
        simp only [Option.some.injEq, Prod.mk.injEq] at he2
        obtain ⟨rfl, rfl⟩ := he2
        obtain ⟨e1, e2, e3, e4⟩ := tsOf_some h1
        obtain ⟨f1, f2, f3, f4⟩ := tsOf_some h1'
        have g1 := trms_length e2
        have g2 := trms_length f2
        refine ⟨[(b, 0), (b', 0)], [elemV p c n 0 ta.length, elemV p' c' n' 1 tb.length], _, _, _, c_s_l02Both p c n p' c' n' ta tb e2 f2 (by omega), by simp [elemV, AV.ren, AV.rens, ofL, e1, f1], rfl,
          ⟨⟨L, hL, by omega, by rw [List.drop_zero, rens_scal _ _ (scals_trms _), g1, e1]; exact e3⟩, ⟨L', hL', by omega, by rw [List.drop_zero, rens_scal _ _ (scals_trms _), g2, f1]; exact f3⟩, trivial⟩, rfl,
          ⟨unders_scal _ _ (scals_trms _), unders_scal _ _ (scals_trms _), trivial⟩, ⟨⟨trivial, trivial, trivial, by simp [AV.under], trivial⟩, ⟨trivial, trivial, trivial, by simp [AV.under], trivial⟩, trivial⟩, by simp [AV.ren], ?_⟩
        simp [after, upd, AO.wr]
      · cases he
    · cases he
  · cases he


def a_i_alike : AC := .seq (.region [⟨some 4, none, .op (.mov (.c (.bool false)))⟩]) (.seq (.draw false [⟨some 5, none, .op (.mov (.t 0))⟩,
     ⟨some 6, none, .op (.nilchk (.t 5))⟩,
     ⟨some 7, none, .op (.faddr 0 (.t 6))⟩,
     ⟨some 8, none, .op (.load1 (.t 7))⟩,
     ⟨some 9, none, .op (.mov (.t 1))⟩,
     ⟨some 10, none, .op (.nilchk (.t 9))⟩,
     ⟨some 11, none, .op (.faddr 0 (.t 10))⟩,
     ⟨some 12, none, .op (.load1 (.t 11))⟩,
     ⟨some 13, none, .op (.bin .eql (.t 8) (.t 12))⟩,
     ⟨some 14, none, .op (.mov (.t 13))⟩,
     ⟨some 15, some (14, true), .op (.mov (.t 0))⟩,
     ⟨some 16, some (14, true), .op (.nilchk (.t 15))⟩,
     ⟨some 17, some (14, true), .op (.faddr 1 (.t 16))⟩,
     ⟨some 18, some (14, true), .op (.load1 (.t 17))⟩,
     ⟨some 19, some (14, true), .op (.mov (.t 1))⟩,
     ⟨some 20, some (14, true), .op (.nilchk (.t 19))⟩,
     ⟨some 21, some (14, true), .op (.faddr 1 (.t 20))⟩,
     ⟨some 22, some (14, true), .op (.load1 (.t 21))⟩,
     ⟨some 23, some (14, true), .op (.bin .eql (.t 18) (.t 22))⟩,
     ⟨some 24, none, .op (.pick (.t 14) (.t 23) (.c (.bool false)))⟩,
     ⟨some 25, none, .op (.mov (.t 24))⟩,
     ⟨some 26, some (25, true), .op (.mov (.t 0))⟩,
     ⟨some 27, some (25, true), .op (.nilchk (.t 26))⟩,
     ⟨some 28, some (25, true), .op (.faddr 2 (.t 27))⟩,
     ⟨some 29, some (25, true), .op (.load1 (.t 28))⟩,
     ⟨some 30, some (25, true), .op (.mov (.t 1))⟩,
     ⟨some 31, some (25, true), .op (.nilchk (.t 30))⟩,
     ⟨some 32, some (25, true), .op (.faddr 2 (.t 31))⟩,
     ⟨some 33, some (25, true), .op (.load1 (.t 32))⟩,
     ⟨some 34, some (25, true), .op (.bin .eql (.t 29) (.t 33))⟩,
     ⟨some 35, none, .op (.pick (.t 25) (.t 34) (.c (.bool false)))⟩,
     ⟨some 4, none, .op (.mov (.t 35))⟩]) .ret)
theorem r_i_alike : readF Try.prog 118 = some ⟨36, a_i_alike, [.slot 4]⟩ := by kernel_rfl
theorem c_alike (p c n p' c' n' : Int) : Am.Fn Try.prog 118 [.ptr 0 0, .ptr 1 0] [.ro [.int .i64 p, .int .i64 c, .int .i64 n], .ro [.int .i64 p', .int .i64 c', .int .i64 n']] (fun v H' => v = .bool (decide (p = p' ∧ c = c' ∧ n = n')) ∧ H' = [.ro [.int .i64 p, .int .i64 c, .int .i64 n], .ro [.int .i64 p', .int .i64 c', .int .i64 n']]) := by
  refine Am.Fn.sameB (R := fun v => v = _) B53_ok mixed r_i_alike (by simp [AV.unders, AV.under]) (ro_under2 rfl rfl) ?_
  by_cases h1 : p = p'
  · have q1 : (p == p') = true := by simp [h1]
    by_cases h2 : c = c'
    · have q2 : (c == c') = true := by simp [h2]
      by_cases h3 : n = n'
      · have q3 : (n == n') = true := by simp [h3]
        have e : decide (p = p' ∧ c = c' ∧ n = n') = true := by simp [h1, h2, h3]
        simp (maxSteps := 3000000) only [over4E, heapL, fillA, rd, wrt, wrl, AO.withl, a_i_alike, q1, q2, q3, e, Int.reduceEq, Int.reduceNe, Int.reduceBEq, Int.reduceBNe, Int.reduceLT, Int.reduceLE, Int.reduceAdd, Int.reduceSub, Int.reduceMul, idX_eq, wbE, ↓symP, symE, listE, AK.isCall, enumE, ev, putE, abin, aun, AV.cells, ↓reduceIte, reduceCtorEq, Nat.reduceAdd, Nat.reduceMul, Nat.reduceSub, Nat.reduceEqDiff, Nat.reduceLT, Nat.reduceLeDiff, implies_true, Back, retv, retV, AV.scal, AV.scals]; try simp only [idX_eq, ite_both, pickP_both, not_not_eq, Bool.not_eq_false, Bool.not_eq_true]
        exact ⟨_, rfl⟩
      · have q3 : (n == n') = false := by rw [beq_eq_false_iff_ne]; exact h3
        have e : decide (p = p' ∧ c = c' ∧ n = n') = false := by simp [h3]
        simp (maxSteps := 3000000) only [over4E, heapL, fillA, rd, wrt, wrl, AO.withl, a_i_alike, q1, q2, q3, e, Int.reduceEq, Int.reduceNe, Int.reduceBEq, Int.reduceBNe, Int.reduceLT, Int.reduceLE, Int.reduceAdd, Int.reduceSub, Int.reduceMul, idX_eq, wbE, ↓symP, symE, listE, AK.isCall, enumE, ev, putE, abin, aun, AV.cells, ↓reduceIte, reduceCtorEq, Nat.reduceAdd, Nat.reduceMul, Nat.reduceSub, Nat.reduceEqDiff, Nat.reduceLT, Nat.reduceLeDiff, implies_true, Back, retv, retV, AV.scal, AV.scals]; try simp only [idX_eq, ite_both, pickP_both, not_not_eq, Bool.not_eq_false, Bool.not_eq_true]
        exact ⟨_, rfl⟩
    · have q2 : (c == c') = false := by rw [beq_eq_false_iff_ne]; exact h2
      have e : decide (p = p' ∧ c = c' ∧ n = n') = false := by simp [h2]
      simp (maxSteps := 3000000) only [over4E, heapL, fillA, rd, wrt, wrl, AO.withl, a_i_alike, q1, q2, e, Int.reduceEq, Int.reduceNe, Int.reduceBEq, Int.reduceBNe, Int.reduceLT, Int.reduceLE, Int.reduceAdd, Int.reduceSub, Int.reduceMul, idX_eq, wbE, ↓symP, symE, listE, AK.isCall, enumE, ev, putE, abin, aun, AV.cells, ↓reduceIte, reduceCtorEq, Nat.reduceAdd, Nat.reduceMul, Nat.reduceSub, Nat.reduceEqDiff, Nat.reduceLT, Nat.reduceLeDiff, implies_true, Back, retv, retV, AV.scal, AV.scals]; try simp only [idX_eq, ite_both, pickP_both, not_not_eq, Bool.not_eq_false, Bool.not_eq_true]
      exact ⟨_, rfl⟩
  · have q1 : (p == p') = false := by rw [beq_eq_false_iff_ne]; exact h1
    have e : decide (p = p' ∧ c = c' ∧ n = n') = false := by simp [h1]
    simp (maxSteps := 3000000) only [over4E, heapL, fillA, rd, wrt, wrl, AO.withl, a_i_alike, q1, e, Int.reduceEq, Int.reduceNe, Int.reduceBEq, Int.reduceBNe, Int.reduceLT, Int.reduceLE, Int.reduceAdd, Int.reduceSub, Int.reduceMul, idX_eq, wbE, ↓symP, symE, listE, AK.isCall, enumE, ev, putE, abin, aun, AV.cells, ↓reduceIte, reduceCtorEq, Nat.reduceAdd, Nat.reduceMul, Nat.reduceSub, Nat.reduceEqDiff, Nat.reduceLT, Nat.reduceLeDiff, implies_true, Back, retv, retV, AV.scal, AV.scals]; try simp only [idX_eq, ite_both, pickP_both, not_not_eq, Bool.not_eq_false, Bool.not_eq_true]
    exact ⟨_, rfl⟩
def g_alike : BE := fun hp xs => match xs with
  | [.ptr b o, .ptr b' o'] => match rd hp b, rd hp b' with
    | some L, some L' => match (L.drop o).take 3, (L'.drop o').take 3 with
      | [.int .i64 p, .int .i64 c, .int .i64 n], [.int .i64 p', .int .i64 c', .int .i64 n'] => some (.bool (decide (p = p' ∧ c = c' ∧ n = n')), hp)
      | _, _ => none
    | _, _ => none
  | _ => none
theorem len_of_take {α : Type} {L : List α} {o k : Nat} {l : List α} (h : (L.drop o).take k = l) (hk : l.length = k) (h0 : 0 < k) : o + k ≤ L.length := by
  have := congrArg List.length h
  rw [List.length_take, List.length_drop, hk] at this
  omega
theorem k_alike : Am.Callee Try.prog 118 g_alike := Callee.fp fun hp xs v hp' he => by
  unfold g_alike at he
  split at he
  · rename_i b o b' o'
    split at he
    · rename_i L L' hL hL'
      split at he
      · rename_i p c n p' c' n' h1 h2
        simp only [Option.some.injEq, Prod.mk.injEq] at he
        obtain ⟨rfl, rfl⟩ := he
        refine ⟨[(b, o), (b', o')], [.ptr 0 0, .ptr 1 0], _, _, _, c_alike p c n p' c' n', by simp [AV.ren, AV.rens, ofL], rfl, ⟨⟨L, hL, len_of_take (k := 3) h1 rfl (by decide), by rw [rens_scal _ _ rfl]; exact h1⟩, ⟨L', hL', len_of_take (k := 3) h2 rfl (by decide), by rw [rens_scal _ _ rfl]; exact h2⟩, trivial⟩, rfl, ⟨⟨trivial, trivial, trivial, trivial⟩, ⟨trivial, trivial, trivial, trivial⟩, trivial⟩, ⟨by simp [AV.under], by simp [AV.under], trivial⟩, by simp [AV.ren], ?_⟩
        simp [after, upd, AO.wr]
      · cases he
    · cases he
  · cases he

/-- An error, handed back with the zero element. -/
theorem errRetD {env : Env} {hp : List AO} {s t j : Nat} {e : Int} (h0 : hp[0]? = some .dead) (hs : get env s = .ptr j 0) (hj : hp[j]? = some nilE) (ht : get env t = .int .i64 e) (hst : s ≠ t) :
    ∃ s', Weak 1 ⟨env, hp⟩ s' ∧ Ret [.cellN s 4, .slot t] [.dead] (fun v H' => v = .tup [elemV 0 0 0 1 0, .int .i64 e] ∧ H' = [.dead, .vec 18 []]) s' := by
  have hj0 : j ≠ 0 := fun e => by subst e; rw [h0] at hj; cases hj
  have hj0' : 0 ≠ j := fun e => hj0 e.symm
  have hk := Weak.keep (n0 := 1) (e := env) (hp := hp) [0, j] [s, t] ⟨⟨by simp, rfl, by simp [hj0']⟩, fun i hi => by
    simp only [List.mem_cons, List.not_mem_nil, or_false] at hi
    rcases hi with rfl | rfl
    · rw [h0]; rfl
    · rw [hj]; rfl⟩ fun u hu => by
    simp only [List.mem_cons, List.not_mem_nil, or_false] at hu
    rcases hu with rfl | rfl
    · rw [hs]; simp [AV.within]
    · rw [ht]; rfl
  have e1 : keptE [0, j] env [s, t] = [(s, .ptr 1 0), (t, .int .i64 e)] := by
    simp only [keptE, List.map_cons, List.map_nil, hs, ht, AV.ren, backR_eq, pos, if_neg hj0', if_true, Nat.zero_add, Nat.add_zero]
  have e2 : kepts [0, j] hp = [.dead, nilE] := by
    simp only [kepts, List.map_cons, List.map_nil, h0, hj, AO.ren]
    rfl
  rw [e1, e2] at hk
  have hn := Weak.nilH (n0 := 1) (hp := [.dead, nilE]) (e := [(s, .ptr 1 0), (t, .int .i64 e)]) 1 3 18 rfl rfl (by simp) (fun p hp => by
    simp only [List.mem_cons, List.not_mem_nil, or_false] at hp
    rcases hp with rfl | rfl
    · simp [AV.under]
    · trivial) (fun o ho => by
    simp only [List.mem_cons, List.not_mem_nil, or_false] at ho
    rcases ho with rfl | rfl
    · trivial
    · exact ⟨trivial, trivial, trivial, trivial, trivial⟩)
  refine ⟨_, Weak.trans hk hn, ?_⟩
  refine Ret.keep [0, 2] ⟨⟨by simp, rfl, by decide⟩, ?_⟩ (rs := [.agg [.int .i64 0, .int .i64 0, .int .i64 0, .slc 2 0 0 false 0], .int .i64 e]) ?_ rfl (by simp [retV]) ?_ ⟨?_, ?_⟩
  · intro i hi
    simp only [List.mem_cons, List.not_mem_nil, or_false] at hi
    rcases hi with rfl | rfl
    · rfl
    · rfl
  · have hts : t ≠ s := fun e => hst e.symm
    simp [retv, Am.get, get_put, hst, hts, astep, ev, rd, chk]
  · intro i m; match i with
    | 0 => simp [kepts, AO.ren]
    | 1 => simp [kepts, AO.ren]
    | i + 2 => simp [kepts]
  · simp only [retV]
    rfl
  · simp [kepts, AO.ren, AV.rens]


def a_i_limited : AC := .seq (.region [⟨some 1, none, .op (.box (.t 0))⟩,
     ⟨some 2, none, .op (.alloc [(.int .i64 0), (.int .i64 0), (.int .i64 0), (.v (.slice none 0 0))])⟩,
     ⟨some 3, none, .op (.mov (.c (.int .i64 0)))⟩]) (.seq (.seq (.region [⟨some 4, none, .op (.faddr 3 (.t 1))⟩,
      ⟨some 5, none, .op (.load1 (.t 4))⟩,
      ⟨some 6, none, .op (.len .slc (.t 5))⟩,
      ⟨some 7, none, .op (.bin .gtr (.t 6) (.c (.int .i64 140)))⟩]) (.cond 7 (.seq (.region [⟨some 8, none, .op (.build [(.int .i64 0), (.int .i64 0), (.int .i64 0), (.v (.slice none 0 0))] [])⟩,
        ⟨none, none, .op (.storeN 4 (.t 2) (.t 8))⟩,
        ⟨some 3, none, .op (.mov (.c (.int .i64 3)))⟩]) .ret) .skip)) (.seq (.region [⟨some 9, none, .op (.loadN 4 (.t 1))⟩,
     ⟨none, none, .op (.storeN 4 (.t 2) (.t 9))⟩,
     ⟨some 3, none, .op (.mov (.c (.int .i64 0)))⟩]) .ret))
theorem r_i_limited : readF Try.prog 79 = some ⟨10, a_i_limited, [.cellN 2 4, .slot 3]⟩ := by kernel_rfl
theorem c_limited (p c n : Int) (k : Nat) (hk : k ≤ 1100000) : Am.Fn Try.prog 79 [elemV p c n 0 k] [.dead] (fun v H' => if k ≤ 140 then v = .tup [elemV p c n 0 k, .int .i64 0] ∧ H' = [.dead] else v = .tup [elemV 0 0 0 1 0, .int .i64 3] ∧ H' = [.dead, .vec 18 []]) := by
  refine Am.Fn.ofW B53_ok mixed r_i_limited (by simp [elemV, AV.unders, AV.under]) (fun j o hj => by
    match j, hj with
    | 0, hj => cases hj; trivial
    | j + 1, hj => simp at hj) ?_
  by_cases hle : k ≤ 140
  · have h1 : ¬ ((140 : Int) < (k : Int)) := by omega
    simp (maxSteps := 3000000) only [over4E, heapL, fillA, rd, wrt, wrl, AO.withl, a_i_limited, elemV, hle, h1, Int.reduceEq, Int.reduceNe, Int.reduceBEq, Int.reduceBNe, Int.reduceLT, Int.reduceLE, Int.reduceAdd, Int.reduceSub, Int.reduceMul, idX_eq, wbE, ↓symP, symE, listE, AK.isCall, enumE, ev, putE, abin, aun, AV.cells, ↓reduceIte, reduceCtorEq, Nat.reduceAdd, Nat.reduceMul, Nat.reduceSub, Nat.reduceEqDiff, Nat.reduceLT, Nat.reduceLeDiff, implies_true, Back, retv, retV, AV.scal, AV.scals]; try simp only [idX_eq, ite_both, pickP_both, not_not_eq, Bool.not_eq_false, Bool.not_eq_true]
    refine ⟨rfl, _, Weak.refl _, ?_⟩
    refine Ret.keep [0] ⟨⟨by simp, rfl, by decide⟩, ?_⟩ (rs := [.agg [.int .i64 p, .int .i64 c, .int .i64 n, .slc 0 0 k false 0], .int .i64 0]) rfl rfl (by simp [retV]) ?_ ⟨?_, ?_⟩
    · simp only [AO.within, keepW, keepL, AV.within, AV.withins, ↓reduceIte, reduceCtorEq, Nat.reduceEqDiff, Nat.reduceBEq, implies_true, Nat.reduceAdd]
    · intro j l; match j with
      | 0 => simp [kepts, AO.ren]
      | j + 1 => simp [kepts]
    · simp only [retV]
      simp only [keptL, keptW, keptE, kepts, slots, ↓reduceIte, reduceCtorEq, Nat.reduceEqDiff, AV.ren, AV.rens, pos, Nat.reduceAdd]
    · simp only [keptL, keptW, keptE, kepts, slots, ↓reduceIte, reduceCtorEq, Nat.reduceEqDiff, AV.ren, AV.rens, pos, Nat.reduceAdd]
  · have h1 : ((140 : Int) < (k : Int)) := by omega
    simp (maxSteps := 3000000) only [over4E, heapL, fillA, rd, wrt, wrl, AO.withl, a_i_limited, elemV, hle, h1, Int.reduceEq, Int.reduceNe, Int.reduceBEq, Int.reduceBNe, Int.reduceLT, Int.reduceLE, Int.reduceAdd, Int.reduceSub, Int.reduceMul, idX_eq, wbE, ↓symP, symE, listE, AK.isCall, enumE, ev, putE, abin, aun, AV.cells, ↓reduceIte, reduceCtorEq, Nat.reduceAdd, Nat.reduceMul, Nat.reduceSub, Nat.reduceEqDiff, Nat.reduceLT, Nat.reduceLeDiff, implies_true, Back, retv, retV, AV.scal, AV.scals]; try simp only [idX_eq, ite_both, pickP_both, not_not_eq, Bool.not_eq_false, Bool.not_eq_true]
    exact ⟨rfl, errRetD rfl rfl rfl rfl (by decide)⟩

def a_s_l02Told : AC := .seq (.region [⟨some 1, none, .op (.box (.t 0))⟩,
     ⟨some 2, none, .op (.alloc [(.int .i64 0), (.int .i64 0), (.int .i64 0), (.v (.slice none 0 0))])⟩,
     ⟨some 3, none, .op (.mov (.c (.int .i64 0)))⟩]) (.seq (.seq (.region [⟨some 4, none, .op (.faddr 3 (.t 1))⟩,
      ⟨some 5, none, .op (.load1 (.t 4))⟩,
      ⟨some 6, none, .op (.len .slc (.t 5))⟩,
      ⟨some 7, none, .op (.bin .gtr (.t 6) (.c (.int .i64 140)))⟩]) (.cond 7 (.seq (.region [⟨some 8, none, .op (.build [(.int .i64 0), (.int .i64 0), (.int .i64 0), (.v (.slice none 0 0))] [])⟩,
        ⟨none, none, .op (.storeN 4 (.t 2) (.t 8))⟩,
        ⟨some 3, none, .op (.mov (.c (.int .i64 3)))⟩]) .ret) .skip)) (.seq (.region [⟨some 9, none, .op (.loadN 4 (.t 1))⟩,
     ⟨none, none, .op (.storeN 4 (.t 2) (.t 9))⟩,
     ⟨some 3, none, .op (.mov (.c (.int .i64 0)))⟩]) .ret))
theorem r_s_l02Told : readF Try.prog 77 = some ⟨10, a_s_l02Told, [.cellN 2 4, .slot 3]⟩ := by kernel_rfl
theorem c_told (p c n : Int) (k : Nat) (hk : k ≤ 1100000) : Am.Fn Try.prog 77 [elemV p c n 0 k] [.dead] (fun v H' => if k ≤ 140 then v = .tup [elemV p c n 0 k, .int .i64 0] ∧ H' = [.dead] else v = .tup [elemV 0 0 0 1 0, .int .i64 3] ∧ H' = [.dead, .vec 18 []]) := by
  refine Am.Fn.ofW B53_ok mixed r_s_l02Told (by simp [elemV, AV.unders, AV.under]) (fun j o hj => by
    match j, hj with
    | 0, hj => cases hj; trivial
    | j + 1, hj => simp at hj) ?_
  by_cases hle : k ≤ 140
  · have h1 : ¬ ((140 : Int) < (k : Int)) := by omega
    simp (maxSteps := 3000000) only [over4E, heapL, fillA, rd, wrt, wrl, AO.withl, a_s_l02Told, elemV, hle, h1, Int.reduceEq, Int.reduceNe, Int.reduceBEq, Int.reduceBNe, Int.reduceLT, Int.reduceLE, Int.reduceAdd, Int.reduceSub, Int.reduceMul, idX_eq, wbE, ↓symP, symE, listE, AK.isCall, enumE, ev, putE, abin, aun, AV.cells, ↓reduceIte, reduceCtorEq, Nat.reduceAdd, Nat.reduceMul, Nat.reduceSub, Nat.reduceEqDiff, Nat.reduceLT, Nat.reduceLeDiff, implies_true, Back, retv, retV, AV.scal, AV.scals]; try simp only [idX_eq, ite_both, pickP_both, not_not_eq, Bool.not_eq_false, Bool.not_eq_true]
    refine ⟨rfl, _, Weak.refl _, ?_⟩
    refine Ret.keep [0] ⟨⟨by simp, rfl, by decide⟩, ?_⟩ (rs := [.agg [.int .i64 p, .int .i64 c, .int .i64 n, .slc 0 0 k false 0], .int .i64 0]) rfl rfl (by simp [retV]) ?_ ⟨?_, ?_⟩
    · simp only [AO.within, keepW, keepL, AV.within, AV.withins, ↓reduceIte, reduceCtorEq, Nat.reduceEqDiff, Nat.reduceBEq, implies_true, Nat.reduceAdd]
    · intro j l; match j with
      | 0 => simp [kepts, AO.ren]
      | j + 1 => simp [kepts]
    · simp only [retV]
      simp only [keptL, keptW, keptE, kepts, slots, ↓reduceIte, reduceCtorEq, Nat.reduceEqDiff, AV.ren, AV.rens, pos, Nat.reduceAdd]
    · simp only [keptL, keptW, keptE, kepts, slots, ↓reduceIte, reduceCtorEq, Nat.reduceEqDiff, AV.ren, AV.rens, pos, Nat.reduceAdd]
  · have h1 : ((140 : Int) < (k : Int)) := by omega
    simp (maxSteps := 3000000) only [over4E, heapL, fillA, rd, wrt, wrl, AO.withl, a_s_l02Told, elemV, hle, h1, Int.reduceEq, Int.reduceNe, Int.reduceBEq, Int.reduceBNe, Int.reduceLT, Int.reduceLE, Int.reduceAdd, Int.reduceSub, Int.reduceMul, idX_eq, wbE, ↓symP, symE, listE, AK.isCall, enumE, ev, putE, abin, aun, AV.cells, ↓reduceIte, reduceCtorEq, Nat.reduceAdd, Nat.reduceMul, Nat.reduceSub, Nat.reduceEqDiff, Nat.reduceLT, Nat.reduceLeDiff, implies_true, Back, retv, retV, AV.scal, AV.scals]; try simp only [idX_eq, ite_both, pickP_both, not_not_eq, Bool.not_eq_false, Bool.not_eq_true]
    exact ⟨rfl, errRetD rfl rfl rfl rfl (by decide)⟩
def g_lim : BE := fun hp xs => match xs with
  | [.agg [.int .i64 p, .int .i64 c, .int .i64 n, .slc b 0 k false 0]] => match hp[b]? with
    | some _ => chk (k ≤ 1100000) (if k ≤ 140 then some (.tup [elemV p c n b k, .int .i64 0], hp) else some (.tup [elemV 0 0 0 hp.length 0, .int .i64 3], hp ++ [.vec 18 []]))
    | none => none
  | _ => none
theorem k_lim_of {f : FuncId} (h : ∀ p c n k, k ≤ 1100000 → Am.Fn Try.prog f [elemV p c n 0 k] [.dead] (fun v H' => if k ≤ 140 then v = .tup [elemV p c n 0 k, .int .i64 0] ∧ H' = [.dead] else v = .tup [elemV 0 0 0 1 0, .int .i64 3] ∧ H' = [.dead, .vec 18 []])) : Am.Callee Try.prog f g_lim := Callee.fp fun hp xs v hp' he => by
  unfold g_lim at he
  split at he
  · rename_i p c n b k
    split at he
    · rename_i o ho
      obtain ⟨a1, he2⟩ := chk_some he
      have hb := (List.getElem?_eq_some_iff.1 ho).1
      by_cases hle : k ≤ 140
      · rw [if_pos hle] at he2
        simp only [Option.some.injEq, Prod.mk.injEq] at he2
        obtain ⟨rfl, rfl⟩ := he2
        have hfn := h p c n k a1
        simp only [if_pos hle] at hfn
        refine ⟨[(b, 0)], [elemV p c n 0 k], _, _, _, hfn, by simp [elemV, AV.ren, AV.rens, ofL], rfl, ⟨hb, trivial⟩, rfl, ⟨trivial, trivial⟩, ⟨⟨trivial, trivial, trivial, by simp [AV.under], trivial⟩, trivial⟩, by simp [elemV, AV.ren, AV.rens, Ren.ext, ofL], ?_⟩
        simp [after, upd, AO.wr]
      · rw [if_neg hle] at he2
        simp only [Option.some.injEq, Prod.mk.injEq] at he2
        obtain ⟨rfl, rfl⟩ := he2
        have hfn := h p c n k a1
        simp only [if_neg hle] at hfn
        refine ⟨[(b, 0)], [elemV p c n 0 k], _, _, _, hfn, by simp [elemV, AV.ren, AV.rens, ofL], rfl, ⟨hb, trivial⟩, rfl, ⟨trivial, trivial⟩, ⟨⟨trivial, trivial, trivial, by simp [AV.under], trivial⟩, trivial⟩, by simp [elemV, AV.ren, AV.rens, Ren.ext], ?_⟩
        simp [after, upd, AO.wr, AO.ren, AV.rens]
    · cases he
  · cases he
def B70 : Book := ((((B53.put 76 (g_both)).put 118 (g_alike)).put 79 (g_lim)).put 77 (g_lim))

theorem B70_ok : BookOk Try.prog B70 := ((((B53_ok.put (k_both)).put (k_alike)).put (k_lim_of c_limited)).put (k_lim_of c_told))

theorem B70_i_IsElement_K1 : B70 48 = some (g_isElem) := rfl
theorem B70_s_l02Is_K1 : B70 68 = some (g_isElem) := rfl
theorem B70_i_alike_K1 : B70 118 = some (g_alike) := rfl


abbrev W8 (p c n : Int) (la : Nat) (p' c' n' : Int) (lb : Nat) : List AV := [.int .i64 p, .int .i64 c, .int .i64 n, .slc 1 0 la false 0, .int .i64 p', .int .i64 c', .int .i64 n', .slc 2 0 lb false 0]
def a_i_wrong_l1 : AC := .seq (.region [⟨some 10, none, .op (.bin .lss (.t 9) (.t 8))⟩]) (.seq (.cond 10 .skip (.exit 0)) (.seq (.block 1 (.seq (.region [⟨some 11, none, .op (.iaddrS 4 (.t 7) (.t 9))⟩,
          ⟨some 12, none, .op (.loadN 4 (.t 11))⟩,
          ⟨some 4, none, .op (.alloc [(.int .i64 0), (.int .i64 0), (.int .i64 0), (.v (.slice none 0 0))])⟩,
          ⟨none, none, .op (.storeN 4 (.t 4) (.t 12))⟩]) (.seq (.region [⟨some 13, none, .op (.loadN 4 (.t 4))⟩,
          ⟨some 14, none, .call (.c (.fn 48 [] [])) [(.t 13)]⟩,
          ⟨some 15, none, .op (.un .not (.t 14))⟩]) (.cond 15 (.seq (.region [⟨some 2, none, .op (.mov (.c (.int .i64 1)))⟩]) .ret) .skip)))) (.region [⟨some 16, none, .op (.bin .add (.t 9) (.c (.int .i64 1)))⟩,
       ⟨some 9, none, .op (.mov (.t 16))⟩])))
def a_i_wrong_l2 : AC := .seq (.region [⟨some 20, none, .op (.bin .lss (.t 19) (.t 18))⟩]) (.seq (.cond 20 .skip (.exit 2)) (.seq (.block 3 (.seq (.region [⟨some 21, none, .op (.iaddrS 4 (.t 17) (.t 19))⟩,
          ⟨some 22, none, .op (.loadN 4 (.t 21))⟩,
          ⟨some 6, none, .op (.alloc [(.int .i64 0), (.int .i64 0), (.int .i64 0), (.v (.slice none 0 0))])⟩,
          ⟨none, none, .op (.storeN 4 (.t 6) (.t 22))⟩]) (.seq (.region [⟨some 23, none, .op (.mov (.t 0))⟩,
          ⟨some 24, none, .op (.iaddrS 4 (.t 23) (.c (.int .i64 0)))⟩,
          ⟨some 25, none, .call (.c (.fn 118 [] [])) [(.t 6), (.t 24)]⟩,
          ⟨some 26, none, .op (.un .not (.t 25))⟩]) (.cond 26 (.seq (.region [⟨some 2, none, .op (.mov (.c (.int .i64 2)))⟩]) .ret) .skip)))) (.region [⟨some 27, none, .op (.bin .add (.t 19) (.c (.int .i64 1)))⟩,
       ⟨some 19, none, .op (.mov (.t 27))⟩])))
def a_i_wrong_k1 : AC := .seq (.region [⟨some 2, none, .op (.mov (.c (.int .i64 0)))⟩]) .ret
def a_i_wrong_k2 : AC := .seq (.seq (.region [⟨some 17, none, .op (.mov (.t 0))⟩,
      ⟨some 18, none, .op (.len .slc (.t 17))⟩,
      ⟨some 19, none, .op (.mov (.c (.int .i64 0)))⟩]) (.block 2 (.loop a_i_wrong_l2))) a_i_wrong_k1
def a_i_wrong : AC := .seq (.region [⟨some 2, none, .op (.mov (.c (.int .i64 0)))⟩]) (.seq (.seq (.region [⟨some 7, none, .op (.mov (.t 0))⟩,
      ⟨some 8, none, .op (.len .slc (.t 7))⟩,
      ⟨some 9, none, .op (.mov (.c (.int .i64 0)))⟩]) (.block 0 (.loop a_i_wrong_l1))) a_i_wrong_k2)
theorem r_i_wrong : readF Try.prog 78 = some ⟨28, a_i_wrong, [.slot 2]⟩ := by kernel_rfl
theorem c_wrong (p c n p' c' n' : Int) (a b : List (Int × List Nat × Int)) (ha : okT a) (hb : okT b) (hl : a.length ≤ 1100000 ∧ b.length ≤ 1100000) :
    Am.Fn Try.prog 78 [.slc 0 0 2 true 2] [.ro (W8 p c n a.length p' c' n' b.length), .ro (trms a), .ro (trms b)] (fun v H' => v = .int .i64 (bothOf p c n a p' c' n' b) ∧ H' = [.ro (W8 p c n a.length p' c' n' b.length), .ro (trms a), .ro (trms b)]) := by
  refine Am.Fn.sameB (R := fun v => v = _) B70_ok mixed r_i_wrong (by simp [AV.unders, AV.under]) (fun j o hj => by
    match j, hj with
    | 0, hj => cases hj; exact ⟨trivial, trivial, trivial, by simp [AV.under], trivial, trivial, trivial, by simp [AV.under], trivial⟩
    | 1, hj => cases hj; exact unders_scal _ _ (scals_trms _)
    | 2, hj => cases hj; exact unders_scal _ _ (scals_trms _)
    | j + 3, hj => simp at hj) ?_
  have hal := trms_length ha
  have hbl := trms_length hb
  have hta := tsOf_trms' ha
  have htb := tsOf_trms' hb
  have hl1 : a.length ≤ 1000000000 := by omega
  have hl2 : b.length ≤ 1000000000 := by omega
  simp (maxSteps := 3000000) only [over4E, heapL, fillA, rd, wrt, wrl, AO.withl, a_i_wrong, W8, Int.reduceEq, Int.reduceNe, Int.reduceBEq, Int.reduceBNe, Int.reduceLT, Int.reduceLE, Int.reduceAdd, Int.reduceSub, Int.reduceMul, idX_eq, wbE, ↓symP, symE, listE, AK.isCall, enumE, ev, putE, abin, aun, AV.cells, ↓reduceIte, reduceCtorEq, Nat.reduceAdd, Nat.reduceMul, Nat.reduceSub, Nat.reduceEqDiff, Nat.reduceLT, Nat.reduceLeDiff, implies_true, Back, retv, retV, AV.scal, AV.scals]; try simp only [idX_eq, ite_both, pickP_both, not_not_eq, Bool.not_eq_false, Bool.not_eq_true]
  refine WA.loopB B70_ok (fun s => ∃ i : Int, (i = 0 ∨ (i = 1 ∧ elemB p c n a = true) ∨ (i = 2 ∧ elemB p c n a = true ∧ elemB p' c' n' b = true)) ∧ s = ⟨[(9, .int .i64 i), (8, .int .i64 2), (7, .slc 0 0 2 true 2), (0, .slc 0 0 2 true 2)], [.ro (W8 p c n a.length p' c' n' b.length), .ro (trms a), .ro (trms b)]⟩)
    (fun s => match get s.env 9 with | .int _ x => (2 - x).toNat | _ => 0) ⟨_, Weak.slots [9, 8, 7, 0], 0, .inl rfl, rfl⟩ ?_
  rintro s ⟨i, hi, rfl⟩
  rcases hi with rfl | ⟨rfl, hE⟩ | ⟨rfl, hE, hE2⟩
  · cases hE : elemB p c n a with
    | false =>
      have e : bothOf p c n a p' c' n' b = 1 := by unfold bothOf; rw [if_pos (.inl hE)]
      simp (maxSteps := 3000000) only [over4E, heapL, fillA, rd, wrt, wrl, AO.withl, a_i_wrong_l1, B70_i_IsElement_K1, B70_s_l02Is_K1, B70_i_alike_K1, g_alike, g_isElem, W8, over4E, Int.toNat_zero, Nat.zero_mul, hal, hta, hl1, hE, e, Int.reduceEq, Int.reduceNe, Int.reduceBEq, Int.reduceBNe, Int.reduceLT, Int.reduceLE, Int.reduceAdd, Int.reduceSub, Int.reduceMul, idX_eq, wbE, ↓symP, symE, listE, AK.isCall, enumE, ev, putE, abin, aun, AV.cells, ↓reduceIte, reduceCtorEq, Nat.reduceAdd, Nat.reduceMul, Nat.reduceSub, Nat.reduceEqDiff, Nat.reduceLT, Nat.reduceLeDiff, implies_true, Back, retv, retV, AV.scal, AV.scals]; try simp only [idX_eq, ite_both, pickP_both, not_not_eq, Bool.not_eq_false, Bool.not_eq_true]
      exact ⟨by decide, rfl, ⟨_, rfl⟩⟩
    | true =>
      have hw : wrapK .i64 1 = 1 := rfl
      simp (maxSteps := 3000000) only [over4E, heapL, fillA, rd, wrt, wrl, AO.withl, a_i_wrong_l1, B70_i_IsElement_K1, B70_s_l02Is_K1, B70_i_alike_K1, g_alike, g_isElem, W8, over4E, Int.toNat_zero, Nat.zero_mul, hal, hta, hl1, hE, hw, Int.reduceEq, Int.reduceNe, Int.reduceBEq, Int.reduceBNe, Int.reduceLT, Int.reduceLE, Int.reduceAdd, Int.reduceSub, Int.reduceMul, idX_eq, wbE, ↓symP, symE, listE, AK.isCall, enumE, ev, putE, abin, aun, AV.cells, ↓reduceIte, reduceCtorEq, Nat.reduceAdd, Nat.reduceMul, Nat.reduceSub, Nat.reduceEqDiff, Nat.reduceLT, Nat.reduceLeDiff, implies_true, Back, retv, retV, AV.scal, AV.scals]; try simp only [idX_eq, ite_both, pickP_both, not_not_eq, Bool.not_eq_false, Bool.not_eq_true]
      refine ⟨by decide, rfl, _, Weak.keep [0, 1, 2] [9, 8, 7, 0] ⟨by decide, ?_⟩ ?_, ⟨1, .inr (.inl rfl), ?_⟩, ?_⟩
      · simp only [withins_scal _ _ (scals_trms _), keepW, keepL, AV.within, AV.withins, ↓reduceIte, reduceCtorEq, Nat.reduceEqDiff, Nat.reduceBEq, implies_true, Nat.reduceAdd]
      · simp only [keepW, keepL, AV.within, AV.withins, ↓reduceIte, reduceCtorEq, Nat.reduceEqDiff, Nat.reduceBEq, implies_true, Nat.reduceAdd]
      · simp only [rens_scal _ _ (scals_trms _), keptL, keptW, keptE, kepts, slots, ↓reduceIte, reduceCtorEq, Nat.reduceEqDiff, AV.ren, AV.rens, pos, Nat.reduceAdd]
      · simp only [keptL, keptW, keptE, kepts, slots, ↓reduceIte, reduceCtorEq, Nat.reduceEqDiff, AV.ren, AV.rens, pos, Nat.reduceAdd]; decide
  · cases hE2 : elemB p' c' n' b with
    | false =>
      have e : bothOf p c n a p' c' n' b = 1 := by unfold bothOf; rw [if_pos (.inr hE2)]
      simp (maxSteps := 3000000) only [over4E, heapL, fillA, rd, wrt, wrl, AO.withl, a_i_wrong_l1, B70_i_IsElement_K1, B70_s_l02Is_K1, B70_i_alike_K1, g_alike, g_isElem, W8, over4E, Int.toNat_one, Nat.one_mul, hbl, htb, hl2, hE2, e, Int.reduceEq, Int.reduceNe, Int.reduceBEq, Int.reduceBNe, Int.reduceLT, Int.reduceLE, Int.reduceAdd, Int.reduceSub, Int.reduceMul, idX_eq, wbE, ↓symP, symE, listE, AK.isCall, enumE, ev, putE, abin, aun, AV.cells, ↓reduceIte, reduceCtorEq, Nat.reduceAdd, Nat.reduceMul, Nat.reduceSub, Nat.reduceEqDiff, Nat.reduceLT, Nat.reduceLeDiff, implies_true, Back, retv, retV, AV.scal, AV.scals]; try simp only [idX_eq, ite_both, pickP_both, not_not_eq, Bool.not_eq_false, Bool.not_eq_true]
      exact ⟨by decide, rfl, ⟨_, rfl⟩⟩
    | true =>
      have hw : wrapK .i64 2 = 2 := rfl
      simp (maxSteps := 3000000) only [over4E, heapL, fillA, rd, wrt, wrl, AO.withl, a_i_wrong_l1, B70_i_IsElement_K1, B70_s_l02Is_K1, B70_i_alike_K1, g_alike, g_isElem, W8, over4E, Int.toNat_one, Nat.one_mul, hbl, htb, hl2, hE, hE2, hw, Int.reduceEq, Int.reduceNe, Int.reduceBEq, Int.reduceBNe, Int.reduceLT, Int.reduceLE, Int.reduceAdd, Int.reduceSub, Int.reduceMul, idX_eq, wbE, ↓symP, symE, listE, AK.isCall, enumE, ev, putE, abin, aun, AV.cells, ↓reduceIte, reduceCtorEq, Nat.reduceAdd, Nat.reduceMul, Nat.reduceSub, Nat.reduceEqDiff, Nat.reduceLT, Nat.reduceLeDiff, implies_true, Back, retv, retV, AV.scal, AV.scals]; try simp only [idX_eq, ite_both, pickP_both, not_not_eq, Bool.not_eq_false, Bool.not_eq_true]
      refine ⟨by decide, rfl, _, Weak.keep [0, 1, 2] [9, 8, 7, 0] ⟨by decide, ?_⟩ ?_, ⟨2, .inr (.inr rfl), ?_⟩, ?_⟩
      · simp only [withins_scal _ _ (scals_trms _), keepW, keepL, AV.within, AV.withins, ↓reduceIte, reduceCtorEq, Nat.reduceEqDiff, Nat.reduceBEq, implies_true, Nat.reduceAdd]
      · simp only [keepW, keepL, AV.within, AV.withins, ↓reduceIte, reduceCtorEq, Nat.reduceEqDiff, Nat.reduceBEq, implies_true, Nat.reduceAdd]
      · simp only [rens_scal _ _ (scals_trms _), keptL, keptW, keptE, kepts, slots, ↓reduceIte, reduceCtorEq, Nat.reduceEqDiff, AV.ren, AV.rens, pos, Nat.reduceAdd]
      · simp only [keptL, keptW, keptE, kepts, slots, ↓reduceIte, reduceCtorEq, Nat.reduceEqDiff, AV.ren, AV.rens, pos, Nat.reduceAdd]; decide
  · have e0 : ¬ (elemB p c n a = false ∨ elemB p' c' n' b = false) := by rw [hE, hE2]; simp
    simp (maxSteps := 3000000) only [over4E, heapL, fillA, rd, wrt, wrl, AO.withl, a_i_wrong_l1, a_i_wrong_k2, B70_i_IsElement_K1, B70_s_l02Is_K1, B70_i_alike_K1, g_alike, g_isElem, W8, Int.reduceEq, Int.reduceNe, Int.reduceBEq, Int.reduceBNe, Int.reduceLT, Int.reduceLE, Int.reduceAdd, Int.reduceSub, Int.reduceMul, idX_eq, wbE, ↓symP, symE, listE, AK.isCall, enumE, ev, putE, abin, aun, AV.cells, ↓reduceIte, reduceCtorEq, Nat.reduceAdd, Nat.reduceMul, Nat.reduceSub, Nat.reduceEqDiff, Nat.reduceLT, Nat.reduceLeDiff, implies_true, Back, retv, retV, AV.scal, AV.scals]; try simp only [idX_eq, ite_both, pickP_both, not_not_eq, Bool.not_eq_false, Bool.not_eq_true]
    refine WA.loopB B70_ok (fun s => ∃ i : Int, (i = 0 ∨ i = 1 ∨ (i = 2 ∧ p' = p ∧ c' = c ∧ n' = n)) ∧ s = ⟨[(19, .int .i64 i), (18, .int .i64 2), (17, .slc 0 0 2 true 2), (0, .slc 0 0 2 true 2)], [.ro (W8 p c n a.length p' c' n' b.length), .ro (trms a), .ro (trms b)]⟩)
      (fun s => match get s.env 19 with | .int _ x => (2 - x).toNat | _ => 0) ⟨_, Weak.slots [19, 18, 17, 0], 0, .inl rfl, rfl⟩ ?_
    rintro s ⟨i, hi, rfl⟩
    rcases hi with rfl | rfl | ⟨rfl, h1, h2, h3⟩
    · have hw : wrapK .i64 1 = 1 := rfl
      have hy : decide (p = p ∧ c = c ∧ n = n) = true := by simp
      simp (maxSteps := 3000000) only [over4E, heapL, fillA, rd, wrt, wrl, AO.withl, a_i_wrong_l2, B70_i_IsElement_K1, B70_s_l02Is_K1, B70_i_alike_K1, g_alike, g_isElem, W8, over4E, Int.toNat_zero, Nat.zero_mul, hw, hy, Int.reduceEq, Int.reduceNe, Int.reduceBEq, Int.reduceBNe, Int.reduceLT, Int.reduceLE, Int.reduceAdd, Int.reduceSub, Int.reduceMul, idX_eq, wbE, ↓symP, symE, listE, AK.isCall, enumE, ev, putE, abin, aun, AV.cells, ↓reduceIte, reduceCtorEq, Nat.reduceAdd, Nat.reduceMul, Nat.reduceSub, Nat.reduceEqDiff, Nat.reduceLT, Nat.reduceLeDiff, implies_true, Back, retv, retV, AV.scal, AV.scals]; try simp only [idX_eq, ite_both, pickP_both, not_not_eq, Bool.not_eq_false, Bool.not_eq_true]
      refine ⟨by decide, rfl, by decide, _, Weak.keep [0, 1, 2] [19, 18, 17, 0] ⟨by decide, ?_⟩ ?_, ⟨1, .inr (.inl rfl), ?_⟩, ?_⟩
      · simp only [withins_scal _ _ (scals_trms _), keepW, keepL, AV.within, AV.withins, ↓reduceIte, reduceCtorEq, Nat.reduceEqDiff, Nat.reduceBEq, implies_true, Nat.reduceAdd]
      · simp only [keepW, keepL, AV.within, AV.withins, ↓reduceIte, reduceCtorEq, Nat.reduceEqDiff, Nat.reduceBEq, implies_true, Nat.reduceAdd]
      · simp only [rens_scal _ _ (scals_trms _), keptL, keptW, keptE, kepts, slots, ↓reduceIte, reduceCtorEq, Nat.reduceEqDiff, AV.ren, AV.rens, pos, Nat.reduceAdd]
      · simp only [keptL, keptW, keptE, kepts, slots, ↓reduceIte, reduceCtorEq, Nat.reduceEqDiff, AV.ren, AV.rens, pos, Nat.reduceAdd]; decide
    · by_cases hy : p' = p ∧ c' = c ∧ n' = n
      · have hy' : decide (p' = p ∧ c' = c ∧ n' = n) = true := decide_eq_true hy
        have hw : wrapK .i64 2 = 2 := rfl
        simp (maxSteps := 3000000) only [over4E, heapL, fillA, rd, wrt, wrl, AO.withl, a_i_wrong_l2, B70_i_IsElement_K1, B70_s_l02Is_K1, B70_i_alike_K1, g_alike, g_isElem, W8, over4E, Int.toNat_one, Nat.one_mul, Int.toNat_zero, Nat.zero_mul, hw, hy', Int.reduceEq, Int.reduceNe, Int.reduceBEq, Int.reduceBNe, Int.reduceLT, Int.reduceLE, Int.reduceAdd, Int.reduceSub, Int.reduceMul, idX_eq, wbE, ↓symP, symE, listE, AK.isCall, enumE, ev, putE, abin, aun, AV.cells, ↓reduceIte, reduceCtorEq, Nat.reduceAdd, Nat.reduceMul, Nat.reduceSub, Nat.reduceEqDiff, Nat.reduceLT, Nat.reduceLeDiff, implies_true, Back, retv, retV, AV.scal, AV.scals]; try simp only [idX_eq, ite_both, pickP_both, not_not_eq, Bool.not_eq_false, Bool.not_eq_true]
        refine ⟨by decide, rfl, by decide, _, Weak.keep [0, 1, 2] [19, 18, 17, 0] ⟨by decide, ?_⟩ ?_, ⟨2, .inr (.inr ⟨rfl, hy⟩), ?_⟩, ?_⟩
        · simp only [withins_scal _ _ (scals_trms _), keepW, keepL, AV.within, AV.withins, ↓reduceIte, reduceCtorEq, Nat.reduceEqDiff, Nat.reduceBEq, implies_true, Nat.reduceAdd]
        · simp only [keepW, keepL, AV.within, AV.withins, ↓reduceIte, reduceCtorEq, Nat.reduceEqDiff, Nat.reduceBEq, implies_true, Nat.reduceAdd]
        · simp only [rens_scal _ _ (scals_trms _), keptL, keptW, keptE, kepts, slots, ↓reduceIte, reduceCtorEq, Nat.reduceEqDiff, AV.ren, AV.rens, pos, Nat.reduceAdd]
        · simp only [keptL, keptW, keptE, kepts, slots, ↓reduceIte, reduceCtorEq, Nat.reduceEqDiff, AV.ren, AV.rens, pos, Nat.reduceAdd]; decide
      · have hy' : decide (p' = p ∧ c' = c ∧ n' = n) = false := decide_eq_false hy
        have e : bothOf p c n a p' c' n' b = 2 := by unfold bothOf; rw [if_neg e0, if_pos (fun h => hy ⟨h.1.symm, h.2.1.symm, h.2.2.symm⟩)]
        simp (maxSteps := 3000000) only [over4E, heapL, fillA, rd, wrt, wrl, AO.withl, a_i_wrong_l2, B70_i_IsElement_K1, B70_s_l02Is_K1, B70_i_alike_K1, g_alike, g_isElem, W8, over4E, Int.toNat_one, Nat.one_mul, Int.toNat_zero, Nat.zero_mul, hy', e, Int.reduceEq, Int.reduceNe, Int.reduceBEq, Int.reduceBNe, Int.reduceLT, Int.reduceLE, Int.reduceAdd, Int.reduceSub, Int.reduceMul, idX_eq, wbE, ↓symP, symE, listE, AK.isCall, enumE, ev, putE, abin, aun, AV.cells, ↓reduceIte, reduceCtorEq, Nat.reduceAdd, Nat.reduceMul, Nat.reduceSub, Nat.reduceEqDiff, Nat.reduceLT, Nat.reduceLeDiff, implies_true, Back, retv, retV, AV.scal, AV.scals]; try simp only [idX_eq, ite_both, pickP_both, not_not_eq, Bool.not_eq_false, Bool.not_eq_true]
        exact ⟨by decide, rfl, by decide, ⟨_, rfl⟩⟩
    · have e : bothOf p c n a p' c' n' b = 0 := by unfold bothOf; rw [if_neg e0, if_neg (fun h => h ⟨h1.symm, h2.symm, h3.symm⟩)]
      simp (maxSteps := 3000000) only [over4E, heapL, fillA, rd, wrt, wrl, AO.withl, a_i_wrong_l2, a_i_wrong_k1, B70_i_IsElement_K1, B70_s_l02Is_K1, B70_i_alike_K1, g_alike, g_isElem, W8, e, Int.reduceEq, Int.reduceNe, Int.reduceBEq, Int.reduceBNe, Int.reduceLT, Int.reduceLE, Int.reduceAdd, Int.reduceSub, Int.reduceMul, idX_eq, wbE, ↓symP, symE, listE, AK.isCall, enumE, ev, putE, abin, aun, AV.cells, ↓reduceIte, reduceCtorEq, Nat.reduceAdd, Nat.reduceMul, Nat.reduceSub, Nat.reduceEqDiff, Nat.reduceLT, Nat.reduceLeDiff, implies_true, Back, retv, retV, AV.scal, AV.scals]; try simp only [idX_eq, ite_both, pickP_both, not_not_eq, Bool.not_eq_false, Bool.not_eq_true]
      exact ⟨_, rfl⟩
def g_wrong : BE := fun hp xs => match xs with
  | [.slc b 0 2 true 2] => match rd hp b with
    | some [.int .i64 p, .int .i64 c, .int .i64 n, .slc b1 0 la false 0, .int .i64 p', .int .i64 c', .int .i64 n', .slc b2 0 lb false 0] => match rd hp b1, rd hp b2 with
      | some L, some L' => match tsOf la L, tsOf lb L' with
        | some ta, some tb => chk (la ≤ 1100000 ∧ lb ≤ 1100000) (some (.int .i64 (bothOf p c n ta p' c' n' tb), hp))
        | _, _ => none
      | _, _ => none
    | _ => none
  | _ => none
theorem k_wrong : Am.Callee Try.prog 78 g_wrong := Callee.fp fun hp xs v hp' he => by
  unfold g_wrong at he
  split at he
  · rename_i b
    split at he
    · rename_i p c n b1 la p' c' n' b2 lb hL0
      split at he
      · rename_i L L' hL hL'
        split at he
        · rename_i ta tb h1 h1'
          obtain ⟨⟨a1, a2⟩, he2⟩ := chk_some he
          simp only [Option.some.injEq, Prod.mk.injEq] at he2
          obtain ⟨rfl, rfl⟩ := he2
          obtain ⟨e1, e2, e3, e4⟩ := tsOf_some h1
          obtain ⟨f1, f2, f3, f4⟩ := tsOf_some h1'
          have g1 := trms_length e2
          have g2 := trms_length f2
          refine ⟨[(b, 0), (b1, 0), (b2, 0)], [.slc 0 0 2 true 2], _, _, _, c_wrong p c n p' c' n' ta tb e2 f2 (by omega), by simp [AV.ren, AV.rens, ofL], rfl,
            ⟨⟨_, hL0, by simp, by simp [AV.rens, AV.ren, ofL, e1, f1]⟩, ⟨L, hL, by omega, by rw [List.drop_zero, rens_scal _ _ (scals_trms _), g1, e1]; exact e3⟩, ⟨L', hL', by omega, by rw [List.drop_zero, rens_scal _ _ (scals_trms _), g2, f1]; exact f3⟩, trivial⟩, rfl,
            ⟨⟨trivial, trivial, trivial, by simp [AV.under], trivial, trivial, trivial, by simp [AV.under], trivial⟩, unders_scal _ _ (scals_trms _), unders_scal _ _ (scals_trms _), trivial⟩, ⟨by simp [AV.under], trivial⟩, by simp [AV.ren], ?_⟩
          simp [after, upd, AO.wr]
        · cases he
      · cases he
    · cases he
  · cases he
def B79 : Book := (B70.put 78 (g_wrong))

theorem B79_ok : BookOk Try.prog B79 := (B70_ok.put (k_wrong))

/-- What a function of two elements that hands back an element is told to do. -/
def Elem2 (l l' : List AV) (r : ER) (v : AV) (H' : List AO) : Prop :=
  v = .tup [elemV r.1 r.2.1 r.2.2.1 2 r.2.2.2.1.length, .int .i64 r.2.2.2.2] ∧ H' = [.ro l, .ro l', .vec 18 (trms r.2.2.2.1)]
def g_el2 (R : Int → Int → Int → List (Int × List Nat × Int) → Int → Int → Int → List (Int × List Nat × Int) → ER) : BE := fun hp xs => match xs with
  | [.agg [.int .i64 p, .int .i64 c, .int .i64 n, .slc b 0 la false 0], .agg [.int .i64 p', .int .i64 c', .int .i64 n', .slc b' 0 lb false 0]] => match rd hp b, rd hp b' with
    | some L, some L' => match tsOf la L, tsOf lb L' with
      | some ta, some tb => chk (la ≤ 1100000 ∧ lb ≤ 1100000) (some (.tup [elemV (R p c n ta p' c' n' tb).1 (R p c n ta p' c' n' tb).2.1 (R p c n ta p' c' n' tb).2.2.1 hp.length (R p c n ta p' c' n' tb).2.2.2.1.length, .int .i64 (R p c n ta p' c' n' tb).2.2.2.2], hp ++ [.vec 18 (trms (R p c n ta p' c' n' tb).2.2.2.1)]))
      | _, _ => none
    | _, _ => none
  | _ => none
theorem k_el2 {f : FuncId} {R : Int → Int → Int → List (Int × List Nat × Int) → Int → Int → Int → List (Int × List Nat × Int) → ER} (h : ∀ p c n p' c' n' a b, okT a → okT b → a.length ≤ 1100000 ∧ b.length ≤ 1100000 → Am.Fn Try.prog f [elemV p c n 0 a.length, elemV p' c' n' 1 b.length] [.ro (trms a), .ro (trms b)] (Elem2 (trms a) (trms b) (R p c n a p' c' n' b))) : Am.Callee Try.prog f (g_el2 R) := Callee.fp fun hp xs v hp' he => by
  unfold g_el2 at he
  split at he
  · rename_i p c n b la p' c' n' b' lb
    split at he
    · rename_i L L' hL hL'
      split at he
      · rename_i ta tb h1 h1'
        obtain ⟨⟨a1, a2⟩, he2⟩ := chk_some he
        simp only [Option.some.injEq, Prod.mk.injEq] at he2
        obtain ⟨rfl, rfl⟩ := he2
        obtain ⟨e1, e2, e3, e4⟩ := tsOf_some h1
        obtain ⟨f1, f2, f3, f4⟩ := tsOf_some h1'
        have g1 := trms_length e2
        have g2 := trms_length f2
        have hfn := h p c n p' c' n' ta tb e2 f2 (by omega)
        unfold Elem2 at hfn
        refine ⟨[(b, 0), (b', 0)], [elemV p c n 0 ta.length, elemV p' c' n' 1 tb.length], _, _, _, hfn, by simp [elemV, AV.ren, AV.rens, ofL, e1, f1], rfl,
          ⟨⟨L, hL, by omega, by rw [List.drop_zero, rens_scal _ _ (scals_trms _), g1, e1]; exact e3⟩, ⟨L', hL', by omega, by rw [List.drop_zero, rens_scal _ _ (scals_trms _), g2, f1]; exact f3⟩, trivial⟩, rfl,
          ⟨unders_scal _ _ (scals_trms _), unders_scal _ _ (scals_trms _), trivial⟩, ⟨⟨trivial, trivial, trivial, by simp [AV.under], trivial⟩, ⟨trivial, trivial, trivial, by simp [AV.under], trivial⟩, trivial⟩, by simp [elemV, AV.ren, AV.rens, Ren.ext], ?_⟩
        simp [after, upd, AO.wr, AO.ren, rens_scal _ _ (scals_trms _)]
      · cases he
    · cases he
  · cases he
end Go.Proofs.Ytkgoadglalpbfaa
