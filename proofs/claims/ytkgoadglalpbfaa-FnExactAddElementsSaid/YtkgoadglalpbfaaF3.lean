/- Contracts: the reference's element of a diagram. -/
import Derived.Test.YtkgoadglalpbfaaAmC
import Derived.Test.YtkgoadglalpbfaaF2
namespace Go.Proofs.Ytkgoadglalpbfaa
open Go.Am Go.Dia
set_option linter.unusedSimpArgs false
set_option linter.unusedVariables false
set_option maxRecDepth 4000
set_option maxHeartbeats 1000000

theorem B23_s_l01In_F3 : B23 60 = some (plainE g_in) := rfl
theorem B23_s_l01Is_F3 : B23 58 = some (plainE g_isS) := rfl
theorem B23_s_l01Prime_F3 : B23 59 = some (plainE g_prime) := rfl
theorem B23_s_l02Put_F3 : B23 61 = some (g_put0) := rfl

def a_s_ElementOf : AC := .seq (.region [⟨some 6, none, .op (.box (.t 2))⟩,
     ⟨some 8, none, .op (.alloc [(.int .i64 0), (.int .i64 0), (.int .i64 0), (.v (.slice none 0 0))])⟩,
     ⟨some 9, none, .op (.mov (.c (.int .i64 0)))⟩]) (.seq (.block 0 (.seq (.region [⟨some 11, none, .op (.loadN 17 (.t 6))⟩,
       ⟨some 12, none, .call (.c (.fn 58 [] [])) [(.t 11)]⟩,
       ⟨some 13, none, .op (.un .not (.t 12))⟩,
       ⟨some 10, none, .op (.mov (.t 13))⟩]) (.cond 10 (.seq (.region [⟨some 14, none, .op (.build [(.int .i64 0), (.int .i64 0), (.int .i64 0), (.v (.slice none 0 0))] [])⟩,
         ⟨none, none, .op (.storeN 4 (.t 8) (.t 14))⟩,
         ⟨some 9, none, .op (.mov (.c (.int .i64 1)))⟩]) .ret) (.seq (.region [⟨some 16, none, .op (.mov (.t 0))⟩,
         ⟨some 17, none, .call (.c (.fn 59 [] [])) [(.t 16)]⟩,
         ⟨some 18, none, .op (.un .not (.t 17))⟩,
         ⟨some 19, none, .op (.mov (.t 18))⟩,
         ⟨some 20, some (19, false), .op (.mov (.t 1))⟩,
         ⟨some 21, some (19, false), .op (.mov (.t 0))⟩,
         ⟨some 22, some (19, false), .op (.bin .sub (.t 21) (.c (.int .i64 1)))⟩,
         ⟨some 23, some (19, false), .call (.c (.fn 60 [] [])) [(.t 20), (.c (.int .i64 0)), (.t 22)]⟩,
         ⟨some 24, some (19, false), .op (.un .not (.t 23))⟩,
         ⟨some 25, none, .op (.pick (.t 19) (.c (.bool true)) (.t 24))⟩,
         ⟨some 26, none, .op (.mov (.t 25))⟩,
         ⟨some 27, some (26, false), .op (.mov (.t 3))⟩,
         ⟨some 28, some (26, false), .call (.c (.fn 60 [] [])) [(.t 27), (.c (.int .i64 (-1000000))), (.c (.int .i64 1000000))]⟩,
         ⟨some 29, some (26, false), .op (.un .not (.t 28))⟩,
         ⟨some 30, none, .op (.pick (.t 26) (.c (.bool true)) (.t 29))⟩,
         ⟨some 15, none, .op (.mov (.t 30))⟩]) (.cond 15 (.seq (.region [⟨some 31, none, .op (.build [(.int .i64 0), (.int .i64 0), (.int .i64 0), (.v (.slice none 0 0))] [])⟩,
           ⟨none, none, .op (.storeN 4 (.t 8) (.t 31))⟩,
           ⟨some 9, none, .op (.mov (.c (.int .i64 2)))⟩]) .ret) .skip))))) (.seq (.draw true [⟨some 32, none, .op (.mov (.t 0))⟩,
     ⟨some 33, none, .op (.mov (.t 1))⟩,
     ⟨some 34, none, .op (.faddr 0 (.t 6))⟩,
     ⟨some 35, none, .op (.load1 (.t 34))⟩,
     ⟨some 36, none, .op (.mov (.t 0))⟩,
     ⟨some 38, none, .op (.loadN 17 (.t 6))⟩,
     ⟨some 39, none, .op (.mov (.t 3))⟩,
     ⟨some 37, none, .op (.mkslc 0 [] [])⟩,
     ⟨some 40, none, .call (.c (.fn 61 [] [])) [(.t 36), (.t 37), (.t 38), (.t 39)]⟩,
     ⟨some 41, none, .op (.build [(.int .i64 0), (.int .i64 0), (.int .i64 0), (.v (.slice none 0 0))] [(0, 1, (.t 32)), (1, 1, (.t 33)), (2, 1, (.t 35)), (3, 1, (.t 40))])⟩,
     ⟨none, none, .op (.storeN 4 (.t 8) (.t 41))⟩,
     ⟨some 9, none, .op (.mov (.c (.int .i64 0)))⟩]) .ret))
theorem r_s_ElementOf : readF Try.prog 23 = some ⟨42, a_s_ElementOf, [.cellN 8 4, .slot 9]⟩ := by kernel_rfl

/-- What both hand back: the prime, the loop, the size, the terms and the error. -/
def elemOf (p c n : Int) (m : List Nat) (k : Int) : Int × Int × Int × List (Int × List Nat × Int) × Int :=
  if isS n.toNat m = false then (0, 0, 0, [], 1) else if (primeB p && decide (0 ≤ c ∧ c ≤ p - 1) && decide (-1000000 ≤ k ∧ k ≤ 1000000)) = false then (0, 0, 0, [], 2) else (p, c, n, if k.emod p = 0 then [] else [(n, m, k.emod p)], 0)
def ElemR (r : Int × Int × Int × List (Int × List Nat × Int) × Int) (v : AV) (H' : List AO) : Prop :=
  v = .tup [elemV r.1 r.2.1 r.2.2.1 0 r.2.2.2.1.length, .int .i64 r.2.2.2.2] ∧ H' = [.vec 18 (trms r.2.2.2.1)]
theorem over4_0 {a b c d x : AV} : over [a, b, c, d] 0 [x] = [x, b, c, d] := rfl
theorem over4_1 {a b c d x : AV} : over [a, b, c, d] 1 [x] = [a, x, c, d] := rfl
theorem over4_2 {a b c d x : AV} : over [a, b, c, d] 2 [x] = [a, b, x, d] := rfl
theorem over4_3 {a b c d x : AV} : over [a, b, c, d] 3 [x] = [a, b, c, x] := rfl
theorem over4_4 {a b c d x y z w : AV} : over [a, b, c, d] 0 [x, y, z, w] = [x, y, z, w] := rfl
theorem over4E : type_of% (And.intro @over4_0 (And.intro @over4_1 (And.intro @over4_2 (And.intro @over4_3 @over4_4)))) := (And.intro @over4_0 (And.intro @over4_1 (And.intro @over4_2 (And.intro @over4_3 @over4_4))))
theorem isS_bd {n : Int} {m : List Nat} (h : isS n.toNat m = true) : 1 ≤ n ∧ n ≤ 8 := by
  by_cases h1 : 1 ≤ n ∧ n ≤ 8
  · exact h1
  · rw [isS_out h1] at h; cases h
theorem c_s_ElementOf (p c n : Int) (m : List Nat) (k : Int) (hm : okD m) : Am.Fn Try.prog 23 [.int .i64 p, .int .i64 c, .agg (dia n m), .int .i64 k] [] (ElemR (elemOf p c n m k)) := by
  refine Am.Fn.ofW B23_ok mixed r_s_ElementOf (by simp) (by simp) ?_
  have hml := hm.1
  have bad1 : isS n.toNat m = false → elemOf p c n m k = (0, 0, 0, [], 1) := fun h => by unfold elemOf; rw [if_pos h]
  have bad2 : isS n.toNat m = true → (primeB p && decide (0 ≤ c ∧ c ≤ p - 1) && decide (-1000000 ≤ k ∧ k ≤ 1000000)) = false → elemOf p c n m k = (0, 0, 0, [], 2) := fun h h' => by unfold elemOf; rw [if_neg (by rw [h]; simp), if_pos h']
  have nilR : ∀ (code : Int) (s : St), elemOf p c n m k = (0, 0, 0, [], code) → retv s [.cellN 8 4, .slot 9] = some [.agg [.int .i64 0, .int .i64 0, .int .i64 0, .v (.slice none 0 0)], .int .i64 code] → Ret [.cellN 8 4, .slot 9] [] (ElemR (elemOf p c n m k)) s := fun code s he hr => by
    refine Ret.nil 18 (.tup [elemV 0 0 0 0 0, .int .i64 code]) hr ?_ (by simp) ?_ ?_
    · simp [retV, elemV, AV.ren, AV.rens]
    · exact ⟨⟨trivial, trivial, trivial, by simp [AV.under], trivial⟩, trivial, trivial⟩
    · rw [he]; exact ⟨rfl, rfl⟩
  have good : isS n.toNat m = true → primeB p = true → (0 ≤ c ∧ c ≤ p - 1) → (-1000000 ≤ k ∧ k ≤ 1000000) → elemOf p c n m k = (p, c, n, if k.emod p = 0 then [] else [(n, m, k.emod p)], 0) := fun h h2 h3 h4 => by
    unfold elemOf; rw [if_neg (by rw [h]; simp), if_neg (by rw [h2, decide_eq_true h3, decide_eq_true h4]; simp)]
  by_cases hk : k.emod p = 0
  · simp (maxSteps := 3000000) only [a_s_ElementOf, hk, over4_0, over4_1, over4_2, over4_3, over4_4, B23_s_l01In_F3, B23_s_l01Is_F3, B23_s_l01Prime_F3, B23_s_l02Put_F3, g_in, g_isS, g_prime, g_put0, dia_all hml, hml, dia_length, diaOf_dia hm, fillA, rd, wrt, wrl, AO.withl, List.getElem?_cons_zero, List.getElem?_cons_succ, List.set_cons_zero, List.set_cons_succ, idX_eq, wbE, ↓symP, symE, listE, AK.isCall, enumE, ev, putE, abin, aun, AV.cells, ↓reduceIte, reduceCtorEq, Nat.reduceAdd, Nat.reduceMul, Nat.reduceSub, Nat.reduceEqDiff, Nat.reduceLT, Nat.reduceLeDiff, implies_true, Back, retv, retV, AV.scal, AV.scals]; try simp only [idX_eq, ite_both, pickP_both, not_not_eq, Bool.not_eq_false, Bool.not_eq_true]
    refine ⟨fun h => ⟨rfl, _, Weak.refl _, nilR 1 _ (bad1 h) rfl⟩, fun h => ⟨fun h2 => ⟨fun h3 => ⟨fun h4 => ⟨rfl, _, Weak.refl _, nilR 2 _ (bad2 h ?_) rfl⟩, fun h4 => ?_⟩, fun h3 => ⟨rfl, _, Weak.refl _, nilR 2 _ (bad2 h ?_) rfl⟩⟩, fun h2 => ⟨rfl, _, Weak.refl _, nilR 2 _ (bad2 h ?_) rfl⟩⟩⟩
    · rw [decide_eq_false h4, Bool.and_false]
    · have := isS_bd h
      have := prime_bd h2
      rw [wrap64 (by omega) (by omega)] at h3
      refine ⟨⟨⟨by omega, by omega⟩, by omega, by omega⟩, ⟨_, rfl⟩, rfl, ⟨[(9, .int .i64 0), (8, .ptr 1 0)], [.cells (dia n m), .cells [.int .i64 p, .int .i64 c, .int .i64 n, .slc 2 0 0 false 0], .vec 18 []]⟩, ?_, ?_⟩
      · refine Eq.subst (motive := fun s' => Weak 0 _ s') ?_ (Weak.trans (Weak.slots [9, 8]) (Weak.vec 2 0 18 (by decide) rfl rfl ?_ ?_))
        · simp only [slots, get_put, vecs, List.map_cons, List.map_nil, AV.toVec, AO.toVec, AV.toVecs, toVecs_scal _ _ _ (scals_dia _ _), toVecs_scal _ _ _ (scals_u8s _), toVecs_scal _ _ _ (scals_i64s _), toVecs_scal _ _ _ (scals_n64s _), List.set_cons_zero, List.set_cons_succ, List.getElem?_cons_zero, List.getElem?_cons_succ, reduceIte, and_self, Nat.reduceEqDiff, reduceCtorEq, false_and, and_false, AV.exact, AV.exacts, AO.exact, List.all_cons, List.all_nil, exacts_scal _ _ (scals_dia _ _), exacts_scal _ _ (scals_u8s _), exacts_scal _ _ (scals_i64s _), exacts_scal _ _ (scals_n64s _), Bool.and_self, Bool.and_true, Bool.or_true, Bool.or_false, Nat.reduceBEq, beq_self_eq_true, Bool.not_true, Bool.not_false, List.cons_append, List.nil_append]
        · simp only [slots, get_put, vecs, List.map_cons, List.map_nil, AV.toVec, AO.toVec, AV.toVecs, toVecs_scal _ _ _ (scals_dia _ _), toVecs_scal _ _ _ (scals_u8s _), toVecs_scal _ _ _ (scals_i64s _), toVecs_scal _ _ _ (scals_n64s _), List.set_cons_zero, List.set_cons_succ, List.getElem?_cons_zero, List.getElem?_cons_succ, reduceIte, and_self, Nat.reduceEqDiff, reduceCtorEq, false_and, and_false, AV.exact, AV.exacts, AO.exact, List.all_cons, List.all_nil, exacts_scal _ _ (scals_dia _ _), exacts_scal _ _ (scals_u8s _), exacts_scal _ _ (scals_i64s _), exacts_scal _ _ (scals_n64s _), Bool.and_self, Bool.and_true, Bool.or_true, Bool.or_false, Nat.reduceBEq, beq_self_eq_true, Bool.not_true, Bool.not_false, List.cons_append, List.nil_append]
        · simp only [vecs, List.map_cons, List.map_nil, AV.toVec, AO.toVec, AV.toVecs, toVecs_scal _ _ _ (scals_dia _ _), toVecs_scal _ _ _ (scals_u8s _), toVecs_scal _ _ _ (scals_i64s _), toVecs_scal _ _ _ (scals_n64s _), List.set_cons_zero, List.set_cons_succ, List.getElem?_cons_zero, List.getElem?_cons_succ, reduceIte, and_self, Nat.reduceEqDiff, reduceCtorEq, false_and, and_false, AV.exact, AV.exacts, AO.exact, List.all_cons, List.all_nil, exacts_scal _ _ (scals_dia _ _), exacts_scal _ _ (scals_u8s _), exacts_scal _ _ (scals_i64s _), exacts_scal _ _ (scals_n64s _), Bool.and_self, Bool.and_true, Bool.or_true, Bool.or_false, Nat.reduceBEq, beq_self_eq_true, Bool.not_true, Bool.not_false, List.cons_append, List.nil_append]
      · refine Ret.keep [2] ⟨⟨by simp, rfl, by decide⟩, ?_⟩ (rs := [.agg [.int .i64 p, .int .i64 c, .int .i64 n, .slc 2 0 0 false 0], .int .i64 0]) rfl (by rfl) (by simp [retV]) ?_ ?_
        · simp only [keepW, keepL, AV.within, AV.withins, ↓reduceIte, reduceCtorEq, Nat.reduceEqDiff, Nat.reduceBEq, implies_true, Nat.reduceAdd]
        · intro j l; match j with
          | 0 => simp [kepts, AO.ren]
          | j + 1 => simp [kepts]
        · rw [good h h2 h3 h4, if_pos hk]
          simp only [ElemR, elemV, retV]
          simp only [keptL, keptW, keptE, kepts, slots, ↓reduceIte, reduceCtorEq, Nat.reduceEqDiff, AV.ren, AV.rens, pos, Nat.reduceAdd]
          exact ⟨rfl, rfl⟩
    · have := prime_bd h2
      rw [wrap64 (by omega) (by omega)] at h3
      rw [decide_eq_false h3, Bool.and_false, Bool.false_and]
    · rw [h2]; rfl
  · simp (maxSteps := 3000000) only [a_s_ElementOf, hk, over4_0, over4_1, over4_2, over4_3, over4_4, B23_s_l01In_F3, B23_s_l01Is_F3, B23_s_l01Prime_F3, B23_s_l02Put_F3, g_in, g_isS, g_prime, g_put0, dia_all hml, hml, dia_length, diaOf_dia hm, fillA, rd, wrt, wrl, AO.withl, List.getElem?_cons_zero, List.getElem?_cons_succ, List.set_cons_zero, List.set_cons_succ, idX_eq, wbE, ↓symP, symE, listE, AK.isCall, enumE, ev, putE, abin, aun, AV.cells, ↓reduceIte, reduceCtorEq, Nat.reduceAdd, Nat.reduceMul, Nat.reduceSub, Nat.reduceEqDiff, Nat.reduceLT, Nat.reduceLeDiff, implies_true, Back, retv, retV, AV.scal, AV.scals]; try simp only [idX_eq, ite_both, pickP_both, not_not_eq, Bool.not_eq_false, Bool.not_eq_true]
    refine ⟨fun h => ⟨rfl, _, Weak.refl _, nilR 1 _ (bad1 h) rfl⟩, fun h => ⟨fun h2 => ⟨fun h3 => ⟨fun h4 => ⟨rfl, _, Weak.refl _, nilR 2 _ (bad2 h ?_) rfl⟩, fun h4 => ?_⟩, fun h3 => ⟨rfl, _, Weak.refl _, nilR 2 _ (bad2 h ?_) rfl⟩⟩, fun h2 => ⟨rfl, _, Weak.refl _, nilR 2 _ (bad2 h ?_) rfl⟩⟩⟩
    · rw [decide_eq_false h4, Bool.and_false]
    · have := isS_bd h
      have := prime_bd h2
      rw [wrap64 (by omega) (by omega)] at h3
      refine ⟨⟨⟨by omega, by omega⟩, by omega, by omega⟩, ⟨_, rfl⟩, rfl, _, Weak.refl _, ?_⟩
      · refine Ret.keep [3] ⟨⟨by simp, rfl, by decide⟩, ?_⟩ (rs := [.agg [.int .i64 p, .int .i64 c, .int .i64 n, .slc 3 0 1 false 0], .int .i64 0]) rfl (by rfl) (by simp [retV]) ?_ ?_
        · simp only [withins_scal _ _ (scals_trms _), keepW, keepL, AV.within, AV.withins, ↓reduceIte, reduceCtorEq, Nat.reduceEqDiff, Nat.reduceBEq, implies_true, Nat.reduceAdd]
        · intro j l; match j with
          | 0 => simp [kepts, AO.ren]
          | j + 1 => simp [kepts]
        · rw [good h h2 h3 h4, if_neg hk]
          simp only [ElemR, elemV, retV]
          simp only [rens_scal _ _ (scals_trms _), keptL, keptW, keptE, kepts, slots, ↓reduceIte, reduceCtorEq, Nat.reduceEqDiff, AV.ren, AV.rens, pos, Nat.reduceAdd]
          exact ⟨rfl, trivial⟩
    · have := prime_bd h2
      rw [wrap64 (by omega) (by omega)] at h3
      rw [decide_eq_false h3, Bool.and_false, Bool.false_and]
    · rw [h2]; rfl
end Go.Proofs.Ytkgoadglalpbfaa
