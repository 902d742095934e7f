/- Contracts: elements with a line more at the right. -/
import Derived.Test.YtkgoadglalpbfaaI5
import Derived.Test.YtkgoadglalpbfaaG10
namespace Go.Proofs.Ytkgoadglalpbfaa
open Go.Am Go.Dia
set_option linter.unusedSimpArgs false
set_option linter.unusedVariables false
set_option maxRecDepth 4000
set_option maxHeartbeats 1000000

def g_wider : List AV → Option AV
  | [.agg l] => match diaOf l with
    | some (n, m) => chk (isS n.toNat m = true ∧ 0 ≤ n ∧ n < 8) (some (.agg (dia (n + 1) (wideL n.toNat m))))
    | none => none
  | _ => none
theorem k_wider : Am.Callee Try.prog 80 (plainE g_wider) := Am.Callee.plain fun xs v he => by
  unfold g_wider at he
  split at he
  · rename_i l
    split at he
    · rename_i n m hd
      obtain ⟨⟨h1, h2⟩, he⟩ := chk_some he
      cases he
      obtain ⟨rfl, hm⟩ := diaOf_some hd
      obtain ⟨N, rfl⟩ : ∃ N : Nat, n = N := ⟨n.toNat, by omega⟩
      rw [Int.toNat_natCast] at h1 ⊢
      exact ⟨by simp only [AV.scals, AV.scal, scals_dia, Bool.and_self], by simp only [AV.scal, scals_dia], c_s_l02Wider N m hm h1 (by omega)⟩
    · cases he
  · cases he
theorem B50_i_Element_changed_I6 : B50 73 = some (g_ch0 119 (fun n => n + 1) wideL 1 7) := rfl
theorem B50_i_Element_included_1_I6 : B50 119 = some (plainE g_included1) := rfl
theorem B50_i_IsElement_I6 : B50 48 = some (g_isElem) := rfl
theorem B50_s_l02Empty_I6 : B50 70 = some (g_empty) := rfl
theorem B50_s_l02Is_I6 : B50 68 = some (g_isElem) := rfl
theorem B50_s_l02Put_I6 : B50 61 = some (g_put) := rfl
theorem B50_w_eqElement_I6 : B50 19 = some (g_eqElement) := rfl
theorem B50_w_heldElement_I6 : B50 26 = some (g_heldElement) := rfl
theorem B50_w_markElement_I6 : B50 20 = some (g_markElement) := rfl
theorem B50_w_szElement_I6 : B50 14 = some (g_szElement) := rfl
theorem B50_w_toElement_I6 : B50 16 = some (g_toElement) := rfl

def a_i_Element_included : AC := .seq (.region [⟨some 2, none, .op (.alloc [(.int .i64 0), (.int .i64 0), (.int .i64 0), (.v (.slice none 0 0))])⟩]) (.seq (.region [⟨some 3, none, .op (.mov (.t 0))⟩,
     ⟨some 4, none, .op (.mov (.t 0))⟩,
     ⟨some 5, none, .op (.nilchk (.t 4))⟩,
     ⟨some 6, none, .op (.faddr 2 (.t 5))⟩,
     ⟨some 7, none, .op (.load1 (.t 6))⟩,
     ⟨some 8, none, .op (.bin .add (.t 7) (.c (.int .i64 1)))⟩,
     ⟨some 9, none, .call (.c (.fn 73 [] [])) [(.t 3), (.t 8), (.c (.fn 119 [] []))]⟩,
     ⟨none, none, .op (.storeN 4 (.t 2) (.t 9))⟩]) .ret)
theorem r_i_Element_included : readF Try.prog 81 = some ⟨10, a_i_Element_included, [.cellN 2 4]⟩ := by kernel_rfl
theorem c_included (p c n : Int) (a : List (Int × List Nat × Int)) (hp : 2 ≤ p ∧ p ≤ 97) (hn : 1 ≤ n ∧ n ≤ 7) (ha : GoodT p n a) (hl : a.length ≤ 100000) :
    Am.Fn Try.prog 81 [.ptr 1 0] [.ro (trms a), .ro (elC p c n a.length)] (fun v H' => v = elemV p c (n + 1) 2 (chP p (n + 1) (wideL n.toNat) (fun _ => 1) [] a).length ∧ H' = [.ro (trms a), .ro (elC p c n a.length), .vec 18 (trms (chP p (n + 1) (wideL n.toNat) (fun _ => 1) [] a))]) := by
  refine Am.Fn.ofB B50_ok mixed r_i_Element_included (by simp [AV.unders, AV.under]) ?_ ?_
  · intro j o hj
    match j, hj with
    | 0, hj => cases hj; exact unders_scal _ _ (scals_trms _)
    | 1, hj => cases hj; exact ⟨trivial, trivial, trivial, by simp [AV.under], trivial⟩
    | j + 2, hj => simp at hj
  have hal := trms_length ha.ok
  have hts := tsOf_trms' ha.ok
  have hg := ha.dec
  have hw : wrapK .i64 (n + 1) = n + 1 := wrap64 (by omega) (by omega)
  simp (maxSteps := 3000000) only [over4E, heapL, fillA, rd, wrt, wrl, AO.withl, a_i_Element_included, B50_i_Element_changed_I6, B50_i_Element_included_1_I6, B50_i_IsElement_I6, B50_s_l02Empty_I6, B50_s_l02Is_I6, B50_s_l02Put_I6, B50_w_eqElement_I6, B50_w_heldElement_I6, B50_w_markElement_I6, B50_w_szElement_I6, B50_w_toElement_I6, g_ch0, g_empty, g_eqElement, g_heldElement, g_included1, g_isElem, g_markElement, g_put, g_szElement, g_toElement, elC, elemV, hal, hts, hp, hn, hg, hl, hw, and_self, Int.reduceEq, Int.reduceNe, Int.reduceBEq, Int.reduceBNe, Int.reduceLT, Int.reduceLE, Int.reduceAdd, Int.reduceSub, Int.reduceMul, idX_eq, wbE, ↓symP, symE, listE, AK.isCall, enumE, ev, putE, abin, aun, AV.cells, ↓reduceIte, reduceCtorEq, Nat.reduceAdd, Nat.reduceMul, Nat.reduceSub, Nat.reduceEqDiff, Nat.reduceLT, Nat.reduceLeDiff, implies_true, Back, retv, retV, AV.scal, AV.scals]; try simp only [idX_eq, ite_both, pickP_both, not_not_eq, Bool.not_eq_false, Bool.not_eq_true]
  refine ⟨rfl, ?_⟩
  refine Ret.keep [0, 1, 3] ⟨⟨by simp, rfl, by decide⟩, ?_⟩ (rs := [.agg [.int .i64 p, .int .i64 c, .int .i64 (n + 1), .slc 3 0 (chP p (n + 1) (wideL n.toNat) (fun _ => 1) [] a).length false 0]]) rfl rfl (by simp [retV]) ?_ ⟨?_, ?_⟩
  · simp only [withins_scal _ _ (scals_trms _), keepW, keepL, AV.within, AV.withins, ↓reduceIte, reduceCtorEq, Nat.reduceEqDiff, Nat.reduceBEq, implies_true, Nat.reduceAdd]
  · intro j l; match j with
    | 0 => exact fun _ => ⟨_, rfl⟩
    | 1 => exact fun _ => ⟨_, rfl⟩
    | 2 => simp [kepts, AO.ren]
    | j + 3 => simp [kepts]
  · simp only [retV]
    simp only [keptL, keptW, keptE, kepts, slots, ↓reduceIte, reduceCtorEq, Nat.reduceEqDiff, AV.ren, AV.rens, pos, Nat.reduceAdd]
  · simp only [rens_scal _ _ (scals_trms _), keptL, keptW, keptE, kepts, slots, ↓reduceIte, reduceCtorEq, Nat.reduceEqDiff, AV.ren, AV.rens, pos, Nat.reduceAdd]
def g_included : BE := fun hp xs => match xs with
  | [.ptr b 0] => match rd hp b with
    | some (.int .i64 p :: .int .i64 c :: .int .i64 n :: .slc ba 0 la false 0 :: _) => match rd hp ba with
      | some L => match tsOf la L with
        | some a => chk (((2 ≤ p ∧ p ≤ 97) ∧ (1 ≤ n ∧ n ≤ 7)) ∧ goodT p n a ∧ la ≤ 100000) (some (elemV p c (n + 1) hp.length (chP p (n + 1) (wideL n.toNat) (fun _ => 1) [] a).length, hp ++ [.vec 18 (trms (chP p (n + 1) (wideL n.toNat) (fun _ => 1) [] a))]))
        | none => none
      | none => none
    | _ => none
  | _ => none
theorem k_included : Am.Callee Try.prog 81 g_included := Callee.fp fun hp xs v hp' he => by
  unfold g_included at he
  split at he
  · rename_i b
    split at he
    · rename_i p c n ba la L0 hL0
      split at he
      · rename_i L hL
        split at he
        · rename_i a h1
          obtain ⟨⟨⟨a3, a4⟩, a5, a6⟩, he2⟩ := chk_some he
          simp only [Option.some.injEq, Prod.mk.injEq] at he2
          obtain ⟨rfl, rfl⟩ := he2
          obtain ⟨e1, e2, e3, e4⟩ := tsOf_some h1
          have g1 := trms_length e2
          refine ⟨[(ba, 0), (b, 0)], [.ptr 1 0], _, _, _, c_included p c n a a3 a4 (a5.good e2) (by omega), by simp [AV.ren, AV.rens, ofL], rfl,
            ⟨⟨L, hL, by omega, by rw [List.drop_zero, rens_scal _ _ (scals_trms _), g1, e1]; exact e3⟩, ⟨_, hL0, by simp, by simp [AV.rens, AV.ren, ofL, e1]⟩, trivial⟩, rfl,
            ⟨unders_scal _ _ (scals_trms _), ⟨trivial, trivial, trivial, by simp [AV.under], trivial⟩, trivial⟩, ⟨by simp [AV.under], trivial⟩, by simp [elemV, AV.ren, AV.rens, Ren.ext], ?_⟩
          simp [after, upd, AO.wr, AO.ren, rens_scal _ _ (scals_trms _)]
        · cases he
      · cases he
    · cases he
  · cases he
def B51 : Book := ((B50.put 80 (plainE g_wider)).put 81 (g_included))
theorem B51_ok : BookOk Try.prog B51 := ((B50_ok.put (k_wider)).put (k_included))
theorem B51_i_Element_changed_I6 : B51 73 = some (g_ch0 119 (fun n => n + 1) wideL 1 7) := rfl
theorem B51_i_Element_included_1_I6 : B51 119 = some (plainE g_included1) := rfl
theorem B51_i_IsElement_I6 : B51 48 = some (g_isElem) := rfl
theorem B51_s_l02Empty_I6 : B51 70 = some (g_empty) := rfl
theorem B51_s_l02Is_I6 : B51 68 = some (g_isElem) := rfl
theorem B51_s_l02Put_I6 : B51 61 = some (g_put) := rfl
theorem B51_w_eqElement_I6 : B51 19 = some (g_eqElement) := rfl
theorem B51_w_heldElement_I6 : B51 26 = some (g_heldElement) := rfl
theorem B51_w_markElement_I6 : B51 20 = some (g_markElement) := rfl
theorem B51_w_szElement_I6 : B51 14 = some (g_szElement) := rfl
theorem B51_w_toElement_I6 : B51 16 = some (g_toElement) := rfl
theorem B51_s_l02Wider_I6 : B51 80 = some (plainE g_wider) := rfl
theorem B51_i_Element_included_I6 : B51 81 = some (g_included) := rfl


def inclOf (p c n : Int) (a : List (Int × List Nat × Int)) : ER :=
  if elemB p c n a = false then (0, 0, 0, [], 1) else if n = 8 then (0, 0, 0, [], 2) else (p, c, n + 1, chP p (n + 1) (wideL n.toNat) (fun _ => 1) [] a, 0)
theorem incl_okCh {p n : Int} {a : List (Int × List Nat × Int)} (hp : p ≤ 97) (hn : 1 ≤ n ∧ n ≤ 7) (h : GoodT p n a) : okCh (n + 1) 10000 (wideL n.toNat) (fun _ => 1) a := fun t ht => by
  have h1 := wide_at hn (h.dia t ht).2
  have h2 := h.fac t ht
  exact ⟨h1.1, h1.2, by show -10000 ≤ t.2.2 * 1; omega, by show t.2.2 * 1 ≤ 10000; omega⟩
def a_s_IncludeElement_l1 : AC := .seq (.seq (.region [⟨some 22, none, .op (.mov (.t 5))⟩,
         ⟨some 23, none, .op (.faddr 3 (.t 1))⟩,
         ⟨some 24, none, .op (.load1 (.t 23))⟩,
         ⟨some 25, none, .op (.len .slc (.t 24))⟩,
         ⟨some 26, none, .op (.bin .lss (.t 22) (.t 25))⟩]) (.cond 26 .skip (.exit 1))) (.seq (.block 2 (.draw true [⟨some 29, none, .op (.faddr 0 (.t 1))⟩,
         ⟨some 30, none, .op (.load1 (.t 29))⟩,
         ⟨some 31, none, .op (.faddr 3 (.t 4))⟩,
         ⟨some 32, none, .op (.load1 (.t 31))⟩,
         ⟨some 33, none, .op (.faddr 3 (.t 1))⟩,
         ⟨some 34, none, .op (.load1 (.t 33))⟩,
         ⟨some 35, none, .op (.mov (.t 5))⟩,
         ⟨some 36, none, .op (.iaddrS 18 (.t 34) (.t 35))⟩,
         ⟨some 37, none, .op (.faddr 0 (.t 36))⟩,
         ⟨some 38, none, .op (.loadN 17 (.t 37))⟩,
         ⟨some 40, none, .op (.faddr 3 (.t 1))⟩,
         ⟨some 41, none, .op (.load1 (.t 40))⟩,
         ⟨some 42, none, .op (.mov (.t 5))⟩,
         ⟨some 43, none, .op (.iaddrS 18 (.t 41) (.t 42))⟩,
         ⟨some 44, none, .op (.faddr 17 (.t 43))⟩,
         ⟨some 45, none, .op (.load1 (.t 44))⟩,
         ⟨some 39, none, .call (.c (.fn 80 [] [])) [(.t 38)]⟩,
         ⟨some 46, none, .call (.c (.fn 61 [] [])) [(.t 30), (.t 32), (.t 39), (.t 45)]⟩,
         ⟨some 47, none, .op (.faddr 3 (.t 4))⟩,
         ⟨none, none, .op (.store1 (.t 47) (.t 46))⟩])) (.region [⟨some 27, none, .op (.mov (.t 5))⟩,
       ⟨some 28, none, .op (.bin .add (.t 27) (.c (.int .i64 1)))⟩,
       ⟨some 5, none, .op (.mov (.t 28))⟩]))
def a_s_IncludeElement_k1 : AC := .seq (.region [⟨some 48, none, .op (.loadN 4 (.t 4))⟩,
     ⟨none, none, .op (.storeN 4 (.t 2) (.t 48))⟩,
     ⟨some 3, none, .op (.mov (.c (.int .i64 0)))⟩]) .ret
def a_s_IncludeElement : AC := .seq (.region [⟨some 1, none, .op (.box (.t 0))⟩,
     ⟨some 2, none, .op (.alloc [(.int .i64 0), (.int .i64 0), (.int .i64 0), (.v (.slice none 0 0))])⟩,
     ⟨some 3, none, .op (.mov (.c (.int .i64 0)))⟩]) (.seq (.block 0 (.seq (.region [⟨some 7, none, .op (.loadN 4 (.t 1))⟩,
       ⟨some 8, none, .call (.c (.fn 68 [] [])) [(.t 7)]⟩,
       ⟨some 9, none, .op (.un .not (.t 8))⟩,
       ⟨some 6, none, .op (.mov (.t 9))⟩]) (.cond 6 (.seq (.region [⟨some 10, none, .op (.build [(.int .i64 0), (.int .i64 0), (.int .i64 0), (.v (.slice none 0 0))] [])⟩,
         ⟨none, none, .op (.storeN 4 (.t 2) (.t 10))⟩,
         ⟨some 3, none, .op (.mov (.c (.int .i64 1)))⟩]) .ret) (.seq (.region [⟨some 12, none, .op (.faddr 2 (.t 1))⟩,
         ⟨some 13, none, .op (.load1 (.t 12))⟩,
         ⟨some 14, none, .op (.bin .eql (.t 13) (.c (.int .i64 8)))⟩,
         ⟨some 11, none, .op (.mov (.t 14))⟩]) (.cond 11 (.seq (.region [⟨some 15, none, .op (.build [(.int .i64 0), (.int .i64 0), (.int .i64 0), (.v (.slice none 0 0))] [])⟩,
           ⟨none, none, .op (.storeN 4 (.t 2) (.t 15))⟩,
           ⟨some 3, none, .op (.mov (.c (.int .i64 2)))⟩]) .ret) .skip))))) (.seq (.region [⟨some 16, none, .op (.loadN 4 (.t 1))⟩,
     ⟨some 17, none, .call (.c (.fn 70 [] [])) [(.t 16)]⟩,
     ⟨some 4, none, .op (.alloc [(.int .i64 0), (.int .i64 0), (.int .i64 0), (.v (.slice none 0 0))])⟩,
     ⟨none, none, .op (.storeN 4 (.t 4) (.t 17))⟩]) (.seq (.region [⟨some 18, none, .op (.faddr 2 (.t 1))⟩,
     ⟨some 19, none, .op (.load1 (.t 18))⟩,
     ⟨some 20, none, .op (.bin .add (.t 19) (.c (.int .i64 1)))⟩,
     ⟨some 21, none, .op (.faddr 2 (.t 4))⟩,
     ⟨none, none, .op (.store1 (.t 21) (.t 20))⟩]) (.seq (.seq (.region [⟨some 5, none, .op (.mov (.c (.int .i64 0)))⟩]) (.block 1 (.loop a_s_IncludeElement_l1))) a_s_IncludeElement_k1))))
theorem r_s_IncludeElement : readF Try.prog 33 = some ⟨49, a_s_IncludeElement, [.cellN 2 4, .slot 3]⟩ := by kernel_rfl
theorem c_s_IncludeElement (p c n : Int) (a : List (Int × List Nat × Int)) (ha : okT a) (hl : a.length ≤ 1100000) :
    Am.Fn Try.prog 33 [elemV p c n 0 a.length] [.ro (trms a)] (Elem1 (trms a) (inclOf p c n a)) := by
  refine Am.Fn.ofW B51_ok mixed r_s_IncludeElement (by simp) (ro_under (scals_trms _)) ?_
  have hal := trms_length ha
  have hts := tsOf_trms' ha
  have hle : a.length ≤ 1000000000 := by omega
  cases hE : elemB p c n a with
  | false =>
    simp (maxSteps := 3000000) only [over4E, heapL, fillA, rd, wrt, wrl, AO.withl, a_s_IncludeElement, B51_i_Element_changed_I6, B51_i_Element_included_1_I6, B51_i_IsElement_I6, B51_s_l02Empty_I6, B51_s_l02Is_I6, B51_s_l02Put_I6, B51_w_eqElement_I6, B51_w_heldElement_I6, B51_w_markElement_I6, B51_w_szElement_I6, B51_w_toElement_I6, B51_s_l02Wider_I6, B51_i_Element_included_I6, g_ch0, g_empty, g_eqElement, g_heldElement, g_included, g_included1, g_isElem, g_markElement, g_put, g_szElement, g_toElement, g_wider, elemV, hal, hts, hle, hE, Int.reduceEq, Int.reduceNe, Int.reduceBEq, Int.reduceBNe, Int.reduceLT, Int.reduceLE, Int.reduceAdd, Int.reduceSub, Int.reduceMul, idX_eq, wbE, ↓symP, symE, listE, AK.isCall, enumE, ev, putE, abin, aun, AV.cells, ↓reduceIte, reduceCtorEq, Nat.reduceAdd, Nat.reduceMul, Nat.reduceSub, Nat.reduceEqDiff, Nat.reduceLT, Nat.reduceLeDiff, implies_true, Back, retv, retV, AV.scal, AV.scals]; try simp only [idX_eq, ite_both, pickP_both, not_not_eq, Bool.not_eq_false, Bool.not_eq_true]
    have e : inclOf p c n a = (0, 0, 0, [], 1) := by unfold inclOf; rw [if_pos hE]
    rw [e]
    exact ⟨rfl, errRet1 (scals_trms a) rfl rfl rfl rfl (by decide)⟩
  | true =>
    obtain ⟨h1, h2, h3, h4⟩ := elem_bd hE
    by_cases hn8e : n = 8
    · have e : inclOf p c n a = (0, 0, 0, [], 2) := by unfold inclOf; rw [if_neg (by rw [hE]; simp), if_pos hn8e]
      rw [e]
      subst hn8e
      simp (maxSteps := 3000000) only [over4E, heapL, fillA, rd, wrt, wrl, AO.withl, a_s_IncludeElement, B51_i_Element_changed_I6, B51_i_Element_included_1_I6, B51_i_IsElement_I6, B51_s_l02Empty_I6, B51_s_l02Is_I6, B51_s_l02Put_I6, B51_w_eqElement_I6, B51_w_heldElement_I6, B51_w_markElement_I6, B51_w_szElement_I6, B51_w_toElement_I6, B51_s_l02Wider_I6, B51_i_Element_included_I6, g_ch0, g_empty, g_eqElement, g_heldElement, g_included, g_included1, g_isElem, g_markElement, g_put, g_szElement, g_toElement, g_wider, elemV, hal, hts, hle, hE, Int.reduceEq, Int.reduceNe, Int.reduceBEq, Int.reduceBNe, Int.reduceLT, Int.reduceLE, Int.reduceAdd, Int.reduceSub, Int.reduceMul, idX_eq, wbE, ↓symP, symE, listE, AK.isCall, enumE, ev, putE, abin, aun, AV.cells, ↓reduceIte, reduceCtorEq, Nat.reduceAdd, Nat.reduceMul, Nat.reduceSub, Nat.reduceEqDiff, Nat.reduceLT, Nat.reduceLeDiff, implies_true, Back, retv, retV, AV.scal, AV.scals]; try simp only [idX_eq, ite_both, pickP_both, not_not_eq, Bool.not_eq_false, Bool.not_eq_true]
      exact ⟨rfl, errRet1 (scals_trms a) rfl rfl rfl rfl (by decide)⟩
    have hn7 : 1 ≤ n ∧ n ≤ 7 := by omega
    have hw1 : wrapK .i64 (n + 1) = n + 1 := wrap64 (by omega) (by omega)
    have hgg := goodT_of ha hE
    have hch := incl_okCh (by omega) hn7 hgg
    have hn8 : 0 ≤ n ∧ n ≤ 8 := by omega
    have hn8' : 0 ≤ n + 1 ∧ n + 1 ≤ 8 := by omega
    have hn0 : 0 ≤ n ∧ n < 8 := by omega
    have h0 : GoodT p (n + 1) [] := ⟨(fun t h => by cases h), (fun t h => by cases h), (fun t h => by cases h), .nil⟩
    have e : inclOf p c n a = (p, c, n + 1, chP p (n + 1) (wideL n.toNat) (fun _ => 1) [] a, 0) := by unfold inclOf; rw [if_neg (by rw [hE]; simp), if_neg hn8e]
    rw [e]
    simp (maxSteps := 3000000) only [over4E, heapL, fillA, rd, wrt, wrl, AO.withl, a_s_IncludeElement, B51_i_Element_changed_I6, B51_i_Element_included_1_I6, B51_i_IsElement_I6, B51_s_l02Empty_I6, B51_s_l02Is_I6, B51_s_l02Put_I6, B51_w_eqElement_I6, B51_w_heldElement_I6, B51_w_markElement_I6, B51_w_szElement_I6, B51_w_toElement_I6, B51_s_l02Wider_I6, B51_i_Element_included_I6, g_ch0, g_empty, g_eqElement, g_heldElement, g_included, g_included1, g_isElem, g_markElement, g_put, g_szElement, g_toElement, g_wider, elemV, hal, hts, hle, hE, hn8e, hw1, Int.reduceEq, Int.reduceNe, Int.reduceBEq, Int.reduceBNe, Int.reduceLT, Int.reduceLE, Int.reduceAdd, Int.reduceSub, Int.reduceMul, idX_eq, wbE, ↓symP, symE, listE, AK.isCall, enumE, ev, putE, abin, aun, AV.cells, ↓reduceIte, reduceCtorEq, Nat.reduceAdd, Nat.reduceMul, Nat.reduceSub, Nat.reduceEqDiff, Nat.reduceLT, Nat.reduceLeDiff, implies_true, Back, retv, retV, AV.scal, AV.scals]; try simp only [idX_eq, ite_both, pickP_both, not_not_eq, Bool.not_eq_false, Bool.not_eq_true]
    refine ⟨rfl, rfl, ?_⟩
    refine WA.loopB B51_ok (fun s => ∃ (i : Nat) (acc : List (Int × List Nat × Int)), i ≤ a.length ∧ acc = chP p (n + 1) (wideL n.toNat) (fun _ => 1) [] (a.take i) ∧
      s = ⟨[(5, .int .i64 i), (4, .ptr 3 0), (3, .int .i64 0), (2, .ptr 2 0), (1, .ptr 1 0)], [.ro (trms a), .cells [.int .i64 p, .int .i64 c, .int .i64 n, .slc 0 0 a.length false 0], nilE, .cells [.int .i64 p, .int .i64 c, .int .i64 (n + 1), .slc 4 0 acc.length false 0], .vec 18 (trms acc)]⟩)
      (fun s => match get s.env 5 with | .int _ x => a.length - x.toNat | _ => 0) ⟨_, Weak.keep [0, 1, 2, 4, 3] [5, 4, 3, 2, 1] ⟨by decide, ?_⟩ ?_, 0, [], by omega, by simp [chP], ?_⟩ ?_
    · simp only [withins_scal _ _ (scals_trms _), keepW, keepL, AV.within, AV.withins, ↓reduceIte, reduceCtorEq, Nat.reduceEqDiff, Nat.reduceBEq, implies_true, Nat.reduceAdd]
    · simp only [withins_scal _ _ (scals_trms _), keepW, keepL, AV.within, AV.withins, ↓reduceIte, reduceCtorEq, Nat.reduceEqDiff, Nat.reduceBEq, implies_true, Nat.reduceAdd]
    · simp only [rens_scal _ _ (scals_trms _), keptL, keptW, keptE, kepts, slots, ↓reduceIte, reduceCtorEq, Nat.reduceEqDiff, AV.ren, AV.rens, pos, Nat.reduceAdd]
      rfl
    rintro s ⟨i, acc, hi, hacc, rfl⟩
    by_cases hlt : i < a.length
    · have hg := chP_good (p := p) (by omega) h0 (hch.take i)
      rw [← hacc] at hg
      have hgl := hg.2
      rw [List.length_take, Nat.min_eq_left hi, List.length_nil] at hgl
      have hli : (i : Int) < a.length := by omega
      have hli' : (0 : Int) ≤ i := by omega
      have hd := trms_dia17 ha hlt
      have hf := trms_fac ha hlt
      have hok := ha _ (List.getElem_mem hlt)
      have hsz := hgg.dia _ (List.getElem_mem hlt)
      have hfc := hgg.fac _ (List.getElem_mem hlt)
      rw [hsz.1] at hd
      have hnext := chP_succ (p := p) (n := n + 1) (φ := wideL n.toNat) (κ := fun _ => 1) (acc := []) hlt
      rw [← hacc, Int.mul_one] at hnext
      have hsm := hsz.2
      generalize a[i].2.1 = m at hd hok hsm hnext
      generalize a[i].2.2 = f at hf hfc hnext
      have hφ := (wide_at hn7 hsm).1
      have hw : wrapK .i64 ((i : Int) + 1) = ((i + 1 : Nat) : Int) := by rw [wrap64 (by omega) (by omega)]; rfl
      have hb1 : i * 18 < a.length * 18 := by omega
      have hb2 : i * 18 + 17 ≤ a.length * 18 := by omega
      have hb3 : i * 18 + 17 < a.length * 18 := by omega
      have hfit := hg.1.fit (by omega) (by omega)
      have hacl := trms_length hg.1.ok
      have hpp : 0 < p ∧ p ≤ 1000000 := by omega
      by_cases hz : f.emod p = 0
      · simp (maxSteps := 3000000) only [over4E, heapL, fillA, rd, wrt, wrl, AO.withl, a_s_IncludeElement_l1, B51_i_Element_changed_I6, B51_i_Element_included_1_I6, B51_i_IsElement_I6, B51_s_l02Empty_I6, B51_s_l02Is_I6, B51_s_l02Put_I6, B51_w_eqElement_I6, B51_w_heldElement_I6, B51_w_markElement_I6, B51_w_szElement_I6, B51_w_toElement_I6, B51_s_l02Wider_I6, B51_i_Element_included_I6, g_ch0, g_empty, g_eqElement, g_heldElement, g_included, g_included1, g_isElem, g_markElement, g_put, g_szElement, g_toElement, g_wider, hli, hli', hal, hb1, hb2, hb3, hd, hf, hw, tsOf_trms' hg.1.ok, diaOf_dia hok, diaOf_dia hφ, hsm, hacl, hpp, hn8', hn0, hfit, hz, and_self, Int.reduceEq, Int.reduceNe, Int.reduceBEq, Int.reduceBNe, Int.reduceLT, Int.reduceLE, Int.reduceAdd, Int.reduceSub, Int.reduceMul, idX_eq, wbE, ↓symP, symE, listE, AK.isCall, enumE, ev, putE, abin, aun, AV.cells, ↓reduceIte, reduceCtorEq, Nat.reduceAdd, Nat.reduceMul, Nat.reduceSub, Nat.reduceEqDiff, Nat.reduceLT, Nat.reduceLeDiff, implies_true, Back, retv, retV, AV.scal, AV.scals]; try simp only [idX_eq, ite_both, pickP_both, not_not_eq, Bool.not_eq_false, Bool.not_eq_true]
        refine ⟨⟨_, rfl⟩, ⟨_, rfl⟩, rfl, _, Weak.keep [0, 1, 2, 3, 4] [5, 4, 3, 2, 1] ⟨by decide, ?_⟩ ?_, ⟨i + 1, acc, by omega, by rw [hnext, putT_eq, if_pos hz], ?_⟩, ?_⟩
        · simp only [withins_scal _ _ (scals_trms _), keepW, keepL, AV.within, AV.withins, ↓reduceIte, reduceCtorEq, Nat.reduceEqDiff, Nat.reduceBEq, implies_true, Nat.reduceAdd]
        · simp only [withins_scal _ _ (scals_trms _), keepW, keepL, AV.within, AV.withins, ↓reduceIte, reduceCtorEq, Nat.reduceEqDiff, Nat.reduceBEq, implies_true, Nat.reduceAdd]
        · simp only [rens_scal _ _ (scals_trms _), keptL, keptW, keptE, kepts, slots, ↓reduceIte, reduceCtorEq, Nat.reduceEqDiff, AV.ren, AV.rens, pos, Nat.reduceAdd]
        · simp only [keptL, keptW, keptE, kepts, slots, ↓reduceIte, reduceCtorEq, Nat.reduceEqDiff, AV.ren, AV.rens, pos, Nat.reduceAdd]; omega
      · simp (maxSteps := 3000000) only [over4E, heapL, fillA, rd, wrt, wrl, AO.withl, a_s_IncludeElement_l1, B51_i_Element_changed_I6, B51_i_Element_included_1_I6, B51_i_IsElement_I6, B51_s_l02Empty_I6, B51_s_l02Is_I6, B51_s_l02Put_I6, B51_w_eqElement_I6, B51_w_heldElement_I6, B51_w_markElement_I6, B51_w_szElement_I6, B51_w_toElement_I6, B51_s_l02Wider_I6, B51_i_Element_included_I6, g_ch0, g_empty, g_eqElement, g_heldElement, g_included, g_included1, g_isElem, g_markElement, g_put, g_szElement, g_toElement, g_wider, hli, hli', hal, hb1, hb2, hb3, hd, hf, hw, tsOf_trms' hg.1.ok, diaOf_dia hok, diaOf_dia hφ, hsm, hacl, hpp, hn8', hn0, hfit, hz, and_self, Int.reduceEq, Int.reduceNe, Int.reduceBEq, Int.reduceBNe, Int.reduceLT, Int.reduceLE, Int.reduceAdd, Int.reduceSub, Int.reduceMul, idX_eq, wbE, ↓symP, symE, listE, AK.isCall, enumE, ev, putE, abin, aun, AV.cells, ↓reduceIte, reduceCtorEq, Nat.reduceAdd, Nat.reduceMul, Nat.reduceSub, Nat.reduceEqDiff, Nat.reduceLT, Nat.reduceLeDiff, implies_true, Back, retv, retV, AV.scal, AV.scals]; try simp only [idX_eq, ite_both, pickP_both, not_not_eq, Bool.not_eq_false, Bool.not_eq_true]
        refine ⟨⟨_, rfl⟩, ⟨_, rfl⟩, rfl, _, Weak.keep [0, 1, 2, 3, 5] [5, 4, 3, 2, 1] ⟨by decide, ?_⟩ ?_, ⟨i + 1, putT p acc (n + 1) (wideL n.toNat m) f, by omega, hnext.symm, ?_⟩, ?_⟩
        · simp only [withins_scal _ _ (scals_trms _), keepW, keepL, AV.within, AV.withins, ↓reduceIte, reduceCtorEq, Nat.reduceEqDiff, Nat.reduceBEq, implies_true, Nat.reduceAdd]
        · simp only [withins_scal _ _ (scals_trms _), keepW, keepL, AV.within, AV.withins, ↓reduceIte, reduceCtorEq, Nat.reduceEqDiff, Nat.reduceBEq, implies_true, Nat.reduceAdd]
        · simp only [rens_scal _ _ (scals_trms _), keptL, keptW, keptE, kepts, slots, ↓reduceIte, reduceCtorEq, Nat.reduceEqDiff, AV.ren, AV.rens, pos, Nat.reduceAdd]
        · simp only [keptL, keptW, keptE, kepts, slots, ↓reduceIte, reduceCtorEq, Nat.reduceEqDiff, AV.ren, AV.rens, pos, Nat.reduceAdd]; omega
    · have hli : ¬ ((i : Int) < a.length) := by omega
      simp (maxSteps := 3000000) only [over4E, heapL, fillA, rd, wrt, wrl, AO.withl, a_s_IncludeElement_l1, a_s_IncludeElement_k1, B51_i_Element_changed_I6, B51_i_Element_included_1_I6, B51_i_IsElement_I6, B51_s_l02Empty_I6, B51_s_l02Is_I6, B51_s_l02Put_I6, B51_w_eqElement_I6, B51_w_heldElement_I6, B51_w_markElement_I6, B51_w_szElement_I6, B51_w_toElement_I6, B51_s_l02Wider_I6, B51_i_Element_included_I6, g_ch0, g_empty, g_eqElement, g_heldElement, g_included, g_included1, g_isElem, g_markElement, g_put, g_szElement, g_toElement, g_wider, hli, Int.reduceEq, Int.reduceNe, Int.reduceBEq, Int.reduceBNe, Int.reduceLT, Int.reduceLE, Int.reduceAdd, Int.reduceSub, Int.reduceMul, idX_eq, wbE, ↓symP, symE, listE, AK.isCall, enumE, ev, putE, abin, aun, AV.cells, ↓reduceIte, reduceCtorEq, Nat.reduceAdd, Nat.reduceMul, Nat.reduceSub, Nat.reduceEqDiff, Nat.reduceLT, Nat.reduceLeDiff, implies_true, Back, retv, retV, AV.scal, AV.scals]; try simp only [idX_eq, ite_both, pickP_both, not_not_eq, Bool.not_eq_false, Bool.not_eq_true]
      obtain rfl : i = a.length := by omega
      rw [List.take_length] at hacc
      subst hacc
      exact ⟨rfl, _, Weak.refl _, okRet1 (scals_trms a) (scals_trms _) rfl rfl rfl rfl rfl⟩

def a_i_IncludeElement : AC := .seq (.region [⟨some 1, none, .op (.box (.t 0))⟩,
     ⟨some 2, none, .op (.alloc [(.int .i64 0), (.int .i64 0), (.int .i64 0), (.v (.slice none 0 0))])⟩,
     ⟨some 3, none, .op (.mov (.c (.int .i64 0)))⟩]) (.seq (.block 0 (.seq (.region [⟨some 5, none, .op (.loadN 4 (.t 1))⟩,
       ⟨some 6, none, .call (.c (.fn 48 [] [])) [(.t 5)]⟩,
       ⟨some 7, none, .op (.un .not (.t 6))⟩,
       ⟨some 4, none, .op (.mov (.t 7))⟩]) (.cond 4 (.seq (.region [⟨some 8, none, .op (.build [(.int .i64 0), (.int .i64 0), (.int .i64 0), (.v (.slice none 0 0))] [])⟩,
         ⟨none, none, .op (.storeN 4 (.t 2) (.t 8))⟩,
         ⟨some 3, none, .op (.mov (.c (.int .i64 1)))⟩]) .ret) (.seq (.region [⟨some 10, none, .op (.faddr 2 (.t 1))⟩,
         ⟨some 11, none, .op (.load1 (.t 10))⟩,
         ⟨some 12, none, .op (.bin .eql (.t 11) (.c (.int .i64 8)))⟩,
         ⟨some 9, none, .op (.mov (.t 12))⟩]) (.cond 9 (.seq (.region [⟨some 13, none, .op (.build [(.int .i64 0), (.int .i64 0), (.int .i64 0), (.v (.slice none 0 0))] [])⟩,
           ⟨none, none, .op (.storeN 4 (.t 2) (.t 13))⟩,
           ⟨some 3, none, .op (.mov (.c (.int .i64 2)))⟩]) .ret) .skip))))) (.seq (.region [⟨some 14, none, .call (.c (.fn 81 [] [])) [(.t 1)]⟩,
     ⟨none, none, .op (.storeN 4 (.t 2) (.t 14))⟩,
     ⟨some 3, none, .op (.mov (.c (.int .i64 0)))⟩]) .ret))
theorem r_i_IncludeElement : readF Try.prog 34 = some ⟨15, a_i_IncludeElement, [.cellN 2 4, .slot 3]⟩ := by kernel_rfl
theorem c_i_IncludeElement (p c n : Int) (a : List (Int × List Nat × Int)) (ha : okT a) (hl : a.length ≤ 1100000) :
    Am.Fn Try.prog 34 [elemV p c n 0 a.length] [.ro (trms a)] (Elem1 (trms a) (inclOf p c n a)) := by
  refine Am.Fn.ofW B51_ok mixed r_i_IncludeElement (by simp) (ro_under (scals_trms _)) ?_
  have hal := trms_length ha
  have hts := tsOf_trms' ha
  have hle : a.length ≤ 1000000000 := by omega
  cases hE : elemB p c n a with
  | false =>
    simp (maxSteps := 3000000) only [over4E, heapL, fillA, rd, wrt, wrl, AO.withl, a_i_IncludeElement, B51_i_Element_changed_I6, B51_i_Element_included_1_I6, B51_i_IsElement_I6, B51_s_l02Empty_I6, B51_s_l02Is_I6, B51_s_l02Put_I6, B51_w_eqElement_I6, B51_w_heldElement_I6, B51_w_markElement_I6, B51_w_szElement_I6, B51_w_toElement_I6, B51_s_l02Wider_I6, B51_i_Element_included_I6, g_ch0, g_empty, g_eqElement, g_heldElement, g_included, g_included1, g_isElem, g_markElement, g_put, g_szElement, g_toElement, g_wider, elemV, hal, hts, hle, hE, Int.reduceEq, Int.reduceNe, Int.reduceBEq, Int.reduceBNe, Int.reduceLT, Int.reduceLE, Int.reduceAdd, Int.reduceSub, Int.reduceMul, idX_eq, wbE, ↓symP, symE, listE, AK.isCall, enumE, ev, putE, abin, aun, AV.cells, ↓reduceIte, reduceCtorEq, Nat.reduceAdd, Nat.reduceMul, Nat.reduceSub, Nat.reduceEqDiff, Nat.reduceLT, Nat.reduceLeDiff, implies_true, Back, retv, retV, AV.scal, AV.scals]; try simp only [idX_eq, ite_both, pickP_both, not_not_eq, Bool.not_eq_false, Bool.not_eq_true]
    have e : inclOf p c n a = (0, 0, 0, [], 1) := by unfold inclOf; rw [if_pos hE]
    rw [e]
    exact ⟨rfl, errRet1 (scals_trms a) rfl rfl rfl rfl (by decide)⟩
  | true =>
    obtain ⟨h1, h2, h3, h4⟩ := elem_bd hE
    by_cases hn8e : n = 8
    · have e : inclOf p c n a = (0, 0, 0, [], 2) := by unfold inclOf; rw [if_neg (by rw [hE]; simp), if_pos hn8e]
      rw [e]
      subst hn8e
      simp (maxSteps := 3000000) only [over4E, heapL, fillA, rd, wrt, wrl, AO.withl, a_i_IncludeElement, B51_i_Element_changed_I6, B51_i_Element_included_1_I6, B51_i_IsElement_I6, B51_s_l02Empty_I6, B51_s_l02Is_I6, B51_s_l02Put_I6, B51_w_eqElement_I6, B51_w_heldElement_I6, B51_w_markElement_I6, B51_w_szElement_I6, B51_w_toElement_I6, B51_s_l02Wider_I6, B51_i_Element_included_I6, g_ch0, g_empty, g_eqElement, g_heldElement, g_included, g_included1, g_isElem, g_markElement, g_put, g_szElement, g_toElement, g_wider, elemV, hal, hts, hle, hE, Int.reduceEq, Int.reduceNe, Int.reduceBEq, Int.reduceBNe, Int.reduceLT, Int.reduceLE, Int.reduceAdd, Int.reduceSub, Int.reduceMul, idX_eq, wbE, ↓symP, symE, listE, AK.isCall, enumE, ev, putE, abin, aun, AV.cells, ↓reduceIte, reduceCtorEq, Nat.reduceAdd, Nat.reduceMul, Nat.reduceSub, Nat.reduceEqDiff, Nat.reduceLT, Nat.reduceLeDiff, implies_true, Back, retv, retV, AV.scal, AV.scals]; try simp only [idX_eq, ite_both, pickP_both, not_not_eq, Bool.not_eq_false, Bool.not_eq_true]
      exact ⟨rfl, errRet1 (scals_trms a) rfl rfl rfl rfl (by decide)⟩
    have hn7 : 1 ≤ n ∧ n ≤ 7 := by omega
    have hw1 : wrapK .i64 (n + 1) = n + 1 := wrap64 (by omega) (by omega)
    have hgg := goodT_of ha hE
    have hg := hgg.dec
    have hl1 : a.length ≤ 100000 := by omega
    have e : inclOf p c n a = (p, c, n + 1, chP p (n + 1) (wideL n.toNat) (fun _ => 1) [] a, 0) := by unfold inclOf; rw [if_neg (by rw [hE]; simp), if_neg hn8e]
    rw [e]
    simp (maxSteps := 3000000) only [over4E, heapL, fillA, rd, wrt, wrl, AO.withl, a_i_IncludeElement, B51_i_Element_changed_I6, B51_i_Element_included_1_I6, B51_i_IsElement_I6, B51_s_l02Empty_I6, B51_s_l02Is_I6, B51_s_l02Put_I6, B51_w_eqElement_I6, B51_w_heldElement_I6, B51_w_markElement_I6, B51_w_szElement_I6, B51_w_toElement_I6, B51_s_l02Wider_I6, B51_i_Element_included_I6, g_ch0, g_empty, g_eqElement, g_heldElement, g_included, g_included1, g_isElem, g_markElement, g_put, g_szElement, g_toElement, g_wider, elemV, hal, hts, hle, hE, hn8e, h1, hn7, hg, hl1, and_self, Int.reduceEq, Int.reduceNe, Int.reduceBEq, Int.reduceBNe, Int.reduceLT, Int.reduceLE, Int.reduceAdd, Int.reduceSub, Int.reduceMul, idX_eq, wbE, ↓symP, symE, listE, AK.isCall, enumE, ev, putE, abin, aun, AV.cells, ↓reduceIte, reduceCtorEq, Nat.reduceAdd, Nat.reduceMul, Nat.reduceSub, Nat.reduceEqDiff, Nat.reduceLT, Nat.reduceLeDiff, implies_true, Back, retv, retV, AV.scal, AV.scals]; try simp only [idX_eq, ite_both, pickP_both, not_not_eq, Bool.not_eq_false, Bool.not_eq_true]
    exact ⟨rfl, _, Weak.refl _, okRet1 (scals_trms a) (scals_trms _) rfl rfl rfl rfl rfl⟩
theorem incl_ok (p c n : Int) (ts : List (Int × List Nat × Int)) (ho : okT ts) : okER (inclOf p c n ts) := by
  unfold inclOf
  split
  · exact ⟨(fun t h => by cases h), by simp⟩
  · rename_i hE
    have hE' : elemB p c n ts = true := by cases h : elemB p c n ts <;> simp_all
    obtain ⟨h1, h2, h3, h4⟩ := elem_bd hE'
    split
    · exact ⟨(fun t h => by cases h), by simp⟩
    rename_i hn8e
    have hgg := goodT_of ho hE'
    have hg := chP_good (p := p) (acc := []) (by omega) (goodT_nil.good (p := p) (n := n + 1) (fun t h => by cases h)) (incl_okCh (by omega) (by omega) hgg)
    refine ⟨hg.1.ok, ?_⟩
    have := hg.2
    simp at this
    simp only; omega
def B52 : Book := ((B51.put 33 (g_el1 inclOf)).put 34 (g_el1 inclOf))
theorem B52_ok : BookOk Try.prog B52 := ((B51_ok.put (k_el1 c_s_IncludeElement)).put (k_el1 c_i_IncludeElement))
theorem B52_i_Element_changed_I6 : B52 73 = some (g_ch0 119 (fun n => n + 1) wideL 1 7) := rfl
theorem B52_i_Element_included_1_I6 : B52 119 = some (plainE g_included1) := rfl
theorem B52_i_IsElement_I6 : B52 48 = some (g_isElem) := rfl
theorem B52_s_l02Empty_I6 : B52 70 = some (g_empty) := rfl
theorem B52_s_l02Is_I6 : B52 68 = some (g_isElem) := rfl
theorem B52_s_l02Put_I6 : B52 61 = some (g_put) := rfl
theorem B52_w_eqElement_I6 : B52 19 = some (g_eqElement) := rfl
theorem B52_w_heldElement_I6 : B52 26 = some (g_heldElement) := rfl
theorem B52_w_markElement_I6 : B52 20 = some (g_markElement) := rfl
theorem B52_w_szElement_I6 : B52 14 = some (g_szElement) := rfl
theorem B52_w_toElement_I6 : B52 16 = some (g_toElement) := rfl
theorem B52_s_l02Wider_I6 : B52 80 = some (plainE g_wider) := rfl
theorem B52_i_Element_included_I6 : B52 81 = some (g_included) := rfl
theorem B52_s_IncludeElement_I6 : B52 33 = some (g_el1 inclOf) := rfl
theorem B52_i_IncludeElement_I6 : B52 34 = some (g_el1 inclOf) := rfl


def a_w_FnExactIncludeElement : AC := .seq (.region [⟨some 1, none, .op (.box (.t 0))⟩,
     ⟨some 2, none, .op (.mov (.c (.bool false)))⟩]) (.seq (.region [⟨some 3, none, .op (.mov (.c (.int .i64 1048576)))⟩]) (.seq (.region [⟨some 14, none, .op (.loadN 4 (.t 1))⟩,
     ⟨some 15, none, .op (.mov (.t 3))⟩,
     ⟨some 16, none, .call (.c (.fn 14 [] [])) [(.t 14), (.t 15)]⟩,
     ⟨some 3, none, .op (.mov (.t 16))⟩]) (.seq (.seq (.region [⟨some 17, none, .op (.mov (.t 3))⟩,
      ⟨some 18, none, .op (.bin .lss (.t 17) (.c (.int .i64 0)))⟩]) (.cond 18 (.seq (.region [⟨some 2, none, .op (.mov (.c (.bool true)))⟩]) .ret) .skip)) (.seq (.region [⟨some 20, none, .op (.loadN 4 (.t 1))⟩,
     ⟨some 21, none, .call (.c (.fn 16 [] [])) [(.t 20)]⟩,
     ⟨some 22, none, .call (.c (.fn 33 [] [])) [(.t 21)]⟩,
     ⟨some 19, none, .op (.mov (.t 22))⟩,
     ⟨some 23, none, .op (.ext 0 (.t 19))⟩,
     ⟨some 24, none, .op (.ext 1 (.t 19))⟩,
     ⟨some 4, none, .op (.alloc [(.int .i64 0), (.int .i64 0), (.int .i64 0), (.v (.slice none 0 0))])⟩,
     ⟨none, none, .op (.storeN 4 (.t 4) (.t 23))⟩,
     ⟨some 5, none, .op (.mov (.t 24))⟩]) (.seq (.region [⟨some 25, none, .op (.loadN 4 (.t 1))⟩,
     ⟨some 26, none, .call (.c (.fn 16 [] [])) [(.t 25)]⟩,
     ⟨some 6, none, .op (.alloc [(.int .i64 0), (.int .i64 0), (.int .i64 0), (.v (.slice none 0 0))])⟩,
     ⟨none, none, .op (.storeN 4 (.t 6) (.t 26))⟩]) (.seq (.region [⟨some 28, none, .op (.loadN 4 (.t 6))⟩,
     ⟨some 29, none, .call (.c (.fn 34 [] [])) [(.t 28)]⟩,
     ⟨some 27, none, .op (.mov (.t 29))⟩,
     ⟨some 30, none, .op (.ext 0 (.t 27))⟩,
     ⟨some 31, none, .op (.ext 1 (.t 27))⟩,
     ⟨some 7, none, .op (.alloc [(.int .i64 0), (.int .i64 0), (.int .i64 0), (.v (.slice none 0 0))])⟩,
     ⟨none, none, .op (.storeN 4 (.t 7) (.t 30))⟩,
     ⟨some 8, none, .op (.mov (.t 31))⟩]) (.seq (.seq (.region [⟨some 32, none, .op (.loadN 4 (.t 7))⟩,
      ⟨some 33, none, .op (.loadN 4 (.t 4))⟩,
      ⟨some 34, none, .call (.c (.fn 19 [] [])) [(.t 32), (.t 33)]⟩,
      ⟨some 35, none, .op (.un .not (.t 34))⟩,
      ⟨some 36, none, .op (.mov (.t 35))⟩,
      ⟨some 37, some (36, false), .op (.mov (.t 8))⟩,
      ⟨some 38, some (36, false), .op (.mov (.t 5))⟩,
      ⟨some 39, some (36, false), .op (.bin .neq (.t 37) (.t 38))⟩,
      ⟨some 40, none, .op (.pick (.t 36) (.c (.bool true)) (.t 39))⟩]) (.cond 40 (.seq (.region [⟨some 2, none, .op (.mov (.c (.bool false)))⟩]) .ret) .skip)) (.seq (.seq (.draw true [⟨some 41, none, .op (.loadN 4 (.t 6))⟩,
      ⟨some 42, none, .op (.loadN 4 (.t 1))⟩,
      ⟨some 43, none, .call (.c (.fn 16 [] [])) [(.t 42)]⟩,
      ⟨some 44, none, .call (.c (.fn 19 [] [])) [(.t 41), (.t 43)]⟩,
      ⟨some 45, none, .op (.un .not (.t 44))⟩]) (.cond 45 (.seq (.region [⟨some 2, none, .op (.mov (.c (.bool false)))⟩]) .ret) .skip)) (.seq (.region [⟨some 9, none, .op (.mov (.c (.int .i64 1)))⟩]) (.seq (.region [⟨some 46, none, .op (.loadN 4 (.t 6))⟩,
     ⟨some 47, none, .op (.mov (.t 9))⟩,
     ⟨some 48, none, .call (.c (.fn 20 [] [])) [(.t 46), (.t 47)]⟩,
     ⟨some 9, none, .op (.mov (.t 48))⟩]) (.seq (.seq (.region [⟨some 49, none, .op (.mov (.t 9))⟩,
      ⟨some 50, none, .op (.bin .lss (.t 49) (.c (.int .i64 0)))⟩,
      ⟨some 51, none, .op (.mov (.t 50))⟩,
      ⟨some 52, some (51, false), .op (.loadN 4 (.t 7))⟩,
      ⟨some 53, some (51, false), .op (.loadN 4 (.t 4))⟩,
      ⟨some 54, some (51, false), .call (.c (.fn 19 [] [])) [(.t 52), (.t 53)]⟩,
      ⟨some 55, some (51, false), .op (.un .not (.t 54))⟩,
      ⟨some 56, none, .op (.pick (.t 51) (.c (.bool true)) (.t 55))⟩,
      ⟨some 57, none, .op (.mov (.t 56))⟩,
      ⟨some 58, some (57, false), .op (.mov (.t 8))⟩,
      ⟨some 59, some (57, false), .op (.mov (.t 5))⟩,
      ⟨some 60, some (57, false), .op (.bin .neq (.t 58) (.t 59))⟩,
      ⟨some 61, none, .op (.pick (.t 57) (.c (.bool true)) (.t 60))⟩]) (.cond 61 (.seq (.region [⟨some 2, none, .op (.mov (.c (.bool false)))⟩]) .ret) .skip)) (.seq (.region [⟨some 10, none, .op (.mov (.c (.int .i64 1)))⟩]) (.seq (.region [⟨some 62, none, .op (.loadN 4 (.t 7))⟩,
     ⟨some 63, none, .op (.mov (.t 10))⟩,
     ⟨some 64, none, .call (.c (.fn 20 [] [])) [(.t 62), (.t 63)]⟩,
     ⟨some 10, none, .op (.mov (.t 64))⟩]) (.seq (.region [⟨some 11, none, .op (.mov (.c (.int .i64 1)))⟩]) (.seq (.region [⟨some 65, none, .op (.loadN 4 (.t 7))⟩,
     ⟨some 66, none, .op (.mov (.t 11))⟩,
     ⟨some 67, none, .call (.c (.fn 26 [] [])) [(.t 65), (.t 66)]⟩,
     ⟨some 11, none, .op (.mov (.t 67))⟩]) (.seq (.seq (.region [⟨some 68, none, .op (.mov (.t 11))⟩,
      ⟨some 69, none, .op (.bin .lss (.t 68) (.c (.int .i64 0)))⟩]) (.cond 69 (.seq (.region [⟨some 2, none, .op (.mov (.c (.bool false)))⟩]) .ret) .skip)) (.seq (.seq (.region [⟨some 70, none, .op (.mov (.t 11))⟩,
      ⟨some 71, none, .op (.mov (.t 10))⟩,
      ⟨some 72, none, .op (.bin .neq (.t 70) (.t 71))⟩]) (.cond 72 (.seq (.region [⟨some 2, none, .op (.mov (.c (.bool false)))⟩]) .ret) .skip)) (.seq (.region [⟨some 74, none, .op (.loadN 4 (.t 1))⟩,
     ⟨some 75, none, .call (.c (.fn 16 [] [])) [(.t 74)]⟩,
     ⟨some 76, none, .call (.c (.fn 34 [] [])) [(.t 75)]⟩,
     ⟨some 73, none, .op (.mov (.t 76))⟩,
     ⟨some 77, none, .op (.ext 0 (.t 73))⟩,
     ⟨some 78, none, .op (.ext 1 (.t 73))⟩,
     ⟨some 12, none, .op (.alloc [(.int .i64 0), (.int .i64 0), (.int .i64 0), (.v (.slice none 0 0))])⟩,
     ⟨none, none, .op (.storeN 4 (.t 12) (.t 77))⟩,
     ⟨some 13, none, .op (.mov (.t 78))⟩]) (.seq (.seq (.region [⟨some 79, none, .op (.loadN 4 (.t 12))⟩,
      ⟨some 80, none, .op (.loadN 4 (.t 4))⟩,
      ⟨some 81, none, .call (.c (.fn 19 [] [])) [(.t 79), (.t 80)]⟩,
      ⟨some 82, none, .op (.un .not (.t 81))⟩,
      ⟨some 83, none, .op (.mov (.t 82))⟩,
      ⟨some 84, some (83, false), .op (.mov (.t 13))⟩,
      ⟨some 85, some (83, false), .op (.mov (.t 5))⟩,
      ⟨some 86, some (83, false), .op (.bin .neq (.t 84) (.t 85))⟩,
      ⟨some 87, none, .op (.pick (.t 83) (.c (.bool true)) (.t 86))⟩]) (.cond 87 (.seq (.region [⟨some 2, none, .op (.mov (.c (.bool false)))⟩]) .ret) .skip)) (.seq (.region [⟨some 11, none, .op (.mov (.c (.int .i64 1)))⟩]) (.seq (.region [⟨some 88, none, .op (.loadN 4 (.t 7))⟩,
     ⟨some 89, none, .op (.mov (.t 11))⟩,
     ⟨some 90, none, .call (.c (.fn 26 [] [])) [(.t 88), (.t 89)]⟩,
     ⟨some 11, none, .op (.mov (.t 90))⟩]) (.seq (.seq (.region [⟨some 91, none, .op (.mov (.t 11))⟩,
      ⟨some 92, none, .op (.bin .lss (.t 91) (.c (.int .i64 0)))⟩]) (.cond 92 (.seq (.region [⟨some 2, none, .op (.mov (.c (.bool false)))⟩]) .ret) .skip)) (.seq (.seq (.region [⟨some 93, none, .op (.mov (.t 11))⟩,
      ⟨some 94, none, .op (.mov (.t 10))⟩,
      ⟨some 95, none, .op (.bin .neq (.t 93) (.t 94))⟩]) (.cond 95 (.seq (.region [⟨some 2, none, .op (.mov (.c (.bool false)))⟩]) .ret) .skip)) (.seq (.region [⟨some 2, none, .op (.mov (.c (.bool true)))⟩]) .ret))))))))))))))))))))))))
theorem r_w_FnExactIncludeElement : readF Try.prog 8 = some ⟨96, a_w_FnExactIncludeElement, [.slot 2]⟩ := by kernel_rfl
theorem law_IncludeElement (H : List AO) (X : AV) (p c n : Int) (ts : List (Int × List Nat × Int)) (h : ArgX H X ts) (hl : ts.length ≤ 9223372036854775807) : Am.Fn Try.prog 8 [.agg [.int .i64 p, .int .i64 c, .int .i64 n, X]] H (fun v H' => v = .bool true ∧ H' = H) := by
  refine Am.Fn.sameB (R := fun v => v = _) B52_ok mixed r_w_FnExactIncludeElement (by simp) (argX_under h) ?_
  have hX := argX_arg h
  have ho := h.1
  have hH : H = [] ∨ ∃ o, H = [o] := by
    rcases h.2 with ⟨_, rfl, _⟩ | ⟨_, rfl, _⟩ | ⟨_, _, _, _, rfl, _⟩
    · exact .inl rfl
    · exact .inr ⟨_, rfl⟩
    · exact .inr ⟨_, rfl⟩
  by_cases hlt : (1048576 : Int) - ts.length < 0
  · have hif : (if (1048576 : Int) - ts.length < 0 then (-1 : Int) else 1048576 - ts.length) = -1 := if_pos hlt
    rcases hH with rfl | ⟨o, rfl⟩
    · simp only [List.nil_append] at hX
      simp (maxSteps := 3000000) only [over4E, heapL, fillA, rd, wrt, wrl, AO.withl, a_w_FnExactIncludeElement, B52_i_Element_changed_I6, B52_i_Element_included_1_I6, B52_i_IsElement_I6, B52_s_l02Empty_I6, B52_s_l02Is_I6, B52_s_l02Put_I6, B52_w_eqElement_I6, B52_w_heldElement_I6, B52_w_markElement_I6, B52_w_szElement_I6, B52_w_toElement_I6, B52_s_l02Wider_I6, B52_i_Element_included_I6, B52_s_IncludeElement_I6, B52_i_IncludeElement_I6, g_ch0, g_el1, g_empty, g_eqElement, g_heldElement, g_included, g_included1, g_isElem, g_markElement, g_put, g_szElement, g_toElement, g_wider, Int.reduceEq, Int.reduceNe, Int.reduceBEq, Int.reduceBNe, Int.reduceLT, Int.reduceLE, Int.reduceAdd, Int.reduceSub, Int.reduceMul, hX, hl, hif, idX_eq, wbE, ↓symP, symE, listE, AK.isCall, enumE, ev, putE, abin, aun, AV.cells, ↓reduceIte, reduceCtorEq, Nat.reduceAdd, Nat.reduceMul, Nat.reduceSub, Nat.reduceEqDiff, Nat.reduceLT, Nat.reduceLeDiff, implies_true, Back, retv, retV, AV.scal, AV.scals]; try simp only [idX_eq, ite_both, pickP_both, not_not_eq, Bool.not_eq_false, Bool.not_eq_true]
    · simp only [List.cons_append, List.nil_append] at hX
      simp (maxSteps := 3000000) only [over4E, heapL, fillA, rd, wrt, wrl, AO.withl, a_w_FnExactIncludeElement, B52_i_Element_changed_I6, B52_i_Element_included_1_I6, B52_i_IsElement_I6, B52_s_l02Empty_I6, B52_s_l02Is_I6, B52_s_l02Put_I6, B52_w_eqElement_I6, B52_w_heldElement_I6, B52_w_markElement_I6, B52_w_szElement_I6, B52_w_toElement_I6, B52_s_l02Wider_I6, B52_i_Element_included_I6, B52_s_IncludeElement_I6, B52_i_IncludeElement_I6, g_ch0, g_el1, g_empty, g_eqElement, g_heldElement, g_included, g_included1, g_isElem, g_markElement, g_put, g_szElement, g_toElement, g_wider, Int.reduceEq, Int.reduceNe, Int.reduceBEq, Int.reduceBNe, Int.reduceLT, Int.reduceLE, Int.reduceAdd, Int.reduceSub, Int.reduceMul, hX, hl, hif, idX_eq, wbE, ↓symP, symE, listE, AK.isCall, enumE, ev, putE, abin, aun, AV.cells, ↓reduceIte, reduceCtorEq, Nat.reduceAdd, Nat.reduceMul, Nat.reduceSub, Nat.reduceEqDiff, Nat.reduceLT, Nat.reduceLeDiff, implies_true, Back, retv, retV, AV.scal, AV.scals]; try simp only [idX_eq, ite_both, pickP_both, not_not_eq, Bool.not_eq_false, Bool.not_eq_true]
      exact ⟨_, rfl⟩
  · have hif : (if (1048576 : Int) - ts.length < 0 then (-1 : Int) else 1048576 - ts.length) = 1048576 - ts.length := if_neg hlt
    have hr := incl_ok p c n ts ho
    generalize he : inclOf p c n ts = r at hr
    obtain ⟨P, C, N, L, E⟩ := r
    obtain ⟨hL, hLl⟩ := hr
    simp only at hL hLl
    have b0 := trms_length ho
    have b1 := tsOf_trms' ho
    have h1 := trms_length hL
    have h2 := tsOf_trms' hL
    have h3 : tsOf L.length (trms (marks L.length 1)) = some (marks L.length 1) := by have := tsOf_trms' (okT_marks L.length 1); rwa [marks_length] at this
    have h6 : ((1 + 18 * L.length : Nat) : Int) < 0 ↔ False := iff_false_intro (by omega)
    have h7 : ((1 + 18 * ts.length : Nat) : Int) < 0 ↔ False := iff_false_intro (by omega)
    have h4 : L.length ≤ 2000000 := by omega
    have h8 : ts.length ≤ 1100000 := by omega
    have h9 : ts.length ≤ 2000000 := by omega
    rcases hH with rfl | ⟨o, rfl⟩
    · simp only [List.nil_append] at hX
      simp (maxSteps := 3000000) only [over4E, heapL, fillA, rd, wrt, wrl, AO.withl, a_w_FnExactIncludeElement, B52_i_Element_changed_I6, B52_i_Element_included_1_I6, B52_i_IsElement_I6, B52_s_l02Empty_I6, B52_s_l02Is_I6, B52_s_l02Put_I6, B52_w_eqElement_I6, B52_w_heldElement_I6, B52_w_markElement_I6, B52_w_szElement_I6, B52_w_toElement_I6, B52_s_l02Wider_I6, B52_i_Element_included_I6, B52_s_IncludeElement_I6, B52_i_IncludeElement_I6, g_ch0, g_el1, g_empty, g_eqElement, g_heldElement, g_included, g_included1, g_isElem, g_markElement, g_put, g_szElement, g_toElement, g_wider, Int.reduceEq, Int.reduceNe, Int.reduceBEq, Int.reduceBNe, Int.reduceLT, Int.reduceLE, Int.reduceAdd, Int.reduceSub, Int.reduceMul, ren_el, elemV, rn_vec, rens_scal _ _ (scals_trms _), rens_scal _ _ (scals_dia _ _), hX, hl, hif, hlt, he, b0, b1, h1, h2, h3, h4, h6, h7, h8, h9, Int.toNat_one, ren_el2, idX_eq, wbE, ↓symP, symE, listE, AK.isCall, enumE, ev, putE, abin, aun, AV.cells, ↓reduceIte, reduceCtorEq, Nat.reduceAdd, Nat.reduceMul, Nat.reduceSub, Nat.reduceEqDiff, Nat.reduceLT, Nat.reduceLeDiff, implies_true, Back, retv, retV, AV.scal, AV.scals]; try simp only [idX_eq, ite_both, pickP_both, not_not_eq, Bool.not_eq_false, Bool.not_eq_true]
      exact ⟨rfl, rfl, rfl, ⟨_, rfl⟩, ⟨_, rfl⟩, rfl⟩
    · simp only [List.cons_append, List.nil_append] at hX
      simp (maxSteps := 3000000) only [over4E, heapL, fillA, rd, wrt, wrl, AO.withl, a_w_FnExactIncludeElement, B52_i_Element_changed_I6, B52_i_Element_included_1_I6, B52_i_IsElement_I6, B52_s_l02Empty_I6, B52_s_l02Is_I6, B52_s_l02Put_I6, B52_w_eqElement_I6, B52_w_heldElement_I6, B52_w_markElement_I6, B52_w_szElement_I6, B52_w_toElement_I6, B52_s_l02Wider_I6, B52_i_Element_included_I6, B52_s_IncludeElement_I6, B52_i_IncludeElement_I6, g_ch0, g_el1, g_empty, g_eqElement, g_heldElement, g_included, g_included1, g_isElem, g_markElement, g_put, g_szElement, g_toElement, g_wider, Int.reduceEq, Int.reduceNe, Int.reduceBEq, Int.reduceBNe, Int.reduceLT, Int.reduceLE, Int.reduceAdd, Int.reduceSub, Int.reduceMul, ren_el, elemV, rn_vec, rens_scal _ _ (scals_trms _), rens_scal _ _ (scals_dia _ _), hX, hl, hif, hlt, he, b0, b1, h1, h2, h3, h4, h6, h7, h8, h9, Int.toNat_one, ren_el2, idX_eq, wbE, ↓symP, symE, listE, AK.isCall, enumE, ev, putE, abin, aun, AV.cells, ↓reduceIte, reduceCtorEq, Nat.reduceAdd, Nat.reduceMul, Nat.reduceSub, Nat.reduceEqDiff, Nat.reduceLT, Nat.reduceLeDiff, implies_true, Back, retv, retV, AV.scal, AV.scals]; try simp only [idX_eq, ite_both, pickP_both, not_not_eq, Bool.not_eq_false, Bool.not_eq_true]
      exact ⟨rfl, rfl, rfl, ⟨_, rfl⟩, ⟨_, rfl⟩, rfl, ⟨_, rfl⟩⟩
end Go.Proofs.Ytkgoadglalpbfaa
