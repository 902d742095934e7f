/- Contracts: partial closures of elements. -/
import Derived.Test.YtkgoadglalpbfaaJ2
namespace Go.Proofs.Ytkgoadglalpbfaa
open Go.Am Go.Dia
set_option linter.unusedSimpArgs false
set_option linter.unusedVariables false
set_option maxRecDepth 4000
set_option maxHeartbeats 1000000

def κC (p c n : Int) (m : List Nat) : Int := powP p c (lpC n.toNat m)
theorem close_at {n : Int} {m : List Nat} (hn : 2 ≤ n ∧ n ≤ 8) (hs : isS n.toNat m = true) : okD (closeL n.toNat m) ∧ isS (n - 1).toNat (closeL n.toNat m) = true := by
  have h := close_isS (n := n.toNat) (by omega) hs
  rw [show (n - 1).toNat = n.toNat - 1 by omega]
  exact ⟨h.2, h.1⟩
theorem clos_okCh {p c n : Int} {a : List (Int × List Nat × Int)} (hp : 2 ≤ p ∧ p ≤ 97) (hn : 2 ≤ n ∧ n ≤ 8) (h : GoodT p n a) : okCh (n - 1) 10000 (closeL n.toNat) (κC p c n) a := fun t ht => by
  have h1 := close_at hn (h.dia t ht).2
  have h2 := h.fac t ht
  have h3 := powP_bd (c := c) hp.1 (lpC n.toNat t.2.1)
  have h4 : 0 ≤ t.2.2 * κC p c n t.2.1 := Int.mul_nonneg (by omega) h3.1
  have h5 : t.2.2 * κC p c n t.2.1 ≤ 96 * 96 := Int.mul_le_mul (by omega) (by unfold κC; omega) h3.1 (by omega)
  exact ⟨h1.1, h1.2, by omega, by omega⟩
def g_chC : BE := fun hp xs => match xs with
  | [.ptr b 0, .int .i64 n', .fn f [] [.ptr b' 0]] => match rd hp b with
    | some (.int .i64 p :: .int .i64 c :: .int .i64 n :: .slc ba 0 la false 0 :: _) => match rd hp ba with
      | some L => match tsOf la L with
        | some a => chk (((f = 84 ∧ b' = b) ∧ n' = n - 1) ∧ ((2 ≤ p ∧ p ≤ 97) ∧ (0 ≤ c ∧ c ≤ p - 1) ∧ (2 ≤ n ∧ n ≤ 8)) ∧ goodT p n a ∧ la ≤ 100000) (some (elemV p c n' hp.length (chP p n' (closeL n.toNat) (κC p c n) [] a).length, hp ++ [.vec 18 (trms (chP p n' (closeL n.toNat) (κC p c n) [] a))]))
        | none => none
      | none => none
    | _ => none
  | _ => none
theorem k_chC : Am.Callee Try.prog 73 g_chC := Callee.fp fun hp xs v hp' he => by
  unfold g_chC at he
  split at he
  · rename_i b n' f b'
    split at he
    · rename_i p c n ba la L0 hL0
      split at he
      · rename_i L hL
        split at he
        · rename_i a h1
          obtain ⟨⟨⟨⟨a0, a1⟩, a2⟩, ⟨a3, a7, a4⟩, a5, a6⟩, he2⟩ := chk_some he
          simp only [Option.some.injEq, Prod.mk.injEq] at he2
          obtain ⟨rfl, rfl⟩ := he2
          subst a0; subst a1; subst a2
          obtain ⟨e1, e2, e3, e4⟩ := tsOf_some h1
          have g1 := trms_length e2
          have hgg := a5.good e2
          have hch := clos_okCh (c := c) a3 a4 hgg
          have hfn := c_changed B56_ok (B := B56) rfl (fid := 84) (g := g_pc1) rfl (caps := [.ptr 1 0]) ⟨by simp [AV.under], trivial⟩ rfl rfl p c n (n - 1) a (closeL n.toNat) (κC p c n) a3 (by omega) e2 (fun t ht => (hgg.dia t ht).1) (by omega) hch fun t ht rest => by
            have h2 : (isS n.toNat t.2.1 = true ∧ 2 ≤ n) ∧ 0 ≤ c ∧ c ≤ p - 1 := ⟨⟨(hgg.dia t ht).2, by omega⟩, a7⟩
            simp only [g_pc1, rd, List.getElem?_cons_succ, List.getElem?_cons_zero, elC, diaOf_dia (e2 t ht), chk_ok h2]
            rfl
          have hlaw := ch_law (p := p) (by omega) (by omega) hch
          have hlen : (restT p (chL (n - 1) (closeL n.toNat) (κC p c n) [] a)).length = (chP p (n - 1) (closeL n.toNat) (κC p c n) [] a).length := by rw [← hlaw]; exact (sortT_perm _).length_eq.symm
          rw [hlaw, hlen] at hfn
          refine ⟨[(ba, 0), (b', 0)], [.ptr 1 0, .int .i64 (n - 1), .fn 84 [] [.ptr 1 0]], _, _, _, hfn, by simp [AV.ren, AV.rens, ofL], rfl,
            ⟨⟨L, hL, by omega, by rw [List.drop_zero, rens_scal _ _ (scals_trms _), g1, e1]; exact e3⟩, ⟨_, hL0, by simp, by simp [AV.rens, AV.ren, ofL, e1]⟩, trivial⟩, rfl,
            ⟨unders_scal _ _ (scals_trms _), ⟨trivial, trivial, trivial, by simp [AV.under], trivial⟩, trivial⟩, ⟨by simp [AV.under], trivial, ⟨trivial, by simp [AV.under], trivial⟩, trivial⟩, by simp [elemV, AV.ren, AV.rens, Ren.ext], ?_⟩
          simp [after, upd, AO.wr, AO.ren, rens_scal _ _ (scals_trms _)]
        · cases he
      · cases he
    · cases he
  · cases he
def B57 : Book := (B56.put 73 (g_chC))
theorem B57_ok : BookOk Try.prog B57 := (B56_ok.put (k_chC))
theorem B57_i_IsElement_J3 : B57 48 = some (g_isElem) := rfl
theorem B57_i_PartialClosure_1_J3 : B57 84 = some (g_pc1) := rfl
theorem B57_s_l02Closed_J3 : B57 82 = some (plainE g_sclosed) := rfl
theorem B57_s_l02Empty_J3 : B57 70 = some (g_empty) := rfl
theorem B57_s_l02Is_J3 : B57 68 = some (g_isElem) := rfl
theorem B57_s_l02Power_J3 : B57 83 = some (plainE g_pow) := rfl
theorem B57_s_l02Put_J3 : B57 61 = some (g_put) := rfl
theorem B57_w_eqElement_J3 : B57 19 = some (g_eqElement) := rfl
theorem B57_w_heldElement_J3 : B57 26 = some (g_heldElement) := rfl
theorem B57_w_markElement_J3 : B57 20 = some (g_markElement) := rfl
theorem B57_w_szElement_J3 : B57 14 = some (g_szElement) := rfl
theorem B57_w_toElement_J3 : B57 16 = some (g_toElement) := rfl
theorem B57_i_Element_changed_J3 : B57 73 = some (g_chC) := rfl


def closOf (p c n : Int) (a : List (Int × List Nat × Int)) : ER :=
  if elemB p c n a = false then (0, 0, 0, [], 1) else if n = 1 then (0, 0, 0, [], 2) else (p, c, n - 1, chP p (n - 1) (closeL n.toNat) (κC p c n) [] a, 0)
def a_s_PartialClosure_l1 : AC := .seq (.seq (.region [⟨some 24, none, .op (.mov (.t 5))⟩,
         ⟨some 25, none, .op (.faddr 3 (.t 1))⟩,
         ⟨some 26, none, .op (.load1 (.t 25))⟩,
         ⟨some 27, none, .op (.len .slc (.t 26))⟩,
         ⟨some 28, none, .op (.bin .lss (.t 24) (.t 27))⟩]) (.cond 28 .skip (.exit 1))) (.seq (.block 2 (.seq (.region [⟨some 32, none, .op (.faddr 3 (.t 1))⟩,
          ⟨some 33, none, .op (.load1 (.t 32))⟩,
          ⟨some 34, none, .op (.mov (.t 5))⟩,
          ⟨some 35, none, .op (.iaddrS 18 (.t 33) (.t 34))⟩,
          ⟨some 36, none, .op (.faddr 0 (.t 35))⟩,
          ⟨some 37, none, .op (.loadN 17 (.t 36))⟩,
          ⟨some 38, none, .call (.c (.fn 82 [] [])) [(.t 37)]⟩,
          ⟨some 31, none, .op (.mov (.t 38))⟩,
          ⟨some 39, none, .op (.ext 0 (.t 31))⟩,
          ⟨some 40, none, .op (.ext 1 (.t 31))⟩,
          ⟨some 6, none, .op (.alloc [(.int .i64 0), (.int .u8 0), (.int .u8 0), (.int .u8 0), (.int .u8 0), (.int .u8 0), (.int .u8 0), (.int .u8 0), (.int .u8 0), (.int .u8 0), (.int .u8 0), (.int .u8 0), (.int .u8 0), (.int .u8 0), (.int .u8 0), (.int .u8 0), (.int .u8 0)])⟩,
          ⟨none, none, .op (.storeN 17 (.t 6) (.t 39))⟩,
          ⟨some 7, none, .op (.mov (.t 40))⟩]) (.draw true [⟨some 41, none, .op (.faddr 0 (.t 1))⟩,
         ⟨some 42, none, .op (.load1 (.t 41))⟩,
         ⟨some 43, none, .op (.faddr 3 (.t 4))⟩,
         ⟨some 44, none, .op (.load1 (.t 43))⟩,
         ⟨some 45, none, .op (.loadN 17 (.t 6))⟩,
         ⟨some 46, none, .op (.faddr 3 (.t 1))⟩,
         ⟨some 47, none, .op (.load1 (.t 46))⟩,
         ⟨some 48, none, .op (.mov (.t 5))⟩,
         ⟨some 49, none, .op (.iaddrS 18 (.t 47) (.t 48))⟩,
         ⟨some 50, none, .op (.faddr 17 (.t 49))⟩,
         ⟨some 51, none, .op (.load1 (.t 50))⟩,
         ⟨some 52, none, .op (.faddr 0 (.t 1))⟩,
         ⟨some 53, none, .op (.load1 (.t 52))⟩,
         ⟨some 54, none, .op (.faddr 1 (.t 1))⟩,
         ⟨some 55, none, .op (.load1 (.t 54))⟩,
         ⟨some 56, none, .op (.mov (.t 7))⟩,
         ⟨some 57, none, .call (.c (.fn 83 [] [])) [(.t 53), (.t 55), (.t 56)]⟩,
         ⟨some 58, none, .op (.bin .mul (.t 51) (.t 57))⟩,
         ⟨some 59, none, .call (.c (.fn 61 [] [])) [(.t 42), (.t 44), (.t 45), (.t 58)]⟩,
         ⟨some 60, none, .op (.faddr 3 (.t 4))⟩,
         ⟨none, none, .op (.store1 (.t 60) (.t 59))⟩]))) (.region [⟨some 29, none, .op (.mov (.t 5))⟩,
       ⟨some 30, none, .op (.bin .add (.t 29) (.c (.int .i64 1)))⟩,
       ⟨some 5, none, .op (.mov (.t 30))⟩]))
def a_s_PartialClosure_k1 : AC := .seq (.region [⟨some 61, none, .op (.loadN 4 (.t 4))⟩,
     ⟨none, none, .op (.storeN 4 (.t 2) (.t 61))⟩,
     ⟨some 3, none, .op (.mov (.c (.int .i64 0)))⟩]) .ret
def a_s_PartialClosure : AC := .seq (.region [⟨some 1, none, .op (.box (.t 0))⟩,
     ⟨some 2, none, .op (.alloc [(.int .i64 0), (.int .i64 0), (.int .i64 0), (.v (.slice none 0 0))])⟩,
     ⟨some 3, none, .op (.mov (.c (.int .i64 0)))⟩]) (.seq (.block 0 (.seq (.region [⟨some 9, none, .op (.loadN 4 (.t 1))⟩,
       ⟨some 10, none, .call (.c (.fn 68 [] [])) [(.t 9)]⟩,
       ⟨some 11, none, .op (.un .not (.t 10))⟩,
       ⟨some 8, none, .op (.mov (.t 11))⟩]) (.cond 8 (.seq (.region [⟨some 12, none, .op (.build [(.int .i64 0), (.int .i64 0), (.int .i64 0), (.v (.slice none 0 0))] [])⟩,
         ⟨none, none, .op (.storeN 4 (.t 2) (.t 12))⟩,
         ⟨some 3, none, .op (.mov (.c (.int .i64 1)))⟩]) .ret) (.seq (.region [⟨some 14, none, .op (.faddr 2 (.t 1))⟩,
         ⟨some 15, none, .op (.load1 (.t 14))⟩,
         ⟨some 16, none, .op (.bin .eql (.t 15) (.c (.int .i64 1)))⟩,
         ⟨some 13, none, .op (.mov (.t 16))⟩]) (.cond 13 (.seq (.region [⟨some 17, none, .op (.build [(.int .i64 0), (.int .i64 0), (.int .i64 0), (.v (.slice none 0 0))] [])⟩,
           ⟨none, none, .op (.storeN 4 (.t 2) (.t 17))⟩,
           ⟨some 3, none, .op (.mov (.c (.int .i64 2)))⟩]) .ret) .skip))))) (.seq (.region [⟨some 18, none, .op (.loadN 4 (.t 1))⟩,
     ⟨some 19, none, .call (.c (.fn 70 [] [])) [(.t 18)]⟩,
     ⟨some 4, none, .op (.alloc [(.int .i64 0), (.int .i64 0), (.int .i64 0), (.v (.slice none 0 0))])⟩,
     ⟨none, none, .op (.storeN 4 (.t 4) (.t 19))⟩]) (.seq (.region [⟨some 20, none, .op (.faddr 2 (.t 1))⟩,
     ⟨some 21, none, .op (.load1 (.t 20))⟩,
     ⟨some 22, none, .op (.bin .sub (.t 21) (.c (.int .i64 1)))⟩,
     ⟨some 23, none, .op (.faddr 2 (.t 4))⟩,
     ⟨none, none, .op (.store1 (.t 23) (.t 22))⟩]) (.seq (.seq (.region [⟨some 5, none, .op (.mov (.c (.int .i64 0)))⟩]) (.block 1 (.loop a_s_PartialClosure_l1))) a_s_PartialClosure_k1))))
theorem r_s_PartialClosure : readF Try.prog 35 = some ⟨62, a_s_PartialClosure, [.cellN 2 4, .slot 3]⟩ := by kernel_rfl
theorem c_s_PartialClosure (p c n : Int) (a : List (Int × List Nat × Int)) (ha : okT a) (hl : a.length ≤ 1100000) :
    Am.Fn Try.prog 35 [elemV p c n 0 a.length] [.ro (trms a)] (Elem1 (trms a) (closOf p c n a)) := by
  refine Am.Fn.ofW B57_ok mixed r_s_PartialClosure (by simp) (ro_under (scals_trms _)) ?_
  have hal := trms_length ha
  have hts := tsOf_trms' ha
  have hle : a.length ≤ 1000000000 := by omega
  cases hE : elemB p c n a with
  | false =>
    simp (maxSteps := 3000000) only [over4E, heapL, fillA, rd, wrt, wrl, AO.withl, a_s_PartialClosure, B57_i_IsElement_J3, B57_i_PartialClosure_1_J3, B57_s_l02Closed_J3, B57_s_l02Empty_J3, B57_s_l02Is_J3, B57_s_l02Power_J3, B57_s_l02Put_J3, B57_w_eqElement_J3, B57_w_heldElement_J3, B57_w_markElement_J3, B57_w_szElement_J3, B57_w_toElement_J3, B57_i_Element_changed_J3, g_chC, g_empty, g_eqElement, g_heldElement, g_isElem, g_markElement, g_pc1, g_pow, g_put, g_sclosed, g_szElement, g_toElement, elemV, hal, hts, hle, hE, Int.reduceEq, Int.reduceNe, Int.reduceBEq, Int.reduceBNe, Int.reduceLT, Int.reduceLE, Int.reduceAdd, Int.reduceSub, Int.reduceMul, idX_eq, wbE, ↓symP, symE, listE, AK.isCall, enumE, ev, putE, abin, aun, AV.cells, ↓reduceIte, reduceCtorEq, Nat.reduceAdd, Nat.reduceMul, Nat.reduceSub, Nat.reduceEqDiff, Nat.reduceLT, Nat.reduceLeDiff, implies_true, Back, retv, retV, AV.scal, AV.scals]; try simp only [idX_eq, ite_both, pickP_both, not_not_eq, Bool.not_eq_false, Bool.not_eq_true]
    have e : closOf p c n a = (0, 0, 0, [], 1) := by unfold closOf; rw [if_pos hE]
    rw [e]
    exact ⟨rfl, errRet1 (scals_trms a) rfl rfl rfl rfl (by decide)⟩
  | true =>
    obtain ⟨h1, h2, h3, h4⟩ := elem_bd hE
    by_cases hn8e : n = 1
    · have e : closOf p c n a = (0, 0, 0, [], 2) := by unfold closOf; rw [if_neg (by rw [hE]; simp), if_pos hn8e]
      rw [e]
      subst hn8e
      simp (maxSteps := 3000000) only [over4E, heapL, fillA, rd, wrt, wrl, AO.withl, a_s_PartialClosure, B57_i_IsElement_J3, B57_i_PartialClosure_1_J3, B57_s_l02Closed_J3, B57_s_l02Empty_J3, B57_s_l02Is_J3, B57_s_l02Power_J3, B57_s_l02Put_J3, B57_w_eqElement_J3, B57_w_heldElement_J3, B57_w_markElement_J3, B57_w_szElement_J3, B57_w_toElement_J3, B57_i_Element_changed_J3, g_chC, g_empty, g_eqElement, g_heldElement, g_isElem, g_markElement, g_pc1, g_pow, g_put, g_sclosed, g_szElement, g_toElement, elemV, hal, hts, hle, hE, Int.reduceEq, Int.reduceNe, Int.reduceBEq, Int.reduceBNe, Int.reduceLT, Int.reduceLE, Int.reduceAdd, Int.reduceSub, Int.reduceMul, idX_eq, wbE, ↓symP, symE, listE, AK.isCall, enumE, ev, putE, abin, aun, AV.cells, ↓reduceIte, reduceCtorEq, Nat.reduceAdd, Nat.reduceMul, Nat.reduceSub, Nat.reduceEqDiff, Nat.reduceLT, Nat.reduceLeDiff, implies_true, Back, retv, retV, AV.scal, AV.scals]; try simp only [idX_eq, ite_both, pickP_both, not_not_eq, Bool.not_eq_false, Bool.not_eq_true]
      exact ⟨rfl, errRet1 (scals_trms a) rfl rfl rfl rfl (by decide)⟩
    have hn7 : 2 ≤ n ∧ n ≤ 8 := by omega
    have hw1 : wrapK .i64 (n - 1) = n - 1 := wrap64 (by omega) (by omega)
    have hgg := goodT_of ha hE
    have hch := clos_okCh (c := c) h1 hn7 hgg
    have hn8 : 0 ≤ n ∧ n ≤ 8 := by omega
    have hn8' : 0 ≤ n - 1 ∧ n - 1 ≤ 8 := by omega
    have hn0 : 2 ≤ n := by omega
    have h0 : GoodT p (n - 1) [] := ⟨(fun t h => by cases h), (fun t h => by cases h), (fun t h => by cases h), .nil⟩
    have e : closOf p c n a = (p, c, n - 1, chP p (n - 1) (closeL n.toNat) (κC p c n) [] a, 0) := by unfold closOf; rw [if_neg (by rw [hE]; simp), if_neg hn8e]
    rw [e]
    simp (maxSteps := 3000000) only [over4E, heapL, fillA, rd, wrt, wrl, AO.withl, a_s_PartialClosure, B57_i_IsElement_J3, B57_i_PartialClosure_1_J3, B57_s_l02Closed_J3, B57_s_l02Empty_J3, B57_s_l02Is_J3, B57_s_l02Power_J3, B57_s_l02Put_J3, B57_w_eqElement_J3, B57_w_heldElement_J3, B57_w_markElement_J3, B57_w_szElement_J3, B57_w_toElement_J3, B57_i_Element_changed_J3, g_chC, g_empty, g_eqElement, g_heldElement, g_isElem, g_markElement, g_pc1, g_pow, g_put, g_sclosed, g_szElement, g_toElement, elemV, hal, hts, hle, hE, hn8e, hw1, Int.reduceEq, Int.reduceNe, Int.reduceBEq, Int.reduceBNe, Int.reduceLT, Int.reduceLE, Int.reduceAdd, Int.reduceSub, Int.reduceMul, idX_eq, wbE, ↓symP, symE, listE, AK.isCall, enumE, ev, putE, abin, aun, AV.cells, ↓reduceIte, reduceCtorEq, Nat.reduceAdd, Nat.reduceMul, Nat.reduceSub, Nat.reduceEqDiff, Nat.reduceLT, Nat.reduceLeDiff, implies_true, Back, retv, retV, AV.scal, AV.scals]; try simp only [idX_eq, ite_both, pickP_both, not_not_eq, Bool.not_eq_false, Bool.not_eq_true]
    refine ⟨rfl, rfl, ?_⟩
    refine WA.loopB B57_ok (fun s => ∃ (i : Nat) (acc : List (Int × List Nat × Int)), i ≤ a.length ∧ acc = chP p (n - 1) (closeL n.toNat) (κC p c n) [] (a.take i) ∧
      s = ⟨[(5, .int .i64 i), (4, .ptr 3 0), (3, .int .i64 0), (2, .ptr 2 0), (1, .ptr 1 0)], [.ro (trms a), .cells [.int .i64 p, .int .i64 c, .int .i64 n, .slc 0 0 a.length false 0], nilE, .cells [.int .i64 p, .int .i64 c, .int .i64 (n - 1), .slc 4 0 acc.length false 0], .vec 18 (trms acc)]⟩)
      (fun s => match get s.env 5 with | .int _ x => a.length - x.toNat | _ => 0) ⟨_, Weak.keep [0, 1, 2, 4, 3] [5, 4, 3, 2, 1] ⟨by decide, ?_⟩ ?_, 0, [], by omega, by simp [chP], ?_⟩ ?_
    · simp only [withins_scal _ _ (scals_trms _), keepW, keepL, AV.within, AV.withins, ↓reduceIte, reduceCtorEq, Nat.reduceEqDiff, Nat.reduceBEq, implies_true, Nat.reduceAdd]
    · simp only [withins_scal _ _ (scals_trms _), keepW, keepL, AV.within, AV.withins, ↓reduceIte, reduceCtorEq, Nat.reduceEqDiff, Nat.reduceBEq, implies_true, Nat.reduceAdd]
    · simp only [rens_scal _ _ (scals_trms _), keptL, keptW, keptE, kepts, slots, ↓reduceIte, reduceCtorEq, Nat.reduceEqDiff, AV.ren, AV.rens, pos, Nat.reduceAdd]
      rfl
    rintro s ⟨i, acc, hi, hacc, rfl⟩
    by_cases hlt : i < a.length
    · have hg := chP_good (p := p) (by omega) h0 (hch.take i)
      rw [← hacc] at hg
      have hgl := hg.2
      rw [List.length_take, Nat.min_eq_left hi, List.length_nil] at hgl
      have hli : (i : Int) < a.length := by omega
      have hli' : (0 : Int) ≤ i := by omega
      have hd := trms_dia17 ha hlt
      have hf := trms_fac ha hlt
      have hok := ha _ (List.getElem_mem hlt)
      have hsz := hgg.dia _ (List.getElem_mem hlt)
      have hfc := hgg.fac _ (List.getElem_mem hlt)
      rw [hsz.1] at hd
      have hnext := chP_succ (p := p) (n := n - 1) (φ := closeL n.toNat) (κ := κC p c n) (acc := []) hlt
      rw [← hacc] at hnext
      have hsm := hsz.2
      generalize a[i].2.1 = m at hd hok hsm hnext
      generalize a[i].2.2 = f at hf hfc hnext
      have hφ := (close_at hn7 hsm).1
      have hw : wrapK .i64 ((i : Int) + 1) = ((i + 1 : Nat) : Int) := by rw [wrap64 (by omega) (by omega)]; rfl
      have hb1 : i * 18 < a.length * 18 := by omega
      have hb2 : i * 18 + 17 ≤ a.length * 18 := by omega
      have hb3 : i * 18 + 17 < a.length * 18 := by omega
      have hfit := hg.1.fit (by omega) (by omega)
      have hacl := trms_length hg.1.ok
      have hpp : 0 < p ∧ p ≤ 1000000 := by omega
      have hpb := powP_bd (c := c) h1.1 (lpC n.toNat m)
      have hκ : κC p c n m = powP p c (lpC n.toNat m) := rfl
      have hfk0 : 0 ≤ f * powP p c (lpC n.toNat m) := Int.mul_nonneg (by omega) hpb.1
      have hfk1 : f * powP p c (lpC n.toNat m) ≤ 96 * 96 := Int.mul_le_mul (by omega) (by omega) hpb.1 (by omega)
      have hwk : wrapK .i64 (f * powP p c (lpC n.toNat m)) = f * powP p c (lpC n.toNat m) := wrap64 (by omega) (by omega)
      have hlpb : (0 : Int) ≤ (lpC n.toNat m : Nat) ∧ ((lpC n.toNat m : Nat) : Int) ≤ 1000000 := by unfold lpC; split <;> omega
      have hφl := hφ.1
      rw [hκ] at hnext
      by_cases hz : (f * powP p c (lpC n.toNat m)).emod p = 0
      · simp (maxSteps := 3000000) only [over4E, heapL, fillA, rd, wrt, wrl, AO.withl, a_s_PartialClosure_l1, B57_i_IsElement_J3, B57_i_PartialClosure_1_J3, B57_s_l02Closed_J3, B57_s_l02Empty_J3, B57_s_l02Is_J3, B57_s_l02Power_J3, B57_s_l02Put_J3, B57_w_eqElement_J3, B57_w_heldElement_J3, B57_w_markElement_J3, B57_w_szElement_J3, B57_w_toElement_J3, B57_i_Element_changed_J3, g_chC, g_empty, g_eqElement, g_heldElement, g_isElem, g_markElement, g_pc1, g_pow, g_put, g_sclosed, g_szElement, g_toElement, hli, hli', hal, hb1, hb2, hb3, hd, hf, hw, tsOf_trms' hg.1.ok, diaOf_dia hok, diaOf_dia hφ, hsm, hacl, hpp, hn8', hn0, h1, h2, hlpb, hwk, dia_zero, dia_zero_len, over_dia0 hφl, dia_length, hφl, dia_take17 hφl, ones_dia, List.length_replicate, Nat.le_refl, hfit, hz, and_self, Int.reduceEq, Int.reduceNe, Int.reduceBEq, Int.reduceBNe, Int.reduceLT, Int.reduceLE, Int.reduceAdd, Int.reduceSub, Int.reduceMul, idX_eq, wbE, ↓symP, symE, listE, AK.isCall, enumE, ev, putE, abin, aun, AV.cells, ↓reduceIte, reduceCtorEq, Nat.reduceAdd, Nat.reduceMul, Nat.reduceSub, Nat.reduceEqDiff, Nat.reduceLT, Nat.reduceLeDiff, implies_true, Back, retv, retV, AV.scal, AV.scals]; try simp only [idX_eq, ite_both, pickP_both, not_not_eq, Bool.not_eq_false, Bool.not_eq_true]
        refine ⟨⟨_, rfl⟩, ⟨_, rfl⟩, rfl, _, Weak.keep [0, 1, 2, 3, 4] [5, 4, 3, 2, 1] ⟨by decide, ?_⟩ ?_, ⟨i + 1, acc, by omega, by rw [hnext, putT_eq, if_pos hz], ?_⟩, ?_⟩
        · simp only [withins_scal _ _ (scals_trms _), keepW, keepL, AV.within, AV.withins, ↓reduceIte, reduceCtorEq, Nat.reduceEqDiff, Nat.reduceBEq, implies_true, Nat.reduceAdd]
        · simp only [withins_scal _ _ (scals_trms _), keepW, keepL, AV.within, AV.withins, ↓reduceIte, reduceCtorEq, Nat.reduceEqDiff, Nat.reduceBEq, implies_true, Nat.reduceAdd]
        · simp only [rens_scal _ _ (scals_trms _), keptL, keptW, keptE, kepts, slots, ↓reduceIte, reduceCtorEq, Nat.reduceEqDiff, AV.ren, AV.rens, pos, Nat.reduceAdd]
        · simp only [keptL, keptW, keptE, kepts, slots, ↓reduceIte, reduceCtorEq, Nat.reduceEqDiff, AV.ren, AV.rens, pos, Nat.reduceAdd]; omega
      · simp (maxSteps := 3000000) only [over4E, heapL, fillA, rd, wrt, wrl, AO.withl, a_s_PartialClosure_l1, B57_i_IsElement_J3, B57_i_PartialClosure_1_J3, B57_s_l02Closed_J3, B57_s_l02Empty_J3, B57_s_l02Is_J3, B57_s_l02Power_J3, B57_s_l02Put_J3, B57_w_eqElement_J3, B57_w_heldElement_J3, B57_w_markElement_J3, B57_w_szElement_J3, B57_w_toElement_J3, B57_i_Element_changed_J3, g_chC, g_empty, g_eqElement, g_heldElement, g_isElem, g_markElement, g_pc1, g_pow, g_put, g_sclosed, g_szElement, g_toElement, hli, hli', hal, hb1, hb2, hb3, hd, hf, hw, tsOf_trms' hg.1.ok, diaOf_dia hok, diaOf_dia hφ, hsm, hacl, hpp, hn8', hn0, h1, h2, hlpb, hwk, dia_zero, dia_zero_len, over_dia0 hφl, dia_length, hφl, dia_take17 hφl, ones_dia, List.length_replicate, Nat.le_refl, hfit, hz, and_self, Int.reduceEq, Int.reduceNe, Int.reduceBEq, Int.reduceBNe, Int.reduceLT, Int.reduceLE, Int.reduceAdd, Int.reduceSub, Int.reduceMul, idX_eq, wbE, ↓symP, symE, listE, AK.isCall, enumE, ev, putE, abin, aun, AV.cells, ↓reduceIte, reduceCtorEq, Nat.reduceAdd, Nat.reduceMul, Nat.reduceSub, Nat.reduceEqDiff, Nat.reduceLT, Nat.reduceLeDiff, implies_true, Back, retv, retV, AV.scal, AV.scals]; try simp only [idX_eq, ite_both, pickP_both, not_not_eq, Bool.not_eq_false, Bool.not_eq_true]
        refine ⟨⟨_, rfl⟩, ⟨_, rfl⟩, rfl, _, Weak.keep [0, 1, 2, 3, 6] [5, 4, 3, 2, 1] ⟨by decide, ?_⟩ ?_, ⟨i + 1, putT p acc (n - 1) (closeL n.toNat m) (f * powP p c (lpC n.toNat m)), by omega, hnext.symm, ?_⟩, ?_⟩
        · simp only [withins_scal _ _ (scals_trms _), keepW, keepL, AV.within, AV.withins, ↓reduceIte, reduceCtorEq, Nat.reduceEqDiff, Nat.reduceBEq, implies_true, Nat.reduceAdd]
        · simp only [withins_scal _ _ (scals_trms _), keepW, keepL, AV.within, AV.withins, ↓reduceIte, reduceCtorEq, Nat.reduceEqDiff, Nat.reduceBEq, implies_true, Nat.reduceAdd]
        · simp only [rens_scal _ _ (scals_trms _), keptL, keptW, keptE, kepts, slots, ↓reduceIte, reduceCtorEq, Nat.reduceEqDiff, AV.ren, AV.rens, pos, Nat.reduceAdd]
        · simp only [keptL, keptW, keptE, kepts, slots, ↓reduceIte, reduceCtorEq, Nat.reduceEqDiff, AV.ren, AV.rens, pos, Nat.reduceAdd]; omega
    · have hli : ¬ ((i : Int) < a.length) := by omega
      simp (maxSteps := 3000000) only [over4E, heapL, fillA, rd, wrt, wrl, AO.withl, a_s_PartialClosure_l1, a_s_PartialClosure_k1, B57_i_IsElement_J3, B57_i_PartialClosure_1_J3, B57_s_l02Closed_J3, B57_s_l02Empty_J3, B57_s_l02Is_J3, B57_s_l02Power_J3, B57_s_l02Put_J3, B57_w_eqElement_J3, B57_w_heldElement_J3, B57_w_markElement_J3, B57_w_szElement_J3, B57_w_toElement_J3, B57_i_Element_changed_J3, g_chC, g_empty, g_eqElement, g_heldElement, g_isElem, g_markElement, g_pc1, g_pow, g_put, g_sclosed, g_szElement, g_toElement, hli, Int.reduceEq, Int.reduceNe, Int.reduceBEq, Int.reduceBNe, Int.reduceLT, Int.reduceLE, Int.reduceAdd, Int.reduceSub, Int.reduceMul, idX_eq, wbE, ↓symP, symE, listE, AK.isCall, enumE, ev, putE, abin, aun, AV.cells, ↓reduceIte, reduceCtorEq, Nat.reduceAdd, Nat.reduceMul, Nat.reduceSub, Nat.reduceEqDiff, Nat.reduceLT, Nat.reduceLeDiff, implies_true, Back, retv, retV, AV.scal, AV.scals]; try simp only [idX_eq, ite_both, pickP_both, not_not_eq, Bool.not_eq_false, Bool.not_eq_true]
      obtain rfl : i = a.length := by omega
      rw [List.take_length] at hacc
      subst hacc
      exact ⟨rfl, _, Weak.refl _, okRet1 (scals_trms a) (scals_trms _) rfl rfl rfl rfl rfl⟩

def a_i_PartialClosure : AC := .seq (.region [⟨some 1, none, .op (.box (.t 0))⟩,
     ⟨some 2, none, .op (.alloc [(.int .i64 0), (.int .i64 0), (.int .i64 0), (.v (.slice none 0 0))])⟩,
     ⟨some 3, none, .op (.mov (.c (.int .i64 0)))⟩]) (.seq (.block 0 (.seq (.region [⟨some 5, none, .op (.loadN 4 (.t 1))⟩,
       ⟨some 6, none, .call (.c (.fn 48 [] [])) [(.t 5)]⟩,
       ⟨some 7, none, .op (.un .not (.t 6))⟩,
       ⟨some 4, none, .op (.mov (.t 7))⟩]) (.cond 4 (.seq (.region [⟨some 8, none, .op (.build [(.int .i64 0), (.int .i64 0), (.int .i64 0), (.v (.slice none 0 0))] [])⟩,
         ⟨none, none, .op (.storeN 4 (.t 2) (.t 8))⟩,
         ⟨some 3, none, .op (.mov (.c (.int .i64 1)))⟩]) .ret) (.seq (.region [⟨some 10, none, .op (.faddr 2 (.t 1))⟩,
         ⟨some 11, none, .op (.load1 (.t 10))⟩,
         ⟨some 12, none, .op (.bin .eql (.t 11) (.c (.int .i64 1)))⟩,
         ⟨some 9, none, .op (.mov (.t 12))⟩]) (.cond 9 (.seq (.region [⟨some 13, none, .op (.build [(.int .i64 0), (.int .i64 0), (.int .i64 0), (.v (.slice none 0 0))] [])⟩,
           ⟨none, none, .op (.storeN 4 (.t 2) (.t 13))⟩,
           ⟨some 3, none, .op (.mov (.c (.int .i64 2)))⟩]) .ret) .skip))))) (.seq (.region [⟨some 14, none, .op (.faddr 2 (.t 1))⟩,
     ⟨some 15, none, .op (.load1 (.t 14))⟩,
     ⟨some 16, none, .op (.bin .sub (.t 15) (.c (.int .i64 1)))⟩,
     ⟨some 17, none, .op (.mkfn 84 [] [(.t 1)])⟩,
     ⟨some 18, none, .call (.c (.fn 73 [] [])) [(.t 1), (.t 16), (.t 17)]⟩,
     ⟨none, none, .op (.storeN 4 (.t 2) (.t 18))⟩,
     ⟨some 3, none, .op (.mov (.c (.int .i64 0)))⟩]) .ret))
theorem r_i_PartialClosure : readF Try.prog 36 = some ⟨19, a_i_PartialClosure, [.cellN 2 4, .slot 3]⟩ := by kernel_rfl
theorem c_i_PartialClosure (p c n : Int) (a : List (Int × List Nat × Int)) (ha : okT a) (hl : a.length ≤ 1100000) :
    Am.Fn Try.prog 36 [elemV p c n 0 a.length] [.ro (trms a)] (Elem1 (trms a) (closOf p c n a)) := by
  refine Am.Fn.ofW B57_ok mixed r_i_PartialClosure (by simp) (ro_under (scals_trms _)) ?_
  have hal := trms_length ha
  have hts := tsOf_trms' ha
  have hle : a.length ≤ 1000000000 := by omega
  cases hE : elemB p c n a with
  | false =>
    simp (maxSteps := 3000000) only [over4E, heapL, fillA, rd, wrt, wrl, AO.withl, a_i_PartialClosure, B57_i_IsElement_J3, B57_i_PartialClosure_1_J3, B57_s_l02Closed_J3, B57_s_l02Empty_J3, B57_s_l02Is_J3, B57_s_l02Power_J3, B57_s_l02Put_J3, B57_w_eqElement_J3, B57_w_heldElement_J3, B57_w_markElement_J3, B57_w_szElement_J3, B57_w_toElement_J3, B57_i_Element_changed_J3, g_chC, g_empty, g_eqElement, g_heldElement, g_isElem, g_markElement, g_pc1, g_pow, g_put, g_sclosed, g_szElement, g_toElement, elemV, hal, hts, hle, hE, Int.reduceEq, Int.reduceNe, Int.reduceBEq, Int.reduceBNe, Int.reduceLT, Int.reduceLE, Int.reduceAdd, Int.reduceSub, Int.reduceMul, idX_eq, wbE, ↓symP, symE, listE, AK.isCall, enumE, ev, putE, abin, aun, AV.cells, ↓reduceIte, reduceCtorEq, Nat.reduceAdd, Nat.reduceMul, Nat.reduceSub, Nat.reduceEqDiff, Nat.reduceLT, Nat.reduceLeDiff, implies_true, Back, retv, retV, AV.scal, AV.scals]; try simp only [idX_eq, ite_both, pickP_both, not_not_eq, Bool.not_eq_false, Bool.not_eq_true]
    have e : closOf p c n a = (0, 0, 0, [], 1) := by unfold closOf; rw [if_pos hE]
    rw [e]
    exact ⟨rfl, errRet1 (scals_trms a) rfl rfl rfl rfl (by decide)⟩
  | true =>
    obtain ⟨h1, h2, h3, h4⟩ := elem_bd hE
    by_cases hn8e : n = 1
    · have e : closOf p c n a = (0, 0, 0, [], 2) := by unfold closOf; rw [if_neg (by rw [hE]; simp), if_pos hn8e]
      rw [e]
      subst hn8e
      simp (maxSteps := 3000000) only [over4E, heapL, fillA, rd, wrt, wrl, AO.withl, a_i_PartialClosure, B57_i_IsElement_J3, B57_i_PartialClosure_1_J3, B57_s_l02Closed_J3, B57_s_l02Empty_J3, B57_s_l02Is_J3, B57_s_l02Power_J3, B57_s_l02Put_J3, B57_w_eqElement_J3, B57_w_heldElement_J3, B57_w_markElement_J3, B57_w_szElement_J3, B57_w_toElement_J3, B57_i_Element_changed_J3, g_chC, g_empty, g_eqElement, g_heldElement, g_isElem, g_markElement, g_pc1, g_pow, g_put, g_sclosed, g_szElement, g_toElement, elemV, hal, hts, hle, hE, Int.reduceEq, Int.reduceNe, Int.reduceBEq, Int.reduceBNe, Int.reduceLT, Int.reduceLE, Int.reduceAdd, Int.reduceSub, Int.reduceMul, idX_eq, wbE, ↓symP, symE, listE, AK.isCall, enumE, ev, putE, abin, aun, AV.cells, ↓reduceIte, reduceCtorEq, Nat.reduceAdd, Nat.reduceMul, Nat.reduceSub, Nat.reduceEqDiff, Nat.reduceLT, Nat.reduceLeDiff, implies_true, Back, retv, retV, AV.scal, AV.scals]; try simp only [idX_eq, ite_both, pickP_both, not_not_eq, Bool.not_eq_false, Bool.not_eq_true]
      exact ⟨rfl, errRet1 (scals_trms a) rfl rfl rfl rfl (by decide)⟩
    have hn7 : 2 ≤ n ∧ n ≤ 8 := by omega
    have hw1 : wrapK .i64 (n - 1) = n - 1 := wrap64 (by omega) (by omega)
    have hgg := goodT_of ha hE
    have hg := hgg.dec
    have hl1 : a.length ≤ 100000 := by omega
    have e : closOf p c n a = (p, c, n - 1, chP p (n - 1) (closeL n.toNat) (κC p c n) [] a, 0) := by unfold closOf; rw [if_neg (by rw [hE]; simp), if_neg hn8e]
    rw [e]
    simp (maxSteps := 3000000) only [over4E, heapL, fillA, rd, wrt, wrl, AO.withl, a_i_PartialClosure, B57_i_IsElement_J3, B57_i_PartialClosure_1_J3, B57_s_l02Closed_J3, B57_s_l02Empty_J3, B57_s_l02Is_J3, B57_s_l02Power_J3, B57_s_l02Put_J3, B57_w_eqElement_J3, B57_w_heldElement_J3, B57_w_markElement_J3, B57_w_szElement_J3, B57_w_toElement_J3, B57_i_Element_changed_J3, g_chC, g_empty, g_eqElement, g_heldElement, g_isElem, g_markElement, g_pc1, g_pow, g_put, g_sclosed, g_szElement, g_toElement, elemV, hal, hts, hle, hE, hn8e, h1, h2, hn7, hw1, hg, hl1, and_self, Int.reduceEq, Int.reduceNe, Int.reduceBEq, Int.reduceBNe, Int.reduceLT, Int.reduceLE, Int.reduceAdd, Int.reduceSub, Int.reduceMul, idX_eq, wbE, ↓symP, symE, listE, AK.isCall, enumE, ev, putE, abin, aun, AV.cells, ↓reduceIte, reduceCtorEq, Nat.reduceAdd, Nat.reduceMul, Nat.reduceSub, Nat.reduceEqDiff, Nat.reduceLT, Nat.reduceLeDiff, implies_true, Back, retv, retV, AV.scal, AV.scals]; try simp only [idX_eq, ite_both, pickP_both, not_not_eq, Bool.not_eq_false, Bool.not_eq_true]
    exact ⟨⟨rfl, rfl⟩, rfl, _, Weak.refl _, okRet1 (scals_trms a) (scals_trms _) rfl rfl rfl rfl rfl⟩
theorem clos_ok (p c n : Int) (ts : List (Int × List Nat × Int)) (ho : okT ts) : okER (closOf p c n ts) := by
  unfold closOf
  split
  · exact ⟨(fun t h => by cases h), by simp⟩
  · rename_i hE
    have hE' : elemB p c n ts = true := by cases h : elemB p c n ts <;> simp_all
    obtain ⟨h1, h2, h3, h4⟩ := elem_bd hE'
    split
    · exact ⟨(fun t h => by cases h), by simp⟩
    rename_i hn8e
    have hgg := goodT_of ho hE'
    have hg := chP_good (p := p) (acc := []) (by omega) (goodT_nil.good (p := p) (n := n - 1) (fun t h => by cases h)) (clos_okCh (c := c) h1 (by omega) hgg)
    refine ⟨hg.1.ok, ?_⟩
    have := hg.2
    simp at this
    simp only; omega
def B58 : Book := ((B57.put 35 (g_el1 closOf)).put 36 (g_el1 closOf))
theorem B58_ok : BookOk Try.prog B58 := ((B57_ok.put (k_el1 c_s_PartialClosure)).put (k_el1 c_i_PartialClosure))
theorem B58_i_IsElement_J3 : B58 48 = some (g_isElem) := rfl
theorem B58_i_PartialClosure_1_J3 : B58 84 = some (g_pc1) := rfl
theorem B58_s_l02Closed_J3 : B58 82 = some (plainE g_sclosed) := rfl
theorem B58_s_l02Empty_J3 : B58 70 = some (g_empty) := rfl
theorem B58_s_l02Is_J3 : B58 68 = some (g_isElem) := rfl
theorem B58_s_l02Power_J3 : B58 83 = some (plainE g_pow) := rfl
theorem B58_s_l02Put_J3 : B58 61 = some (g_put) := rfl
theorem B58_w_eqElement_J3 : B58 19 = some (g_eqElement) := rfl
theorem B58_w_heldElement_J3 : B58 26 = some (g_heldElement) := rfl
theorem B58_w_markElement_J3 : B58 20 = some (g_markElement) := rfl
theorem B58_w_szElement_J3 : B58 14 = some (g_szElement) := rfl
theorem B58_w_toElement_J3 : B58 16 = some (g_toElement) := rfl
theorem B58_i_Element_changed_J3 : B58 73 = some (g_chC) := rfl
theorem B58_s_PartialClosure_J3 : B58 35 = some (g_el1 closOf) := rfl
theorem B58_i_PartialClosure_J3 : B58 36 = some (g_el1 closOf) := rfl


def a_w_FnExactPartialClosure : AC := .seq (.region [⟨some 1, none, .op (.box (.t 0))⟩,
     ⟨some 2, none, .op (.mov (.c (.bool false)))⟩]) (.seq (.region [⟨some 3, none, .op (.mov (.c (.int .i64 1048576)))⟩]) (.seq (.region [⟨some 14, none, .op (.loadN 4 (.t 1))⟩,
     ⟨some 15, none, .op (.mov (.t 3))⟩,
     ⟨some 16, none, .call (.c (.fn 14 [] [])) [(.t 14), (.t 15)]⟩,
     ⟨some 3, none, .op (.mov (.t 16))⟩]) (.seq (.seq (.region [⟨some 17, none, .op (.mov (.t 3))⟩,
      ⟨some 18, none, .op (.bin .lss (.t 17) (.c (.int .i64 0)))⟩]) (.cond 18 (.seq (.region [⟨some 2, none, .op (.mov (.c (.bool true)))⟩]) .ret) .skip)) (.seq (.region [⟨some 20, none, .op (.loadN 4 (.t 1))⟩,
     ⟨some 21, none, .call (.c (.fn 16 [] [])) [(.t 20)]⟩,
     ⟨some 22, none, .call (.c (.fn 35 [] [])) [(.t 21)]⟩,
     ⟨some 19, none, .op (.mov (.t 22))⟩,
     ⟨some 23, none, .op (.ext 0 (.t 19))⟩,
     ⟨some 24, none, .op (.ext 1 (.t 19))⟩,
     ⟨some 4, none, .op (.alloc [(.int .i64 0), (.int .i64 0), (.int .i64 0), (.v (.slice none 0 0))])⟩,
     ⟨none, none, .op (.storeN 4 (.t 4) (.t 23))⟩,
     ⟨some 5, none, .op (.mov (.t 24))⟩]) (.seq (.region [⟨some 25, none, .op (.loadN 4 (.t 1))⟩,
     ⟨some 26, none, .call (.c (.fn 16 [] [])) [(.t 25)]⟩,
     ⟨some 6, none, .op (.alloc [(.int .i64 0), (.int .i64 0), (.int .i64 0), (.v (.slice none 0 0))])⟩,
     ⟨none, none, .op (.storeN 4 (.t 6) (.t 26))⟩]) (.seq (.region [⟨some 28, none, .op (.loadN 4 (.t 6))⟩,
     ⟨some 29, none, .call (.c (.fn 36 [] [])) [(.t 28)]⟩,
     ⟨some 27, none, .op (.mov (.t 29))⟩,
     ⟨some 30, none, .op (.ext 0 (.t 27))⟩,
     ⟨some 31, none, .op (.ext 1 (.t 27))⟩,
     ⟨some 7, none, .op (.alloc [(.int .i64 0), (.int .i64 0), (.int .i64 0), (.v (.slice none 0 0))])⟩,
     ⟨none, none, .op (.storeN 4 (.t 7) (.t 30))⟩,
     ⟨some 8, none, .op (.mov (.t 31))⟩]) (.seq (.seq (.region [⟨some 32, none, .op (.loadN 4 (.t 7))⟩,
      ⟨some 33, none, .op (.loadN 4 (.t 4))⟩,
      ⟨some 34, none, .call (.c (.fn 19 [] [])) [(.t 32), (.t 33)]⟩,
      ⟨some 35, none, .op (.un .not (.t 34))⟩,
      ⟨some 36, none, .op (.mov (.t 35))⟩,
      ⟨some 37, some (36, false), .op (.mov (.t 8))⟩,
      ⟨some 38, some (36, false), .op (.mov (.t 5))⟩,
      ⟨some 39, some (36, false), .op (.bin .neq (.t 37) (.t 38))⟩,
      ⟨some 40, none, .op (.pick (.t 36) (.c (.bool true)) (.t 39))⟩]) (.cond 40 (.seq (.region [⟨some 2, none, .op (.mov (.c (.bool false)))⟩]) .ret) .skip)) (.seq (.seq (.draw true [⟨some 41, none, .op (.loadN 4 (.t 6))⟩,
      ⟨some 42, none, .op (.loadN 4 (.t 1))⟩,
      ⟨some 43, none, .call (.c (.fn 16 [] [])) [(.t 42)]⟩,
      ⟨some 44, none, .call (.c (.fn 19 [] [])) [(.t 41), (.t 43)]⟩,
      ⟨some 45, none, .op (.un .not (.t 44))⟩]) (.cond 45 (.seq (.region [⟨some 2, none, .op (.mov (.c (.bool false)))⟩]) .ret) .skip)) (.seq (.region [⟨some 9, none, .op (.mov (.c (.int .i64 1)))⟩]) (.seq (.region [⟨some 46, none, .op (.loadN 4 (.t 6))⟩,
     ⟨some 47, none, .op (.mov (.t 9))⟩,
     ⟨some 48, none, .call (.c (.fn 20 [] [])) [(.t 46), (.t 47)]⟩,
     ⟨some 9, none, .op (.mov (.t 48))⟩]) (.seq (.seq (.region [⟨some 49, none, .op (.mov (.t 9))⟩,
      ⟨some 50, none, .op (.bin .lss (.t 49) (.c (.int .i64 0)))⟩,
      ⟨some 51, none, .op (.mov (.t 50))⟩,
      ⟨some 52, some (51, false), .op (.loadN 4 (.t 7))⟩,
      ⟨some 53, some (51, false), .op (.loadN 4 (.t 4))⟩,
      ⟨some 54, some (51, false), .call (.c (.fn 19 [] [])) [(.t 52), (.t 53)]⟩,
      ⟨some 55, some (51, false), .op (.un .not (.t 54))⟩,
      ⟨some 56, none, .op (.pick (.t 51) (.c (.bool true)) (.t 55))⟩,
      ⟨some 57, none, .op (.mov (.t 56))⟩,
      ⟨some 58, some (57, false), .op (.mov (.t 8))⟩,
      ⟨some 59, some (57, false), .op (.mov (.t 5))⟩,
      ⟨some 60, some (57, false), .op (.bin .neq (.t 58) (.t 59))⟩,
      ⟨some 61, none, .op (.pick (.t 57) (.c (.bool true)) (.t 60))⟩]) (.cond 61 (.seq (.region [⟨some 2, none, .op (.mov (.c (.bool false)))⟩]) .ret) .skip)) (.seq (.region [⟨some 10, none, .op (.mov (.c (.int .i64 1)))⟩]) (.seq (.region [⟨some 62, none, .op (.loadN 4 (.t 7))⟩,
     ⟨some 63, none, .op (.mov (.t 10))⟩,
     ⟨some 64, none, .call (.c (.fn 20 [] [])) [(.t 62), (.t 63)]⟩,
     ⟨some 10, none, .op (.mov (.t 64))⟩]) (.seq (.region [⟨some 11, none, .op (.mov (.c (.int .i64 1)))⟩]) (.seq (.region [⟨some 65, none, .op (.loadN 4 (.t 7))⟩,
     ⟨some 66, none, .op (.mov (.t 11))⟩,
     ⟨some 67, none, .call (.c (.fn 26 [] [])) [(.t 65), (.t 66)]⟩,
     ⟨some 11, none, .op (.mov (.t 67))⟩]) (.seq (.seq (.region [⟨some 68, none, .op (.mov (.t 11))⟩,
      ⟨some 69, none, .op (.bin .lss (.t 68) (.c (.int .i64 0)))⟩]) (.cond 69 (.seq (.region [⟨some 2, none, .op (.mov (.c (.bool false)))⟩]) .ret) .skip)) (.seq (.seq (.region [⟨some 70, none, .op (.mov (.t 11))⟩,
      ⟨some 71, none, .op (.mov (.t 10))⟩,
      ⟨some 72, none, .op (.bin .neq (.t 70) (.t 71))⟩]) (.cond 72 (.seq (.region [⟨some 2, none, .op (.mov (.c (.bool false)))⟩]) .ret) .skip)) (.seq (.region [⟨some 74, none, .op (.loadN 4 (.t 1))⟩,
     ⟨some 75, none, .call (.c (.fn 16 [] [])) [(.t 74)]⟩,
     ⟨some 76, none, .call (.c (.fn 36 [] [])) [(.t 75)]⟩,
     ⟨some 73, none, .op (.mov (.t 76))⟩,
     ⟨some 77, none, .op (.ext 0 (.t 73))⟩,
     ⟨some 78, none, .op (.ext 1 (.t 73))⟩,
     ⟨some 12, none, .op (.alloc [(.int .i64 0), (.int .i64 0), (.int .i64 0), (.v (.slice none 0 0))])⟩,
     ⟨none, none, .op (.storeN 4 (.t 12) (.t 77))⟩,
     ⟨some 13, none, .op (.mov (.t 78))⟩]) (.seq (.seq (.region [⟨some 79, none, .op (.loadN 4 (.t 12))⟩,
      ⟨some 80, none, .op (.loadN 4 (.t 4))⟩,
      ⟨some 81, none, .call (.c (.fn 19 [] [])) [(.t 79), (.t 80)]⟩,
      ⟨some 82, none, .op (.un .not (.t 81))⟩,
      ⟨some 83, none, .op (.mov (.t 82))⟩,
      ⟨some 84, some (83, false), .op (.mov (.t 13))⟩,
      ⟨some 85, some (83, false), .op (.mov (.t 5))⟩,
      ⟨some 86, some (83, false), .op (.bin .neq (.t 84) (.t 85))⟩,
      ⟨some 87, none, .op (.pick (.t 83) (.c (.bool true)) (.t 86))⟩]) (.cond 87 (.seq (.region [⟨some 2, none, .op (.mov (.c (.bool false)))⟩]) .ret) .skip)) (.seq (.region [⟨some 11, none, .op (.mov (.c (.int .i64 1)))⟩]) (.seq (.region [⟨some 88, none, .op (.loadN 4 (.t 7))⟩,
     ⟨some 89, none, .op (.mov (.t 11))⟩,
     ⟨some 90, none, .call (.c (.fn 26 [] [])) [(.t 88), (.t 89)]⟩,
     ⟨some 11, none, .op (.mov (.t 90))⟩]) (.seq (.seq (.region [⟨some 91, none, .op (.mov (.t 11))⟩,
      ⟨some 92, none, .op (.bin .lss (.t 91) (.c (.int .i64 0)))⟩]) (.cond 92 (.seq (.region [⟨some 2, none, .op (.mov (.c (.bool false)))⟩]) .ret) .skip)) (.seq (.seq (.region [⟨some 93, none, .op (.mov (.t 11))⟩,
      ⟨some 94, none, .op (.mov (.t 10))⟩,
      ⟨some 95, none, .op (.bin .neq (.t 93) (.t 94))⟩]) (.cond 95 (.seq (.region [⟨some 2, none, .op (.mov (.c (.bool false)))⟩]) .ret) .skip)) (.seq (.region [⟨some 2, none, .op (.mov (.c (.bool true)))⟩]) .ret))))))))))))))))))))))))
theorem r_w_FnExactPartialClosure : readF Try.prog 9 = some ⟨96, a_w_FnExactPartialClosure, [.slot 2]⟩ := by kernel_rfl
theorem law_PartialClosure (H : List AO) (X : AV) (p c n : Int) (ts : List (Int × List Nat × Int)) (h : ArgX H X ts) (hl : ts.length ≤ 9223372036854775807) : Am.Fn Try.prog 9 [.agg [.int .i64 p, .int .i64 c, .int .i64 n, X]] H (fun v H' => v = .bool true ∧ H' = H) := by
  refine Am.Fn.sameB (R := fun v => v = _) B58_ok mixed r_w_FnExactPartialClosure (by simp) (argX_under h) ?_
  have hX := argX_arg h
  have ho := h.1
  have hH : H = [] ∨ ∃ o, H = [o] := by
    rcases h.2 with ⟨_, rfl, _⟩ | ⟨_, rfl, _⟩ | ⟨_, _, _, _, rfl, _⟩
    · exact .inl rfl
    · exact .inr ⟨_, rfl⟩
    · exact .inr ⟨_, rfl⟩
  by_cases hlt : (1048576 : Int) - ts.length < 0
  · have hif : (if (1048576 : Int) - ts.length < 0 then (-1 : Int) else 1048576 - ts.length) = -1 := if_pos hlt
    rcases hH with rfl | ⟨o, rfl⟩
    · simp only [List.nil_append] at hX
      simp (maxSteps := 3000000) only [over4E, heapL, fillA, rd, wrt, wrl, AO.withl, a_w_FnExactPartialClosure, B58_i_IsElement_J3, B58_i_PartialClosure_1_J3, B58_s_l02Closed_J3, B58_s_l02Empty_J3, B58_s_l02Is_J3, B58_s_l02Power_J3, B58_s_l02Put_J3, B58_w_eqElement_J3, B58_w_heldElement_J3, B58_w_markElement_J3, B58_w_szElement_J3, B58_w_toElement_J3, B58_i_Element_changed_J3, B58_s_PartialClosure_J3, B58_i_PartialClosure_J3, g_chC, g_el1, g_empty, g_eqElement, g_heldElement, g_isElem, g_markElement, g_pc1, g_pow, g_put, g_sclosed, g_szElement, g_toElement, Int.reduceEq, Int.reduceNe, Int.reduceBEq, Int.reduceBNe, Int.reduceLT, Int.reduceLE, Int.reduceAdd, Int.reduceSub, Int.reduceMul, hX, hl, hif, idX_eq, wbE, ↓symP, symE, listE, AK.isCall, enumE, ev, putE, abin, aun, AV.cells, ↓reduceIte, reduceCtorEq, Nat.reduceAdd, Nat.reduceMul, Nat.reduceSub, Nat.reduceEqDiff, Nat.reduceLT, Nat.reduceLeDiff, implies_true, Back, retv, retV, AV.scal, AV.scals]; try simp only [idX_eq, ite_both, pickP_both, not_not_eq, Bool.not_eq_false, Bool.not_eq_true]
    · simp only [List.cons_append, List.nil_append] at hX
      simp (maxSteps := 3000000) only [over4E, heapL, fillA, rd, wrt, wrl, AO.withl, a_w_FnExactPartialClosure, B58_i_IsElement_J3, B58_i_PartialClosure_1_J3, B58_s_l02Closed_J3, B58_s_l02Empty_J3, B58_s_l02Is_J3, B58_s_l02Power_J3, B58_s_l02Put_J3, B58_w_eqElement_J3, B58_w_heldElement_J3, B58_w_markElement_J3, B58_w_szElement_J3, B58_w_toElement_J3, B58_i_Element_changed_J3, B58_s_PartialClosure_J3, B58_i_PartialClosure_J3, g_chC, g_el1, g_empty, g_eqElement, g_heldElement, g_isElem, g_markElement, g_pc1, g_pow, g_put, g_sclosed, g_szElement, g_toElement, Int.reduceEq, Int.reduceNe, Int.reduceBEq, Int.reduceBNe, Int.reduceLT, Int.reduceLE, Int.reduceAdd, Int.reduceSub, Int.reduceMul, hX, hl, hif, idX_eq, wbE, ↓symP, symE, listE, AK.isCall, enumE, ev, putE, abin, aun, AV.cells, ↓reduceIte, reduceCtorEq, Nat.reduceAdd, Nat.reduceMul, Nat.reduceSub, Nat.reduceEqDiff, Nat.reduceLT, Nat.reduceLeDiff, implies_true, Back, retv, retV, AV.scal, AV.scals]; try simp only [idX_eq, ite_both, pickP_both, not_not_eq, Bool.not_eq_false, Bool.not_eq_true]
      exact ⟨_, rfl⟩
  · have hif : (if (1048576 : Int) - ts.length < 0 then (-1 : Int) else 1048576 - ts.length) = 1048576 - ts.length := if_neg hlt
    have hr := clos_ok p c n ts ho
    generalize he : closOf p c n ts = r at hr
    obtain ⟨P, C, N, L, E⟩ := r
    obtain ⟨hL, hLl⟩ := hr
    simp only at hL hLl
    have b0 := trms_length ho
    have b1 := tsOf_trms' ho
    have h1 := trms_length hL
    have h2 := tsOf_trms' hL
    have h3 : tsOf L.length (trms (marks L.length 1)) = some (marks L.length 1) := by have := tsOf_trms' (okT_marks L.length 1); rwa [marks_length] at this
    have h6 : ((1 + 18 * L.length : Nat) : Int) < 0 ↔ False := iff_false_intro (by omega)
    have h7 : ((1 + 18 * ts.length : Nat) : Int) < 0 ↔ False := iff_false_intro (by omega)
    have h4 : L.length ≤ 2000000 := by omega
    have h8 : ts.length ≤ 1100000 := by omega
    have h9 : ts.length ≤ 2000000 := by omega
    rcases hH with rfl | ⟨o, rfl⟩
    · simp only [List.nil_append] at hX
      simp (maxSteps := 3000000) only [over4E, heapL, fillA, rd, wrt, wrl, AO.withl, a_w_FnExactPartialClosure, B58_i_IsElement_J3, B58_i_PartialClosure_1_J3, B58_s_l02Closed_J3, B58_s_l02Empty_J3, B58_s_l02Is_J3, B58_s_l02Power_J3, B58_s_l02Put_J3, B58_w_eqElement_J3, B58_w_heldElement_J3, B58_w_markElement_J3, B58_w_szElement_J3, B58_w_toElement_J3, B58_i_Element_changed_J3, B58_s_PartialClosure_J3, B58_i_PartialClosure_J3, g_chC, g_el1, g_empty, g_eqElement, g_heldElement, g_isElem, g_markElement, g_pc1, g_pow, g_put, g_sclosed, g_szElement, g_toElement, Int.reduceEq, Int.reduceNe, Int.reduceBEq, Int.reduceBNe, Int.reduceLT, Int.reduceLE, Int.reduceAdd, Int.reduceSub, Int.reduceMul, ren_el, elemV, rn_vec, rens_scal _ _ (scals_trms _), rens_scal _ _ (scals_dia _ _), hX, hl, hif, hlt, he, b0, b1, h1, h2, h3, h4, h6, h7, h8, h9, Int.toNat_one, ren_el2, idX_eq, wbE, ↓symP, symE, listE, AK.isCall, enumE, ev, putE, abin, aun, AV.cells, ↓reduceIte, reduceCtorEq, Nat.reduceAdd, Nat.reduceMul, Nat.reduceSub, Nat.reduceEqDiff, Nat.reduceLT, Nat.reduceLeDiff, implies_true, Back, retv, retV, AV.scal, AV.scals]; try simp only [idX_eq, ite_both, pickP_both, not_not_eq, Bool.not_eq_false, Bool.not_eq_true]
      exact ⟨rfl, rfl, rfl, ⟨_, rfl⟩, ⟨_, rfl⟩, rfl⟩
    · simp only [List.cons_append, List.nil_append] at hX
      simp (maxSteps := 3000000) only [over4E, heapL, fillA, rd, wrt, wrl, AO.withl, a_w_FnExactPartialClosure, B58_i_IsElement_J3, B58_i_PartialClosure_1_J3, B58_s_l02Closed_J3, B58_s_l02Empty_J3, B58_s_l02Is_J3, B58_s_l02Power_J3, B58_s_l02Put_J3, B58_w_eqElement_J3, B58_w_heldElement_J3, B58_w_markElement_J3, B58_w_szElement_J3, B58_w_toElement_J3, B58_i_Element_changed_J3, B58_s_PartialClosure_J3, B58_i_PartialClosure_J3, g_chC, g_el1, g_empty, g_eqElement, g_heldElement, g_isElem, g_markElement, g_pc1, g_pow, g_put, g_sclosed, g_szElement, g_toElement, Int.reduceEq, Int.reduceNe, Int.reduceBEq, Int.reduceBNe, Int.reduceLT, Int.reduceLE, Int.reduceAdd, Int.reduceSub, Int.reduceMul, ren_el, elemV, rn_vec, rens_scal _ _ (scals_trms _), rens_scal _ _ (scals_dia _ _), hX, hl, hif, hlt, he, b0, b1, h1, h2, h3, h4, h6, h7, h8, h9, Int.toNat_one, ren_el2, idX_eq, wbE, ↓symP, symE, listE, AK.isCall, enumE, ev, putE, abin, aun, AV.cells, ↓reduceIte, reduceCtorEq, Nat.reduceAdd, Nat.reduceMul, Nat.reduceSub, Nat.reduceEqDiff, Nat.reduceLT, Nat.reduceLeDiff, implies_true, Back, retv, retV, AV.scal, AV.scals]; try simp only [idX_eq, ite_both, pickP_both, not_not_eq, Bool.not_eq_false, Bool.not_eq_true]
      exact ⟨rfl, rfl, rfl, ⟨_, rfl⟩, ⟨_, rfl⟩, rfl, ⟨_, rfl⟩⟩
end Go.Proofs.Ytkgoadglalpbfaa
