/- Contracts: copies and comparisons of diagrams and terms. -/
import Derived.Test.YtkgoadglalpbfaaE5
namespace Go.Proofs.Ytkgoadglalpbfaa
open Go.Am Go.Dia
set_option linter.unusedSimpArgs false
set_option linter.unusedVariables false
set_option maxRecDepth 4000
set_option maxHeartbeats 1000000

def a_w_toByteA16_l1 : AC := .seq (.seq (.region [⟨some 5, none, .op (.mov (.t 4))⟩,
         ⟨some 6, none, .op (.bin .lss (.t 5) (.c (.int .i64 16)))⟩]) (.cond 6 .skip (.exit 0))) (.seq (.block 1 (.region [⟨some 9, none, .op (.mov (.t 4))⟩,
         ⟨some 10, none, .op (.mov (.t 4))⟩,
         ⟨some 11, none, .op (.iaddrA 16 1 (.t 1) (.t 10))⟩,
         ⟨some 12, none, .op (.load1 (.t 11))⟩,
         ⟨some 13, none, .op (.iaddrA 16 1 (.t 3) (.t 9))⟩,
         ⟨none, none, .op (.store1 (.t 13) (.t 12))⟩])) (.region [⟨some 7, none, .op (.mov (.t 4))⟩,
       ⟨some 8, none, .op (.bin .add (.t 7) (.c (.int .i64 1)))⟩,
       ⟨some 4, none, .op (.mov (.t 8))⟩]))
def a_w_toByteA16_k1 : AC := .seq (.region [⟨some 14, none, .op (.loadN 16 (.t 3))⟩,
     ⟨none, none, .op (.storeN 16 (.t 2) (.t 14))⟩]) .ret
def a_w_toByteA16 : AC := .seq (.region [⟨some 1, none, .op (.box (.t 0))⟩,
     ⟨some 2, none, .op (.alloc [(.int .u8 0), (.int .u8 0), (.int .u8 0), (.int .u8 0), (.int .u8 0), (.int .u8 0), (.int .u8 0), (.int .u8 0), (.int .u8 0), (.int .u8 0), (.int .u8 0), (.int .u8 0), (.int .u8 0), (.int .u8 0), (.int .u8 0), (.int .u8 0)])⟩]) (.seq (.region [⟨some 3, none, .op (.alloc [(.int .u8 0), (.int .u8 0), (.int .u8 0), (.int .u8 0), (.int .u8 0), (.int .u8 0), (.int .u8 0), (.int .u8 0), (.int .u8 0), (.int .u8 0), (.int .u8 0), (.int .u8 0), (.int .u8 0), (.int .u8 0), (.int .u8 0), (.int .u8 0)])⟩]) (.seq (.seq (.region [⟨some 4, none, .op (.mov (.c (.int .i64 0)))⟩]) (.block 0 (.loop a_w_toByteA16_l1))) a_w_toByteA16_k1))
theorem r_w_toByteA16 : readF Try.prog 62 = some ⟨15, a_w_toByteA16, [.cellN 2 16]⟩ := by kernel_rfl

def a_w_toDiagram : AC := .seq (.region [⟨some 1, none, .op (.box (.t 0))⟩,
     ⟨some 2, none, .op (.alloc [(.int .i64 0), (.int .u8 0), (.int .u8 0), (.int .u8 0), (.int .u8 0), (.int .u8 0), (.int .u8 0), (.int .u8 0), (.int .u8 0), (.int .u8 0), (.int .u8 0), (.int .u8 0), (.int .u8 0), (.int .u8 0), (.int .u8 0), (.int .u8 0), (.int .u8 0)])⟩]) (.seq (.region [⟨some 3, none, .op (.alloc [(.int .i64 0), (.int .u8 0), (.int .u8 0), (.int .u8 0), (.int .u8 0), (.int .u8 0), (.int .u8 0), (.int .u8 0), (.int .u8 0), (.int .u8 0), (.int .u8 0), (.int .u8 0), (.int .u8 0), (.int .u8 0), (.int .u8 0), (.int .u8 0), (.int .u8 0)])⟩]) (.seq (.region [⟨some 4, none, .op (.faddr 0 (.t 1))⟩,
     ⟨some 5, none, .op (.load1 (.t 4))⟩,
     ⟨some 6, none, .op (.faddr 0 (.t 3))⟩,
     ⟨none, none, .op (.store1 (.t 6) (.t 5))⟩]) (.seq (.region [⟨some 7, none, .op (.faddr 1 (.t 1))⟩,
     ⟨some 8, none, .op (.loadN 16 (.t 7))⟩,
     ⟨some 9, none, .call (.c (.fn 62 [] [])) [(.t 8)]⟩,
     ⟨some 10, none, .op (.faddr 1 (.t 3))⟩,
     ⟨none, none, .op (.storeN 16 (.t 10) (.t 9))⟩]) (.seq (.region [⟨some 11, none, .op (.loadN 17 (.t 3))⟩,
     ⟨none, none, .op (.storeN 17 (.t 2) (.t 11))⟩]) .ret))))
theorem r_w_toDiagram : readF Try.prog 24 = some ⟨12, a_w_toDiagram, [.cellN 2 17]⟩ := by kernel_rfl
def a_w_eqByteA16_l1 : AC := .seq (.seq (.region [⟨some 6, none, .op (.mov (.t 5))⟩,
         ⟨some 7, none, .op (.bin .lss (.t 6) (.c (.int .i64 16)))⟩]) (.cond 7 .skip (.exit 0))) (.seq (.block 1 (.seq (.draw false [⟨some 10, none, .op (.mov (.t 5))⟩,
          ⟨some 11, none, .op (.iaddrA 16 1 (.t 2) (.t 10))⟩,
          ⟨some 12, none, .op (.load1 (.t 11))⟩,
          ⟨some 13, none, .op (.mov (.t 5))⟩,
          ⟨some 14, none, .op (.iaddrA 16 1 (.t 3) (.t 13))⟩,
          ⟨some 15, none, .op (.load1 (.t 14))⟩,
          ⟨some 16, none, .op (.bin .neq (.t 12) (.t 15))⟩]) (.cond 16 (.seq (.region [⟨some 4, none, .op (.mov (.c (.bool false)))⟩]) .ret) .skip))) (.region [⟨some 8, none, .op (.mov (.t 5))⟩,
       ⟨some 9, none, .op (.bin .add (.t 8) (.c (.int .i64 1)))⟩,
       ⟨some 5, none, .op (.mov (.t 9))⟩]))
def a_w_eqByteA16_k1 : AC := .seq (.region [⟨some 4, none, .op (.mov (.c (.bool true)))⟩]) .ret
def a_w_eqByteA16 : AC := .seq (.region [⟨some 2, none, .op (.box (.t 0))⟩,
     ⟨some 3, none, .op (.box (.t 1))⟩,
     ⟨some 4, none, .op (.mov (.c (.bool false)))⟩]) (.seq (.seq (.region [⟨some 5, none, .op (.mov (.c (.int .i64 0)))⟩]) (.block 0 (.loop a_w_eqByteA16_l1))) a_w_eqByteA16_k1)
theorem r_w_eqByteA16 : readF Try.prog 151 = some ⟨17, a_w_eqByteA16, [.slot 4]⟩ := by kernel_rfl

def a_w_eqDiagram : AC := .seq (.region [⟨some 2, none, .op (.box (.t 0))⟩,
     ⟨some 3, none, .op (.box (.t 1))⟩,
     ⟨some 4, none, .op (.mov (.c (.bool false)))⟩]) (.seq (.seq (.region [⟨some 5, none, .op (.faddr 0 (.t 2))⟩,
      ⟨some 6, none, .op (.load1 (.t 5))⟩,
      ⟨some 7, none, .op (.faddr 0 (.t 3))⟩,
      ⟨some 8, none, .op (.load1 (.t 7))⟩,
      ⟨some 9, none, .op (.bin .neq (.t 6) (.t 8))⟩]) (.cond 9 (.seq (.region [⟨some 4, none, .op (.mov (.c (.bool false)))⟩]) .ret) .skip)) (.seq (.seq (.region [⟨some 10, none, .op (.faddr 1 (.t 2))⟩,
      ⟨some 11, none, .op (.loadN 16 (.t 10))⟩,
      ⟨some 12, none, .op (.faddr 1 (.t 3))⟩,
      ⟨some 13, none, .op (.loadN 16 (.t 12))⟩,
      ⟨some 14, none, .call (.c (.fn 151 [] [])) [(.t 11), (.t 13)]⟩,
      ⟨some 15, none, .op (.un .not (.t 14))⟩]) (.cond 15 (.seq (.region [⟨some 4, none, .op (.mov (.c (.bool false)))⟩]) .ret) .skip)) (.seq (.region [⟨some 4, none, .op (.mov (.c (.bool true)))⟩]) .ret)))
theorem r_w_eqDiagram : readF Try.prog 134 = some ⟨16, a_w_eqDiagram, [.slot 4]⟩ := by kernel_rfl

def a_w_eqTerm : AC := .seq (.region [⟨some 2, none, .op (.box (.t 0))⟩,
     ⟨some 3, none, .op (.box (.t 1))⟩,
     ⟨some 4, none, .op (.mov (.c (.bool false)))⟩]) (.seq (.seq (.region [⟨some 5, none, .op (.faddr 0 (.t 2))⟩,
      ⟨some 6, none, .op (.loadN 17 (.t 5))⟩,
      ⟨some 7, none, .op (.faddr 0 (.t 3))⟩,
      ⟨some 8, none, .op (.loadN 17 (.t 7))⟩,
      ⟨some 9, none, .call (.c (.fn 134 [] [])) [(.t 6), (.t 8)]⟩,
      ⟨some 10, none, .op (.un .not (.t 9))⟩]) (.cond 10 (.seq (.region [⟨some 4, none, .op (.mov (.c (.bool false)))⟩]) .ret) .skip)) (.seq (.seq (.region [⟨some 11, none, .op (.faddr 17 (.t 2))⟩,
      ⟨some 12, none, .op (.load1 (.t 11))⟩,
      ⟨some 13, none, .op (.faddr 17 (.t 3))⟩,
      ⟨some 14, none, .op (.load1 (.t 13))⟩,
      ⟨some 15, none, .op (.bin .neq (.t 12) (.t 14))⟩]) (.cond 15 (.seq (.region [⟨some 4, none, .op (.mov (.c (.bool false)))⟩]) .ret) .skip)) (.seq (.region [⟨some 4, none, .op (.mov (.c (.bool true)))⟩]) .ret)))
theorem r_w_eqTerm : readF Try.prog 106 = some ⟨16, a_w_eqTerm, [.slot 4]⟩ := by kernel_rfl

theorem u8_zero : [AV.int .u8 0, .int .u8 0, .int .u8 0, .int .u8 0, .int .u8 0, .int .u8 0, .int .u8 0, .int .u8 0, .int .u8 0, .int .u8 0, .int .u8 0, .int .u8 0, .int .u8 0, .int .u8 0, .int .u8 0, .int .u8 0] = u8s (List.replicate 16 0) := rfl
theorem over_u8s {m m' : List Nat} (h : m.length = 16) (h' : m'.length = 16) : over (u8s m) 0 (u8s m') = u8s m' := over_all (by rw [u8s_length, u8s_length, h, h'])
theorem u8s_all {m : List Nat} (h : m.length = 16) : List.take 16 (List.drop 0 (u8s m)) = u8s m := by
  rw [List.drop_zero, List.take_of_length_le]; rw [u8s_length, h]; exact Nat.le_refl _
theorem dia_set0 {n n' : Int} {m : List Nat} : (dia n m).set 0 (.int .i64 n') = dia n' m := rfl
theorem dia_over1 {n : Int} {m m' : List Nat} (h : m.length = 16) (h' : m'.length = 16) : over (dia n m) 1 (u8s m') = dia n m' := by
  simp only [over, dia, List.take_succ_cons, List.take_zero, List.cons_append, List.nil_append, List.drop_succ_cons]
  rw [u8s_length, h', show 1 + 16 = 16 + 1 from rfl, List.drop_succ_cons, List.drop_of_length_le (by rw [u8s_length, h]; exact Nat.le_refl _), List.append_nil]
theorem take_set {m : List Nat} {k : Nat} (hm : m.length = 16) (hk : k < 16) : (m.take k ++ List.replicate (16 - k) 0).set k (m.getD k 0) = m.take (k + 1) ++ List.replicate (16 - (k + 1)) 0 := by
  rw [List.set_append_right _ _ (by simp; omega)]
  have h1 : k - (m.take k).length = 0 := by simp; omega
  have h2 : 16 - k = (16 - (k + 1)) + 1 := by omega
  rw [h1, h2, List.replicate_succ, List.set_cons_zero, List.take_add_one, List.append_assoc]
  congr 1
  have h3 : m[k]? = some (m.getD k 0) := by rw [List.getD_eq_getElem?_getD, List.getElem?_eq_getElem (by omega)]; rfl
  rw [h3]; rfl

theorem c_w_toByteA16 (m : List Nat) (hm : okD m) : Am.Fn Try.prog 62 [.agg (u8s m)] [] (fun v H' => v = .agg (u8s m) ∧ H' = []) := by
  refine Am.Fn.sameB (R := fun v => v = _) B9_ok mixed r_w_toByteA16 (by simp) (by simp) ?_
  have hml := hm.1
  simp (maxSteps := 3000000) only [a_w_toByteA16, u8_zero, idX_eq, wbE, ↓symP, symE, listE, AK.isCall, enumE, ev, putE, abin, aun, AV.cells, ↓reduceIte, reduceCtorEq, Nat.reduceAdd, Nat.reduceMul, Nat.reduceSub, Nat.reduceEqDiff, Nat.reduceLT, Nat.reduceLeDiff, implies_true, Back, retv, retV, AV.scal, AV.scals]; try simp only [idX_eq, ite_both, pickP_both, not_not_eq, Bool.not_eq_false, Bool.not_eq_true]
  refine WA.loopB B9_ok (fun s => ∃ k : Nat, s = ⟨[(4, .int .i64 k), (3, .ptr 2 0), (2, .ptr 1 0), (1, .ptr 0 0)], [.cells (u8s m), .cells (u8s (List.replicate 16 0)), .cells (u8s (m.take k ++ List.replicate (16 - k) 0))]⟩ ∧ k ≤ 16)
    (fun s => match get s.env 4 with | .int _ k => (100 - k).toNat | _ => 0) ⟨_, Weak.slots [4, 3, 2, 1], 0, rfl, by omega⟩ ?_
  rintro s ⟨k, rfl, hk⟩
  have hw : wrapK .i64 ((k : Int) + 1) = ((k + 1 : Nat) : Int) := by rw [wrap64 (by omega) (by omega)]; rfl
  have hl : (m.take k ++ List.replicate (16 - k) 0).length = 16 := by simp; omega
  simp (maxSteps := 3000000) only [a_w_toByteA16_l1, a_w_toByteA16_k1, hw, hml, hl, rd, wrt, wrl, AO.withl, List.getElem?_cons_zero, List.getElem?_cons_succ, List.set_cons_zero, List.set_cons_succ, u8s_set, u8s_length, u8s_all hl, over_u8s okD_zero hl, List.length_replicate, ones_u8s, scals_u8s, idX_eq, wbE, ↓symP, symE, listE, AK.isCall, enumE, ev, putE, abin, aun, AV.cells, ↓reduceIte, reduceCtorEq, Nat.reduceAdd, Nat.reduceMul, Nat.reduceSub, Nat.reduceEqDiff, Nat.reduceLT, Nat.reduceLeDiff, implies_true, Back, retv, retV, AV.scal, AV.scals]; try simp only [idX_eq, ite_both, pickP_both, not_not_eq, Bool.not_eq_false, Bool.not_eq_true]
  refine ⟨fun h => ⟨⟨by omega, by omega⟩, by omega, ⟨by omega, by omega⟩, ⟨by omega, rfl⟩, _, Weak.slots [4, 3, 2, 1], ⟨k + 1, ?_, by omega⟩, ?_⟩, fun h => ?_⟩
  · simp only [take_set hml (show k < 16 from by omega), keptL, keptW, keptE, kepts, slots, ↓reduceIte, reduceCtorEq, Nat.reduceEqDiff, AV.ren, AV.rens, pos, Nat.reduceAdd]
  · simp only [keptL, keptW, keptE, kepts, slots, ↓reduceIte, reduceCtorEq, Nat.reduceEqDiff, AV.ren, AV.rens, pos, Nat.reduceAdd]; omega
  · have hk16 : k = 16 := by omega
    subst hk16
    have e : List.take 16 m ++ List.replicate (16 - 16) 0 = m := by rw [List.take_of_length_le (by omega)]; simp
    rw [e]

def g_bytes : List AV → Option AV
  | [.agg l] => match bytesOf l with
    | some m => chk (m.length = 16) (some (.agg l))
    | none => none
  | _ => none
theorem k_w_toByteA16 : Am.Callee Try.prog 62 (plainE g_bytes) :=
  Am.Callee.plain fun xs v he => by
    unfold g_bytes at he
    split at he
    · split at he
      · rename_i l m hd
        obtain ⟨h1, he⟩ := chk_some he
        cases he
        obtain ⟨rfl, h2⟩ := bytesOf_some hd
        exact ⟨by simp only [AV.scals, AV.scal, scals_u8s, Bool.and_self], by simp only [AV.scal, scals_u8s], c_w_toByteA16 m ⟨h1, h2⟩⟩
      · cases he
    · cases he
def B10 : Book := (B9.put 62 (plainE g_bytes))

theorem B10_ok : BookOk Try.prog B10 := (B9_ok.put (k_w_toByteA16))

theorem B10_w_toByteA16_E6 : B10 62 = some (plainE g_bytes) := rfl


theorem c_w_toDiagram (n : Int) (m : List Nat) (hm : okD m) : Am.Fn Try.prog 24 [.agg (dia n m)] [] (fun v H' => v = .agg (dia n m) ∧ H' = []) := by
  refine Am.Fn.sameB (R := fun v => v = _) B10_ok mixed r_w_toDiagram (by simp) (by simp) ?_
  have hml := hm.1
  simp (maxSteps := 3000000) only [a_w_toDiagram, B10_w_toByteA16_E6, g_bytes, dia_zero, hml, dia_mates hml, bytesOf_u8s hm.2, dia_set0, dia_over1 okD_zero hml, over_dia okD_zero hml, dia_all hml, rd, wrt, wrl, AO.withl, List.getElem?_cons_zero, List.getElem?_cons_succ, List.set_cons_zero, List.set_cons_succ, dia_length, u8s_length, List.length_replicate, ones_u8s, ones_dia, scals_dia, AV.one, idX_eq, wbE, ↓symP, symE, listE, AK.isCall, enumE, ev, putE, abin, aun, AV.cells, ↓reduceIte, reduceCtorEq, Nat.reduceAdd, Nat.reduceMul, Nat.reduceSub, Nat.reduceEqDiff, Nat.reduceLT, Nat.reduceLeDiff, implies_true, Back, retv, retV, AV.scal, AV.scals]; try simp only [idX_eq, ite_both, pickP_both, not_not_eq, Bool.not_eq_false, Bool.not_eq_true]

theorem c_w_eqByteA16 (m m' : List Nat) (hm : okD m) (hm' : okD m') : Am.Fn Try.prog 151 [.agg (u8s m), .agg (u8s m')] [] (fun v H' => v = .bool (decide (m = m')) ∧ H' = []) := by
  refine Am.Fn.sameB (R := fun v => v = _) B10_ok mixed r_w_eqByteA16 (by simp) (by simp) ?_
  have hml := hm.1
  have hml' := hm'.1
  simp (maxSteps := 3000000) only [a_w_eqByteA16, idX_eq, wbE, ↓symP, symE, listE, AK.isCall, enumE, ev, putE, abin, aun, AV.cells, ↓reduceIte, reduceCtorEq, Nat.reduceAdd, Nat.reduceMul, Nat.reduceSub, Nat.reduceEqDiff, Nat.reduceLT, Nat.reduceLeDiff, implies_true, Back, retv, retV, AV.scal, AV.scals]; try simp only [idX_eq, ite_both, pickP_both, not_not_eq, Bool.not_eq_false, Bool.not_eq_true]
  refine WA.loopB B10_ok (fun s => ∃ k : Nat, s = ⟨[(5, .int .i64 k), (3, .ptr 1 0), (2, .ptr 0 0)], [.cells (u8s m), .cells (u8s m')]⟩ ∧ k ≤ 16 ∧ ∀ i, i < k → m.getD i 0 = m'.getD i 0)
    (fun s => match get s.env 5 with | .int _ k => (100 - k).toNat | _ => 0) ⟨_, Weak.slots [5, 3, 2], 0, rfl, by omega, by intros; omega⟩ ?_
  rintro s ⟨k, rfl, hk, hc⟩
  have hw : wrapK .i64 ((k : Int) + 1) = ((k + 1 : Nat) : Int) := by rw [wrap64 (by omega) (by omega)]; rfl
  simp (maxSteps := 3000000) only [a_w_eqByteA16_l1, a_w_eqByteA16_k1, hw, hml, hml', rd, List.getElem?_cons_zero, List.getElem?_cons_succ, idX_eq, wbE, ↓symP, symE, listE, AK.isCall, enumE, ev, putE, abin, aun, AV.cells, ↓reduceIte, reduceCtorEq, Nat.reduceAdd, Nat.reduceMul, Nat.reduceSub, Nat.reduceEqDiff, Nat.reduceLT, Nat.reduceLeDiff, implies_true, Back, retv, retV, AV.scal, AV.scals]; try simp only [idX_eq, ite_both, pickP_both, not_not_eq, Bool.not_eq_false, Bool.not_eq_true]
  refine ⟨fun h => ⟨⟨by omega, by omega⟩, by omega, ⟨by omega, by omega⟩, by omega, fun h2 => ?_, fun h2 => ⟨_, Weak.slots [5, 3, 2], ⟨k + 1, rfl, by omega, fun i hi => ?_⟩, ?_⟩⟩, fun h => ?_⟩
  · symm; rw [decide_eq_false_iff_not]; rintro rfl; exact h2 rfl
  · by_cases e : i = k
    · subst e; omega
    · exact hc i (by omega)
  · simp only [keptL, keptW, keptE, kepts, slots, ↓reduceIte, reduceCtorEq, Nat.reduceEqDiff, AV.ren, AV.rens, pos, Nat.reduceAdd]; omega
  · symm; rw [decide_eq_true_eq]
    exact list16 hml hml' fun i hi => hc i (by omega)

def g_eqBytes : List AV → Option AV
  | [.agg l, .agg l'] => match bytesOf l, bytesOf l' with
    | some m, some m' => chk (m.length = 16 ∧ m'.length = 16) (some (.bool (decide (m = m'))))
    | _, _ => none
  | _ => none
theorem k_w_eqByteA16 : Am.Callee Try.prog 151 (plainE g_eqBytes) :=
  Am.Callee.plain fun xs v he => by
    unfold g_eqBytes at he
    split at he
    · split at he
      · rename_i m m' hd hd'
        obtain ⟨h1, he⟩ := chk_some he
        cases he
        obtain ⟨rfl, h2⟩ := bytesOf_some hd
        obtain ⟨rfl, h2'⟩ := bytesOf_some hd'
        exact ⟨by simp only [AV.scals, AV.scal, scals_u8s, Bool.and_self], rfl, c_w_eqByteA16 m m' ⟨h1.1, h2⟩ ⟨h1.2, h2'⟩⟩
      · cases he
    · cases he
def g_dia : List AV → Option AV
  | [.agg l] => match diaOf l with
    | some _ => some (.agg l)
    | none => none
  | _ => none
theorem k_w_toDiagram : Am.Callee Try.prog 24 (plainE g_dia) :=
  Am.Callee.plain fun xs v he => by
    unfold g_dia at he
    split at he
    · split at he
      · rename_i l r hd
        obtain ⟨n, m⟩ := r
        cases he
        obtain ⟨rfl, h2⟩ := diaOf_some hd
        exact ⟨by simp only [AV.scals, AV.scal, scals_dia, Bool.and_self], by simp only [AV.scal, scals_dia], c_w_toDiagram n m h2⟩
      · cases he
    · cases he
def B11 : Book := ((B10.put 24 (plainE g_dia)).put 151 (plainE g_eqBytes))

theorem B11_ok : BookOk Try.prog B11 := ((B10_ok.put (k_w_toDiagram)).put (k_w_eqByteA16))

theorem B11_w_toByteA16_E6 : B11 62 = some (plainE g_bytes) := rfl
theorem B11_w_eqByteA16_E6 : B11 151 = some (plainE g_eqBytes) := rfl


theorem c_w_eqDiagram (n n' : Int) (m m' : List Nat) (hm : okD m) (hm' : okD m') : Am.Fn Try.prog 134 [.agg (dia n m), .agg (dia n' m')] [] (fun v H' => v = .bool (decide (n = n' ∧ m = m')) ∧ H' = []) := by
  refine Am.Fn.sameB (R := fun v => v = _) B11_ok mixed r_w_eqDiagram (by simp) (by simp) ?_
  have hml := hm.1
  have hml' := hm'.1
  simp (maxSteps := 3000000) only [a_w_eqDiagram, B11_w_toByteA16_E6, B11_w_eqByteA16_E6, g_bytes, g_eqBytes, dia_mates hml, dia_mates hml', bytesOf_u8s hm.2, bytesOf_u8s hm'.2, hml, hml', dia_length, rd, List.getElem?_cons_zero, List.getElem?_cons_succ, idX_eq, wbE, ↓symP, symE, listE, AK.isCall, enumE, ev, putE, abin, aun, AV.cells, ↓reduceIte, reduceCtorEq, Nat.reduceAdd, Nat.reduceMul, Nat.reduceSub, Nat.reduceEqDiff, Nat.reduceLT, Nat.reduceLeDiff, implies_true, Back, retv, retV, AV.scal, AV.scals]; try simp only [idX_eq, ite_both, pickP_both, not_not_eq, Bool.not_eq_false, Bool.not_eq_true]
  refine ⟨fun h => ?_, fun h => ⟨fun h2 => ?_, fun h2 => ?_⟩⟩
  · symm; rw [decide_eq_false_iff_not]; exact fun e => h e.1
  · symm; rw [decide_eq_false_iff_not]; exact fun e => h2 e.2
  · symm; rw [decide_eq_true_eq]; exact ⟨h, h2⟩

/-- A term's cells. -/
def trm (t : Int × List Nat × Int) : List AV := dia t.1 t.2.1 ++ [.int .i64 t.2.2]
def trms (ts : List (Int × List Nat × Int)) : List AV := ts.flatMap trm
def okT (ts : List (Int × List Nat × Int)) : Prop := ∀ t, t ∈ ts → okD t.2.1
theorem scals_app : ∀ (a b : List AV), AV.scals a = true → AV.scals b = true → AV.scals (a ++ b) = true
  | [], b, _, h => h
  | x :: a, b, h, h' => by
    simp only [AV.scals, Bool.and_eq_true, List.cons_append] at h ⊢
    exact ⟨h.1, scals_app a b h.2 h'⟩
theorem scals_trm (t : Int × List Nat × Int) : AV.scals (trm t) = true := scals_app _ _ (scals_dia _ _) rfl
theorem scals_trms : ∀ (ts : List (Int × List Nat × Int)), AV.scals (trms ts) = true
  | [] => rfl
  | t :: ts => by simp only [trms, List.flatMap_cons]; exact scals_app _ _ (scals_trm t) (scals_trms ts)
theorem trm_length {t : Int × List Nat × Int} (h : okD t.2.1) : (trm t).length = 18 := by simp [trm, dia_length, h.1]
theorem trms_length : ∀ {ts : List (Int × List Nat × Int)}, okT ts → (trms ts).length = ts.length * 18
  | [], _ => rfl
  | t :: ts, h => by
    simp only [trms, List.flatMap_cons, List.length_append, trm_length (h t (by simp)), List.length_cons]
    have := trms_length (ts := ts) fun u hu => h u (List.mem_cons_of_mem _ hu)
    unfold trms at this
    rw [this]; omega
theorem trms_get : ∀ {ts : List (Int × List Nat × Int)} {i : Nat}, okT ts → (h : i < ts.length) → List.take 18 (List.drop (i * 18) (trms ts)) = trm ts[i]
  | t :: ts, 0, h, hi => by
    simp only [trms, List.flatMap_cons, Nat.zero_mul, List.drop_zero, List.getElem_cons_zero]
    rw [List.take_append_of_le_length (by rw [trm_length (h t (by simp))]; exact Nat.le_refl _), List.take_of_length_le (by rw [trm_length (h t (by simp))]; exact Nat.le_refl _)]
  | t :: ts, i + 1, h, hi => by
    have h1 := trms_get (ts := ts) (i := i) (fun u hu => h u (List.mem_cons_of_mem _ hu)) (by simpa using hi)
    simp only [trms, List.flatMap_cons, List.getElem_cons_succ] at h1 ⊢
    rw [List.drop_append, List.drop_of_length_le (by rw [trm_length (h t (by simp))]; omega), List.nil_append, trm_length (h t (by simp)), ← h1]
    congr 2; omega
theorem trm_dia {t : Int × List Nat × Int} (h : okD t.2.1) : List.take 17 (List.drop 0 (trm t)) = dia t.1 t.2.1 := by
  rw [List.drop_zero, trm, List.take_append_of_le_length (by rw [dia_length, h.1]; exact Nat.le_refl _), dia_take17 h.1]
theorem trm_factor {t : Int × List Nat × Int} (h : okD t.2.1) : (trm t)[17]? = some (.int .i64 t.2.2) := by
  rw [trm, List.getElem?_append_right (by rw [dia_length, h.1]; exact Nat.le_refl _), dia_length, h.1]; rfl

def g_eqDiagram : List AV → Option AV
  | [.agg l, .agg l'] => match diaOf l, diaOf l' with
    | some (n, m), some (n', m') => some (.bool (decide (n = n' ∧ m = m')))
    | _, _ => none
  | _ => none
theorem k_w_eqDiagram : Am.Callee Try.prog 134 (plainE g_eqDiagram) :=
  Am.Callee.plain fun xs v he => by
    unfold g_eqDiagram at he
    split at he
    · split at he
      · rename_i n m n' m' hd hd'
        cases he
        obtain ⟨rfl, h2⟩ := diaOf_some hd
        obtain ⟨rfl, h2'⟩ := diaOf_some hd'
        exact ⟨by simp only [AV.scals, AV.scal, scals_dia, Bool.and_self], rfl, c_w_eqDiagram n n' m m' h2 h2'⟩
      · cases he
    · cases he
def B12 : Book := (B11.put 134 (plainE g_eqDiagram))

theorem B12_ok : BookOk Try.prog B12 := (B11_ok.put (k_w_eqDiagram))

theorem B12_w_toByteA16_E6 : B12 62 = some (plainE g_bytes) := rfl
theorem B12_w_eqByteA16_E6 : B12 151 = some (plainE g_eqBytes) := rfl
theorem B12_w_eqDiagram_E6 : B12 134 = some (plainE g_eqDiagram) := rfl

theorem c_w_eqTerm (t u : Int × List Nat × Int) (ht : okD t.2.1) (hu : okD u.2.1) : Am.Fn Try.prog 106 [.agg (trm t), .agg (trm u)] [] (fun v H' => v = .bool (decide (t = u)) ∧ H' = []) := by
  refine Am.Fn.sameB (R := fun v => v = _) B12_ok mixed r_w_eqTerm (by simp) (by simp) ?_
  have h1 := trm_length ht
  have h2 := trm_length hu
  simp (maxSteps := 3000000) only [a_w_eqTerm, B12_w_toByteA16_E6, B12_w_eqByteA16_E6, B12_w_eqDiagram_E6, g_bytes, g_eqBytes, g_eqDiagram, trm_dia ht, trm_dia hu, trm_factor ht, trm_factor hu, h1, h2, diaOf_dia ht, diaOf_dia hu, rd, List.getElem?_cons_zero, List.getElem?_cons_succ, idX_eq, wbE, ↓symP, symE, listE, AK.isCall, enumE, ev, putE, abin, aun, AV.cells, ↓reduceIte, reduceCtorEq, Nat.reduceAdd, Nat.reduceMul, Nat.reduceSub, Nat.reduceEqDiff, Nat.reduceLT, Nat.reduceLeDiff, implies_true, Back, retv, retV, AV.scal, AV.scals]; try simp only [idX_eq, ite_both, pickP_both, not_not_eq, Bool.not_eq_false, Bool.not_eq_true]
  have he : t = u ↔ (t.1 = u.1 ∧ t.2.1 = u.2.1) ∧ t.2.2 = u.2.2 := by
    obtain ⟨a, b, c⟩ := t
    obtain ⟨a', b', c'⟩ := u
    simp only [Prod.mk.injEq, and_assoc]
  refine ⟨fun h => ?_, fun h => ⟨fun h2 => ?_, fun h2 => ?_⟩⟩
  · symm; rw [decide_eq_false_iff_not, he]; exact fun e => h e.1
  · symm; rw [decide_eq_false_iff_not, he]; exact fun e => h2 e.2
  · symm; rw [decide_eq_true_eq, he]; exact ⟨h, h2⟩
def trmOf (l : List AV) : Option (Int × List Nat × Int) := match diaOf (l.take 17), l.drop 17 with
  | some (n, m), [.int .i64 f] => some (n, m, f)
  | _, _ => none
theorem trmOf_trm {t : Int × List Nat × Int} (h : okD t.2.1) : trmOf (trm t) = some t := by
  have h1 := trm_dia h
  rw [List.drop_zero] at h1
  have h2 : (trm t).drop 17 = [.int .i64 t.2.2] := by
    rw [trm, List.drop_append, List.drop_of_length_le (by rw [dia_length, h.1]; exact Nat.le_refl _), dia_length, h.1]; rfl
  unfold trmOf
  rw [h1, h2, diaOf_dia h]
theorem trmOf_some {l : List AV} {t : Int × List Nat × Int} (h : trmOf l = some t) : l = trm t ∧ okD t.2.1 := by
  unfold trmOf at h
  split at h
  · rename_i n m f h1 h2
    cases h
    obtain ⟨h3, h4⟩ := diaOf_some h1
    refine ⟨?_, h4⟩
    rw [← List.take_append_drop 17 l, h3, h2]; rfl
  · cases h
def g_eqTerm : List AV → Option AV
  | [.agg l, .agg l'] => match trmOf l, trmOf l' with
    | some t, some u => some (.bool (decide (t = u)))
    | _, _ => none
  | _ => none
theorem k_w_eqTerm : Am.Callee Try.prog 106 (plainE g_eqTerm) :=
  Am.Callee.plain fun xs v he => by
    unfold g_eqTerm at he
    split at he
    · split at he
      · rename_i t u hd hd'
        cases he
        obtain ⟨rfl, h2⟩ := trmOf_some hd
        obtain ⟨rfl, h2'⟩ := trmOf_some hd'
        exact ⟨by simp only [AV.scals, AV.scal, scals_trm, Bool.and_self], rfl, c_w_eqTerm t u h2 h2'⟩
      · cases he
    · cases he
def B13 : Book := (B12.put 106 (plainE g_eqTerm))

theorem B13_ok : BookOk Try.prog B13 := (B12_ok.put (k_w_eqTerm))

end Go.Proofs.Ytkgoadglalpbfaa
