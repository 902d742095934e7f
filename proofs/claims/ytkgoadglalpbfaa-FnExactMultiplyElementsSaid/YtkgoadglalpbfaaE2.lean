/- Contracts: the texts of diagrams. -/
import Derived.Test.YtkgoadglalpbfaaAmC
import Derived.Test.YtkgoadglalpbfaaE1
namespace Go.Proofs.Ytkgoadglalpbfaa
open Go.Am Go.Dia
set_option linter.unusedSimpArgs false
set_option linter.unusedVariables false
set_option maxRecDepth 4000


def a_i_Diagram_n : AC := .seq (.region [⟨some 2, none, .op (.mov (.c (.int .i64 0)))⟩]) (.seq (.region [⟨some 3, none, .op (.mov (.t 0))⟩,
     ⟨some 4, none, .op (.nilchk (.t 3))⟩,
     ⟨some 5, none, .op (.faddr 0 (.t 4))⟩,
     ⟨some 6, none, .op (.load1 (.t 5))⟩,
     ⟨some 2, none, .op (.mov (.t 6))⟩]) .ret)
theorem r_i_Diagram_n : readF Try.prog 115 = some ⟨7, a_i_Diagram_n, [.slot 2]⟩ := by kernel_rfl
def a_i_Diagram_text_l1 : AC := .seq (.region [⟨some 12, none, .op (.bin .lss (.t 11) (.t 10))⟩]) (.seq (.cond 12 .skip (.exit 0)) (.seq (.block 1 (.seq (.region [⟨some 13, none, .op (.mov (.t 11))⟩,
          ⟨some 5, none, .op (.mov (.t 13))⟩]) (.seq (.draw false [⟨some 14, none, .op (.mov (.t 3))⟩,
          ⟨some 15, none, .op (.mov (.t 0))⟩,
          ⟨some 16, none, .op (.mov (.t 3))⟩,
          ⟨some 17, none, .op (.mov (.t 5))⟩,
          ⟨some 19, none, .op (.nilchk (.t 15))⟩,
          ⟨some 20, none, .op (.faddr 1 (.t 19))⟩,
          ⟨some 25, none, .op (.mov (.t 5))⟩,
          ⟨some 18, none, .call (.c (.fn 132 [] [])) [(.t 16), (.t 17)]⟩,
          ⟨some 21, none, .op (.iaddrA 16 1 (.t 20) (.t 18))⟩,
          ⟨some 22, none, .op (.load1 (.t 21))⟩,
          ⟨some 23, none, .op (.conv .i64 (.t 22))⟩,
          ⟨some 24, none, .call (.c (.fn 132 [] [])) [(.t 14), (.t 23)]⟩,
          ⟨some 26, none, .op (.bin .gtr (.t 24) (.t 25))⟩]) (.cond 26 (.region [⟨some 27, none, .op (.mov (.t 4))⟩,
           ⟨some 28, none, .op (.mkslc 1 [(.int .u8 0)] [(0, 1, (.c (.int .u8 40)))])⟩,
           ⟨some 29, none, .op (.append 1 1 (.t 27) (.t 28))⟩,
           ⟨some 4, none, .op (.mov (.t 29))⟩]) (.region [⟨some 30, none, .op (.mov (.t 4))⟩,
           ⟨some 31, none, .op (.mkslc 1 [(.int .u8 0)] [(0, 1, (.c (.int .u8 41)))])⟩,
           ⟨some 32, none, .op (.append 1 1 (.t 30) (.t 31))⟩,
           ⟨some 4, none, .op (.mov (.t 32))⟩]))))) (.region [⟨some 33, none, .op (.bin .add (.t 11) (.c (.int .i64 1)))⟩,
       ⟨some 11, none, .op (.mov (.t 33))⟩])))
def a_i_Diagram_text_k1 : AC := .seq (.region [⟨some 34, none, .op (.mov (.t 4))⟩,
     ⟨some 35, none, .op (.b2s (.t 34))⟩,
     ⟨some 2, none, .op (.mov (.t 35))⟩]) .ret
def a_i_Diagram_text : AC := .seq (.region [⟨some 2, none, .op (.mov (.c (.str [])))⟩]) (.seq (.region [⟨some 6, none, .op (.mov (.t 0))⟩,
     ⟨some 7, none, .call (.c (.fn 115 [] [])) [(.t 6)]⟩,
     ⟨some 8, none, .op (.mkslc 0 [] [])⟩,
     ⟨some 3, none, .op (.mov (.t 7))⟩,
     ⟨some 4, none, .op (.mov (.t 8))⟩]) (.seq (.seq (.region [⟨some 9, none, .op (.mov (.t 3))⟩,
      ⟨some 10, none, .op (.bin .mul (.c (.int .i64 2)) (.t 9))⟩,
      ⟨some 11, none, .op (.mov (.c (.int .i64 0)))⟩]) (.block 0 (.loop a_i_Diagram_text_l1))) a_i_Diagram_text_k1))
theorem r_i_Diagram_text : readF Try.prog 100 = some ⟨36, a_i_Diagram_text, [.slot 2]⟩ := by kernel_rfl
def a_s_l01Text_l1 : AC := .seq (.seq (.region [⟨some 7, none, .op (.mov (.t 4))⟩,
         ⟨some 8, none, .op (.faddr 0 (.t 1))⟩,
         ⟨some 9, none, .op (.load1 (.t 8))⟩,
         ⟨some 10, none, .op (.bin .mul (.c (.int .i64 2)) (.t 9))⟩,
         ⟨some 11, none, .op (.bin .lss (.t 7) (.t 10))⟩]) (.cond 11 .skip (.exit 0))) (.seq (.block 1 (.seq (.region [⟨some 14, none, .op (.faddr 0 (.t 1))⟩,
          ⟨some 15, none, .op (.load1 (.t 14))⟩,
          ⟨some 16, none, .op (.mov (.t 4))⟩,
          ⟨some 17, none, .call (.c (.fn 135 [] [])) [(.t 15), (.t 16)]⟩,
          ⟨some 5, none, .op (.mov (.t 17))⟩]) (.seq (.draw false [⟨some 18, none, .op (.faddr 0 (.t 1))⟩,
          ⟨some 19, none, .op (.load1 (.t 18))⟩,
          ⟨some 20, none, .op (.mov (.t 5))⟩,
          ⟨some 21, none, .op (.faddr 1 (.t 1))⟩,
          ⟨some 22, none, .op (.iaddrA 16 1 (.t 21) (.t 20))⟩,
          ⟨some 23, none, .op (.load1 (.t 22))⟩,
          ⟨some 24, none, .op (.conv .i64 (.t 23))⟩,
          ⟨some 26, none, .op (.mov (.t 4))⟩,
          ⟨some 25, none, .call (.c (.fn 135 [] [])) [(.t 19), (.t 24)]⟩,
          ⟨some 27, none, .op (.bin .gtr (.t 25) (.t 26))⟩]) (.cond 27 (.region [⟨some 28, none, .op (.mov (.t 3))⟩,
           ⟨some 29, none, .op (.mkslc 1 [(.int .u8 0)] [(0, 1, (.c (.int .u8 40)))])⟩,
           ⟨some 30, none, .op (.append 1 1 (.t 28) (.t 29))⟩,
           ⟨some 3, none, .op (.mov (.t 30))⟩]) (.region [⟨some 31, none, .op (.mov (.t 3))⟩,
           ⟨some 32, none, .op (.mkslc 1 [(.int .u8 0)] [(0, 1, (.c (.int .u8 41)))])⟩,
           ⟨some 33, none, .op (.append 1 1 (.t 31) (.t 32))⟩,
           ⟨some 3, none, .op (.mov (.t 33))⟩]))))) (.region [⟨some 12, none, .op (.mov (.t 4))⟩,
       ⟨some 13, none, .op (.bin .add (.t 12) (.c (.int .i64 1)))⟩,
       ⟨some 4, none, .op (.mov (.t 13))⟩]))
def a_s_l01Text_k1 : AC := .seq (.region [⟨some 34, none, .op (.mov (.t 3))⟩,
     ⟨some 35, none, .op (.b2s (.t 34))⟩,
     ⟨some 2, none, .op (.mov (.t 35))⟩]) .ret
def a_s_l01Text : AC := .seq (.region [⟨some 1, none, .op (.box (.t 0))⟩,
     ⟨some 2, none, .op (.mov (.c (.str [])))⟩]) (.seq (.region [⟨some 6, none, .op (.mkslc 0 [] [])⟩,
     ⟨some 3, none, .op (.mov (.t 6))⟩]) (.seq (.seq (.region [⟨some 4, none, .op (.mov (.c (.int .i64 0)))⟩]) (.block 0 (.loop a_s_l01Text_l1))) a_s_l01Text_k1))
theorem r_s_l01Text : readF Try.prog 109 = some ⟨36, a_s_l01Text, [.slot 2]⟩ := by kernel_rfl

/-- Bytes, 16 of them. -/
def okD (m : List Nat) : Prop := m.length = 16 ∧ ∀ x, x ∈ m → x < 256
theorem okD.get {m : List Nat} (h : okD m) (i : Nat) : m.getD i 0 < 256 := by
  rw [List.getD_eq_getElem?_getD]
  cases e : m[i]? with
  | none => simp
  | some x => exact h.2 x (List.mem_of_getElem? e)

def bytesOf : List AV → Option (List Nat)
  | [] => some []
  | .int .u8 x :: r => if 0 ≤ x ∧ x < 256 then (match bytesOf r with
    | some l => some (x.toNat :: l)
    | none => none) else none
  | _ => none
theorem bytesOf_u8s : ∀ {m : List Nat}, (∀ x, x ∈ m → x < 256) → bytesOf (u8s m) = some m
  | [], _ => rfl
  | x :: m, h => by
    have h1 := bytesOf_u8s (m := m) fun y hy => h y (List.mem_cons_of_mem _ hy)
    have h2 := h x (by simp)
    simp only [u8s, List.map_cons, bytesOf] at h1 ⊢
    rw [if_pos (by omega), h1]
    simp
theorem bytesOf_some : ∀ {l : List AV} {m : List Nat}, bytesOf l = some m → l = u8s m ∧ ∀ x, x ∈ m → x < 256
  | [], m, h => by cases h; exact ⟨rfl, by simp⟩
  | a :: l, m, h => by
    cases a <;> (try (simp only [bytesOf, reduceCtorEq] at h; done))
    rename_i k x
    cases k <;> (try (simp only [bytesOf, reduceCtorEq] at h; done))
    simp only [bytesOf] at h
    split at h
    · rename_i hx
      split at h
      · rename_i r hr
        cases h
        obtain ⟨h1, h2⟩ := bytesOf_some hr
        refine ⟨?_, fun y hy => ?_⟩
        · simp only [u8s, List.map_cons, List.cons.injEq, AV.int.injEq, true_and]
          exact ⟨by omega, h1⟩
        · rcases List.mem_cons.1 hy with rfl | hy
          · omega
          · exact h2 y hy
      · cases h
    · cases h
def diaOf : List AV → Option (Int × List Nat)
  | .int .i64 n :: r => match bytesOf r with
    | some m => if m.length = 16 then some (n, m) else none
    | none => none
  | _ => none
theorem diaOf_dia {n : Int} {m : List Nat} (h : okD m) : diaOf (dia n m) = some (n, m) := by
  simp only [dia, diaOf, bytesOf_u8s h.2, h.1, if_true]
theorem diaOf_some {l : List AV} {n : Int} {m : List Nat} (h : diaOf l = some (n, m)) : l = dia n m ∧ okD m := by
  unfold diaOf at h
  split at h
  · split at h
    · rename_i hm
      obtain ⟨h1, h2⟩ := bytesOf_some hm
      split at h
      · rename_i h3; cases h; exact ⟨by rw [h1]; rfl, h3, h2⟩
      · cases h
    · cases h
  · cases h

theorem c_i_n (n : Int) : Am.Fn Try.prog 115 [.ptr 0 0] [.ro [.int .i64 n]] (fun v H' => v = .int .i64 n ∧ H' = [.ro [.int .i64 n]]) := by
  refine Am.Fn.sameB (R := fun v => v = _) B3_ok mixed r_i_Diagram_n (by simp) (by intro j o h; cases j <;> simp at h; subst h; exact ⟨trivial, trivial⟩) ?_
  simp (maxSteps := 3000000) only [a_i_Diagram_n, rd, List.getElem?_cons_zero, idX_eq, wbE, ↓symP, symE, listE, AK.isCall, enumE, ev, putE, abin, aun, AV.cells, ↓reduceIte, reduceCtorEq, Nat.reduceAdd, Nat.reduceMul, Nat.reduceSub, Nat.reduceEqDiff, Nat.reduceLT, Nat.reduceLeDiff, implies_true, Back, retv, retV, AV.scal, AV.scals]; try simp only [idX_eq, ite_both, pickP_both, not_not_eq, Bool.not_eq_false, Bool.not_eq_true]
  exact ⟨_, rfl⟩
def g_n : List AV → List AV → Option AV
  | [.int .i64 n], [] => some (.int .i64 n)
  | _, _ => none
theorem k_i_n : Am.Callee Try.prog 115 (readE 1 g_n) :=
  Am.Callee.read fun l xs v hl he => by
    unfold g_n at he
    split at he
    · cases he; exact ⟨rfl, rfl, rfl, c_i_n _⟩
    · cases he
theorem dia_take1 {n : Int} {m : List Nat} : List.take 1 (List.drop 0 (dia n m)) = [.int .i64 n] := rfl
def B4 : Book := (B3.put 115 (readE 1 g_n))

theorem B4_ok : BookOk Try.prog B4 := (B3_ok.put (k_i_n))

theorem B4_i_placeOf_E2 : B4 132 = some (plainE g_place) := rfl
theorem B4_s_l01Place_E2 : B4 135 = some (plainE g_place) := rfl
theorem B4_i_Diagram_n_E2 : B4 115 = some (readE 1 g_n) := rfl


theorem placeZ_nat {n k : Nat} (h : k < 2 * n) : placeZ n k = (place n k : Nat) := by
  unfold placeZ place; split <;> split <;> omega
theorem placeZ_cmp {n x k : Nat} : ((k : Int) < placeZ n x) ↔ (k < place n x) := by
  unfold placeZ place; split <;> split <;> omega
theorem small_nat {x : Nat} (h : x < 1000) : smallZ (x : Int) := by unfold smallZ; omega
theorem ro_under {l : List AV} (h : AV.scals l = true) : ∀ (j : Nat) (o : AO), [AO.ro l][j]? = some o → o.under [AO.ro l].length := by
  intro j o e
  cases j with
  | zero => simp only [List.getElem?_cons_zero, Option.some.injEq] at e; subst e; exact unders_scal _ _ h
  | succ j => simp at e

def txtN (n : Nat) (m : List Nat) : List Nat := (List.range (2 * n)).map fun k => if k < place n (m.getD (place n k) 0) then 40 else 41
theorem txt_text (n : Nat) (m : List Nat) : (txtN n m).map (fun x => UInt8.ofNat x) = textOf n m := by
  simp only [txtN, textOf, List.map_map]
  refine List.map_congr_left fun k _ => ?_
  simp only [Function.comp]
  split <;> rfl
theorem txt_length (n : Nat) (m : List Nat) : (txtN n m).length = 2 * n := by simp [txtN]
theorem txt_take {n : Nat} {m : List Nat} {k : Nat} (h : k < 2 * n) : (txtN n m).take (k + 1) = (txtN n m).take k ++ [if k < place n (m.getD (place n k) 0) then 40 else 41] := by
  rw [List.take_add_one]
  congr 1
  simp [txtN, h]
theorem take_all {l : List AV} {k : Nat} (h : l.length ≤ k) : List.take k (List.drop 0 l) = l := by rw [List.drop_zero, List.take_of_length_le h]

theorem c_i_text (n : Nat) (m : List Nat) (hn : n ≤ 8) (hm : okD m) : Am.Fn Try.prog 100 [.ptr 0 0] [.ro (dia n m)] (fun v H' => v = .str (textOf n m) ∧ H' = [.ro (dia n m)]) := by
  refine Am.Fn.sameB (R := fun v => v = _) B4_ok mixed r_i_Diagram_text (by simp) (ro_under (scals_dia _ _)) ?_
  have h2n : wrapK .i64 (2 * (n : Int)) = ((2 * n : Nat) : Int) := by rw [wrap64 (by omega) (by omega)]; simp
  simp (maxSteps := 3000000) only [a_i_Diagram_text, B4_i_placeOf_E2, B4_s_l01Place_E2, B4_i_Diagram_n_E2, g_n, g_place, rd, List.getElem?_cons_zero, dia_take1, dia_length, hm.1, h2n, fillA, idX_eq, wbE, ↓symP, symE, listE, AK.isCall, enumE, ev, putE, abin, aun, AV.cells, ↓reduceIte, reduceCtorEq, Nat.reduceAdd, Nat.reduceMul, Nat.reduceSub, Nat.reduceEqDiff, Nat.reduceLT, Nat.reduceLeDiff, implies_true, Back, retv, retV, AV.scal, AV.scals]; try simp only [idX_eq, ite_both, pickP_both, not_not_eq, Bool.not_eq_false, Bool.not_eq_true]
  refine WA.loopB B4_ok (fun s => ∃ k : Nat, s = ⟨[(11, .int .i64 k), (10, .int .i64 ((2 * n : Nat) : Int)), (4, .slc 1 0 k false 0), (3, .int .i64 n), (0, .ptr 0 0)], [.ro (dia n m), .vec 1 (u8s ((txtN n m).take k))]⟩ ∧ k ≤ 2 * n)
    (fun s => match get s.env 11 with | .int _ k => (100 - k).toNat | _ => 0) ⟨_, Weak.trans (Weak.slots [11, 10, 4, 3, 0]) (Weak.vec 1 0 1 (by decide) rfl rfl ?_ ?_), 0, ?_, by omega⟩ ?_
  · simp only [slots, get_put, vecs, List.map_cons, List.map_nil, AV.toVec, AO.toVec, AV.toVecs, toVecs_scal _ _ _ (scals_dia _ _), toVecs_scal _ _ _ (scals_u8s _), toVecs_scal _ _ _ (scals_i64s _), toVecs_scal _ _ _ (scals_n64s _), List.set_cons_zero, List.set_cons_succ, List.getElem?_cons_zero, List.getElem?_cons_succ, reduceIte, and_self, Nat.reduceEqDiff, reduceCtorEq, false_and, and_false, AV.exact, AV.exacts, AO.exact, List.all_cons, List.all_nil, exacts_scal _ _ (scals_dia _ _), exacts_scal _ _ (scals_u8s _), exacts_scal _ _ (scals_i64s _), exacts_scal _ _ (scals_n64s _), Bool.and_self, Bool.and_true, Bool.or_true, Bool.or_false, Nat.reduceBEq, beq_self_eq_true, Bool.not_true, Bool.not_false, List.cons_append, List.nil_append]
  · simp only [vecs, List.map_cons, List.map_nil, AV.toVec, AO.toVec, AV.toVecs, toVecs_scal _ _ _ (scals_dia _ _), toVecs_scal _ _ _ (scals_u8s _), toVecs_scal _ _ _ (scals_i64s _), toVecs_scal _ _ _ (scals_n64s _), List.set_cons_zero, List.set_cons_succ, List.getElem?_cons_zero, List.getElem?_cons_succ, reduceIte, and_self, Nat.reduceEqDiff, reduceCtorEq, false_and, and_false, AV.exact, AV.exacts, AO.exact, List.all_cons, List.all_nil, exacts_scal _ _ (scals_dia _ _), exacts_scal _ _ (scals_u8s _), exacts_scal _ _ (scals_i64s _), exacts_scal _ _ (scals_n64s _), Bool.and_self, Bool.and_true, Bool.or_true, Bool.or_false, Nat.reduceBEq, beq_self_eq_true, Bool.not_true, Bool.not_false, List.cons_append, List.nil_append]
  · simp only [slots, get_put, List.take_zero, vecs, List.map_cons, List.map_nil, AV.toVec, AO.toVec, AV.toVecs, toVecs_scal _ _ _ (scals_dia _ _), toVecs_scal _ _ _ (scals_u8s _), toVecs_scal _ _ _ (scals_i64s _), toVecs_scal _ _ _ (scals_n64s _), List.set_cons_zero, List.set_cons_succ, List.getElem?_cons_zero, List.getElem?_cons_succ, reduceIte, and_self, Nat.reduceEqDiff, reduceCtorEq, false_and, and_false, AV.exact, AV.exacts, AO.exact, List.all_cons, List.all_nil, exacts_scal _ _ (scals_dia _ _), exacts_scal _ _ (scals_u8s _), exacts_scal _ _ (scals_i64s _), exacts_scal _ _ (scals_n64s _), Bool.and_self, Bool.and_true, Bool.or_true, Bool.or_false, Nat.reduceBEq, beq_self_eq_true, Bool.not_true, Bool.not_false, List.cons_append, List.nil_append]; rfl
  rintro s ⟨k, rfl, hk⟩
  have hw : wrapK .i64 ((k : Int) + 1) = ((k + 1 : Nat) : Int) := by rw [wrap64 (by omega) (by omega)]; rfl
  simp (maxSteps := 3000000) only [a_i_Diagram_text_l1, a_i_Diagram_text_k1, hw, B4_i_placeOf_E2, B4_s_l01Place_E2, B4_i_Diagram_n_E2, g_n, g_place, rd, List.getElem?_cons_zero, List.getElem?_cons_succ, fillA, src, idX_eq, wbE, ↓symP, symE, listE, AK.isCall, enumE, ev, putE, abin, aun, AV.cells, ↓reduceIte, reduceCtorEq, Nat.reduceAdd, Nat.reduceMul, Nat.reduceSub, Nat.reduceEqDiff, Nat.reduceLT, Nat.reduceLeDiff, implies_true, Back, retv, retV, AV.scal, AV.scals]; try simp only [idX_eq, ite_both, pickP_both, not_not_eq, Bool.not_eq_false, Bool.not_eq_true]
  refine ⟨fun h => ?_, fun h => ?_⟩
  · have hk' : k < 2 * n := by omega
    have hp := place_lt hk'
    have hg := hm.get (place n k)
    have h1 : wrapK .i64 ((m.getD (place n k) 0 : Nat) : Int) = (m.getD (place n k) 0 : Nat) := wrap64N (by omega)
    have hlt : (List.take k (txtN n m)).length = k := by rw [List.length_take, txt_length]; omega
    have hap : ∀ c : Nat, c = (if k < place n (m.getD (place n k) 0) then 40 else 41) → List.take k (u8s (List.take k (txtN n m))) ++ [AV.int .u8 (c : Int)] = u8s (List.take (k + 1) (txtN n m)) := by
      intro c hc
      rw [List.take_of_length_le (by rw [u8s_length, hlt]; exact Nat.le_refl _), txt_take hk', ← hc, ← u8s_append]; rfl
    simp (maxSteps := 3000000) only [placeZ_nat hk', h1, idX_eq, wbE, ↓symP, symE, listE, AK.isCall, enumE, ev, putE, abin, aun, AV.cells, ↓reduceIte, reduceCtorEq, Nat.reduceAdd, Nat.reduceMul, Nat.reduceSub, Nat.reduceEqDiff, Nat.reduceLT, Nat.reduceLeDiff, implies_true, Back, retv, retV, AV.scal, AV.scals]; try simp only [idX_eq, ite_both, pickP_both, not_not_eq, Bool.not_eq_false, Bool.not_eq_true]
    refine ⟨⟨small_nat (by omega), small_nat (by omega)⟩, ⟨by omega, by omega⟩, by rw [hm.1]; omega, ⟨small_nat (by omega), small_nat (by omega)⟩, fun h2 => ?_, fun h2 => ?_⟩
    · have e := hap 40 (by rw [if_pos (placeZ_cmp.1 h2)])
      simp only [Int.cast_ofNat_Int] at e
      refine ⟨by decide, ⟨by rw [u8s_length, hlt]; exact Nat.le_refl _, by decide, by omega⟩, _, Weak.keep [0, 3] [11, 10, 4, 3, 0] ⟨by decide, ?_⟩ ?_, ⟨k + 1, ?_, by omega⟩, ?_⟩
      · simp only [over, List.take_zero, List.length_cons, List.length_nil, List.drop_succ_cons, List.drop_nil, List.take_succ_cons, List.drop_zero, e, keepW, keepL, AV.within, AV.withins, ↓reduceIte, reduceCtorEq, Nat.reduceEqDiff, Nat.reduceBEq, implies_true, Nat.reduceAdd]
      · simp only [keepW, keepL, AV.within, AV.withins, ↓reduceIte, reduceCtorEq, Nat.reduceEqDiff, Nat.reduceBEq, implies_true, Nat.reduceAdd]
      · simp only [over, List.take_zero, List.length_cons, List.length_nil, List.drop_succ_cons, List.drop_nil, List.take_succ_cons, List.drop_zero, e, keptL, keptW, keptE, kepts, slots, ↓reduceIte, reduceCtorEq, Nat.reduceEqDiff, AV.ren, AV.rens, pos, Nat.reduceAdd]
      · simp only [keptL, keptW, keptE, kepts, slots, ↓reduceIte, reduceCtorEq, Nat.reduceEqDiff, AV.ren, AV.rens, pos, Nat.reduceAdd]
        omega
    · have e := hap 41 (by rw [if_neg fun h => h2 (placeZ_cmp.2 h)])
      simp only [Int.cast_ofNat_Int] at e
      refine ⟨by decide, ⟨by rw [u8s_length, hlt]; exact Nat.le_refl _, by decide, by omega⟩, _, Weak.keep [0, 3] [11, 10, 4, 3, 0] ⟨by decide, ?_⟩ ?_, ⟨k + 1, ?_, by omega⟩, ?_⟩
      · simp only [over, List.take_zero, List.length_cons, List.length_nil, List.drop_succ_cons, List.drop_nil, List.take_succ_cons, List.drop_zero, e, keepW, keepL, AV.within, AV.withins, ↓reduceIte, reduceCtorEq, Nat.reduceEqDiff, Nat.reduceBEq, implies_true, Nat.reduceAdd]
      · simp only [keepW, keepL, AV.within, AV.withins, ↓reduceIte, reduceCtorEq, Nat.reduceEqDiff, Nat.reduceBEq, implies_true, Nat.reduceAdd]
      · simp only [over, List.take_zero, List.length_cons, List.length_nil, List.drop_succ_cons, List.drop_nil, List.take_succ_cons, List.drop_zero, e, keptL, keptW, keptE, kepts, slots, ↓reduceIte, reduceCtorEq, Nat.reduceEqDiff, AV.ren, AV.rens, pos, Nat.reduceAdd]
      · simp only [keptL, keptW, keptE, kepts, slots, ↓reduceIte, reduceCtorEq, Nat.reduceEqDiff, AV.ren, AV.rens, pos, Nat.reduceAdd]
        omega
  · have hkn : k = 2 * n := by omega
    have hall : List.take k (txtN n m) = txtN n m := by rw [List.take_of_length_le]; rw [txt_length]; omega
    rw [hall, take_all (by rw [u8s_length, txt_length]; omega), toBytes_u8s, holv_some, txt_text]
    simp (maxSteps := 3000000) only [List.set_cons_zero, List.set_cons_succ, idX_eq, wbE, ↓symP, symE, listE, AK.isCall, enumE, ev, putE, abin, aun, AV.cells, ↓reduceIte, reduceCtorEq, Nat.reduceAdd, Nat.reduceMul, Nat.reduceSub, Nat.reduceEqDiff, Nat.reduceLT, Nat.reduceLeDiff, implies_true, Back, retv, retV, AV.scal, AV.scals]; try simp only [idX_eq, ite_both, pickP_both, not_not_eq, Bool.not_eq_false, Bool.not_eq_true]
    exact ⟨by rw [u8s_length, txt_length]; omega, _, rfl⟩

theorem c_s_l01Text (n : Nat) (m : List Nat) (hn : n ≤ 8) (hm : okD m) : Am.Fn Try.prog 109 [.agg (dia n m)] [] (fun v H' => v = .str (textOf n m) ∧ H' = []) := by
  refine Am.Fn.sameB (R := fun v => v = _) B4_ok mixed r_s_l01Text (by simp) (by simp) ?_
  have h2n : wrapK .i64 (2 * (n : Int)) = ((2 * n : Nat) : Int) := by rw [wrap64 (by omega) (by omega)]; simp
  simp (maxSteps := 3000000) only [a_s_l01Text, fillA, idX_eq, wbE, ↓symP, symE, listE, AK.isCall, enumE, ev, putE, abin, aun, AV.cells, ↓reduceIte, reduceCtorEq, Nat.reduceAdd, Nat.reduceMul, Nat.reduceSub, Nat.reduceEqDiff, Nat.reduceLT, Nat.reduceLeDiff, implies_true, Back, retv, retV, AV.scal, AV.scals]; try simp only [idX_eq, ite_both, pickP_both, not_not_eq, Bool.not_eq_false, Bool.not_eq_true]
  refine WA.loopB B4_ok (fun s => ∃ k : Nat, s = ⟨[(4, .int .i64 k), (3, .slc 1 0 k false 0), (1, .ptr 0 0)], [.cells (dia n m), .vec 1 (u8s ((txtN n m).take k))]⟩ ∧ k ≤ 2 * n)
    (fun s => match get s.env 4 with | .int _ k => (100 - k).toNat | _ => 0) ⟨_, Weak.trans (Weak.slots [4, 3, 1]) (Weak.vec 1 0 1 (by decide) rfl rfl ?_ ?_), 0, ?_, by omega⟩ ?_
  · simp only [slots, get_put, vecs, List.map_cons, List.map_nil, AV.toVec, AO.toVec, AV.toVecs, toVecs_scal _ _ _ (scals_dia _ _), toVecs_scal _ _ _ (scals_u8s _), toVecs_scal _ _ _ (scals_i64s _), toVecs_scal _ _ _ (scals_n64s _), List.set_cons_zero, List.set_cons_succ, List.getElem?_cons_zero, List.getElem?_cons_succ, reduceIte, and_self, Nat.reduceEqDiff, reduceCtorEq, false_and, and_false, AV.exact, AV.exacts, AO.exact, List.all_cons, List.all_nil, exacts_scal _ _ (scals_dia _ _), exacts_scal _ _ (scals_u8s _), exacts_scal _ _ (scals_i64s _), exacts_scal _ _ (scals_n64s _), Bool.and_self, Bool.and_true, Bool.or_true, Bool.or_false, Nat.reduceBEq, beq_self_eq_true, Bool.not_true, Bool.not_false, List.cons_append, List.nil_append]
  · simp only [vecs, List.map_cons, List.map_nil, AV.toVec, AO.toVec, AV.toVecs, toVecs_scal _ _ _ (scals_dia _ _), toVecs_scal _ _ _ (scals_u8s _), toVecs_scal _ _ _ (scals_i64s _), toVecs_scal _ _ _ (scals_n64s _), List.set_cons_zero, List.set_cons_succ, List.getElem?_cons_zero, List.getElem?_cons_succ, reduceIte, and_self, Nat.reduceEqDiff, reduceCtorEq, false_and, and_false, AV.exact, AV.exacts, AO.exact, List.all_cons, List.all_nil, exacts_scal _ _ (scals_dia _ _), exacts_scal _ _ (scals_u8s _), exacts_scal _ _ (scals_i64s _), exacts_scal _ _ (scals_n64s _), Bool.and_self, Bool.and_true, Bool.or_true, Bool.or_false, Nat.reduceBEq, beq_self_eq_true, Bool.not_true, Bool.not_false, List.cons_append, List.nil_append]
  · simp only [slots, get_put, List.take_zero, vecs, List.map_cons, List.map_nil, AV.toVec, AO.toVec, AV.toVecs, toVecs_scal _ _ _ (scals_dia _ _), toVecs_scal _ _ _ (scals_u8s _), toVecs_scal _ _ _ (scals_i64s _), toVecs_scal _ _ _ (scals_n64s _), List.set_cons_zero, List.set_cons_succ, List.getElem?_cons_zero, List.getElem?_cons_succ, reduceIte, and_self, Nat.reduceEqDiff, reduceCtorEq, false_and, and_false, AV.exact, AV.exacts, AO.exact, List.all_cons, List.all_nil, exacts_scal _ _ (scals_dia _ _), exacts_scal _ _ (scals_u8s _), exacts_scal _ _ (scals_i64s _), exacts_scal _ _ (scals_n64s _), Bool.and_self, Bool.and_true, Bool.or_true, Bool.or_false, Nat.reduceBEq, beq_self_eq_true, Bool.not_true, Bool.not_false, List.cons_append, List.nil_append]; rfl
  rintro s ⟨k, rfl, hk⟩
  have hw : wrapK .i64 ((k : Int) + 1) = ((k + 1 : Nat) : Int) := by rw [wrap64 (by omega) (by omega)]; rfl
  simp (maxSteps := 3000000) only [a_s_l01Text_l1, a_s_l01Text_k1, hw, h2n, dia_get0, B4_i_placeOf_E2, B4_s_l01Place_E2, B4_i_Diagram_n_E2, g_n, g_place, rd, List.getElem?_cons_zero, List.getElem?_cons_succ, fillA, src, idX_eq, wbE, ↓symP, symE, listE, AK.isCall, enumE, ev, putE, abin, aun, AV.cells, ↓reduceIte, reduceCtorEq, Nat.reduceAdd, Nat.reduceMul, Nat.reduceSub, Nat.reduceEqDiff, Nat.reduceLT, Nat.reduceLeDiff, implies_true, Back, retv, retV, AV.scal, AV.scals]; try simp only [idX_eq, ite_both, pickP_both, not_not_eq, Bool.not_eq_false, Bool.not_eq_true]
  refine ⟨fun h => ?_, fun h => ?_⟩
  · have hk' : k < 2 * n := by omega
    have hp := place_lt hk'
    have hg := hm.get (place n k)
    have h1 : wrapK .i64 ((m.getD (place n k) 0 : Nat) : Int) = (m.getD (place n k) 0 : Nat) := wrap64N (by omega)
    have hlt : (List.take k (txtN n m)).length = k := by rw [List.length_take, txt_length]; omega
    have hap : ∀ c : Nat, c = (if k < place n (m.getD (place n k) 0) then 40 else 41) → List.take k (u8s (List.take k (txtN n m))) ++ [AV.int .u8 (c : Int)] = u8s (List.take (k + 1) (txtN n m)) := by
      intro c hc
      rw [List.take_of_length_le (by rw [u8s_length, hlt]; exact Nat.le_refl _), txt_take hk', ← hc, ← u8s_append]; rfl
    simp (maxSteps := 3000000) only [placeZ_nat hk', h1, idX_eq, wbE, ↓symP, symE, listE, AK.isCall, enumE, ev, putE, abin, aun, AV.cells, ↓reduceIte, reduceCtorEq, Nat.reduceAdd, Nat.reduceMul, Nat.reduceSub, Nat.reduceEqDiff, Nat.reduceLT, Nat.reduceLeDiff, implies_true, Back, retv, retV, AV.scal, AV.scals]; try simp only [idX_eq, ite_both, pickP_both, not_not_eq, Bool.not_eq_false, Bool.not_eq_true]
    refine ⟨⟨small_nat (by omega), small_nat (by omega)⟩, ⟨by omega, by omega⟩, by rw [hm.1]; omega, ⟨small_nat (by omega), small_nat (by omega)⟩, fun h2 => ?_, fun h2 => ?_⟩
    · have e := hap 40 (by rw [if_pos (placeZ_cmp.1 h2)])
      simp only [Int.cast_ofNat_Int] at e
      refine ⟨by decide, ⟨by rw [u8s_length, hlt]; exact Nat.le_refl _, by decide, by omega⟩, _, Weak.keep [0, 3] [4, 3, 1] ⟨by decide, ?_⟩ ?_, ⟨k + 1, ?_, by omega⟩, ?_⟩
      · simp only [over, List.take_zero, List.length_cons, List.length_nil, List.drop_succ_cons, List.drop_nil, List.take_succ_cons, List.drop_zero, e, keepW, keepL, AV.within, AV.withins, ↓reduceIte, reduceCtorEq, Nat.reduceEqDiff, Nat.reduceBEq, implies_true, Nat.reduceAdd]
      · simp only [keepW, keepL, AV.within, AV.withins, ↓reduceIte, reduceCtorEq, Nat.reduceEqDiff, Nat.reduceBEq, implies_true, Nat.reduceAdd]
      · simp only [over, List.take_zero, List.length_cons, List.length_nil, List.drop_succ_cons, List.drop_nil, List.take_succ_cons, List.drop_zero, e, keptL, keptW, keptE, kepts, slots, ↓reduceIte, reduceCtorEq, Nat.reduceEqDiff, AV.ren, AV.rens, pos, Nat.reduceAdd]
      · simp only [keptL, keptW, keptE, kepts, slots, ↓reduceIte, reduceCtorEq, Nat.reduceEqDiff, AV.ren, AV.rens, pos, Nat.reduceAdd]
        omega
    · have e := hap 41 (by rw [if_neg fun h => h2 (placeZ_cmp.2 h)])
      simp only [Int.cast_ofNat_Int] at e
      refine ⟨by decide, ⟨by rw [u8s_length, hlt]; exact Nat.le_refl _, by decide, by omega⟩, _, Weak.keep [0, 3] [4, 3, 1] ⟨by decide, ?_⟩ ?_, ⟨k + 1, ?_, by omega⟩, ?_⟩
      · simp only [over, List.take_zero, List.length_cons, List.length_nil, List.drop_succ_cons, List.drop_nil, List.take_succ_cons, List.drop_zero, e, keepW, keepL, AV.within, AV.withins, ↓reduceIte, reduceCtorEq, Nat.reduceEqDiff, Nat.reduceBEq, implies_true, Nat.reduceAdd]
      · simp only [keepW, keepL, AV.within, AV.withins, ↓reduceIte, reduceCtorEq, Nat.reduceEqDiff, Nat.reduceBEq, implies_true, Nat.reduceAdd]
      · simp only [over, List.take_zero, List.length_cons, List.length_nil, List.drop_succ_cons, List.drop_nil, List.take_succ_cons, List.drop_zero, e, keptL, keptW, keptE, kepts, slots, ↓reduceIte, reduceCtorEq, Nat.reduceEqDiff, AV.ren, AV.rens, pos, Nat.reduceAdd]
      · simp only [keptL, keptW, keptE, kepts, slots, ↓reduceIte, reduceCtorEq, Nat.reduceEqDiff, AV.ren, AV.rens, pos, Nat.reduceAdd]
        omega
  · have hkn : k = 2 * n := by omega
    have hall : List.take k (txtN n m) = txtN n m := by rw [List.take_of_length_le]; rw [txt_length]; omega
    rw [hall, take_all (by rw [u8s_length, txt_length]; omega), toBytes_u8s, holv_some, txt_text]
    simp (maxSteps := 3000000) only [List.set_cons_zero, List.set_cons_succ, idX_eq, wbE, ↓symP, symE, listE, AK.isCall, enumE, ev, putE, abin, aun, AV.cells, ↓reduceIte, reduceCtorEq, Nat.reduceAdd, Nat.reduceMul, Nat.reduceSub, Nat.reduceEqDiff, Nat.reduceLT, Nat.reduceLeDiff, implies_true, Back, retv, retV, AV.scal, AV.scals]; try simp only [idX_eq, ite_both, pickP_both, not_not_eq, Bool.not_eq_false, Bool.not_eq_true]
    rw [u8s_length, txt_length]; omega
end Go.Proofs.Ytkgoadglalpbfaa
