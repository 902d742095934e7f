/- Contracts: comparisons of elements. -/
import Derived.Test.YtkgoadglalpbfaaE6
namespace Go.Proofs.Ytkgoadglalpbfaa
open Go.Am Go.Dia
set_option linter.unusedSimpArgs false
set_option linter.unusedVariables false
set_option maxRecDepth 4000
set_option maxHeartbeats 1000000

theorem B13_w_eqTerm_E7 : B13 106 = some (plainE g_eqTerm) := rfl
def a_w_eqTermS_l1 : AC := .seq (.seq (.region [⟨some 11, none, .op (.mov (.t 5))⟩,
         ⟨some 12, none, .op (.mov (.t 0))⟩,
         ⟨some 13, none, .op (.len .slc (.t 12))⟩,
         ⟨some 14, none, .op (.bin .lss (.t 11) (.t 13))⟩]) (.cond 14 .skip (.exit 0))) (.seq (.block 1 (.seq (.draw false [⟨some 17, none, .op (.mov (.t 0))⟩,
          ⟨some 18, none, .op (.mov (.t 5))⟩,
          ⟨some 19, none, .op (.iaddrS 18 (.t 17) (.t 18))⟩,
          ⟨some 20, none, .op (.loadN 18 (.t 19))⟩,
          ⟨some 21, none, .op (.mov (.t 1))⟩,
          ⟨some 22, none, .op (.mov (.t 5))⟩,
          ⟨some 23, none, .op (.iaddrS 18 (.t 21) (.t 22))⟩,
          ⟨some 24, none, .op (.loadN 18 (.t 23))⟩,
          ⟨some 25, none, .call (.c (.fn 106 [] [])) [(.t 20), (.t 24)]⟩,
          ⟨some 26, none, .op (.un .not (.t 25))⟩]) (.cond 26 (.seq (.region [⟨some 4, none, .op (.mov (.c (.bool false)))⟩]) .ret) .skip))) (.region [⟨some 15, none, .op (.mov (.t 5))⟩,
       ⟨some 16, none, .op (.bin .add (.t 15) (.c (.int .i64 1)))⟩,
       ⟨some 5, none, .op (.mov (.t 16))⟩]))
def a_w_eqTermS_k1 : AC := .seq (.region [⟨some 4, none, .op (.mov (.c (.bool true)))⟩]) .ret
def a_w_eqTermS : AC := .seq (.region [⟨some 4, none, .op (.mov (.c (.bool false)))⟩]) (.seq (.seq (.region [⟨some 6, none, .op (.mov (.t 0))⟩,
      ⟨some 7, none, .op (.len .slc (.t 6))⟩,
      ⟨some 8, none, .op (.mov (.t 1))⟩,
      ⟨some 9, none, .op (.len .slc (.t 8))⟩,
      ⟨some 10, none, .op (.bin .neq (.t 7) (.t 9))⟩]) (.cond 10 (.seq (.region [⟨some 4, none, .op (.mov (.c (.bool false)))⟩]) .ret) .skip)) (.seq (.seq (.region [⟨some 5, none, .op (.mov (.c (.int .i64 0)))⟩]) (.block 0 (.loop a_w_eqTermS_l1))) a_w_eqTermS_k1))
theorem r_w_eqTermS : readF Try.prog 54 = some ⟨27, a_w_eqTermS, [.slot 4]⟩ := by kernel_rfl

def a_w_eqElement : AC := .seq (.region [⟨some 2, none, .op (.box (.t 0))⟩,
     ⟨some 3, none, .op (.box (.t 1))⟩,
     ⟨some 4, none, .op (.mov (.c (.bool false)))⟩]) (.seq (.seq (.region [⟨some 5, none, .op (.faddr 0 (.t 2))⟩,
      ⟨some 6, none, .op (.load1 (.t 5))⟩,
      ⟨some 7, none, .op (.faddr 0 (.t 3))⟩,
      ⟨some 8, none, .op (.load1 (.t 7))⟩,
      ⟨some 9, none, .op (.bin .neq (.t 6) (.t 8))⟩]) (.cond 9 (.seq (.region [⟨some 4, none, .op (.mov (.c (.bool false)))⟩]) .ret) .skip)) (.seq (.seq (.region [⟨some 10, none, .op (.faddr 1 (.t 2))⟩,
      ⟨some 11, none, .op (.load1 (.t 10))⟩,
      ⟨some 12, none, .op (.faddr 1 (.t 3))⟩,
      ⟨some 13, none, .op (.load1 (.t 12))⟩,
      ⟨some 14, none, .op (.bin .neq (.t 11) (.t 13))⟩]) (.cond 14 (.seq (.region [⟨some 4, none, .op (.mov (.c (.bool false)))⟩]) .ret) .skip)) (.seq (.seq (.region [⟨some 15, none, .op (.faddr 2 (.t 2))⟩,
      ⟨some 16, none, .op (.load1 (.t 15))⟩,
      ⟨some 17, none, .op (.faddr 2 (.t 3))⟩,
      ⟨some 18, none, .op (.load1 (.t 17))⟩,
      ⟨some 19, none, .op (.bin .neq (.t 16) (.t 18))⟩]) (.cond 19 (.seq (.region [⟨some 4, none, .op (.mov (.c (.bool false)))⟩]) .ret) .skip)) (.seq (.seq (.region [⟨some 20, none, .op (.faddr 3 (.t 2))⟩,
      ⟨some 21, none, .op (.load1 (.t 20))⟩,
      ⟨some 22, none, .op (.faddr 3 (.t 3))⟩,
      ⟨some 23, none, .op (.load1 (.t 22))⟩,
      ⟨some 24, none, .call (.c (.fn 54 [] [])) [(.t 21), (.t 23)]⟩,
      ⟨some 25, none, .op (.un .not (.t 24))⟩]) (.cond 25 (.seq (.region [⟨some 4, none, .op (.mov (.c (.bool false)))⟩]) .ret) .skip)) (.seq (.region [⟨some 4, none, .op (.mov (.c (.bool true)))⟩]) .ret)))))
theorem r_w_eqElement : readF Try.prog 19 = some ⟨26, a_w_eqElement, [.slot 4]⟩ := by kernel_rfl

/-- The first terms that lie in a row of cells. -/
def tsOf : Nat → List AV → Option (List (Int × List Nat × Int))
  | 0, _ => some []
  | k + 1, l => match trmOf (l.take 18), tsOf k (l.drop 18) with
    | some t, some ts => some (t :: ts)
    | _, _ => none
theorem tsOf_trms : ∀ {ts : List (Int × List Nat × Int)} {x : List AV}, okT ts → tsOf ts.length (trms ts ++ x) = some ts
  | [], _, _ => rfl
  | t :: ts, x, h => by
    have h1 := tsOf_trms (ts := ts) (x := x) fun u hu => h u (List.mem_cons_of_mem _ hu)
    have h2 := trm_length (h t (by simp))
    simp only [trms, List.flatMap_cons, List.length_cons, tsOf, List.append_assoc] at h1 ⊢
    rw [List.take_append_of_le_length (by omega), List.take_of_length_le (by omega), trmOf_trm (h t (by simp)), List.drop_append, List.drop_of_length_le (by omega), h2, List.nil_append]
    simp only [Nat.sub_self, List.drop_zero, h1]
theorem tsOf_trms' {ts : List (Int × List Nat × Int)} (h : okT ts) : tsOf ts.length (trms ts) = some ts := by
  have := tsOf_trms (x := []) h
  rwa [List.append_nil] at this
theorem tsOf_some : ∀ {k : Nat} {l : List AV} {ts : List (Int × List Nat × Int)}, tsOf k l = some ts → ts.length = k ∧ okT ts ∧ l.take (k * 18) = trms ts ∧ k * 18 ≤ l.length
  | 0, l, ts, h => by cases h; exact ⟨rfl, by simp [okT], by simp [trms], by omega⟩
  | k + 1, l, ts, h => by
    simp only [tsOf] at h
    split at h
    · rename_i t us ht hus
      cases h
      obtain ⟨h1, h2, h3, h4⟩ := tsOf_some hus
      obtain ⟨h5, h6⟩ := trmOf_some ht
      have h7 := trm_length h6
      have h8 : 18 ≤ l.length := by
        have := congrArg List.length h5
        rw [h7, List.length_take] at this; omega
      rw [List.length_drop] at h4
      refine ⟨by simp [h1], fun u hu => ?_, ?_, by omega⟩
      · rcases List.mem_cons.1 hu with rfl | hu
        · exact h6
        · exact h2 u hu
      · rw [show (k + 1) * 18 = 18 + k * 18 from by omega, List.take_add, h5, h3]; rfl
    · cases h

def two (b b' : Nat) : Ren := fun j => if j = 0 then some (b, 0) else if j = 1 then some (b', 0) else none
/-- A function that reads two blocks from their beginnings. -/
theorem Callee.ro2 {f : FuncId} {g : BE} (h : ∀ hp xs v hp', g hp xs = some (v, hp') → ∃ (l l' : List AV) (b b' : Nat) (ys : List AV), hp' = hp ∧ (∃ L, rd hp b = some L ∧ l.length ≤ L.length ∧ L.take l.length = l) ∧ (∃ L, rd hp b' = some L ∧ l'.length ≤ L.length ∧ L.take l'.length = l') ∧
    AV.scals l = true ∧ AV.scals l' = true ∧ xs = AV.rens (two b b') ys ∧ xs.all noTopB = true ∧ AV.unders 2 ys ∧ v.scal = true ∧ Am.Fn Try.prog f ys [.ro l, .ro l'] fun v' H' => v' = v ∧ H' = [.ro l, .ro l']) : Am.Callee Try.prog f g := by
  intro hp xs v hp' he
  obtain ⟨l, l', b, b', ys, rfl, ⟨L, hL, h1, h2⟩, ⟨L', hL', h1', h2'⟩, h3, h3', h4, h5, h6, h7, h8⟩ := h hp xs v hp' he
  refine ⟨[.ro l, .ro l'], ys, _, two b b', [(b, 0), (b', 0)], h8, h4, h5, ⟨fun j hj => ?_, rfl, fun j o c hj hb => ?_, fun j k bj bk oj ok hj hk hoj hok hw => ?_⟩, ?_, h6, ?_⟩
  · match j, hj with
    | 0, _ => rfl
    | 1, _ => rfl
  · match j, hj, hb with
    | 0, hj, hb =>
      cases hj; cases hb
      exact ⟨L, hL, by omega, by rw [List.drop_zero, rens_scal _ _ h3]; exact h2⟩
    | 1, hj, hb =>
      cases hj; cases hb
      exact ⟨L', hL', by omega, by rw [List.drop_zero, rens_scal _ _ h3']; exact h2'⟩
    | j + 2, hj, hb => simp at hj
  · match j, hoj with
    | 0, hoj => cases hoj; cases hw
    | 1, hoj => cases hoj; cases hw
    | j + 2, hoj => simp at hoj
  · intro j o hj
    match j, hj with
    | 0, hj => cases hj; exact unders_scal _ _ h3
    | 1, hj => cases hj; exact unders_scal _ _ h3'
    | j + 2, hj => simp at hj
  · rintro v' H' ⟨rfl, rfl⟩
    exact ⟨ren_scal _ _ h7, by simp [after, upd, AO.wr]⟩
theorem ro_under2 {l l' : List AV} (h : AV.scals l = true) (h' : AV.scals l' = true) : ∀ (j : Nat) (o : AO), [AO.ro l, AO.ro l'][j]? = some o → o.under [AO.ro l, AO.ro l'].length := by
  intro j o e
  match j, e with
  | 0, e => cases e; exact unders_scal _ _ h
  | 1, e => cases e; exact unders_scal _ _ h'
  | j + 2, e => simp at e

theorem c_w_eqTermS (a b : List (Int × List Nat × Int)) (ha : okT a) (hb : okT b) (hal : a.length ≤ 2000000) :
    Am.Fn Try.prog 54 [.slc 0 0 a.length false 0, .slc 1 0 b.length false 0] [.ro (trms a), .ro (trms b)] (fun v H' => v = .bool (decide (a = b)) ∧ H' = [.ro (trms a), .ro (trms b)]) := by
  refine Am.Fn.sameB (R := fun v => v = _) B13_ok mixed r_w_eqTermS (by simp) (ro_under2 (scals_trms _) (scals_trms _)) ?_
  simp (maxSteps := 3000000) only [a_w_eqTermS, idX_eq, wbE, ↓symP, symE, listE, AK.isCall, enumE, ev, putE, abin, aun, AV.cells, ↓reduceIte, reduceCtorEq, Nat.reduceAdd, Nat.reduceMul, Nat.reduceSub, Nat.reduceEqDiff, Nat.reduceLT, Nat.reduceLeDiff, implies_true, Back, retv, retV, AV.scal, AV.scals]; try simp only [idX_eq, ite_both, pickP_both, not_not_eq, Bool.not_eq_false, Bool.not_eq_true]
  refine ⟨fun h => ⟨⟨_, rfl⟩, ?_⟩, fun h => ?_⟩
  · symm; rw [decide_eq_false_iff_not]; rintro rfl; exact h rfl
  have hlen : a.length = b.length := by omega
  refine WA.loopB B13_ok (fun s => ∃ k : Nat, s = ⟨[(5, .int .i64 k), (0, .slc 0 0 a.length false 0), (1, .slc 1 0 b.length false 0)], [.ro (trms a), .ro (trms b)]⟩ ∧ k ≤ a.length ∧ ∀ i, i < k → a[i]? = b[i]?)
    (fun s => match get s.env 5 with | .int _ k => (2000000 - k).toNat | _ => 0) ⟨_, Weak.slots [5, 0, 1], 0, rfl, by omega, by intros; omega⟩ ?_
  rintro s ⟨k, rfl, hk, hc⟩
  have hw : wrapK .i64 ((k : Int) + 1) = ((k + 1 : Nat) : Int) := by rw [wrap64 (by omega) (by omega)]; rfl
  have hla := trms_length ha
  have hlb := trms_length hb
  by_cases hlt : k < a.length
  · have hga := trms_get ha hlt
    have hgb := trms_get hb (i := k) (by omega)
    have hoa := ha a[k] (List.getElem_mem hlt)
    have hob := hb b[k] (List.getElem_mem (by omega))
    simp (maxSteps := 3000000) only [a_w_eqTermS_l1, hw, B13_w_eqTerm_E7, g_eqTerm, hla, hlb, hga, hgb, trmOf_trm hoa, trmOf_trm hob, rd, List.getElem?_cons_zero, List.getElem?_cons_succ, idX_eq, wbE, ↓symP, symE, listE, AK.isCall, enumE, ev, putE, abin, aun, AV.cells, ↓reduceIte, reduceCtorEq, Nat.reduceAdd, Nat.reduceMul, Nat.reduceSub, Nat.reduceEqDiff, Nat.reduceLT, Nat.reduceLeDiff, implies_true, Back, retv, retV, AV.scal, AV.scals]; try simp only [idX_eq, ite_both, pickP_both, not_not_eq, Bool.not_eq_false, Bool.not_eq_true]
    refine ⟨fun _ => ⟨⟨⟨by omega, by omega⟩, by omega⟩, by omega, ⟨⟨by omega, by omega⟩, by omega⟩, by omega, fun h2 => ⟨⟨_, rfl⟩, ?_⟩, fun h2 => ⟨_, Weak.slots [5, 0, 1], ⟨k + 1, rfl, by omega, fun i hi => ?_⟩, ?_⟩⟩, fun h => absurd (by omega) h⟩
    · symm; rw [decide_eq_false_iff_not]; rintro rfl; exact h2 rfl
    · by_cases e : i = k
      · subst e; rw [List.getElem?_eq_getElem hlt, List.getElem?_eq_getElem (by omega), h2]
      · exact hc i (by omega)
    · simp only [keptL, keptW, keptE, kepts, slots, ↓reduceIte, reduceCtorEq, Nat.reduceEqDiff, AV.ren, AV.rens, pos, Nat.reduceAdd]; omega
  · simp (maxSteps := 3000000) only [a_w_eqTermS_l1, a_w_eqTermS_k1, hw, idX_eq, wbE, ↓symP, symE, listE, AK.isCall, enumE, ev, putE, abin, aun, AV.cells, ↓reduceIte, reduceCtorEq, Nat.reduceAdd, Nat.reduceMul, Nat.reduceSub, Nat.reduceEqDiff, Nat.reduceLT, Nat.reduceLeDiff, implies_true, Back, retv, retV, AV.scal, AV.scals]; try simp only [idX_eq, ite_both, pickP_both, not_not_eq, Bool.not_eq_false, Bool.not_eq_true]
    refine ⟨fun h => absurd h (by omega), fun _ => ⟨⟨_, rfl⟩, ?_⟩⟩
    symm; rw [decide_eq_true_eq]
    refine List.ext_getElem? fun i => ?_
    by_cases e : i < a.length
    · exact hc i (by omega)
    · rw [List.getElem?_eq_none (by omega), List.getElem?_eq_none (by omega)]

def g_eqTermS : BE := fun hp xs => match xs with
  | [.slc b 0 k false 0, .slc b' 0 k' false 0] => match rd hp b, rd hp b' with
    | some L, some L' => match tsOf k L, tsOf k' L' with
      | some ts, some ts' => chk (k ≤ 2000000) (some (.bool (decide (ts = ts')), hp))
      | _, _ => none
    | _, _ => none
  | _ => none
theorem k_w_eqTermS : Am.Callee Try.prog 54 g_eqTermS := Callee.ro2 fun hp xs v hp' he => by
  unfold g_eqTermS at he
  split at he
  · rename_i b k b' k'
    split at he
    · rename_i L L' hL hL'
      split at he
      · rename_i ts ts' h1 h1'
        obtain ⟨h0, he⟩ := chk_some he
        simp only [Option.some.injEq, Prod.mk.injEq] at he
        obtain ⟨rfl, rfl⟩ := he
        obtain ⟨e1, e2, e3, e4⟩ := tsOf_some h1
        obtain ⟨f1, f2, f3, f4⟩ := tsOf_some h1'
        have g1 := trms_length e2
        have g2 := trms_length f2
        refine ⟨trms ts, trms ts', b, b', [.slc 0 0 ts.length false 0, .slc 1 0 ts'.length false 0], rfl, ⟨L, hL, by omega, by rw [g1, e1]; exact e3⟩, ⟨L', hL', by omega, by rw [g2, f1]; exact f3⟩, scals_trms _, scals_trms _, ?_, rfl, ?_, rfl, c_w_eqTermS ts ts' e2 f2 (by omega)⟩
        · simp only [AV.rens, AV.ren, two, if_true, e1, f1, Nat.zero_add]
          rfl
        · exact ⟨by simp [AV.under], by simp [AV.under], trivial⟩
      · cases he
    · cases he
  · cases he
def B14 : Book := (B13.put 54 (g_eqTermS))

theorem B14_ok : BookOk Try.prog B14 := (B13_ok.put (k_w_eqTermS))

theorem B14_w_eqTerm_E7 : B14 106 = some (plainE g_eqTerm) := rfl
theorem B14_w_eqTermS_E7 : B14 54 = some (g_eqTermS) := rfl


def elemV (p c n : Int) (b k : Nat) : AV := .agg [.int .i64 p, .int .i64 c, .int .i64 n, .slc b 0 k false 0]
theorem c_w_eqElement (p c n p' c' n' : Int) (a b : List (Int × List Nat × Int)) (ha : okT a) (hb : okT b) (hal : a.length ≤ 2000000) :
    Am.Fn Try.prog 19 [elemV p c n 0 a.length, elemV p' c' n' 1 b.length] [.ro (trms a), .ro (trms b)] (fun v H' => v = .bool (decide ((p = p' ∧ c = c' ∧ n = n') ∧ a = b)) ∧ H' = [.ro (trms a), .ro (trms b)]) := by
  refine Am.Fn.sameB (R := fun v => v = _) B14_ok mixed r_w_eqElement (by simp) (ro_under2 (scals_trms _) (scals_trms _)) ?_
  simp (maxSteps := 3000000) only [a_w_eqElement, elemV, B14_w_eqTerm_E7, B14_w_eqTermS_E7, g_eqTerm, g_eqTermS, tsOf_trms' ha, tsOf_trms' hb, rd, List.getElem?_cons_zero, List.getElem?_cons_succ, idX_eq, wbE, ↓symP, symE, listE, AK.isCall, enumE, ev, putE, abin, aun, AV.cells, ↓reduceIte, reduceCtorEq, Nat.reduceAdd, Nat.reduceMul, Nat.reduceSub, Nat.reduceEqDiff, Nat.reduceLT, Nat.reduceLeDiff, implies_true, Back, retv, retV, AV.scal, AV.scals]; try simp only [idX_eq, ite_both, pickP_both, not_not_eq, Bool.not_eq_false, Bool.not_eq_true]
  have hf : ¬((p = p' ∧ c = c' ∧ n = n') ∧ a = b) → false = decide ((p = p' ∧ c = c' ∧ n = n') ∧ a = b) := fun h => by
    symm; rw [decide_eq_false_iff_not]; exact h
  refine ⟨fun h => ⟨⟨_, rfl⟩, hf fun e => h e.1.1⟩, fun h => ⟨fun h2 => ⟨⟨_, rfl⟩, hf fun e => h2 e.1.2.1⟩, fun h2 => ⟨fun h3 => ⟨⟨_, rfl⟩, hf fun e => h3 e.1.2.2⟩, fun h3 => ⟨hal, fun h4 => ⟨⟨_, rfl⟩, hf fun e => h4 e.2⟩, fun h4 => ⟨⟨_, rfl⟩, ?_⟩⟩⟩⟩⟩
  symm; rw [decide_eq_true_eq]; exact ⟨⟨h, h2, h3⟩, h4⟩

def g_eqElement : BE := fun hp xs => match xs with
  | [.agg [.int .i64 p, .int .i64 c, .int .i64 n, .slc b 0 k false 0], .agg [.int .i64 p', .int .i64 c', .int .i64 n', .slc b' 0 k' false 0]] => match rd hp b, rd hp b' with
    | some L, some L' => match tsOf k L, tsOf k' L' with
      | some ts, some ts' => chk (k ≤ 2000000) (some (.bool (decide ((p = p' ∧ c = c' ∧ n = n') ∧ ts = ts')), hp))
      | _, _ => none
    | _, _ => none
  | _ => none
theorem k_w_eqElement : Am.Callee Try.prog 19 g_eqElement := Callee.ro2 fun hp xs v hp' he => by
  unfold g_eqElement at he
  split at he
  · rename_i p c n b k p' c' n' b' k'
    split at he
    · rename_i L L' hL hL'
      split at he
      · rename_i ts ts' h1 h1'
        obtain ⟨h0, he⟩ := chk_some he
        simp only [Option.some.injEq, Prod.mk.injEq] at he
        obtain ⟨rfl, rfl⟩ := he
        obtain ⟨e1, e2, e3, e4⟩ := tsOf_some h1
        obtain ⟨f1, f2, f3, f4⟩ := tsOf_some h1'
        have g1 := trms_length e2
        have g2 := trms_length f2
        refine ⟨trms ts, trms ts', b, b', [elemV p c n 0 ts.length, elemV p' c' n' 1 ts'.length], rfl, ⟨L, hL, by omega, by rw [g1, e1]; exact e3⟩, ⟨L', hL', by omega, by rw [g2, f1]; exact f3⟩, scals_trms _, scals_trms _, ?_, rfl, ?_, rfl, c_w_eqElement p c n p' c' n' ts ts' e2 f2 (by omega)⟩
        · simp only [elemV, AV.rens, AV.ren, two, if_true, e1, f1, Nat.zero_add]
          rfl
        · exact ⟨⟨trivial, trivial, trivial, by simp [AV.under], trivial⟩, ⟨trivial, trivial, trivial, by simp [AV.under], trivial⟩, trivial⟩
      · cases he
    · cases he
  · cases he
def B15 : Book := (B14.put 19 (g_eqElement))

theorem B15_ok : BookOk Try.prog B15 := (B14_ok.put (k_w_eqElement))

end Go.Proofs.Ytkgoadglalpbfaa
