/- Contracts: the program's test of lists of diagrams. -/
import Derived.Test.YtkgoadglalpbfaaE9
namespace Go.Proofs.Ytkgoadglalpbfaa
open Go.Am Go.Dia
set_option linter.unusedSimpArgs false
set_option linter.unusedVariables false
set_option maxRecDepth 4000
set_option maxHeartbeats 1000000


def a_i_invalid_1 : AC := .seq (.region [⟨some 1, none, .op (.box (.t 0))⟩,
     ⟨some 2, none, .op (.mov (.c (.bool false)))⟩]) (.seq (.region [⟨some 3, none, .op (.loadN 17 (.t 1))⟩,
     ⟨some 4, none, .call (.c (.fn 99 [] [])) [(.t 3)]⟩,
     ⟨some 5, none, .op (.un .not (.t 4))⟩,
     ⟨some 2, none, .op (.mov (.t 5))⟩]) .ret)
theorem r_i_invalid_1 : readF Try.prog 111 = some ⟨6, a_i_invalid_1, [.slot 2]⟩ := by kernel_rfl
def a_g_IndexFunc_SDiagram_Diagram_l1 : AC := .seq (.region [⟨some 9, none, .op (.bin .lss (.t 8) (.t 7))⟩]) (.seq (.cond 9 .skip (.exit 0)) (.seq (.block 1 (.seq (.region [⟨some 10, none, .op (.mov (.t 8))⟩,
          ⟨some 5, none, .op (.mov (.t 10))⟩]) (.seq (.region [⟨some 11, none, .op (.mov (.t 1))⟩,
          ⟨some 12, none, .op (.mov (.t 0))⟩,
          ⟨some 13, none, .op (.mov (.t 5))⟩,
          ⟨some 14, none, .op (.iaddrS 17 (.t 12) (.t 13))⟩,
          ⟨some 15, none, .op (.loadN 17 (.t 14))⟩,
          ⟨some 16, none, .call (.t 11) [(.t 15)]⟩]) (.cond 16 (.seq (.region [⟨some 17, none, .op (.mov (.t 5))⟩,
            ⟨some 4, none, .op (.mov (.t 17))⟩]) .ret) .skip)))) (.region [⟨some 18, none, .op (.bin .add (.t 8) (.c (.int .i64 1)))⟩,
       ⟨some 8, none, .op (.mov (.t 18))⟩])))
def a_g_IndexFunc_SDiagram_Diagram_k1 : AC := .seq (.region [⟨some 4, none, .op (.mov (.c (.int .i64 (-1))))⟩]) .ret
def a_g_IndexFunc_SDiagram_Diagram : AC := .seq (.region [⟨some 4, none, .op (.mov (.c (.int .i64 0)))⟩]) (.seq (.seq (.region [⟨some 6, none, .op (.mov (.t 0))⟩,
      ⟨some 7, none, .op (.len .slc (.t 6))⟩,
      ⟨some 8, none, .op (.mov (.c (.int .i64 0)))⟩]) (.block 0 (.loop a_g_IndexFunc_SDiagram_Diagram_l1))) a_g_IndexFunc_SDiagram_Diagram_k1)
theorem r_g_IndexFunc_SDiagram_Diagram : readF Try.prog 136 = some ⟨19, a_g_IndexFunc_SDiagram_Diagram, [.slot 4]⟩ := by kernel_rfl

def a_g_ContainsFunc_SDiagram_Diagram : AC := .seq (.region [⟨some 4, none, .op (.mov (.c (.bool false)))⟩]) (.seq (.region [⟨some 5, none, .op (.mov (.t 0))⟩,
     ⟨some 6, none, .op (.mov (.t 1))⟩,
     ⟨some 7, none, .call (.c (.fn 136 [] [])) [(.t 5), (.t 6)]⟩,
     ⟨some 8, none, .op (.bin .geq (.t 7) (.c (.int .i64 0)))⟩,
     ⟨some 4, none, .op (.mov (.t 8))⟩]) .ret)
theorem r_g_ContainsFunc_SDiagram_Diagram : readF Try.prog 110 = some ⟨9, a_g_ContainsFunc_SDiagram_Diagram, [.slot 4]⟩ := by kernel_rfl

def a_i_invalid : AC := .seq (.region [⟨some 2, none, .op (.mov (.c (.int .i64 0)))⟩]) (.seq (.seq (.region [⟨some 3, none, .op (.mov (.t 0))⟩,
      ⟨some 4, none, .call (.c (.fn 110 [] [])) [(.t 3), (.c (.fn 111 [] []))]⟩]) (.cond 4 (.seq (.region [⟨some 2, none, .op (.mov (.c (.int .i64 1)))⟩]) .ret) .skip)) (.seq (.region [⟨some 2, none, .op (.mov (.c (.int .i64 0)))⟩]) .ret))
theorem r_i_invalid : readF Try.prog 63 = some ⟨5, a_i_invalid, [.slot 2]⟩ := by kernel_rfl

/-- The program's test comes to the reference's. -/
theorem c_i_IsDiagram' (n : Int) (m : List Nat) (hm : okD m) : Am.Fn Try.prog 99 [.agg (dia n m)] [] (fun v H' => v = .bool (isS n.toNat m) ∧ H' = []) := by
  rw [isS_eq_isI _ _ hm.1]; exact c_i_IsDiagram n m hm
theorem k_i_IsDiagram : Am.Callee Try.prog 99 (plainE g_isS) :=
  Am.Callee.plain fun xs v he => by
    unfold g_isS at he
    split at he
    · split at he
      · rename_i n m hd
        cases he
        obtain ⟨rfl, hm⟩ := diaOf_some hd
        exact ⟨by simp only [AV.scals, AV.scal, scals_dia, Bool.and_self], rfl, c_i_IsDiagram' n m hm⟩
      · cases he
    · cases he
def B18 : Book := (B17.put 99 (plainE g_isS))
theorem B18_ok : BookOk Try.prog B18 := (B17_ok.put (k_i_IsDiagram))
theorem B18_i_IsDiagram_F1 : B18 99 = some (plainE g_isS) := rfl


theorem c_i_invalid_1 (n : Int) (m : List Nat) (hm : okD m) : Am.Fn Try.prog 111 [.agg (dia n m)] [] (fun v H' => v = .bool (!isS n.toNat m) ∧ H' = []) := by
  refine Am.Fn.sameB (R := fun v => v = _) B18_ok mixed r_i_invalid_1 (by simp) (by simp) ?_
  have hml := hm.1
  simp (maxSteps := 3000000) only [a_i_invalid_1, B18_i_IsDiagram_F1, g_isS, dia_all hml, hml, dia_length, diaOf_dia hm, rd, List.getElem?_cons_zero, List.getElem?_cons_succ, idX_eq, wbE, ↓symP, symE, listE, AK.isCall, enumE, ev, putE, abin, aun, AV.cells, ↓reduceIte, reduceCtorEq, Nat.reduceAdd, Nat.reduceMul, Nat.reduceSub, Nat.reduceEqDiff, Nat.reduceLT, Nat.reduceLeDiff, implies_true, Back, retv, retV, AV.scal, AV.scals]; try simp only [idX_eq, ite_both, pickP_both, not_not_eq, Bool.not_eq_false, Bool.not_eq_true]
def g_bad : List AV → Option AV
  | [.agg l] => match diaOf l with
    | some (n, m) => some (.bool (!isS n.toNat m))
    | none => none
  | _ => none
theorem k_i_invalid_1 : Am.Callee Try.prog 111 (plainE g_bad) :=
  Am.Callee.plain fun xs v he => by
    unfold g_bad at he
    split at he
    · split at he
      · rename_i n m hd
        cases he
        obtain ⟨rfl, hm⟩ := diaOf_some hd
        exact ⟨by simp only [AV.scals, AV.scal, scals_dia, Bool.and_self], rfl, c_i_invalid_1 n m hm⟩
      · cases he
    · cases he
def B19 : Book := (B18.put 111 (plainE g_bad))
theorem B19_ok : BookOk Try.prog B19 := (B18_ok.put (k_i_invalid_1))
theorem B19_i_IsDiagram_F1 : B19 99 = some (plainE g_isS) := rfl
theorem B19_i_invalid_1_F1 : B19 111 = some (plainE g_bad) := rfl


/-- Diagrams' cells. -/
def dis (ds : List (Int × List Nat)) : List AV := ds.flatMap fun d => dia d.1 d.2
def okDs (ds : List (Int × List Nat)) : Prop := ∀ d, d ∈ ds → okD d.2
def bad (d : Int × List Nat) : Bool := !isS d.1.toNat d.2
theorem scals_dis : ∀ (ds : List (Int × List Nat)), AV.scals (dis ds) = true
  | [] => rfl
  | d :: ds => by simp only [dis, List.flatMap_cons]; exact scals_app _ _ (scals_dia _ _) (scals_dis ds)
theorem dis_length : ∀ {ds : List (Int × List Nat)}, okDs ds → (dis ds).length = ds.length * 17
  | [], _ => rfl
  | d :: ds, h => by
    have h0 := h d (by simp)
    have := dis_length (ds := ds) fun u hu => h u (List.mem_cons_of_mem _ hu)
    unfold dis at this
    simp only [dis, List.flatMap_cons, List.length_append, dia_length, h0.1, List.length_cons, this]; omega
theorem dis_get : ∀ {ds : List (Int × List Nat)} {i : Nat}, okDs ds → (h : i < ds.length) → List.take 17 (List.drop (i * 17) (dis ds)) = dia ds[i].1 ds[i].2
  | d :: ds, 0, h, hi => by
    have h0 := h d (by simp)
    simp only [dis, List.flatMap_cons, Nat.zero_mul, List.drop_zero, List.getElem_cons_zero]
    rw [List.take_append_of_le_length (by rw [dia_length, h0.1]; exact Nat.le_refl _), dia_take17 h0.1]
  | d :: ds, i + 1, h, hi => by
    have h0 := h d (by simp)
    have h1 := dis_get (ds := ds) (i := i) (fun u hu => h u (List.mem_cons_of_mem _ hu)) (by simpa using hi)
    simp only [dis, List.flatMap_cons, List.getElem_cons_succ] at h1 ⊢
    rw [List.drop_append, List.drop_of_length_le (by rw [dia_length, h0.1]; omega), List.nil_append, dia_length, h0.1, ← h1]
    congr 2; omega

theorem c_IndexFunc (ds : List (Int × List Nat)) (ex : Bool) (c : Nat) (hd : okDs ds) (hl : ds.length ≤ 1000000) :
    Am.Fn Try.prog 136 [.slc 0 0 ds.length ex c, .fn 111 [] []] [.ro (dis ds)] (fun v H' => v = .int .i64 (if ds.any bad then (ds.findIdx bad : Nat) else -1) ∧ H' = [.ro (dis ds)]) := by
  refine Am.Fn.sameB (R := fun v => v = _) B19_ok mixed r_g_IndexFunc_SDiagram_Diagram (by simp) (ro_under (scals_dis _)) ?_
  simp (maxSteps := 3000000) only [a_g_IndexFunc_SDiagram_Diagram, idX_eq, wbE, ↓symP, symE, listE, AK.isCall, enumE, ev, putE, abin, aun, AV.cells, ↓reduceIte, reduceCtorEq, Nat.reduceAdd, Nat.reduceMul, Nat.reduceSub, Nat.reduceEqDiff, Nat.reduceLT, Nat.reduceLeDiff, implies_true, Back, retv, retV, AV.scal, AV.scals]; try simp only [idX_eq, ite_both, pickP_both, not_not_eq, Bool.not_eq_false, Bool.not_eq_true]
  refine WA.loopB B19_ok (fun s => ∃ k : Nat, s = ⟨[(8, .int .i64 k), (7, .int .i64 ds.length), (0, .slc 0 0 ds.length ex c), (1, .fn 111 [] [])], [.ro (dis ds)]⟩ ∧ k ≤ ds.length ∧ ∀ i, (h : i < k) → ∀ h2, bad (ds[i]'h2) = false)
    (fun s => match get s.env 8 with | .int _ x => ds.length - x.toNat | _ => 0) ⟨_, Weak.slots [8, 7, 0, 1], 0, rfl, by omega, by intros; omega⟩ ?_
  rintro s ⟨k, rfl, hk, hc⟩
  have hw : wrapK .i64 ((k : Int) + 1) = ((k + 1 : Nat) : Int) := by rw [wrap64 (by omega) (by omega)]; rfl
  have hdl := dis_length hd
  by_cases hlt : k < ds.length
  · have hg := dis_get hd hlt
    have ho := hd ds[k] (List.getElem_mem hlt)
    simp (maxSteps := 3000000) only [a_g_IndexFunc_SDiagram_Diagram_l1, B19_i_IsDiagram_F1, B19_i_invalid_1_F1, g_bad, g_isS, hw, hdl, hg, diaOf_dia ho, rd, List.getElem?_cons_zero, idX_eq, wbE, ↓symP, symE, listE, AK.isCall, enumE, ev, putE, abin, aun, AV.cells, ↓reduceIte, reduceCtorEq, Nat.reduceAdd, Nat.reduceMul, Nat.reduceSub, Nat.reduceEqDiff, Nat.reduceLT, Nat.reduceLeDiff, implies_true, Back, retv, retV, AV.scal, AV.scals]; try simp only [idX_eq, ite_both, pickP_both, not_not_eq, Bool.not_eq_false, Bool.not_eq_true]
    refine ⟨fun _ => ⟨⟨⟨by omega, by omega⟩, by omega⟩, by omega, fun h2 => ⟨⟨_, rfl⟩, ?_⟩, fun h2 => ⟨_, Weak.slots [8, 7, 0, 1], ⟨k + 1, rfl, by omega, fun i hi h3 => ?_⟩, ?_⟩⟩, fun h => absurd (by omega) h⟩
    · have hb : bad ds[k] = true := by unfold bad; rw [h2]; rfl
      have h1 : ds.any bad = true := List.any_eq_true.2 ⟨ds[k], List.getElem_mem hlt, hb⟩
      have h3 : ds.findIdx bad = k := (List.findIdx_eq hlt).2 ⟨hb, fun j hj => hc j hj (by omega)⟩
      rw [h1, h3, if_pos rfl]
    · by_cases e : i = k
      · subst e; unfold bad; rw [h2]; rfl
      · exact hc i (by omega) h3
    · simp only [Int.toNat_natCast, keptL, keptW, keptE, kepts, slots, ↓reduceIte, reduceCtorEq, Nat.reduceEqDiff, AV.ren, AV.rens, pos, Nat.reduceAdd]; omega
  · simp (maxSteps := 3000000) only [a_g_IndexFunc_SDiagram_Diagram_l1, a_g_IndexFunc_SDiagram_Diagram_k1, hw, hdl, rd, List.getElem?_cons_zero, idX_eq, wbE, ↓symP, symE, listE, AK.isCall, enumE, ev, putE, abin, aun, AV.cells, ↓reduceIte, reduceCtorEq, Nat.reduceAdd, Nat.reduceMul, Nat.reduceSub, Nat.reduceEqDiff, Nat.reduceLT, Nat.reduceLeDiff, implies_true, Back, retv, retV, AV.scal, AV.scals]; try simp only [idX_eq, ite_both, pickP_both, not_not_eq, Bool.not_eq_false, Bool.not_eq_true]
    refine ⟨fun h => absurd h (by omega), fun _ => ⟨⟨_, rfl⟩, ?_⟩⟩
    have h1 : ds.any bad = false := List.any_eq_false.2 fun d hd' => by
      obtain ⟨i, hi, rfl⟩ := List.getElem_of_mem hd'
      rw [hc i (by omega) hi]; simp
    rw [h1]; rfl

def disOf : Nat → List AV → Option (List (Int × List Nat))
  | 0, _ => some []
  | k + 1, l => match diaOf (l.take 17), disOf k (l.drop 17) with
    | some t, some ts => some (t :: ts)
    | _, _ => none
theorem disOf_some : ∀ {k : Nat} {l : List AV} {ds : List (Int × List Nat)}, l.length = k * 17 → disOf k l = some ds → ds.length = k ∧ okDs ds ∧ l = dis ds
  | 0, l, ts, hl, h => by
    cases h
    have : l = [] := List.length_eq_zero_iff.1 (by omega)
    subst this
    exact ⟨rfl, by simp [okDs], rfl⟩
  | k + 1, l, ts, hl, h => by
    simp only [disOf] at h
    split at h
    · rename_i t us ht hus
      cases h
      obtain ⟨n, m⟩ := t
      obtain ⟨h1, h2, h3⟩ := disOf_some (by rw [List.length_drop]; omega) hus
      obtain ⟨h5, h6⟩ := diaOf_some ht
      refine ⟨by simp [h1], fun u hu => ?_, ?_⟩
      · rcases List.mem_cons.1 hu with rfl | hu
        · exact h6
        · exact h2 u hu
      · rw [← List.take_append_drop 17 l, h5, h3]; rfl
    · cases h
def g_index : List AV → List AV → Option AV := fun l xs => match xs with
  | [.slc 0 0 k ex c, .fn 111 [] []] => match disOf k l with
    | some ds => chk (k ≤ 1000000) (some (.int .i64 (if ds.any bad then (ds.findIdx bad : Nat) else -1)))
    | none => none
  | _ => none
theorem k_index : Am.Callee Try.prog 136 (readS 0 17 g_index) :=
  Am.Callee.readS fun l pre post len ex c v hp hl he => by
    have : pre = [] := List.length_eq_zero_iff.1 hp
    subst this
    rw [List.nil_append] at he ⊢
    unfold g_index at he
    split at he
    · rename_i k ex' c' hx
      cases hx
      split at he
      · rename_i ds hds
        obtain ⟨h0, he⟩ := chk_some he
        cases he
        obtain ⟨rfl, h2, rfl⟩ := disOf_some hl hds
        exact ⟨scals_dis _, rfl, rfl, rfl, c_IndexFunc ds ex c h2 h0⟩
      · cases he
    · cases he
def B20 : Book := (B19.put 136 (readS 0 17 g_index))
theorem B20_ok : BookOk Try.prog B20 := (B19_ok.put (k_index))
theorem B20_i_IsDiagram_F1 : B20 99 = some (plainE g_isS) := rfl
theorem B20_i_invalid_1_F1 : B20 111 = some (plainE g_bad) := rfl
theorem B20_g_IndexFunc_SDiagram_Diagram_F1 : B20 136 = some (readS 0 17 g_index) := rfl

theorem disOf_dis : ∀ {ds : List (Int × List Nat)}, okDs ds → disOf ds.length (dis ds) = some ds
  | [], _ => rfl
  | d :: ds, h => by
    have h1 := disOf_dis (ds := ds) fun u hu => h u (List.mem_cons_of_mem _ hu)
    have h2 := (h d (by simp)).1
    simp only [dis, List.flatMap_cons, List.length_cons, disOf] at h1 ⊢
    rw [List.take_append_of_le_length (by rw [dia_length, h2]; exact Nat.le_refl _), dia_take17 h2, diaOf_dia (h d (by simp)), List.drop_append, List.drop_of_length_le (by rw [dia_length, h2]; exact Nat.le_refl _), dia_length, h2, List.nil_append]
    simp only [Nat.sub_self, List.drop_zero, h1]
theorem c_ContainsFunc (ds : List (Int × List Nat)) (ex : Bool) (c : Nat) (hd : okDs ds) (hl : ds.length ≤ 1000000) :
    Am.Fn Try.prog 110 [.slc 0 0 ds.length ex c, .fn 111 [] []] [.ro (dis ds)] (fun v H' => v = .bool (ds.any bad) ∧ H' = [.ro (dis ds)]) := by
  refine Am.Fn.sameB (R := fun v => v = _) B20_ok mixed r_g_ContainsFunc_SDiagram_Diagram (by simp) (ro_under (scals_dis _)) ?_
  have hdl := dis_length hd
  have htk : List.take (ds.length * 17) (dis ds) = dis ds := by rw [List.take_of_length_le]; rw [hdl]; exact Nat.le_refl _
  simp (maxSteps := 3000000) only [a_g_ContainsFunc_SDiagram_Diagram, B20_i_IsDiagram_F1, B20_i_invalid_1_F1, B20_g_IndexFunc_SDiagram_Diagram_F1, g_bad, g_index, g_isS, hdl, htk, disOf_dis hd, rd, List.getElem?_cons_zero, List.take_zero, List.drop_succ_cons, List.drop_zero, idX_eq, wbE, ↓symP, symE, listE, AK.isCall, enumE, ev, putE, abin, aun, AV.cells, ↓reduceIte, reduceCtorEq, Nat.reduceAdd, Nat.reduceMul, Nat.reduceSub, Nat.reduceEqDiff, Nat.reduceLT, Nat.reduceLeDiff, implies_true, Back, retv, retV, AV.scal, AV.scals]; try simp only [idX_eq, ite_both, pickP_both, not_not_eq, Bool.not_eq_false, Bool.not_eq_true]
  refine ⟨Nat.le_refl _, hl, ⟨_, rfl⟩, ?_⟩
  cases ds.any bad
  · rfl
  · rw [if_pos rfl, decide_eq_true_eq]; omega
def g_contains : List AV → List AV → Option AV := fun l xs => match xs with
  | [.slc 0 0 k ex c, .fn 111 [] []] => match disOf k l with
    | some ds => chk (k ≤ 1000000) (some (.bool (ds.any bad)))
    | none => none
  | _ => none
theorem k_contains : Am.Callee Try.prog 110 (readS 0 17 g_contains) :=
  Am.Callee.readS fun l pre post len ex c v hp hl he => by
    have : pre = [] := List.length_eq_zero_iff.1 hp
    subst this
    rw [List.nil_append] at he ⊢
    unfold g_contains at he
    split at he
    · rename_i k ex' c' hx
      cases hx
      split at he
      · rename_i ds hds
        obtain ⟨h0, he⟩ := chk_some he
        cases he
        obtain ⟨rfl, h2, rfl⟩ := disOf_some hl hds
        exact ⟨scals_dis _, rfl, rfl, rfl, c_ContainsFunc ds ex c h2 h0⟩
      · cases he
    · cases he
def B21 : Book := (B20.put 110 (readS 0 17 g_contains))
theorem B21_ok : BookOk Try.prog B21 := (B20_ok.put (k_contains))
theorem B21_i_IsDiagram_F1 : B21 99 = some (plainE g_isS) := rfl
theorem B21_i_invalid_1_F1 : B21 111 = some (plainE g_bad) := rfl
theorem B21_g_IndexFunc_SDiagram_Diagram_F1 : B21 136 = some (readS 0 17 g_index) := rfl
theorem B21_g_ContainsFunc_SDiagram_Diagram_F1 : B21 110 = some (readS 0 17 g_contains) := rfl

theorem c_i_invalid (ds : List (Int × List Nat)) (ex : Bool) (c : Nat) (hd : okDs ds) (hl : ds.length ≤ 1000000) :
    Am.Fn Try.prog 63 [.slc 0 0 ds.length ex c] [.ro (dis ds)] (fun v H' => v = .int .i64 (if ds.any bad then 1 else 0) ∧ H' = [.ro (dis ds)]) := by
  refine Am.Fn.sameB (R := fun v => v = _) B21_ok mixed r_i_invalid (by simp) (ro_under (scals_dis _)) ?_
  have hdl := dis_length hd
  have htk : List.take (ds.length * 17) (dis ds) = dis ds := by rw [List.take_of_length_le]; rw [hdl]; exact Nat.le_refl _
  simp (maxSteps := 3000000) only [a_i_invalid, B21_i_IsDiagram_F1, B21_i_invalid_1_F1, B21_g_IndexFunc_SDiagram_Diagram_F1, B21_g_ContainsFunc_SDiagram_Diagram_F1, g_bad, g_contains, g_index, g_isS, hdl, htk, disOf_dis hd, rd, List.getElem?_cons_zero, List.take_zero, List.drop_succ_cons, List.drop_zero, idX_eq, wbE, ↓symP, symE, listE, AK.isCall, enumE, ev, putE, abin, aun, AV.cells, ↓reduceIte, reduceCtorEq, Nat.reduceAdd, Nat.reduceMul, Nat.reduceSub, Nat.reduceEqDiff, Nat.reduceLT, Nat.reduceLeDiff, implies_true, Back, retv, retV, AV.scal, AV.scals]; try simp only [idX_eq, ite_both, pickP_both, not_not_eq, Bool.not_eq_false, Bool.not_eq_true]
  refine ⟨Nat.le_refl _, hl, fun h => ⟨⟨_, rfl⟩, by rw [h]; rfl⟩, fun h => ⟨⟨_, rfl⟩, by rw [h]; rfl⟩⟩
def g_invalid : List AV → List AV → Option AV := fun l xs => match xs with
  | [.slc 0 0 k ex c] => match disOf k l with
    | some ds => chk (k ≤ 1000000) (some (.int .i64 (if ds.any bad then 1 else 0)))
    | none => none
  | _ => none
theorem k_invalid : Am.Callee Try.prog 63 (readS 0 17 g_invalid) :=
  Am.Callee.readS fun l pre post len ex c v hp hl he => by
    have : pre = [] := List.length_eq_zero_iff.1 hp
    subst this
    rw [List.nil_append] at he ⊢
    unfold g_invalid at he
    split at he
    · rename_i k ex' c' hx
      cases hx
      split at he
      · rename_i ds hds
        obtain ⟨h0, he⟩ := chk_some he
        cases he
        obtain ⟨rfl, h2, rfl⟩ := disOf_some hl hds
        exact ⟨scals_dis _, rfl, rfl, rfl, c_i_invalid ds ex c h2 h0⟩
      · cases he
    · cases he
def B22 : Book := (B21.put 63 (readS 0 17 g_invalid))
theorem B22_ok : BookOk Try.prog B22 := (B21_ok.put (k_invalid))

end Go.Proofs.Ytkgoadglalpbfaa
