/- Contracts: the program's test of lists of diagrams. -/
import Derived.Test.YtkgoadglalpbfaaE9
namespace Go.Proofs.Ytkgoadglalpbfaa
open Go.Am Go.Dia
set_option linter.unusedSimpArgs false
set_option linter.unusedVariables false
set_option maxRecDepth 4000
set_option maxHeartbeats 1000000


def a_i_invalid_1 : AC := .seq (.region [⟨some 1, none, .op (.box (.t 0))⟩,
     ⟨some 2, none, .op (.mov (.c (.bool false)))⟩]) (.seq (.region [⟨some 3, none, .op (.loadN 17 (.t 1))⟩,
     ⟨some 4, none, .call (.c (.fn 99 [] [])) [(.t 3)]⟩,
     ⟨some 5, none, .op (.un .not (.t 4))⟩,
     ⟨some 2, none, .op (.mov (.t 5))⟩]) .ret)
theorem r_i_invalid_1 : readF Try.prog 111 = some ⟨6, a_i_invalid_1, [.slot 2]⟩ := by kernel_rfl
def a_g_IndexFunc_SDiagram_Diagram_l1 : AC := .seq (.region [⟨some 9, none, .op (.bin .lss (.t 8) (.t 7))⟩]) (.seq (.cond 9 .skip (.exit 0)) (.seq (.block 1 (.seq (.region [⟨some 10, none, .op (.mov (.t 8))⟩,
          ⟨some 5, none, .op (.mov (.t 10))⟩]) (.seq (.region [⟨some 11, none, .op (.mov (.t 1))⟩,
          ⟨some 12, none, .op (.mov (.t 0))⟩,
          ⟨some 13, none, .op (.mov (.t 5))⟩,
          ⟨some 14, none, .op (.iaddrS 17 (.t 12) (.t 13))⟩,
          ⟨some 15, none, .op (.loadN 17 (.t 14))⟩,
          ⟨some 16, none, .call (.t 11) [(.t 15)]⟩]) (.cond 16 (.seq (.region [⟨some 17, none, .op (.mov (.t 5))⟩,
            ⟨some 4, none, .op (.mov (.t 17))⟩]) .ret) .skip)))) (.region [⟨some 18, none, .op (.bin .add (.t 8) (.c (.int .i64 1)))⟩,
       ⟨some 8, none, .op (.mov (.t 18))⟩])))
def a_g_IndexFunc_SDiagram_Diagram_k1 : AC := .seq (.region [⟨some 4, none, .op (.mov (.c (.int .i64 (-1))))⟩]) .ret
def a_g_IndexFunc_SDiagram_Diagram : AC := .seq (.region [⟨some 4, none, .op (.mov (.c (.int .i64 0)))⟩]) (.seq (.seq (.region [⟨some 6, none, .op (.mov (.t 0))⟩,
      ⟨some 7, none, .op (.len .slc (.t 6))⟩,
      ⟨some 8, none, .op (.mov (.c (.int .i64 0)))⟩]) (.block 0 (.loop a_g_IndexFunc_SDiagram_Diagram_l1))) a_g_IndexFunc_SDiagram_Diagram_k1)
theorem r_g_IndexFunc_SDiagram_Diagram : readF Try.prog 136 = some ⟨19, a_g_IndexFunc_SDiagram_Diagram, [.slot 4]⟩ := by kernel_rfl

def a_g_ContainsFunc_SDiagram_Diagram : AC := .seq (.region [⟨some 4, none, .op (.mov (.c (.bool false)))⟩]) (.seq (.region [⟨some 5, none, .op (.mov (.t 0))⟩,
     ⟨some 6, none, .op (.mov (.t 1))⟩,
     ⟨some 7, none, .call (.c (.fn 136 [] [])) [(.t 5), (.t 6)]⟩,
     ⟨some 8, none, .op (.bin .geq (.t 7) (.c (.int .i64 0)))⟩,
     ⟨some 4, none, .op (.mov (.t 8))⟩]) .ret)
theorem r_g_ContainsFunc_SDiagram_Diagram : readF Try.prog 110 = some ⟨9, a_g_ContainsFunc_SDiagram_Diagram, [.slot 4]⟩ := by kernel_rfl

def a_i_invalid : AC := .seq (.region [⟨some 2, none, .op (.mov (.c (.int .i64 0)))⟩]) (.seq (.seq (.region [⟨some 3, none, .op (.mov (.t 0))⟩,
      ⟨some 4, none, .call (.c (.fn 110 [] [])) [(.t 3), (.c (.fn 111 [] []))]⟩]) (.cond 4 (.seq (.region [⟨some 2, none, .op (.mov (.c (.int .i64 1)))⟩]) .ret) .skip)) (.seq (.region [⟨some 2, none, .op (.mov (.c (.int .i64 0)))⟩]) .ret))
theorem r_i_invalid : readF Try.prog 63 = some ⟨5, a_i_invalid, [.slot 2]⟩ := by kernel_rfl

/-- The program's test comes to the reference's. -/
theorem c_i_IsDiagram' (n : Int) (m : List Nat) (hm : okD m) : Am.Fn Try.prog 99 [.agg (dia n m)] [] (fun v H' => v = .bool (isS n.toNat m) ∧ H' = []) := by
  rw [isS_eq_isI _ _ hm.1]; exact c_i_IsDiagram n m hm
theorem k_i_IsDiagram : Am.Callee Try.prog 99 (plainE g_isS) :=
  Am.Callee.plain fun xs v he => by
    unfold g_isS at he
    split at he
    · split at he
      · rename_i n m hd
        cases he
        obtain ⟨rfl, hm⟩ := diaOf_some hd
        exact ⟨by simp only [AV.scals, AV.scal, scals_dia, Bool.and_self], rfl, c_i_IsDiagram' n m hm⟩
      · cases he
    · cases he
def B18 : Book := (B17.put 99 (plainE g_isS))
theorem B18_ok : BookOk Try.prog B18 := (B17_ok.put (k_i_IsDiagram))
theorem B18_i_Diagram_n : B18 115 = some (readE 1 g_n) := rfl
theorem B18_i_Diagram_text : B18 100 = some (readE 17 g_text) := rfl
theorem B18_i_fieldOk : B18 64 = some (plainE g_fieldOk) := rfl
theorem B18_i_in : B18 93 = some (plainE g_in) := rfl
theorem B18_i_isPrime : B18 112 = some (plainE g_prime) := rfl
theorem B18_i_joined : B18 150 = some (readS 1 1 g_joined) := rfl
theorem B18_i_partners : B18 149 = some (newE g_partners) := rfl
theorem B18_i_placeOf : B18 132 = some (plainE g_place) := rfl
theorem B18_i_read : B18 131 = some (plainE g_read) := rfl
theorem B18_i_rest : B18 103 = some (plainE g_rest) := rfl
theorem B18_i_scaleOk : B18 65 = some (plainE g_scaleOk) := rfl
theorem B18_s_l01Ends : B18 107 = some (plainE g_ends) := rfl
theorem B18_s_l01In : B18 60 = some (plainE g_in) := rfl
theorem B18_s_l01Is : B18 58 = some (plainE g_isS) := rfl
theorem B18_s_l01Mod : B18 108 = some (plainE g_mod) := rfl
theorem B18_s_l01Place : B18 135 = some (plainE g_place) := rfl
theorem B18_s_l01Prime : B18 59 = some (plainE g_prime) := rfl
theorem B18_s_l01Text : B18 109 = some (plainE g_textS) := rfl
theorem B18_w_eqByteA16 : B18 151 = some (plainE g_eqBytes) := rfl
theorem B18_w_eqDiagram : B18 134 = some (plainE g_eqDiagram) := rfl
theorem B18_w_eqElement : B18 19 = some (g_eqElement) := rfl
theorem B18_w_eqTerm : B18 106 = some (plainE g_eqTerm) := rfl
theorem B18_w_eqTermS : B18 54 = some (g_eqTermS) := rfl
theorem B18_w_heldElement : B18 26 = some (g_heldElement) := rfl
theorem B18_w_heldTermS : B18 67 = some (g_heldTermS) := rfl
theorem B18_w_markElement : B18 20 = some (g_markElement) := rfl
theorem B18_w_markTermS : B18 55 = some (g_markTermS) := rfl
theorem B18_w_toByteA16 : B18 62 = some (plainE g_bytes) := rfl
theorem B18_w_toDiagram : B18 24 = some (plainE g_dia) := rfl
theorem B18_i_IsDiagram : B18 99 = some (plainE g_isS) := rfl


theorem c_i_invalid_1 (n : Int) (m : List Nat) (hm : okD m) : Am.Fn Try.prog 111 [.agg (dia n m)] [] (fun v H' => v = .bool (!isS n.toNat m) ∧ H' = []) := by
  refine Am.Fn.sameB (R := fun v => v = _) B18_ok mixed r_i_invalid_1 (by simp) (by simp) ?_
  have hml := hm.1
  simp (maxSteps := 3000000) only [a_i_invalid_1, B18_i_Diagram_n, B18_i_Diagram_text, B18_i_fieldOk, B18_i_in, B18_i_isPrime, B18_i_joined, B18_i_partners, B18_i_placeOf, B18_i_read, B18_i_rest, B18_i_scaleOk, B18_s_l01Ends, B18_s_l01In, B18_s_l01Is, B18_s_l01Mod, B18_s_l01Place, B18_s_l01Prime, B18_s_l01Text, B18_w_eqByteA16, B18_w_eqDiagram, B18_w_eqElement, B18_w_eqTerm, B18_w_eqTermS, B18_w_heldElement, B18_w_heldTermS, B18_w_markElement, B18_w_markTermS, B18_w_toByteA16, B18_w_toDiagram, B18_i_IsDiagram, g_bytes, g_dia, g_ends, g_eqBytes, g_eqDiagram, g_eqElement, g_eqTerm, g_eqTermS, g_fieldOk, g_heldElement, g_heldTermS, g_in, g_isS, g_joined, g_markElement, g_markTermS, g_mod, g_n, g_partners, g_place, g_prime, g_read, g_rest, g_scaleOk, g_text, g_textS, dia_all hml, hml, dia_length, diaOf_dia hm, rd, List.getElem?_cons_zero, List.getElem?_cons_succ, wbC, wbL, wbT, wbK, wbOne, wbTT, ↓hol_mapupd, ↓hol_entry, ↓hol_mapent, ↓hol_entst, ↓hol_lookup, ↓hol_rangeM,  AK.isCall, ↓pickP_true, ↓pickP_false, pickP_true, pickP_false, AX.then, AX.inBlock, ↓hol_readE, ↓hol_readS, ↓hol_newE, ↓holv_dia, ↓holv_dia0, ↓holv_u8s, ↓holv_i64s, ↓holv_n64s, Int.toNat_natCast, Nat.mul_one, enumE, ev, get_put, putE, ↓hol_plainE, ↓hol_mov, ↓hol_pick, ↓hol_bin, ↓hol_un, ↓hol_alloc, ↓hol_box, ↓hol_build, ↓hol_mkslc, ↓hol_load1, ↓hol_loadN, ↓hol_store1, ↓hol_storeN, ↓hol_conv, ↓hol_faddr, ↓hol_iaddrA, ↓hol_iaddrS, ↓hol_field, ↓hol_field1, ↓hol_ext, ↓hol_nilchk, ↓hol_idxA, ↓hol_idxN, ↓hol_idxS, ↓hol_minmax, ↓hol_lenS, ↓hol_lenL, ↓hol_substr, ↓hol_reslc, ↓hol_b2s, ↓hol_strid, ↓hol_eqs, ↓hol_eqb, ↓hol_mkslice, ↓hol_mkfn, ↓hol_append, astep_loadN, astep_load1, chk_true, holv_some, holv_none, holv_chk, ↓hol_chk, ↓hol_some, abin, aun, AV.cells, ↓reduceIte, reduceCtorEq, Nat.reduceAdd, Nat.reduceMul, Nat.reduceSub, Nat.reduceEqDiff, Nat.reduceLT, Nat.reduceLeDiff, Nat.zero_add, Nat.add_zero, true_and, and_true, Bool.not_true, Bool.not_false, true_implies, false_implies, implies_true, cond_true, cond_false, decide_true, decide_false, true_or, or_true, or_false, false_or, decide_eq_true_eq, decide_eq_false_iff_not, not_true_eq_false, eq_self, AV.bool.injEq, List.length_nil, List.length_cons, List.map_cons, List.map_nil, List.append_nil, List.nil_append, List.cons_append, Back, retv, retV, AV.scal, AV.scals, Bool.and_self, exists_eq', beq_iff_eq, beq_eq_false_iff_ne, bne_iff_ne, bne_eq_false_iff_eq, Bool.not_eq_true', Bool.not_eq_false', List.nil_eq, ne_eq, not_false_eq_true]; try simp only [ite_both, pickP_both, not_not_eq, Bool.not_eq_false, Bool.not_eq_true]
def g_bad : List AV → Option AV
  | [.agg l] => match diaOf l with
    | some (n, m) => some (.bool (!isS n.toNat m))
    | none => none
  | _ => none
theorem k_i_invalid_1 : Am.Callee Try.prog 111 (plainE g_bad) :=
  Am.Callee.plain fun xs v he => by
    unfold g_bad at he
    split at he
    · split at he
      · rename_i n m hd
        cases he
        obtain ⟨rfl, hm⟩ := diaOf_some hd
        exact ⟨by simp only [AV.scals, AV.scal, scals_dia, Bool.and_self], rfl, c_i_invalid_1 n m hm⟩
      · cases he
    · cases he
def B19 : Book := (B18.put 111 (plainE g_bad))
theorem B19_ok : BookOk Try.prog B19 := (B18_ok.put (k_i_invalid_1))
theorem B19_i_Diagram_n : B19 115 = some (readE 1 g_n) := rfl
theorem B19_i_Diagram_text : B19 100 = some (readE 17 g_text) := rfl
theorem B19_i_fieldOk : B19 64 = some (plainE g_fieldOk) := rfl
theorem B19_i_in : B19 93 = some (plainE g_in) := rfl
theorem B19_i_isPrime : B19 112 = some (plainE g_prime) := rfl
theorem B19_i_joined : B19 150 = some (readS 1 1 g_joined) := rfl
theorem B19_i_partners : B19 149 = some (newE g_partners) := rfl
theorem B19_i_placeOf : B19 132 = some (plainE g_place) := rfl
theorem B19_i_read : B19 131 = some (plainE g_read) := rfl
theorem B19_i_rest : B19 103 = some (plainE g_rest) := rfl
theorem B19_i_scaleOk : B19 65 = some (plainE g_scaleOk) := rfl
theorem B19_s_l01Ends : B19 107 = some (plainE g_ends) := rfl
theorem B19_s_l01In : B19 60 = some (plainE g_in) := rfl
theorem B19_s_l01Is : B19 58 = some (plainE g_isS) := rfl
theorem B19_s_l01Mod : B19 108 = some (plainE g_mod) := rfl
theorem B19_s_l01Place : B19 135 = some (plainE g_place) := rfl
theorem B19_s_l01Prime : B19 59 = some (plainE g_prime) := rfl
theorem B19_s_l01Text : B19 109 = some (plainE g_textS) := rfl
theorem B19_w_eqByteA16 : B19 151 = some (plainE g_eqBytes) := rfl
theorem B19_w_eqDiagram : B19 134 = some (plainE g_eqDiagram) := rfl
theorem B19_w_eqElement : B19 19 = some (g_eqElement) := rfl
theorem B19_w_eqTerm : B19 106 = some (plainE g_eqTerm) := rfl
theorem B19_w_eqTermS : B19 54 = some (g_eqTermS) := rfl
theorem B19_w_heldElement : B19 26 = some (g_heldElement) := rfl
theorem B19_w_heldTermS : B19 67 = some (g_heldTermS) := rfl
theorem B19_w_markElement : B19 20 = some (g_markElement) := rfl
theorem B19_w_markTermS : B19 55 = some (g_markTermS) := rfl
theorem B19_w_toByteA16 : B19 62 = some (plainE g_bytes) := rfl
theorem B19_w_toDiagram : B19 24 = some (plainE g_dia) := rfl
theorem B19_i_IsDiagram : B19 99 = some (plainE g_isS) := rfl
theorem B19_i_invalid_1 : B19 111 = some (plainE g_bad) := rfl


/-- Diagrams' cells. -/
def dis (ds : List (Int × List Nat)) : List AV := ds.flatMap fun d => dia d.1 d.2
def okDs (ds : List (Int × List Nat)) : Prop := ∀ d, d ∈ ds → okD d.2
def bad (d : Int × List Nat) : Bool := !isS d.1.toNat d.2
theorem scals_dis : ∀ (ds : List (Int × List Nat)), AV.scals (dis ds) = true
  | [] => rfl
  | d :: ds => by simp only [dis, List.flatMap_cons]; exact scals_app _ _ (scals_dia _ _) (scals_dis ds)
theorem dis_length : ∀ {ds : List (Int × List Nat)}, okDs ds → (dis ds).length = ds.length * 17
  | [], _ => rfl
  | d :: ds, h => by
    have h0 := h d (by simp)
    have := dis_length (ds := ds) fun u hu => h u (List.mem_cons_of_mem _ hu)
    unfold dis at this
    simp only [dis, List.flatMap_cons, List.length_append, dia_length, h0.1, List.length_cons, this]; omega
theorem dis_get : ∀ {ds : List (Int × List Nat)} {i : Nat}, okDs ds → (h : i < ds.length) → List.take 17 (List.drop (i * 17) (dis ds)) = dia ds[i].1 ds[i].2
  | d :: ds, 0, h, hi => by
    have h0 := h d (by simp)
    simp only [dis, List.flatMap_cons, Nat.zero_mul, List.drop_zero, List.getElem_cons_zero]
    rw [List.take_append_of_le_length (by rw [dia_length, h0.1]; exact Nat.le_refl _), dia_take17 h0.1]
  | d :: ds, i + 1, h, hi => by
    have h0 := h d (by simp)
    have h1 := dis_get (ds := ds) (i := i) (fun u hu => h u (List.mem_cons_of_mem _ hu)) (by simpa using hi)
    simp only [dis, List.flatMap_cons, List.getElem_cons_succ] at h1 ⊢
    rw [List.drop_append, List.drop_of_length_le (by rw [dia_length, h0.1]; omega), List.nil_append, dia_length, h0.1, ← h1]
    congr 2; omega

theorem c_IndexFunc (ds : List (Int × List Nat)) (ex : Bool) (c : Nat) (hd : okDs ds) (hl : ds.length ≤ 1000000) :
    Am.Fn Try.prog 136 [.slc 0 0 ds.length ex c, .fn 111 [] []] [.ro (dis ds)] (fun v H' => v = .int .i64 (if ds.any bad then (ds.findIdx bad : Nat) else -1) ∧ H' = [.ro (dis ds)]) := by
  refine Am.Fn.sameB (R := fun v => v = _) B19_ok mixed r_g_IndexFunc_SDiagram_Diagram (by simp) (ro_under (scals_dis _)) ?_
  simp (maxSteps := 3000000) only [a_g_IndexFunc_SDiagram_Diagram, wbC, wbL, wbT, wbK, wbOne, wbTT, ↓hol_mapupd, ↓hol_entry, ↓hol_mapent, ↓hol_entst, ↓hol_lookup, ↓hol_rangeM,  AK.isCall, ↓pickP_true, ↓pickP_false, pickP_true, pickP_false, AX.then, AX.inBlock, ↓hol_readE, ↓hol_readS, ↓hol_newE, ↓holv_dia, ↓holv_dia0, ↓holv_u8s, ↓holv_i64s, ↓holv_n64s, Int.toNat_natCast, Nat.mul_one, enumE, ev, get_put, putE, ↓hol_plainE, ↓hol_mov, ↓hol_pick, ↓hol_bin, ↓hol_un, ↓hol_alloc, ↓hol_box, ↓hol_build, ↓hol_mkslc, ↓hol_load1, ↓hol_loadN, ↓hol_store1, ↓hol_storeN, ↓hol_conv, ↓hol_faddr, ↓hol_iaddrA, ↓hol_iaddrS, ↓hol_field, ↓hol_field1, ↓hol_ext, ↓hol_nilchk, ↓hol_idxA, ↓hol_idxN, ↓hol_idxS, ↓hol_minmax, ↓hol_lenS, ↓hol_lenL, ↓hol_substr, ↓hol_reslc, ↓hol_b2s, ↓hol_strid, ↓hol_eqs, ↓hol_eqb, ↓hol_mkslice, ↓hol_mkfn, ↓hol_append, astep_loadN, astep_load1, chk_true, holv_some, holv_none, holv_chk, ↓hol_chk, ↓hol_some, abin, aun, AV.cells, ↓reduceIte, reduceCtorEq, Nat.reduceAdd, Nat.reduceMul, Nat.reduceSub, Nat.reduceEqDiff, Nat.reduceLT, Nat.reduceLeDiff, Nat.zero_add, Nat.add_zero, true_and, and_true, Bool.not_true, Bool.not_false, true_implies, false_implies, implies_true, cond_true, cond_false, decide_true, decide_false, true_or, or_true, or_false, false_or, decide_eq_true_eq, decide_eq_false_iff_not, not_true_eq_false, eq_self, AV.bool.injEq, List.length_nil, List.length_cons, List.map_cons, List.map_nil, List.append_nil, List.nil_append, List.cons_append, Back, retv, retV, AV.scal, AV.scals, Bool.and_self, exists_eq', beq_iff_eq, beq_eq_false_iff_ne, bne_iff_ne, bne_eq_false_iff_eq, Bool.not_eq_true', Bool.not_eq_false', List.nil_eq, ne_eq, not_false_eq_true]; try simp only [ite_both, pickP_both, not_not_eq, Bool.not_eq_false, Bool.not_eq_true]
  refine WA.loopB B19_ok (fun s => ∃ k : Nat, s = ⟨[(8, .int .i64 k), (7, .int .i64 ds.length), (0, .slc 0 0 ds.length ex c), (1, .fn 111 [] [])], [.ro (dis ds)]⟩ ∧ k ≤ ds.length ∧ ∀ i, (h : i < k) → ∀ h2, bad (ds[i]'h2) = false)
    (fun s => match get s.env 8 with | .int _ x => ds.length - x.toNat | _ => 0) ⟨_, Weak.slots [8, 7, 0, 1], 0, rfl, by omega, by intros; omega⟩ ?_
  rintro s ⟨k, rfl, hk, hc⟩
  have hw : wrapK .i64 ((k : Int) + 1) = ((k + 1 : Nat) : Int) := by rw [wrap64 (by omega) (by omega)]; rfl
  have hdl := dis_length hd
  by_cases hlt : k < ds.length
  · have hg := dis_get hd hlt
    have ho := hd ds[k] (List.getElem_mem hlt)
    simp (maxSteps := 3000000) only [a_g_IndexFunc_SDiagram_Diagram_l1, B19_i_Diagram_n, B19_i_Diagram_text, B19_i_fieldOk, B19_i_in, B19_i_isPrime, B19_i_joined, B19_i_partners, B19_i_placeOf, B19_i_read, B19_i_rest, B19_i_scaleOk, B19_s_l01Ends, B19_s_l01In, B19_s_l01Is, B19_s_l01Mod, B19_s_l01Place, B19_s_l01Prime, B19_s_l01Text, B19_w_eqByteA16, B19_w_eqDiagram, B19_w_eqElement, B19_w_eqTerm, B19_w_eqTermS, B19_w_heldElement, B19_w_heldTermS, B19_w_markElement, B19_w_markTermS, B19_w_toByteA16, B19_w_toDiagram, B19_i_IsDiagram, B19_i_invalid_1, g_bad, g_bytes, g_dia, g_ends, g_eqBytes, g_eqDiagram, g_eqElement, g_eqTerm, g_eqTermS, g_fieldOk, g_heldElement, g_heldTermS, g_in, g_isS, g_joined, g_markElement, g_markTermS, g_mod, g_n, g_partners, g_place, g_prime, g_read, g_rest, g_scaleOk, g_text, g_textS, hw, hdl, hg, diaOf_dia ho, rd, List.getElem?_cons_zero, wbC, wbL, wbT, wbK, wbOne, wbTT, ↓hol_mapupd, ↓hol_entry, ↓hol_mapent, ↓hol_entst, ↓hol_lookup, ↓hol_rangeM,  AK.isCall, ↓pickP_true, ↓pickP_false, pickP_true, pickP_false, AX.then, AX.inBlock, ↓hol_readE, ↓hol_readS, ↓hol_newE, ↓holv_dia, ↓holv_dia0, ↓holv_u8s, ↓holv_i64s, ↓holv_n64s, Int.toNat_natCast, Nat.mul_one, enumE, ev, get_put, putE, ↓hol_plainE, ↓hol_mov, ↓hol_pick, ↓hol_bin, ↓hol_un, ↓hol_alloc, ↓hol_box, ↓hol_build, ↓hol_mkslc, ↓hol_load1, ↓hol_loadN, ↓hol_store1, ↓hol_storeN, ↓hol_conv, ↓hol_faddr, ↓hol_iaddrA, ↓hol_iaddrS, ↓hol_field, ↓hol_field1, ↓hol_ext, ↓hol_nilchk, ↓hol_idxA, ↓hol_idxN, ↓hol_idxS, ↓hol_minmax, ↓hol_lenS, ↓hol_lenL, ↓hol_substr, ↓hol_reslc, ↓hol_b2s, ↓hol_strid, ↓hol_eqs, ↓hol_eqb, ↓hol_mkslice, ↓hol_mkfn, ↓hol_append, astep_loadN, astep_load1, chk_true, holv_some, holv_none, holv_chk, ↓hol_chk, ↓hol_some, abin, aun, AV.cells, ↓reduceIte, reduceCtorEq, Nat.reduceAdd, Nat.reduceMul, Nat.reduceSub, Nat.reduceEqDiff, Nat.reduceLT, Nat.reduceLeDiff, Nat.zero_add, Nat.add_zero, true_and, and_true, Bool.not_true, Bool.not_false, true_implies, false_implies, implies_true, cond_true, cond_false, decide_true, decide_false, true_or, or_true, or_false, false_or, decide_eq_true_eq, decide_eq_false_iff_not, not_true_eq_false, eq_self, AV.bool.injEq, List.length_nil, List.length_cons, List.map_cons, List.map_nil, List.append_nil, List.nil_append, List.cons_append, Back, retv, retV, AV.scal, AV.scals, Bool.and_self, exists_eq', beq_iff_eq, beq_eq_false_iff_ne, bne_iff_ne, bne_eq_false_iff_eq, Bool.not_eq_true', Bool.not_eq_false', List.nil_eq, ne_eq, not_false_eq_true]; try simp only [ite_both, pickP_both, not_not_eq, Bool.not_eq_false, Bool.not_eq_true]
    refine ⟨fun _ => ⟨⟨⟨by omega, by omega⟩, by omega⟩, by omega, fun h2 => ⟨⟨_, rfl⟩, ?_⟩, fun h2 => ⟨_, Weak.slots [8, 7, 0, 1], ⟨k + 1, rfl, by omega, fun i hi h3 => ?_⟩, ?_⟩⟩, fun h => absurd (by omega) h⟩
    · have hb : bad ds[k] = true := by unfold bad; rw [h2]; rfl
      have h1 : ds.any bad = true := List.any_eq_true.2 ⟨ds[k], List.getElem_mem hlt, hb⟩
      have h3 : ds.findIdx bad = k := (List.findIdx_eq hlt).2 ⟨hb, fun j hj => hc j hj (by omega)⟩
      rw [h1, h3, if_pos rfl]
    · by_cases e : i = k
      · subst e; unfold bad; rw [h2]; rfl
      · exact hc i (by omega) h3
    · simp only [Int.toNat_natCast, keptE, kepts, slots, get_put, ↓reduceIte, reduceCtorEq, Nat.reduceEqDiff, List.map_cons, List.map_nil, List.getElem?_cons_zero, List.getElem?_cons_succ, List.getElem?_nil, AV.ren, AO.ren, AV.rens, backR_eq, pos, Nat.reduceAdd, Nat.add_zero, Nat.zero_add, rens_scal _ _ (scals_dia _ _), rens_scal _ _ (scals_u8s _), rens_scal _ _ (scals_i64s _), rens_scal _ _ (scals_n64s _), List.cons_append, List.nil_append, List.set_cons_zero, List.set_cons_succ]; omega
  · simp (maxSteps := 3000000) only [a_g_IndexFunc_SDiagram_Diagram_l1, a_g_IndexFunc_SDiagram_Diagram_k1, hw, hdl, rd, List.getElem?_cons_zero, wbC, wbL, wbT, wbK, wbOne, wbTT, ↓hol_mapupd, ↓hol_entry, ↓hol_mapent, ↓hol_entst, ↓hol_lookup, ↓hol_rangeM,  AK.isCall, ↓pickP_true, ↓pickP_false, pickP_true, pickP_false, AX.then, AX.inBlock, ↓hol_readE, ↓hol_readS, ↓hol_newE, ↓holv_dia, ↓holv_dia0, ↓holv_u8s, ↓holv_i64s, ↓holv_n64s, Int.toNat_natCast, Nat.mul_one, enumE, ev, get_put, putE, ↓hol_plainE, ↓hol_mov, ↓hol_pick, ↓hol_bin, ↓hol_un, ↓hol_alloc, ↓hol_box, ↓hol_build, ↓hol_mkslc, ↓hol_load1, ↓hol_loadN, ↓hol_store1, ↓hol_storeN, ↓hol_conv, ↓hol_faddr, ↓hol_iaddrA, ↓hol_iaddrS, ↓hol_field, ↓hol_field1, ↓hol_ext, ↓hol_nilchk, ↓hol_idxA, ↓hol_idxN, ↓hol_idxS, ↓hol_minmax, ↓hol_lenS, ↓hol_lenL, ↓hol_substr, ↓hol_reslc, ↓hol_b2s, ↓hol_strid, ↓hol_eqs, ↓hol_eqb, ↓hol_mkslice, ↓hol_mkfn, ↓hol_append, astep_loadN, astep_load1, chk_true, holv_some, holv_none, holv_chk, ↓hol_chk, ↓hol_some, abin, aun, AV.cells, ↓reduceIte, reduceCtorEq, Nat.reduceAdd, Nat.reduceMul, Nat.reduceSub, Nat.reduceEqDiff, Nat.reduceLT, Nat.reduceLeDiff, Nat.zero_add, Nat.add_zero, true_and, and_true, Bool.not_true, Bool.not_false, true_implies, false_implies, implies_true, cond_true, cond_false, decide_true, decide_false, true_or, or_true, or_false, false_or, decide_eq_true_eq, decide_eq_false_iff_not, not_true_eq_false, eq_self, AV.bool.injEq, List.length_nil, List.length_cons, List.map_cons, List.map_nil, List.append_nil, List.nil_append, List.cons_append, Back, retv, retV, AV.scal, AV.scals, Bool.and_self, exists_eq', beq_iff_eq, beq_eq_false_iff_ne, bne_iff_ne, bne_eq_false_iff_eq, Bool.not_eq_true', Bool.not_eq_false', List.nil_eq, ne_eq, not_false_eq_true]; try simp only [ite_both, pickP_both, not_not_eq, Bool.not_eq_false, Bool.not_eq_true]
    refine ⟨fun h => absurd h (by omega), fun _ => ⟨⟨_, rfl⟩, ?_⟩⟩
    have h1 : ds.any bad = false := List.any_eq_false.2 fun d hd' => by
      obtain ⟨i, hi, rfl⟩ := List.getElem_of_mem hd'
      rw [hc i (by omega) hi]; simp
    rw [h1]; rfl

def disOf : Nat → List AV → Option (List (Int × List Nat))
  | 0, _ => some []
  | k + 1, l => match diaOf (l.take 17), disOf k (l.drop 17) with
    | some t, some ts => some (t :: ts)
    | _, _ => none
theorem disOf_some : ∀ {k : Nat} {l : List AV} {ds : List (Int × List Nat)}, l.length = k * 17 → disOf k l = some ds → ds.length = k ∧ okDs ds ∧ l = dis ds
  | 0, l, ts, hl, h => by
    cases h
    have : l = [] := List.length_eq_zero_iff.1 (by omega)
    subst this
    exact ⟨rfl, by simp [okDs], rfl⟩
  | k + 1, l, ts, hl, h => by
    simp only [disOf] at h
    split at h
    · rename_i t us ht hus
      cases h
      obtain ⟨n, m⟩ := t
      obtain ⟨h1, h2, h3⟩ := disOf_some (by rw [List.length_drop]; omega) hus
      obtain ⟨h5, h6⟩ := diaOf_some ht
      refine ⟨by simp [h1], fun u hu => ?_, ?_⟩
      · rcases List.mem_cons.1 hu with rfl | hu
        · exact h6
        · exact h2 u hu
      · rw [← List.take_append_drop 17 l, h5, h3]; rfl
    · cases h
def g_index : List AV → List AV → Option AV := fun l xs => match xs with
  | [.slc 0 0 k ex c, .fn 111 [] []] => match disOf k l with
    | some ds => chk (k ≤ 1000000) (some (.int .i64 (if ds.any bad then (ds.findIdx bad : Nat) else -1)))
    | none => none
  | _ => none
theorem k_index : Am.Callee Try.prog 136 (readS 0 17 g_index) :=
  Am.Callee.readS fun l pre post len ex c v hp hl he => by
    have : pre = [] := List.length_eq_zero_iff.1 hp
    subst this
    rw [List.nil_append] at he ⊢
    unfold g_index at he
    split at he
    · rename_i k ex' c' hx
      cases hx
      split at he
      · rename_i ds hds
        obtain ⟨h0, he⟩ := chk_some he
        cases he
        obtain ⟨rfl, h2, rfl⟩ := disOf_some hl hds
        exact ⟨scals_dis _, rfl, rfl, rfl, c_IndexFunc ds ex c h2 h0⟩
      · cases he
    · cases he
def B20 : Book := (B19.put 136 (readS 0 17 g_index))
theorem B20_ok : BookOk Try.prog B20 := (B19_ok.put (k_index))
theorem B20_i_Diagram_n : B20 115 = some (readE 1 g_n) := rfl
theorem B20_i_Diagram_text : B20 100 = some (readE 17 g_text) := rfl
theorem B20_i_fieldOk : B20 64 = some (plainE g_fieldOk) := rfl
theorem B20_i_in : B20 93 = some (plainE g_in) := rfl
theorem B20_i_isPrime : B20 112 = some (plainE g_prime) := rfl
theorem B20_i_joined : B20 150 = some (readS 1 1 g_joined) := rfl
theorem B20_i_partners : B20 149 = some (newE g_partners) := rfl
theorem B20_i_placeOf : B20 132 = some (plainE g_place) := rfl
theorem B20_i_read : B20 131 = some (plainE g_read) := rfl
theorem B20_i_rest : B20 103 = some (plainE g_rest) := rfl
theorem B20_i_scaleOk : B20 65 = some (plainE g_scaleOk) := rfl
theorem B20_s_l01Ends : B20 107 = some (plainE g_ends) := rfl
theorem B20_s_l01In : B20 60 = some (plainE g_in) := rfl
theorem B20_s_l01Is : B20 58 = some (plainE g_isS) := rfl
theorem B20_s_l01Mod : B20 108 = some (plainE g_mod) := rfl
theorem B20_s_l01Place : B20 135 = some (plainE g_place) := rfl
theorem B20_s_l01Prime : B20 59 = some (plainE g_prime) := rfl
theorem B20_s_l01Text : B20 109 = some (plainE g_textS) := rfl
theorem B20_w_eqByteA16 : B20 151 = some (plainE g_eqBytes) := rfl
theorem B20_w_eqDiagram : B20 134 = some (plainE g_eqDiagram) := rfl
theorem B20_w_eqElement : B20 19 = some (g_eqElement) := rfl
theorem B20_w_eqTerm : B20 106 = some (plainE g_eqTerm) := rfl
theorem B20_w_eqTermS : B20 54 = some (g_eqTermS) := rfl
theorem B20_w_heldElement : B20 26 = some (g_heldElement) := rfl
theorem B20_w_heldTermS : B20 67 = some (g_heldTermS) := rfl
theorem B20_w_markElement : B20 20 = some (g_markElement) := rfl
theorem B20_w_markTermS : B20 55 = some (g_markTermS) := rfl
theorem B20_w_toByteA16 : B20 62 = some (plainE g_bytes) := rfl
theorem B20_w_toDiagram : B20 24 = some (plainE g_dia) := rfl
theorem B20_i_IsDiagram : B20 99 = some (plainE g_isS) := rfl
theorem B20_i_invalid_1 : B20 111 = some (plainE g_bad) := rfl
theorem B20_g_IndexFunc_SDiagram_Diagram : B20 136 = some (readS 0 17 g_index) := rfl

theorem disOf_dis : ∀ {ds : List (Int × List Nat)}, okDs ds → disOf ds.length (dis ds) = some ds
  | [], _ => rfl
  | d :: ds, h => by
    have h1 := disOf_dis (ds := ds) fun u hu => h u (List.mem_cons_of_mem _ hu)
    have h2 := (h d (by simp)).1
    simp only [dis, List.flatMap_cons, List.length_cons, disOf] at h1 ⊢
    rw [List.take_append_of_le_length (by rw [dia_length, h2]; exact Nat.le_refl _), dia_take17 h2, diaOf_dia (h d (by simp)), List.drop_append, List.drop_of_length_le (by rw [dia_length, h2]; exact Nat.le_refl _), dia_length, h2, List.nil_append]
    simp only [Nat.sub_self, List.drop_zero, h1]
theorem c_ContainsFunc (ds : List (Int × List Nat)) (ex : Bool) (c : Nat) (hd : okDs ds) (hl : ds.length ≤ 1000000) :
    Am.Fn Try.prog 110 [.slc 0 0 ds.length ex c, .fn 111 [] []] [.ro (dis ds)] (fun v H' => v = .bool (ds.any bad) ∧ H' = [.ro (dis ds)]) := by
  refine Am.Fn.sameB (R := fun v => v = _) B20_ok mixed r_g_ContainsFunc_SDiagram_Diagram (by simp) (ro_under (scals_dis _)) ?_
  have hdl := dis_length hd
  have htk : List.take (ds.length * 17) (dis ds) = dis ds := by rw [List.take_of_length_le]; rw [hdl]; exact Nat.le_refl _
  simp (maxSteps := 3000000) only [a_g_ContainsFunc_SDiagram_Diagram, B20_i_Diagram_n, B20_i_Diagram_text, B20_i_fieldOk, B20_i_in, B20_i_isPrime, B20_i_joined, B20_i_partners, B20_i_placeOf, B20_i_read, B20_i_rest, B20_i_scaleOk, B20_s_l01Ends, B20_s_l01In, B20_s_l01Is, B20_s_l01Mod, B20_s_l01Place, B20_s_l01Prime, B20_s_l01Text, B20_w_eqByteA16, B20_w_eqDiagram, B20_w_eqElement, B20_w_eqTerm, B20_w_eqTermS, B20_w_heldElement, B20_w_heldTermS, B20_w_markElement, B20_w_markTermS, B20_w_toByteA16, B20_w_toDiagram, B20_i_IsDiagram, B20_i_invalid_1, B20_g_IndexFunc_SDiagram_Diagram, g_bad, g_bytes, g_dia, g_ends, g_eqBytes, g_eqDiagram, g_eqElement, g_eqTerm, g_eqTermS, g_fieldOk, g_heldElement, g_heldTermS, g_in, g_index, g_isS, g_joined, g_markElement, g_markTermS, g_mod, g_n, g_partners, g_place, g_prime, g_read, g_rest, g_scaleOk, g_text, g_textS, hdl, htk, disOf_dis hd, rd, List.getElem?_cons_zero, List.take_zero, List.drop_succ_cons, List.drop_zero, wbC, wbL, wbT, wbK, wbOne, wbTT, ↓hol_mapupd, ↓hol_entry, ↓hol_mapent, ↓hol_entst, ↓hol_lookup, ↓hol_rangeM,  AK.isCall, ↓pickP_true, ↓pickP_false, pickP_true, pickP_false, AX.then, AX.inBlock, ↓hol_readE, ↓hol_readS, ↓hol_newE, ↓holv_dia, ↓holv_dia0, ↓holv_u8s, ↓holv_i64s, ↓holv_n64s, Int.toNat_natCast, Nat.mul_one, enumE, ev, get_put, putE, ↓hol_plainE, ↓hol_mov, ↓hol_pick, ↓hol_bin, ↓hol_un, ↓hol_alloc, ↓hol_box, ↓hol_build, ↓hol_mkslc, ↓hol_load1, ↓hol_loadN, ↓hol_store1, ↓hol_storeN, ↓hol_conv, ↓hol_faddr, ↓hol_iaddrA, ↓hol_iaddrS, ↓hol_field, ↓hol_field1, ↓hol_ext, ↓hol_nilchk, ↓hol_idxA, ↓hol_idxN, ↓hol_idxS, ↓hol_minmax, ↓hol_lenS, ↓hol_lenL, ↓hol_substr, ↓hol_reslc, ↓hol_b2s, ↓hol_strid, ↓hol_eqs, ↓hol_eqb, ↓hol_mkslice, ↓hol_mkfn, ↓hol_append, astep_loadN, astep_load1, chk_true, holv_some, holv_none, holv_chk, ↓hol_chk, ↓hol_some, abin, aun, AV.cells, ↓reduceIte, reduceCtorEq, Nat.reduceAdd, Nat.reduceMul, Nat.reduceSub, Nat.reduceEqDiff, Nat.reduceLT, Nat.reduceLeDiff, Nat.zero_add, Nat.add_zero, true_and, and_true, Bool.not_true, Bool.not_false, true_implies, false_implies, implies_true, cond_true, cond_false, decide_true, decide_false, true_or, or_true, or_false, false_or, decide_eq_true_eq, decide_eq_false_iff_not, not_true_eq_false, eq_self, AV.bool.injEq, List.length_nil, List.length_cons, List.map_cons, List.map_nil, List.append_nil, List.nil_append, List.cons_append, Back, retv, retV, AV.scal, AV.scals, Bool.and_self, exists_eq', beq_iff_eq, beq_eq_false_iff_ne, bne_iff_ne, bne_eq_false_iff_eq, Bool.not_eq_true', Bool.not_eq_false', List.nil_eq, ne_eq, not_false_eq_true]; try simp only [ite_both, pickP_both, not_not_eq, Bool.not_eq_false, Bool.not_eq_true]
  refine ⟨Nat.le_refl _, hl, ⟨_, rfl⟩, ?_⟩
  cases ds.any bad
  · rfl
  · rw [if_pos rfl, decide_eq_true_eq]; omega
def g_contains : List AV → List AV → Option AV := fun l xs => match xs with
  | [.slc 0 0 k ex c, .fn 111 [] []] => match disOf k l with
    | some ds => chk (k ≤ 1000000) (some (.bool (ds.any bad)))
    | none => none
  | _ => none
theorem k_contains : Am.Callee Try.prog 110 (readS 0 17 g_contains) :=
  Am.Callee.readS fun l pre post len ex c v hp hl he => by
    have : pre = [] := List.length_eq_zero_iff.1 hp
    subst this
    rw [List.nil_append] at he ⊢
    unfold g_contains at he
    split at he
    · rename_i k ex' c' hx
      cases hx
      split at he
      · rename_i ds hds
        obtain ⟨h0, he⟩ := chk_some he
        cases he
        obtain ⟨rfl, h2, rfl⟩ := disOf_some hl hds
        exact ⟨scals_dis _, rfl, rfl, rfl, c_ContainsFunc ds ex c h2 h0⟩
      · cases he
    · cases he
def B21 : Book := (B20.put 110 (readS 0 17 g_contains))
theorem B21_ok : BookOk Try.prog B21 := (B20_ok.put (k_contains))
theorem B21_i_Diagram_n : B21 115 = some (readE 1 g_n) := rfl
theorem B21_i_Diagram_text : B21 100 = some (readE 17 g_text) := rfl
theorem B21_i_fieldOk : B21 64 = some (plainE g_fieldOk) := rfl
theorem B21_i_in : B21 93 = some (plainE g_in) := rfl
theorem B21_i_isPrime : B21 112 = some (plainE g_prime) := rfl
theorem B21_i_joined : B21 150 = some (readS 1 1 g_joined) := rfl
theorem B21_i_partners : B21 149 = some (newE g_partners) := rfl
theorem B21_i_placeOf : B21 132 = some (plainE g_place) := rfl
theorem B21_i_read : B21 131 = some (plainE g_read) := rfl
theorem B21_i_rest : B21 103 = some (plainE g_rest) := rfl
theorem B21_i_scaleOk : B21 65 = some (plainE g_scaleOk) := rfl
theorem B21_s_l01Ends : B21 107 = some (plainE g_ends) := rfl
theorem B21_s_l01In : B21 60 = some (plainE g_in) := rfl
theorem B21_s_l01Is : B21 58 = some (plainE g_isS) := rfl
theorem B21_s_l01Mod : B21 108 = some (plainE g_mod) := rfl
theorem B21_s_l01Place : B21 135 = some (plainE g_place) := rfl
theorem B21_s_l01Prime : B21 59 = some (plainE g_prime) := rfl
theorem B21_s_l01Text : B21 109 = some (plainE g_textS) := rfl
theorem B21_w_eqByteA16 : B21 151 = some (plainE g_eqBytes) := rfl
theorem B21_w_eqDiagram : B21 134 = some (plainE g_eqDiagram) := rfl
theorem B21_w_eqElement : B21 19 = some (g_eqElement) := rfl
theorem B21_w_eqTerm : B21 106 = some (plainE g_eqTerm) := rfl
theorem B21_w_eqTermS : B21 54 = some (g_eqTermS) := rfl
theorem B21_w_heldElement : B21 26 = some (g_heldElement) := rfl
theorem B21_w_heldTermS : B21 67 = some (g_heldTermS) := rfl
theorem B21_w_markElement : B21 20 = some (g_markElement) := rfl
theorem B21_w_markTermS : B21 55 = some (g_markTermS) := rfl
theorem B21_w_toByteA16 : B21 62 = some (plainE g_bytes) := rfl
theorem B21_w_toDiagram : B21 24 = some (plainE g_dia) := rfl
theorem B21_i_IsDiagram : B21 99 = some (plainE g_isS) := rfl
theorem B21_i_invalid_1 : B21 111 = some (plainE g_bad) := rfl
theorem B21_g_IndexFunc_SDiagram_Diagram : B21 136 = some (readS 0 17 g_index) := rfl
theorem B21_g_ContainsFunc_SDiagram_Diagram : B21 110 = some (readS 0 17 g_contains) := rfl

theorem c_i_invalid (ds : List (Int × List Nat)) (ex : Bool) (c : Nat) (hd : okDs ds) (hl : ds.length ≤ 1000000) :
    Am.Fn Try.prog 63 [.slc 0 0 ds.length ex c] [.ro (dis ds)] (fun v H' => v = .int .i64 (if ds.any bad then 1 else 0) ∧ H' = [.ro (dis ds)]) := by
  refine Am.Fn.sameB (R := fun v => v = _) B21_ok mixed r_i_invalid (by simp) (ro_under (scals_dis _)) ?_
  have hdl := dis_length hd
  have htk : List.take (ds.length * 17) (dis ds) = dis ds := by rw [List.take_of_length_le]; rw [hdl]; exact Nat.le_refl _
  simp (maxSteps := 3000000) only [a_i_invalid, B21_i_Diagram_n, B21_i_Diagram_text, B21_i_fieldOk, B21_i_in, B21_i_isPrime, B21_i_joined, B21_i_partners, B21_i_placeOf, B21_i_read, B21_i_rest, B21_i_scaleOk, B21_s_l01Ends, B21_s_l01In, B21_s_l01Is, B21_s_l01Mod, B21_s_l01Place, B21_s_l01Prime, B21_s_l01Text, B21_w_eqByteA16, B21_w_eqDiagram, B21_w_eqElement, B21_w_eqTerm, B21_w_eqTermS, B21_w_heldElement, B21_w_heldTermS, B21_w_markElement, B21_w_markTermS, B21_w_toByteA16, B21_w_toDiagram, B21_i_IsDiagram, B21_i_invalid_1, B21_g_IndexFunc_SDiagram_Diagram, B21_g_ContainsFunc_SDiagram_Diagram, g_bad, g_bytes, g_contains, g_dia, g_ends, g_eqBytes, g_eqDiagram, g_eqElement, g_eqTerm, g_eqTermS, g_fieldOk, g_heldElement, g_heldTermS, g_in, g_index, g_isS, g_joined, g_markElement, g_markTermS, g_mod, g_n, g_partners, g_place, g_prime, g_read, g_rest, g_scaleOk, g_text, g_textS, hdl, htk, disOf_dis hd, rd, List.getElem?_cons_zero, List.take_zero, List.drop_succ_cons, List.drop_zero, wbC, wbL, wbT, wbK, wbOne, wbTT, ↓hol_mapupd, ↓hol_entry, ↓hol_mapent, ↓hol_entst, ↓hol_lookup, ↓hol_rangeM,  AK.isCall, ↓pickP_true, ↓pickP_false, pickP_true, pickP_false, AX.then, AX.inBlock, ↓hol_readE, ↓hol_readS, ↓hol_newE, ↓holv_dia, ↓holv_dia0, ↓holv_u8s, ↓holv_i64s, ↓holv_n64s, Int.toNat_natCast, Nat.mul_one, enumE, ev, get_put, putE, ↓hol_plainE, ↓hol_mov, ↓hol_pick, ↓hol_bin, ↓hol_un, ↓hol_alloc, ↓hol_box, ↓hol_build, ↓hol_mkslc, ↓hol_load1, ↓hol_loadN, ↓hol_store1, ↓hol_storeN, ↓hol_conv, ↓hol_faddr, ↓hol_iaddrA, ↓hol_iaddrS, ↓hol_field, ↓hol_field1, ↓hol_ext, ↓hol_nilchk, ↓hol_idxA, ↓hol_idxN, ↓hol_idxS, ↓hol_minmax, ↓hol_lenS, ↓hol_lenL, ↓hol_substr, ↓hol_reslc, ↓hol_b2s, ↓hol_strid, ↓hol_eqs, ↓hol_eqb, ↓hol_mkslice, ↓hol_mkfn, ↓hol_append, astep_loadN, astep_load1, chk_true, holv_some, holv_none, holv_chk, ↓hol_chk, ↓hol_some, abin, aun, AV.cells, ↓reduceIte, reduceCtorEq, Nat.reduceAdd, Nat.reduceMul, Nat.reduceSub, Nat.reduceEqDiff, Nat.reduceLT, Nat.reduceLeDiff, Nat.zero_add, Nat.add_zero, true_and, and_true, Bool.not_true, Bool.not_false, true_implies, false_implies, implies_true, cond_true, cond_false, decide_true, decide_false, true_or, or_true, or_false, false_or, decide_eq_true_eq, decide_eq_false_iff_not, not_true_eq_false, eq_self, AV.bool.injEq, List.length_nil, List.length_cons, List.map_cons, List.map_nil, List.append_nil, List.nil_append, List.cons_append, Back, retv, retV, AV.scal, AV.scals, Bool.and_self, exists_eq', beq_iff_eq, beq_eq_false_iff_ne, bne_iff_ne, bne_eq_false_iff_eq, Bool.not_eq_true', Bool.not_eq_false', List.nil_eq, ne_eq, not_false_eq_true]; try simp only [ite_both, pickP_both, not_not_eq, Bool.not_eq_false, Bool.not_eq_true]
  refine ⟨Nat.le_refl _, hl, fun h => ⟨⟨_, rfl⟩, by rw [h]; rfl⟩, fun h => ⟨⟨_, rfl⟩, by rw [h]; rfl⟩⟩
def g_invalid : List AV → List AV → Option AV := fun l xs => match xs with
  | [.slc 0 0 k ex c] => match disOf k l with
    | some ds => chk (k ≤ 1000000) (some (.int .i64 (if ds.any bad then 1 else 0)))
    | none => none
  | _ => none
theorem k_invalid : Am.Callee Try.prog 63 (readS 0 17 g_invalid) :=
  Am.Callee.readS fun l pre post len ex c v hp hl he => by
    have : pre = [] := List.length_eq_zero_iff.1 hp
    subst this
    rw [List.nil_append] at he ⊢
    unfold g_invalid at he
    split at he
    · rename_i k ex' c' hx
      cases hx
      split at he
      · rename_i ds hds
        obtain ⟨h0, he⟩ := chk_some he
        cases he
        obtain ⟨rfl, h2, rfl⟩ := disOf_some hl hds
        exact ⟨scals_dis _, rfl, rfl, rfl, c_i_invalid ds ex c h2 h0⟩
      · cases he
    · cases he
def B22 : Book := (B21.put 63 (readS 0 17 g_invalid))
theorem B22_ok : BookOk Try.prog B22 := (B21_ok.put (k_invalid))
theorem B22_i_Diagram_n : B22 115 = some (readE 1 g_n) := rfl
theorem B22_i_Diagram_text : B22 100 = some (readE 17 g_text) := rfl
theorem B22_i_fieldOk : B22 64 = some (plainE g_fieldOk) := rfl
theorem B22_i_in : B22 93 = some (plainE g_in) := rfl
theorem B22_i_isPrime : B22 112 = some (plainE g_prime) := rfl
theorem B22_i_joined : B22 150 = some (readS 1 1 g_joined) := rfl
theorem B22_i_partners : B22 149 = some (newE g_partners) := rfl
theorem B22_i_placeOf : B22 132 = some (plainE g_place) := rfl
theorem B22_i_read : B22 131 = some (plainE g_read) := rfl
theorem B22_i_rest : B22 103 = some (plainE g_rest) := rfl
theorem B22_i_scaleOk : B22 65 = some (plainE g_scaleOk) := rfl
theorem B22_s_l01Ends : B22 107 = some (plainE g_ends) := rfl
theorem B22_s_l01In : B22 60 = some (plainE g_in) := rfl
theorem B22_s_l01Is : B22 58 = some (plainE g_isS) := rfl
theorem B22_s_l01Mod : B22 108 = some (plainE g_mod) := rfl
theorem B22_s_l01Place : B22 135 = some (plainE g_place) := rfl
theorem B22_s_l01Prime : B22 59 = some (plainE g_prime) := rfl
theorem B22_s_l01Text : B22 109 = some (plainE g_textS) := rfl
theorem B22_w_eqByteA16 : B22 151 = some (plainE g_eqBytes) := rfl
theorem B22_w_eqDiagram : B22 134 = some (plainE g_eqDiagram) := rfl
theorem B22_w_eqElement : B22 19 = some (g_eqElement) := rfl
theorem B22_w_eqTerm : B22 106 = some (plainE g_eqTerm) := rfl
theorem B22_w_eqTermS : B22 54 = some (g_eqTermS) := rfl
theorem B22_w_heldElement : B22 26 = some (g_heldElement) := rfl
theorem B22_w_heldTermS : B22 67 = some (g_heldTermS) := rfl
theorem B22_w_markElement : B22 20 = some (g_markElement) := rfl
theorem B22_w_markTermS : B22 55 = some (g_markTermS) := rfl
theorem B22_w_toByteA16 : B22 62 = some (plainE g_bytes) := rfl
theorem B22_w_toDiagram : B22 24 = some (plainE g_dia) := rfl
theorem B22_i_IsDiagram : B22 99 = some (plainE g_isS) := rfl
theorem B22_i_invalid_1 : B22 111 = some (plainE g_bad) := rfl
theorem B22_g_IndexFunc_SDiagram_Diagram : B22 136 = some (readS 0 17 g_index) := rfl
theorem B22_g_ContainsFunc_SDiagram_Diagram : B22 110 = some (readS 0 17 g_contains) := rfl
theorem B22_i_invalid : B22 63 = some (readS 0 17 g_invalid) := rfl

end Go.Proofs.Ytkgoadglalpbfaa
