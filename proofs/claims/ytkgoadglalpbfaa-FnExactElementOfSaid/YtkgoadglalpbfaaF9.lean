/- Contracts: the statement FnExactElementOf. -/
import Derived.Test.YtkgoadglalpbfaaF8
namespace Go.Proofs.Ytkgoadglalpbfaa
open Go.Am Go.Dia
set_option linter.unusedSimpArgs false
set_option linter.unusedVariables false
set_option maxRecDepth 4000
set_option maxHeartbeats 1000000

theorem ren_el2 (p c n e : Int) (b k m : Nat) : AV.ren (shiftR m) (.tup [.agg [.int .i64 p, .int .i64 c, .int .i64 n, .slc b 0 k false 0], .int .i64 e]) = .tup [.agg [.int .i64 p, .int .i64 c, .int .i64 n, .slc (m + b) 0 k false 0], .int .i64 e] := rfl


def a_w_FnExactElementOf : AC := .seq (.region [⟨some 6, none, .op (.box (.t 2))⟩,
     ⟨some 8, none, .op (.mov (.c (.bool false)))⟩]) (.seq (.region [⟨some 18, none, .op (.mov (.t 0))⟩,
     ⟨some 19, none, .op (.mov (.t 1))⟩,
     ⟨some 20, none, .op (.loadN 17 (.t 6))⟩,
     ⟨some 21, none, .call (.c (.fn 24 [] [])) [(.t 20)]⟩,
     ⟨some 22, none, .op (.mov (.t 3))⟩,
     ⟨some 23, none, .call (.c (.fn 23 [] [])) [(.t 18), (.t 19), (.t 21), (.t 22)]⟩,
     ⟨some 17, none, .op (.mov (.t 23))⟩,
     ⟨some 24, none, .op (.ext 0 (.t 17))⟩,
     ⟨some 25, none, .op (.ext 1 (.t 17))⟩,
     ⟨some 9, none, .op (.alloc [(.int .i64 0), (.int .i64 0), (.int .i64 0), (.v (.slice none 0 0))])⟩,
     ⟨none, none, .op (.storeN 4 (.t 9) (.t 24))⟩,
     ⟨some 10, none, .op (.mov (.t 25))⟩]) (.seq (.region [⟨some 27, none, .op (.mov (.t 0))⟩,
     ⟨some 28, none, .op (.mov (.t 1))⟩,
     ⟨some 29, none, .op (.loadN 17 (.t 6))⟩,
     ⟨some 30, none, .call (.c (.fn 24 [] [])) [(.t 29)]⟩,
     ⟨some 31, none, .op (.mov (.t 3))⟩,
     ⟨some 32, none, .call (.c (.fn 25 [] [])) [(.t 27), (.t 28), (.t 30), (.t 31)]⟩,
     ⟨some 26, none, .op (.mov (.t 32))⟩,
     ⟨some 33, none, .op (.ext 0 (.t 26))⟩,
     ⟨some 34, none, .op (.ext 1 (.t 26))⟩,
     ⟨some 11, none, .op (.alloc [(.int .i64 0), (.int .i64 0), (.int .i64 0), (.v (.slice none 0 0))])⟩,
     ⟨none, none, .op (.storeN 4 (.t 11) (.t 33))⟩,
     ⟨some 12, none, .op (.mov (.t 34))⟩]) (.seq (.seq (.region [⟨some 35, none, .op (.loadN 4 (.t 11))⟩,
      ⟨some 36, none, .op (.loadN 4 (.t 9))⟩,
      ⟨some 37, none, .call (.c (.fn 19 [] [])) [(.t 35), (.t 36)]⟩,
      ⟨some 38, none, .op (.un .not (.t 37))⟩,
      ⟨some 39, none, .op (.mov (.t 38))⟩,
      ⟨some 40, some (39, false), .op (.mov (.t 12))⟩,
      ⟨some 41, some (39, false), .op (.mov (.t 10))⟩,
      ⟨some 42, some (39, false), .op (.bin .neq (.t 40) (.t 41))⟩,
      ⟨some 43, none, .op (.pick (.t 39) (.c (.bool true)) (.t 42))⟩]) (.cond 43 (.seq (.region [⟨some 8, none, .op (.mov (.c (.bool false)))⟩]) .ret) .skip)) (.seq (.region [⟨some 13, none, .op (.mov (.c (.int .i64 1)))⟩]) (.seq (.region [⟨some 44, none, .op (.loadN 4 (.t 11))⟩,
     ⟨some 45, none, .op (.mov (.t 13))⟩,
     ⟨some 46, none, .call (.c (.fn 20 [] [])) [(.t 44), (.t 45)]⟩,
     ⟨some 13, none, .op (.mov (.t 46))⟩]) (.seq (.region [⟨some 14, none, .op (.mov (.c (.int .i64 1)))⟩]) (.seq (.region [⟨some 47, none, .op (.loadN 4 (.t 11))⟩,
     ⟨some 48, none, .op (.mov (.t 14))⟩,
     ⟨some 49, none, .call (.c (.fn 26 [] [])) [(.t 47), (.t 48)]⟩,
     ⟨some 14, none, .op (.mov (.t 49))⟩]) (.seq (.seq (.region [⟨some 50, none, .op (.mov (.t 14))⟩,
      ⟨some 51, none, .op (.bin .lss (.t 50) (.c (.int .i64 0)))⟩]) (.cond 51 (.seq (.region [⟨some 8, none, .op (.mov (.c (.bool false)))⟩]) .ret) .skip)) (.seq (.seq (.region [⟨some 52, none, .op (.mov (.t 14))⟩,
      ⟨some 53, none, .op (.mov (.t 13))⟩,
      ⟨some 54, none, .op (.bin .neq (.t 52) (.t 53))⟩]) (.cond 54 (.seq (.region [⟨some 8, none, .op (.mov (.c (.bool false)))⟩]) .ret) .skip)) (.seq (.region [⟨some 56, none, .op (.mov (.t 0))⟩,
     ⟨some 57, none, .op (.mov (.t 1))⟩,
     ⟨some 58, none, .op (.loadN 17 (.t 6))⟩,
     ⟨some 59, none, .call (.c (.fn 24 [] [])) [(.t 58)]⟩,
     ⟨some 60, none, .op (.mov (.t 3))⟩,
     ⟨some 61, none, .call (.c (.fn 25 [] [])) [(.t 56), (.t 57), (.t 59), (.t 60)]⟩,
     ⟨some 55, none, .op (.mov (.t 61))⟩,
     ⟨some 62, none, .op (.ext 0 (.t 55))⟩,
     ⟨some 63, none, .op (.ext 1 (.t 55))⟩,
     ⟨some 15, none, .op (.alloc [(.int .i64 0), (.int .i64 0), (.int .i64 0), (.v (.slice none 0 0))])⟩,
     ⟨none, none, .op (.storeN 4 (.t 15) (.t 62))⟩,
     ⟨some 16, none, .op (.mov (.t 63))⟩]) (.seq (.seq (.region [⟨some 64, none, .op (.loadN 4 (.t 15))⟩,
      ⟨some 65, none, .op (.loadN 4 (.t 9))⟩,
      ⟨some 66, none, .call (.c (.fn 19 [] [])) [(.t 64), (.t 65)]⟩,
      ⟨some 67, none, .op (.un .not (.t 66))⟩,
      ⟨some 68, none, .op (.mov (.t 67))⟩,
      ⟨some 69, some (68, false), .op (.mov (.t 16))⟩,
      ⟨some 70, some (68, false), .op (.mov (.t 10))⟩,
      ⟨some 71, some (68, false), .op (.bin .neq (.t 69) (.t 70))⟩,
      ⟨some 72, none, .op (.pick (.t 68) (.c (.bool true)) (.t 71))⟩]) (.cond 72 (.seq (.region [⟨some 8, none, .op (.mov (.c (.bool false)))⟩]) .ret) .skip)) (.seq (.region [⟨some 14, none, .op (.mov (.c (.int .i64 1)))⟩]) (.seq (.region [⟨some 73, none, .op (.loadN 4 (.t 11))⟩,
     ⟨some 74, none, .op (.mov (.t 14))⟩,
     ⟨some 75, none, .call (.c (.fn 26 [] [])) [(.t 73), (.t 74)]⟩,
     ⟨some 14, none, .op (.mov (.t 75))⟩]) (.seq (.seq (.region [⟨some 76, none, .op (.mov (.t 14))⟩,
      ⟨some 77, none, .op (.bin .lss (.t 76) (.c (.int .i64 0)))⟩]) (.cond 77 (.seq (.region [⟨some 8, none, .op (.mov (.c (.bool false)))⟩]) .ret) .skip)) (.seq (.seq (.region [⟨some 78, none, .op (.mov (.t 14))⟩,
      ⟨some 79, none, .op (.mov (.t 13))⟩,
      ⟨some 80, none, .op (.bin .neq (.t 78) (.t 79))⟩]) (.cond 80 (.seq (.region [⟨some 8, none, .op (.mov (.c (.bool false)))⟩]) .ret) .skip)) (.seq (.region [⟨some 8, none, .op (.mov (.c (.bool true)))⟩]) .ret))))))))))))))))
theorem r_w_FnExactElementOf : readF Try.prog 4 = some ⟨81, a_w_FnExactElementOf, [.slot 8]⟩ := by kernel_rfl

theorem law_ElementOf (p c n : Int) (m : List Nat) (k : Int) (hm : okD m) : Am.Fn Try.prog 4 [.int .i64 p, .int .i64 c, .agg (dia n m), .int .i64 k] [] (fun v H' => v = .bool true ∧ H' = []) := by
  refine Am.Fn.sameB (R := fun v => v = _) B30_ok mixed r_w_FnExactElementOf (by simp) (by simp) ?_
  have hex : okT (elemOf p c n m k).2.2.2.1 ∧ (elemOf p c n m k).2.2.2.1.length ≤ 1 := by
    unfold elemOf
    split
    · simp [okT]
    · split
      · simp [okT]
      · simp only
        split
        · simp [okT]
        · simp [okT, hm]
  generalize he : elemOf p c n m k = r at hex
  obtain ⟨P, C, N, L, E⟩ := r
  obtain ⟨hL, hl⟩ := hex
  simp only at hL hl
  have h1 := trms_length hL
  have h2 := tsOf_trms' hL
  have h3 : tsOf L.length (trms (marks L.length 1)) = some (marks L.length 1) := by have := tsOf_trms' (okT_marks L.length 1); rwa [marks_length] at this
  have h6 : ((1 + 18 * L.length : Nat) : Int) < 0 ↔ False := iff_false_intro (by omega)
  have h4 : L.length ≤ 2000000 := by omega
  simp (maxSteps := 3000000) only [over4_0, over4_1, over4_2, over4_3, over4_4, fillA, rd, wrt, wrl, AO.withl, List.getElem?_cons_zero, List.getElem?_cons_succ, List.getElem?_nil, List.set_cons_zero, List.set_cons_succ, List.drop_zero, List.drop_succ_cons, List.take_zero, List.take_succ_cons, a_w_FnExactElementOf, B30_g_ContainsFunc_SDiagram_Diagram, B30_g_IndexFunc_SDiagram_Diagram, B30_g_SortFunc_STerm_Term, B30_i_Diagram_n, B30_i_Diagram_text, B30_i_ElementOf, B30_i_Element_with, B30_i_IsDiagram, B30_i_fieldOk, B30_i_in, B30_i_invalid, B30_i_invalid_1, B30_i_isPrime, B30_i_joined, B30_i_partners, B30_i_placeOf, B30_i_read, B30_i_rest, B30_i_scaleOk, B30_i_single, B30_s_ElementOf, B30_s_l01Ends, B30_s_l01In, B30_s_l01Is, B30_s_l01Mod, B30_s_l01Place, B30_s_l01Prime, B30_s_l01Text, B30_s_l02Put, B30_st_Compare, B30_w_eqByteA16, B30_w_eqDiagram, B30_w_eqElement, B30_w_eqTerm, B30_w_eqTermS, B30_w_heldElement, B30_w_heldTermS, B30_w_markElement, B30_w_markTermS, B30_w_toByteA16, B30_w_toDiagram, g_bad, g_bytes, g_compare, g_contains, g_dia, g_elemOf, g_ends, g_eqBytes, g_eqDiagram, g_eqElement, g_eqTerm, g_eqTermS, g_fieldOk, g_heldElement, g_heldTermS, g_in, g_index, g_invalid, g_isS, g_joined, g_markElement, g_markTermS, g_mod, g_n, g_partners, g_place, g_prime, g_put0, g_read, g_rest, g_scaleOk, g_single, g_sort, g_text, g_textS, g_with, dia_length, hm.1, diaOf_dia hm, dia_take17 hm.1, dia_zero, dia_zero_len, over_dia0 hm.1, he, h1, h2, h3, h4, h6, Int.toNat_one, List.length_replicate, Int.reduceEq, Int.reduceNe, Int.reduceBEq, Int.reduceBNe, Int.reduceLT, Int.reduceLE, Int.reduceAdd, Int.reduceSub, Int.reduceMul, ren_el, elemV, rn_vec, rens_scal _ _ (scals_trms _), rens_scal _ _ (scals_dia _ _), ren_el2, wbC, wbL, wbT, wbK, wbOne, wbTT, ↓hol_mapupd, ↓hol_mkmap, ↓hol_entry, ↓hol_mapent, ↓hol_entst, ↓hol_lookup, ↓hol_rangeM,  AK.isCall, ↓pickP_true, ↓pickP_false, pickP_true, pickP_false, AX.then, AX.inBlock, ↓hol_readE, ↓hol_readS, ↓hol_newE, ↓holv_dia, ↓holv_dia0, ↓holv_u8s, ↓holv_i64s, ↓holv_n64s, Int.toNat_natCast, Nat.mul_one, enumE, ev, get_put, putE, ↓hol_plainE, ↓hol_mov, ↓hol_pick, ↓hol_bin, ↓hol_un, ↓hol_alloc, ↓hol_box, ↓hol_build, ↓hol_mkslc, ↓hol_load1, ↓hol_loadN, ↓hol_store1, ↓hol_storeN, ↓hol_conv, ↓hol_faddr, ↓hol_iaddrA, ↓hol_iaddrS, ↓hol_field, ↓hol_field1, ↓hol_ext, ↓hol_nilchk, ↓hol_idxA, ↓hol_idxN, ↓hol_idxS, ↓hol_minmax, ↓hol_lenS, ↓hol_lenL, ↓hol_substr, ↓hol_reslc, ↓hol_b2s, ↓hol_strid, ↓hol_eqs, ↓hol_eqb, ↓hol_mkslice, ↓hol_mkfn, ↓hol_append, astep_loadN, astep_load1, chk_true, holv_some, holv_none, holv_chk, ↓hol_chk, ↓hol_some, abin, aun, AV.cells, ↓reduceIte, reduceCtorEq, Nat.reduceAdd, Nat.reduceMul, Nat.reduceSub, Nat.reduceEqDiff, Nat.reduceLT, Nat.reduceLeDiff, Nat.zero_add, Nat.add_zero, true_and, and_true, Bool.not_true, Bool.not_false, true_implies, false_implies, implies_true, cond_true, cond_false, decide_true, decide_false, true_or, or_true, or_false, false_or, decide_eq_true_eq, decide_eq_false_iff_not, not_true_eq_false, eq_self, AV.bool.injEq, List.length_nil, List.length_cons, List.map_cons, List.map_nil, List.append_nil, List.nil_append, List.cons_append, Back, retv, retV, AV.scal, AV.scals, Bool.and_self, exists_eq', beq_iff_eq, beq_eq_false_iff_ne, bne_iff_ne, bne_eq_false_iff_eq, Bool.not_eq_true', Bool.not_eq_false', List.nil_eq, ne_eq, not_false_eq_true]; try simp only [ite_both, pickP_both, not_not_eq, Bool.not_eq_false, Bool.not_eq_true]
  exact ⟨rfl, rfl, rfl⟩
end Go.Proofs.Ytkgoadglalpbfaa
