/- Contracts: the element of a diagram. -/
import Derived.Test.YtkgoadglalpbfaaF7
namespace Go.Proofs.Ytkgoadglalpbfaa
open Go.Am Go.Dia
set_option linter.unusedSimpArgs false
set_option linter.unusedVariables false
set_option maxRecDepth 4000
set_option maxHeartbeats 1000000

def tsE : Nat → List AE → Option (List (Int × List Nat × Int))
  | _, [] => some []
  | k, ⟨.agg l, .int .i64 v, b⟩ :: es => match diaOf l, tsE (k + 1) es with
    | some (n, m), some ts => if b = k then some ((n, m, v) :: ts) else none
    | _, _ => none
  | _, _ => none
theorem tsE_esT : ∀ {ts : List (Int × List Nat × Int)} {k : Nat}, okT ts → tsE k (esT k ts) = some ts
  | [], _, _ => rfl
  | t :: l, k, h => by
    simp only [esT, tsE, diaOf_dia (h t (List.mem_cons_self ..)), tsE_esT (ts := l) (k := k + 1) fun u hu => h u (List.mem_cons_of_mem _ hu), if_true]
theorem tsE_some : ∀ {es : List AE} {k : Nat} {ts : List (Int × List Nat × Int)}, tsE k es = some ts → es = esT k ts ∧ okT ts
  | [], k, ts, h => by simp only [tsE, Option.some.injEq] at h; subst h; exact ⟨rfl, fun t ht => by cases ht⟩
  | ⟨key, val, b⟩ :: es, k, ts, h => by
    unfold tsE at h
    split at h
    · rename_i e; cases e
    · rename_i e; cases e
      split at h
      · rename_i n m ts' hd hts
        split at h
        · rename_i hb
          cases h; subst hb
          obtain ⟨rfl, hm⟩ := diaOf_some hd
          obtain ⟨e1, e2⟩ := tsE_some hts
          refine ⟨by rw [e1]; rfl, fun t ht => ?_⟩
          rcases List.mem_cons.1 ht with rfl | ht
          · exact hm
          · exact e2 t ht
        · cases h
      · cases h
    · cases h
theorem set_same {α : Type} : ∀ {l : List α} {i : Nat} {a : α}, l[i]? = some a → l.set i a = l
  | [], i, a, h => by simp at h
  | x :: l, 0, a, h => by simp only [List.getElem?_cons_zero, Option.some.injEq] at h; simp [h]
  | x :: l, i + 1, a, h => by simp only [List.getElem?_cons_succ] at h; simp [set_same h]

def szOf (ts : List (Int × List Nat × Int)) : Int := match ts with | t :: _ => t.1 | [] => 0
def g_with : BE := fun hp xs => match xs with
  | [.ptr b 0, .map m] => match rd hp b, hp[m]? with
    | some (.int .i64 p :: .int .i64 c :: .int .i64 n :: _), some (.map es ck) => match tsE 0 es with
      | some ts => chk (ck = ts.length ∧ (0 < p ∧ p ≤ 1000000) ∧ ts.length ≤ 1000000 ∧ (0 ≤ szOf ts ∧ szOf ts ≤ 8) ∧ (∀ t ∈ ts, t.1 = szOf ts) ∧ (ts.map txt).Nodup)
          (some (elemV p c (if restT p ts = [] then n else szOf ts) hp.length (restT p ts).length, hp ++ [.vec 18 (trms (sortT (restT p ts)))]))
      | none => none
    | _, _ => none
  | _ => none
theorem k_with : Am.Callee Try.prog 113 g_with := Callee.fp fun hp xs v hp' he => by
  unfold g_with at he
  split at he
  · rename_i b m
    split at he
    · rename_i p c n L es ck hrd hm
      split at he
      · rename_i ts hts
        obtain ⟨⟨h1, h2, h3, h4, h5, h6⟩, he⟩ := chk_some he
        simp only [Option.some.injEq, Prod.mk.injEq] at he
        obtain ⟨rfl, rfl⟩ := he
        obtain ⟨rfl, hok⟩ := tsE_some hts
        subst h1
        have hne : m ≠ b := by
          rintro rfl
          simp [rd, hm] at hrd
        refine ⟨[(b, 0), (m, 0)], [.ptr 0 0, .map 1], _, _, _, c_with p c n (szOf ts) ts h2 h4 hok h5 h6 h3, ?_, rfl, ⟨⟨_, hrd, by simp, by simp [AV.rens, AV.ren]⟩, ⟨rfl, ?_⟩, trivial⟩, ?_, ?_, ?_, ?_, ?_⟩
        · simp [ofL, AV.rens, AV.ren]
        · rw [mapT_ren]; exact hm
        · simp [apartB, AO.wr, hne]
        · exact ⟨⟨trivial, trivial, trivial, trivial⟩, esT_under _ _ _, trivial⟩
        · exact ⟨by simp [AV.under], by simp [AV.under], trivial⟩
        · simp [elemV, AV.ren, AV.rens, Ren.ext]
        · simp only [after, upd, wr_ro, show (mapT ts).wr = true from rfl, mapT_ren, rn_ro, rn_vec, if_true, Bool.false_eq_true, if_false, set_same (show hp[m]? = some (mapT ts) from hm), rens_scal _ _ (scals_trms _), List.length_cons, List.length_nil, List.drop_succ_cons, List.drop_zero, List.map_cons, List.map_nil]
      · cases he
    · cases he
  · cases he
def B28 : Book := (B27.put 113 (g_with))
theorem B28_ok : BookOk Try.prog B28 := (B27_ok.put (k_with))
theorem B28_g_ContainsFunc_SDiagram_Diagram : B28 110 = some (readS 0 17 g_contains) := rfl
theorem B28_g_IndexFunc_SDiagram_Diagram : B28 136 = some (readS 0 17 g_index) := rfl
theorem B28_g_SortFunc_STerm_Term : B28 137 = some (g_sort) := rfl
theorem B28_i_Diagram_n : B28 115 = some (readE 1 g_n) := rfl
theorem B28_i_Diagram_text : B28 100 = some (readE 17 g_text) := rfl
theorem B28_i_IsDiagram : B28 99 = some (plainE g_isS) := rfl
theorem B28_i_fieldOk : B28 64 = some (plainE g_fieldOk) := rfl
theorem B28_i_in : B28 93 = some (plainE g_in) := rfl
theorem B28_i_invalid : B28 63 = some (readS 0 17 g_invalid) := rfl
theorem B28_i_invalid_1 : B28 111 = some (plainE g_bad) := rfl
theorem B28_i_isPrime : B28 112 = some (plainE g_prime) := rfl
theorem B28_i_joined : B28 150 = some (readS 1 1 g_joined) := rfl
theorem B28_i_partners : B28 149 = some (newE g_partners) := rfl
theorem B28_i_placeOf : B28 132 = some (plainE g_place) := rfl
theorem B28_i_read : B28 131 = some (plainE g_read) := rfl
theorem B28_i_rest : B28 103 = some (plainE g_rest) := rfl
theorem B28_i_scaleOk : B28 65 = some (plainE g_scaleOk) := rfl
theorem B28_s_ElementOf : B28 23 = some (newE g_elemOf) := rfl
theorem B28_s_l01Ends : B28 107 = some (plainE g_ends) := rfl
theorem B28_s_l01In : B28 60 = some (plainE g_in) := rfl
theorem B28_s_l01Is : B28 58 = some (plainE g_isS) := rfl
theorem B28_s_l01Mod : B28 108 = some (plainE g_mod) := rfl
theorem B28_s_l01Place : B28 135 = some (plainE g_place) := rfl
theorem B28_s_l01Prime : B28 59 = some (plainE g_prime) := rfl
theorem B28_s_l01Text : B28 109 = some (plainE g_textS) := rfl
theorem B28_s_l02Put : B28 61 = some (g_put0) := rfl
theorem B28_st_Compare : B28 139 = some (plainE g_compare) := rfl
theorem B28_w_eqByteA16 : B28 151 = some (plainE g_eqBytes) := rfl
theorem B28_w_eqDiagram : B28 134 = some (plainE g_eqDiagram) := rfl
theorem B28_w_eqElement : B28 19 = some (g_eqElement) := rfl
theorem B28_w_eqTerm : B28 106 = some (plainE g_eqTerm) := rfl
theorem B28_w_eqTermS : B28 54 = some (g_eqTermS) := rfl
theorem B28_w_heldElement : B28 26 = some (g_heldElement) := rfl
theorem B28_w_heldTermS : B28 67 = some (g_heldTermS) := rfl
theorem B28_w_markElement : B28 20 = some (g_markElement) := rfl
theorem B28_w_markTermS : B28 55 = some (g_markTermS) := rfl
theorem B28_w_toByteA16 : B28 62 = some (plainE g_bytes) := rfl
theorem B28_w_toDiagram : B28 24 = some (plainE g_dia) := rfl
theorem B28_i_Element_with : B28 113 = some (g_with) := rfl


abbrev KD : List LT := [LT.int, LT.int, LT.int, LT.int, LT.int, LT.int, LT.int, LT.int, LT.int, LT.int, LT.int, LT.int, LT.int, LT.int, LT.int, LT.int, LT.int]
theorem leqs_u8s : ∀ (m m' : List Nat), m.length = m'.length → leqs (List.replicate m.length .int) (u8s m) (u8s m') = some (decide (m = m'))
  | [], [], _ => rfl
  | [], _ :: _, h => by simp at h
  | _ :: _, [], h => by simp at h
  | a :: m, b :: m', h => by
    have ih := leqs_u8s m m' (by simpa using h)
    simp only [u8s] at ih
    simp only [List.length_cons, List.replicate_succ, u8s, List.map_cons, leqs, leq, if_true, ih]
    by_cases e : a = b
    · subst e; simp
    · have : ¬ ((a : Int) = (b : Int)) := by omega
      simp [e, this]
theorem leqs_dia {n n' : Int} {m m' : List Nat} (h : m.length = 16) (h' : m'.length = 16) : leqs KD (dia n m) (dia n' m') = some (decide (n = n' ∧ m = m')) := by
  have h1 := leqs_u8s m m' (by rw [h, h'])
  rw [h] at h1
  have h2 : KD = .int :: List.replicate 16 .int := rfl
  rw [h2]
  simp only [dia, leqs, leq, if_true, h1]
  by_cases e : n = n'
  · subst e; simp
  · simp [e]
theorem kok_dia {n : Int} {m : List Nat} (h : m.length = 16) : kok KD true (.agg (dia n m)) = true := by
  simp only [kok, keq, leqs_dia h h]


def a_i_single : AC := .seq (.region [⟨some 6, none, .op (.box (.t 2))⟩,
     ⟨some 8, none, .op (.alloc [(.int .i64 0), (.int .i64 0), (.int .i64 0), (.v (.slice none 0 0))])⟩]) (.seq (.region [⟨some 10, none, .op (.mov (.t 0))⟩,
     ⟨some 11, none, .op (.mov (.t 1))⟩,
     ⟨some 12, none, .op (.faddr 0 (.t 6))⟩,
     ⟨some 13, none, .op (.load1 (.t 12))⟩,
     ⟨some 14, none, .op (.build [(.int .i64 0), (.int .i64 0), (.int .i64 0), (.v (.slice none 0 0))] [(0, 1, (.t 10)), (1, 1, (.t 11)), (2, 1, (.t 13))])⟩,
     ⟨some 9, none, .op (.alloc [(.int .i64 0), (.int .i64 0), (.int .i64 0), (.v (.slice none 0 0))])⟩,
     ⟨none, none, .op (.storeN 4 (.t 9) (.t 14))⟩]) (.seq (.region [⟨some 15, none, .op (.mkmap)⟩,
     ⟨some 16, none, .op (.loadN 17 (.t 6))⟩,
     ⟨some 17, none, .op (.mov (.t 3))⟩,
     ⟨none, none, .op (.mapupd [.int, .int, .int, .int, .int, .int, .int, .int, .int, .int, .int, .int, .int, .int, .int, .int, .int] true (.t 15) (.t 16) (.t 17))⟩,
     ⟨some 18, none, .op (.mov (.t 15))⟩,
     ⟨some 19, none, .call (.c (.fn 113 [] [])) [(.t 9), (.t 18)]⟩,
     ⟨none, none, .op (.storeN 4 (.t 8) (.t 19))⟩]) .ret))
theorem r_i_single : readF Try.prog 66 = some ⟨20, a_i_single, [.cellN 8 4]⟩ := by kernel_rfl
theorem c_single (p c n : Int) (m : List Nat) (k : Int) (hp : 0 < p ∧ p ≤ 1000000) (hn : 0 ≤ n ∧ n ≤ 8) (hm : okD m) :
    Am.Fn Try.prog 66 [.int .i64 p, .int .i64 c, .agg (dia n m), .int .i64 k] [] (fun v H' => v = elemV p c n 0 (if k.emod p = 0 then ([] : List (Int × List Nat × Int)) else [(n, m, k.emod p)]).length ∧ H' = [.vec 18 (trms (if k.emod p = 0 then [] else [(n, m, k.emod p)]))]) := by
  refine Am.Fn.ofB B28_ok mixed r_i_single (by simp) (by simp) ?_
  have hr : restT p [(n, m, k)] = if k.emod p = 0 then [] else [(n, m, k.emod p)] := by
    unfold restT; by_cases h : k.emod p = 0 <;> simp [h]
  have hle : (if k.emod p = 0 then [] else [(n, m, k.emod p)]).length ≤ 1 := by split <;> simp
  generalize (if k.emod p = 0 then [] else [(n, m, k.emod p)]) = L at hr hle ⊢
  have hs : sortT L = L := by
    match L, hle with
    | [], _ => rfl
    | [t], _ => rfl
  have hsz : szOf [(n, m, k)] = n := rfl
  have hall : ∀ t ∈ [(n, m, k)], t.1 = n := by simp
  have hnd : [txt (n, m, k)].Nodup := by simp
  simp (maxSteps := 3000000) only [over4_0, over4_1, over4_2, over4_3, over4_4, fillA, rd, wrt, wrl, AO.withl, List.getElem?_cons_zero, List.getElem?_cons_succ, List.getElem?_nil, List.set_cons_zero, List.set_cons_succ, List.drop_zero, List.drop_succ_cons, List.take_zero, List.take_succ_cons, a_i_single, B28_g_ContainsFunc_SDiagram_Diagram, B28_g_IndexFunc_SDiagram_Diagram, B28_g_SortFunc_STerm_Term, B28_i_Diagram_n, B28_i_Diagram_text, B28_i_IsDiagram, B28_i_fieldOk, B28_i_in, B28_i_invalid, B28_i_invalid_1, B28_i_isPrime, B28_i_joined, B28_i_partners, B28_i_placeOf, B28_i_read, B28_i_rest, B28_i_scaleOk, B28_s_ElementOf, B28_s_l01Ends, B28_s_l01In, B28_s_l01Is, B28_s_l01Mod, B28_s_l01Place, B28_s_l01Prime, B28_s_l01Text, B28_s_l02Put, B28_st_Compare, B28_w_eqByteA16, B28_w_eqDiagram, B28_w_eqElement, B28_w_eqTerm, B28_w_eqTermS, B28_w_heldElement, B28_w_heldTermS, B28_w_markElement, B28_w_markTermS, B28_w_toByteA16, B28_w_toDiagram, B28_i_Element_with, g_bad, g_bytes, g_compare, g_contains, g_dia, g_elemOf, g_ends, g_eqBytes, g_eqDiagram, g_eqElement, g_eqTerm, g_eqTermS, g_fieldOk, g_heldElement, g_heldTermS, g_in, g_index, g_invalid, g_isS, g_joined, g_markElement, g_markTermS, g_mod, g_n, g_partners, g_place, g_prime, g_put0, g_read, g_rest, g_scaleOk, g_sort, g_text, g_textS, g_with, dia_length, hm.1, diaOf_dia hm, kok_dia hm.1, dia_take17 hm.1, noTopB, findK, tsE, hp, hn, hsz, hall, hnd, hr, hs, elemV, ite_self, wbC, wbL, wbT, wbK, wbOne, wbTT, ↓hol_mapupd, ↓hol_mkmap, ↓hol_entry, ↓hol_mapent, ↓hol_entst, ↓hol_lookup, ↓hol_rangeM,  AK.isCall, ↓pickP_true, ↓pickP_false, pickP_true, pickP_false, AX.then, AX.inBlock, ↓hol_readE, ↓hol_readS, ↓hol_newE, ↓holv_dia, ↓holv_dia0, ↓holv_u8s, ↓holv_i64s, ↓holv_n64s, Int.toNat_natCast, Nat.mul_one, enumE, ev, get_put, putE, ↓hol_plainE, ↓hol_mov, ↓hol_pick, ↓hol_bin, ↓hol_un, ↓hol_alloc, ↓hol_box, ↓hol_build, ↓hol_mkslc, ↓hol_load1, ↓hol_loadN, ↓hol_store1, ↓hol_storeN, ↓hol_conv, ↓hol_faddr, ↓hol_iaddrA, ↓hol_iaddrS, ↓hol_field, ↓hol_field1, ↓hol_ext, ↓hol_nilchk, ↓hol_idxA, ↓hol_idxN, ↓hol_idxS, ↓hol_minmax, ↓hol_lenS, ↓hol_lenL, ↓hol_substr, ↓hol_reslc, ↓hol_b2s, ↓hol_strid, ↓hol_eqs, ↓hol_eqb, ↓hol_mkslice, ↓hol_mkfn, ↓hol_append, astep_loadN, astep_load1, chk_true, holv_some, holv_none, holv_chk, ↓hol_chk, ↓hol_some, abin, aun, AV.cells, ↓reduceIte, reduceCtorEq, Nat.reduceAdd, Nat.reduceMul, Nat.reduceSub, Nat.reduceEqDiff, Nat.reduceLT, Nat.reduceLeDiff, Nat.zero_add, Nat.add_zero, true_and, and_true, Bool.not_true, Bool.not_false, true_implies, false_implies, implies_true, cond_true, cond_false, decide_true, decide_false, true_or, or_true, or_false, false_or, decide_eq_true_eq, decide_eq_false_iff_not, not_true_eq_false, eq_self, AV.bool.injEq, List.length_nil, List.length_cons, List.map_cons, List.map_nil, List.append_nil, List.nil_append, List.cons_append, Back, retv, retV, AV.scal, AV.scals, Bool.and_self, exists_eq', beq_iff_eq, beq_eq_false_iff_ne, bne_iff_ne, bne_eq_false_iff_eq, Bool.not_eq_true', Bool.not_eq_false', List.nil_eq, ne_eq, not_false_eq_true]; try simp only [ite_both, pickP_both, not_not_eq, Bool.not_eq_false, Bool.not_eq_true]
  refine ⟨rfl, hall, rfl, ?_⟩
  refine Ret.keep [4] ⟨⟨by simp, rfl, by decide⟩, ?_⟩ (rs := [.agg [.int .i64 p, .int .i64 c, .int .i64 n, .slc 4 0 L.length false 0]]) rfl rfl (by simp [retV]) ?_ ⟨?_, ?_⟩
  · simp only [withins_scal _ _ (scals_trms _), List.mem_cons, List.not_mem_nil, or_false, forall_eq_or_imp, forall_eq, List.getElem?_cons_zero, List.getElem?_cons_succ, List.getElem?_nil, wi_cells, wi_vec, wi_ro, wi_map, wi_miter, wi_siter, wi_dead, AV.within, AV.withins, List.contains_cons, List.contains_nil, get_put, ↓reduceIte, reduceCtorEq, Nat.reduceEqDiff, Nat.reduceBEq, beq_self_eq_true, Bool.or_true, Bool.true_or, Bool.or_false, Bool.false_or, Bool.and_self, Bool.and_true, Bool.true_and, and_self, and_true, true_and, implies_true, withins_scal _ _ (scals_dia _ _), withins_scal _ _ (scals_u8s _), withins_scal _ _ (scals_i64s _), withins_scal _ _ (scals_n64s _), List.cons_append, List.nil_append, List.set_cons_zero, List.set_cons_succ, Nat.reduceAdd]
  · intro j l; match j with
    | 0 => simp [kepts, AO.ren]
    | j + 1 => simp [kepts]
  · simp only [retV]
    simp only [Option.bind_some, Option.map_some, keptE, kepts, slots, get_put, ↓reduceIte, reduceCtorEq, Nat.reduceEqDiff, List.map_cons, List.map_nil, List.getElem?_cons_zero, List.getElem?_cons_succ, List.getElem?_nil, AV.ren, rn_cells, rn_vec, rn_ro, rn_map, rn_miter, rn_siter, rn_dead, AV.rens, backR_eq, pos, Nat.reduceAdd, Nat.add_zero, Nat.zero_add, rens_scal _ _ (scals_dia _ _), rens_scal _ _ (scals_u8s _), rens_scal _ _ (scals_i64s _), rens_scal _ _ (scals_n64s _), List.cons_append, List.nil_append, List.set_cons_zero, List.set_cons_succ]
  · simp only [rens_scal _ _ (scals_trms _), Option.bind_some, Option.map_some, keptE, kepts, slots, get_put, ↓reduceIte, reduceCtorEq, Nat.reduceEqDiff, List.map_cons, List.map_nil, List.getElem?_cons_zero, List.getElem?_cons_succ, List.getElem?_nil, AV.ren, rn_cells, rn_vec, rn_ro, rn_map, rn_miter, rn_siter, rn_dead, AV.rens, backR_eq, pos, Nat.reduceAdd, Nat.add_zero, Nat.zero_add, rens_scal _ _ (scals_dia _ _), rens_scal _ _ (scals_u8s _), rens_scal _ _ (scals_i64s _), rens_scal _ _ (scals_n64s _), List.cons_append, List.nil_append, List.set_cons_zero, List.set_cons_succ]

def g_single : List AV → Option (AV × List AO)
  | [.int .i64 p, .int .i64 c, .agg l, .int .i64 k] => match diaOf l with
    | some (n, m) => chk ((0 < p ∧ p ≤ 1000000) ∧ (0 ≤ n ∧ n ≤ 8)) (some (elemV p c n 0 (if k.emod p = 0 then ([] : List (Int × List Nat × Int)) else [(n, m, k.emod p)]).length, [.vec 18 (trms (if k.emod p = 0 then [] else [(n, m, k.emod p)]))]))
    | none => none
  | _ => none
theorem k_single : Am.Callee Try.prog 66 (newE g_single) :=
  Am.Callee.new fun xs v H he => by
    unfold g_single at he
    split at he
    · rename_i p c l k
      split at he
      · rename_i n m hd
        obtain ⟨⟨h1, h2⟩, he⟩ := chk_some he
        obtain ⟨rfl, hm⟩ := diaOf_some hd
        have e1 := congrArg Prod.fst (Option.some.inj he)
        have e2 := congrArg Prod.snd (Option.some.inj he)
        simp only at e1 e2
        subst e1; subst e2
        exact ⟨by simp only [AV.scals, AV.scal, scals_dia, Bool.and_self], c_single p c n m k h1 h2 hm⟩
      · cases he
    · cases he
def B29 : Book := (B28.put 66 (newE g_single))
theorem B29_ok : BookOk Try.prog B29 := (B28_ok.put (k_single))
theorem B29_g_ContainsFunc_SDiagram_Diagram : B29 110 = some (readS 0 17 g_contains) := rfl
theorem B29_g_IndexFunc_SDiagram_Diagram : B29 136 = some (readS 0 17 g_index) := rfl
theorem B29_g_SortFunc_STerm_Term : B29 137 = some (g_sort) := rfl
theorem B29_i_Diagram_n : B29 115 = some (readE 1 g_n) := rfl
theorem B29_i_Diagram_text : B29 100 = some (readE 17 g_text) := rfl
theorem B29_i_IsDiagram : B29 99 = some (plainE g_isS) := rfl
theorem B29_i_fieldOk : B29 64 = some (plainE g_fieldOk) := rfl
theorem B29_i_in : B29 93 = some (plainE g_in) := rfl
theorem B29_i_invalid : B29 63 = some (readS 0 17 g_invalid) := rfl
theorem B29_i_invalid_1 : B29 111 = some (plainE g_bad) := rfl
theorem B29_i_isPrime : B29 112 = some (plainE g_prime) := rfl
theorem B29_i_joined : B29 150 = some (readS 1 1 g_joined) := rfl
theorem B29_i_partners : B29 149 = some (newE g_partners) := rfl
theorem B29_i_placeOf : B29 132 = some (plainE g_place) := rfl
theorem B29_i_read : B29 131 = some (plainE g_read) := rfl
theorem B29_i_rest : B29 103 = some (plainE g_rest) := rfl
theorem B29_i_scaleOk : B29 65 = some (plainE g_scaleOk) := rfl
theorem B29_s_ElementOf : B29 23 = some (newE g_elemOf) := rfl
theorem B29_s_l01Ends : B29 107 = some (plainE g_ends) := rfl
theorem B29_s_l01In : B29 60 = some (plainE g_in) := rfl
theorem B29_s_l01Is : B29 58 = some (plainE g_isS) := rfl
theorem B29_s_l01Mod : B29 108 = some (plainE g_mod) := rfl
theorem B29_s_l01Place : B29 135 = some (plainE g_place) := rfl
theorem B29_s_l01Prime : B29 59 = some (plainE g_prime) := rfl
theorem B29_s_l01Text : B29 109 = some (plainE g_textS) := rfl
theorem B29_s_l02Put : B29 61 = some (g_put0) := rfl
theorem B29_st_Compare : B29 139 = some (plainE g_compare) := rfl
theorem B29_w_eqByteA16 : B29 151 = some (plainE g_eqBytes) := rfl
theorem B29_w_eqDiagram : B29 134 = some (plainE g_eqDiagram) := rfl
theorem B29_w_eqElement : B29 19 = some (g_eqElement) := rfl
theorem B29_w_eqTerm : B29 106 = some (plainE g_eqTerm) := rfl
theorem B29_w_eqTermS : B29 54 = some (g_eqTermS) := rfl
theorem B29_w_heldElement : B29 26 = some (g_heldElement) := rfl
theorem B29_w_heldTermS : B29 67 = some (g_heldTermS) := rfl
theorem B29_w_markElement : B29 20 = some (g_markElement) := rfl
theorem B29_w_markTermS : B29 55 = some (g_markTermS) := rfl
theorem B29_w_toByteA16 : B29 62 = some (plainE g_bytes) := rfl
theorem B29_w_toDiagram : B29 24 = some (plainE g_dia) := rfl
theorem B29_i_Element_with : B29 113 = some (g_with) := rfl
theorem B29_i_single : B29 66 = some (newE g_single) := rfl


theorem ren_el (p c n : Int) (b k m : Nat) : AV.ren (shiftR m) (.agg [.int .i64 p, .int .i64 c, .int .i64 n, .slc b 0 k false 0]) = .agg [.int .i64 p, .int .i64 c, .int .i64 n, .slc (m + b) 0 k false 0] := rfl

def a_i_ElementOf : AC := .seq (.region [⟨some 6, none, .op (.box (.t 2))⟩,
     ⟨some 8, none, .op (.alloc [(.int .i64 0), (.int .i64 0), (.int .i64 0), (.v (.slice none 0 0))])⟩,
     ⟨some 9, none, .op (.mov (.c (.int .i64 0)))⟩]) (.seq (.block 0 (.seq (.region [⟨some 11, none, .op (.loadN 17 (.t 6))⟩,
       ⟨some 12, none, .op (.mkslc 1 [(.int .i64 0), (.int .u8 0), (.int .u8 0), (.int .u8 0), (.int .u8 0), (.int .u8 0), (.int .u8 0), (.int .u8 0), (.int .u8 0), (.int .u8 0), (.int .u8 0), (.int .u8 0), (.int .u8 0), (.int .u8 0), (.int .u8 0), (.int .u8 0), (.int .u8 0)] [(0, 17, (.t 11))])⟩,
       ⟨some 13, none, .call (.c (.fn 63 [] [])) [(.t 12)]⟩,
       ⟨some 14, none, .op (.bin .neq (.t 13) (.c (.int .i64 0)))⟩,
       ⟨some 10, none, .op (.mov (.t 14))⟩]) (.cond 10 (.seq (.region [⟨some 15, none, .op (.build [(.int .i64 0), (.int .i64 0), (.int .i64 0), (.v (.slice none 0 0))] [])⟩,
         ⟨none, none, .op (.storeN 4 (.t 8) (.t 15))⟩,
         ⟨some 9, none, .op (.mov (.c (.int .i64 1)))⟩]) .ret) (.seq (.region [⟨some 17, none, .op (.mov (.t 0))⟩,
         ⟨some 18, none, .op (.mov (.t 1))⟩,
         ⟨some 19, none, .call (.c (.fn 64 [] [])) [(.t 17), (.t 18)]⟩,
         ⟨some 20, none, .op (.un .not (.t 19))⟩,
         ⟨some 21, none, .op (.mov (.t 20))⟩,
         ⟨some 22, some (21, false), .op (.mov (.t 3))⟩,
         ⟨some 23, some (21, false), .call (.c (.fn 65 [] [])) [(.t 22)]⟩,
         ⟨some 24, some (21, false), .op (.un .not (.t 23))⟩,
         ⟨some 25, none, .op (.pick (.t 21) (.c (.bool true)) (.t 24))⟩,
         ⟨some 16, none, .op (.mov (.t 25))⟩]) (.cond 16 (.seq (.region [⟨some 26, none, .op (.build [(.int .i64 0), (.int .i64 0), (.int .i64 0), (.v (.slice none 0 0))] [])⟩,
           ⟨none, none, .op (.storeN 4 (.t 8) (.t 26))⟩,
           ⟨some 9, none, .op (.mov (.c (.int .i64 2)))⟩]) .ret) .skip))))) (.seq (.region [⟨some 27, none, .op (.mov (.t 0))⟩,
     ⟨some 28, none, .op (.mov (.t 1))⟩,
     ⟨some 29, none, .op (.loadN 17 (.t 6))⟩,
     ⟨some 30, none, .op (.mov (.t 3))⟩,
     ⟨some 31, none, .call (.c (.fn 66 [] [])) [(.t 27), (.t 28), (.t 29), (.t 30)]⟩,
     ⟨none, none, .op (.storeN 4 (.t 8) (.t 31))⟩,
     ⟨some 9, none, .op (.mov (.c (.int .i64 0)))⟩]) .ret))
theorem r_i_ElementOf : readF Try.prog 25 = some ⟨32, a_i_ElementOf, [.cellN 8 4, .slot 9]⟩ := by kernel_rfl
theorem c_i_ElementOf (p c n : Int) (m : List Nat) (k : Int) (hm : okD m) : Am.Fn Try.prog 25 [.int .i64 p, .int .i64 c, .agg (dia n m), .int .i64 k] [] (ElemR (elemOf p c n m k)) := by
  refine Am.Fn.ofW B29_ok mixed r_i_ElementOf (by simp) (by simp) ?_
  have hml := hm.1
  have bad1 : isS n.toNat m = false → elemOf p c n m k = (0, 0, 0, [], 1) := fun h => by unfold elemOf; rw [if_pos h]
  have bad2 : isS n.toNat m = true → (primeB p && decide (0 ≤ c ∧ c ≤ p - 1) && decide (-1000000 ≤ k ∧ k ≤ 1000000)) = false → elemOf p c n m k = (0, 0, 0, [], 2) := fun h h' => by unfold elemOf; rw [if_neg (by rw [h]; simp), if_pos h']
  have nilR : ∀ (code : Int) (s : St), elemOf p c n m k = (0, 0, 0, [], code) → retv s [.cellN 8 4, .slot 9] = some [.agg [.int .i64 0, .int .i64 0, .int .i64 0, .v (.slice none 0 0)], .int .i64 code] → Ret [.cellN 8 4, .slot 9] [] (ElemR (elemOf p c n m k)) s := fun code s he hr => by
    refine Ret.nil 18 (.tup [elemV 0 0 0 0 0, .int .i64 code]) hr ?_ (by simp) ?_ ?_
    · simp [retV, elemV, AV.ren, AV.rens]
    · exact ⟨⟨trivial, trivial, trivial, by simp [AV.under], trivial⟩, trivial, trivial⟩
    · rw [he]; exact ⟨rfl, rfl⟩
  have good : isS n.toNat m = true → primeB p = true → (0 ≤ c ∧ c ≤ p - 1) → (-1000000 ≤ k ∧ k ≤ 1000000) → elemOf p c n m k = (p, c, n, if k.emod p = 0 then [] else [(n, m, k.emod p)], 0) := fun h h2 h3 h4 => by
    unfold elemOf; rw [if_neg (by rw [h]; simp), if_neg (by rw [h2, decide_eq_true h3, decide_eq_true h4]; simp)]
  have hdis : disOf 1 (dia n m) = some [(n, m)] := by
    have := disOf_dis (ds := [(n, m)]) (fun d hd => by simp at hd; subst hd; exact hm)
    simpa [dis] using this
  have hbad : [(n, m)].any bad = !isS n.toNat m := by simp [bad]
  cases hS : isS n.toNat m with
  | false =>
    simp (maxSteps := 3000000) only [over4_0, over4_1, over4_2, over4_3, over4_4, fillA, rd, wrt, wrl, AO.withl, List.getElem?_cons_zero, List.getElem?_cons_succ, List.getElem?_nil, List.set_cons_zero, List.set_cons_succ, List.drop_zero, List.drop_succ_cons, List.take_zero, List.take_succ_cons, a_i_ElementOf, B29_g_ContainsFunc_SDiagram_Diagram, B29_g_IndexFunc_SDiagram_Diagram, B29_g_SortFunc_STerm_Term, B29_i_Diagram_n, B29_i_Diagram_text, B29_i_IsDiagram, B29_i_fieldOk, B29_i_in, B29_i_invalid, B29_i_invalid_1, B29_i_isPrime, B29_i_joined, B29_i_partners, B29_i_placeOf, B29_i_read, B29_i_rest, B29_i_scaleOk, B29_s_ElementOf, B29_s_l01Ends, B29_s_l01In, B29_s_l01Is, B29_s_l01Mod, B29_s_l01Place, B29_s_l01Prime, B29_s_l01Text, B29_s_l02Put, B29_st_Compare, B29_w_eqByteA16, B29_w_eqDiagram, B29_w_eqElement, B29_w_eqTerm, B29_w_eqTermS, B29_w_heldElement, B29_w_heldTermS, B29_w_markElement, B29_w_markTermS, B29_w_toByteA16, B29_w_toDiagram, B29_i_Element_with, B29_i_single, g_bad, g_bytes, g_compare, g_contains, g_dia, g_elemOf, g_ends, g_eqBytes, g_eqDiagram, g_eqElement, g_eqTerm, g_eqTermS, g_fieldOk, g_heldElement, g_heldTermS, g_in, g_index, g_invalid, g_isS, g_joined, g_markElement, g_markTermS, g_mod, g_n, g_partners, g_place, g_prime, g_put0, g_read, g_rest, g_scaleOk, g_single, g_sort, g_text, g_textS, g_with, dia_length, hml, diaOf_dia hm, dia_take17 hml, dia_zero, dia_zero_len, over_dia0 hml, hdis, hbad, hS, List.length_replicate, Int.reduceEq, Int.reduceNe, Int.reduceBEq, Int.reduceBNe, Int.reduceLT, Int.reduceLE, Int.reduceAdd, Int.reduceSub, Int.reduceMul, ren_el, elemV, rn_vec, rens_scal _ _ (scals_trms _), rens_scal _ _ (scals_dia _ _), wbC, wbL, wbT, wbK, wbOne, wbTT, ↓hol_mapupd, ↓hol_mkmap, ↓hol_entry, ↓hol_mapent, ↓hol_entst, ↓hol_lookup, ↓hol_rangeM,  AK.isCall, ↓pickP_true, ↓pickP_false, pickP_true, pickP_false, AX.then, AX.inBlock, ↓hol_readE, ↓hol_readS, ↓hol_newE, ↓holv_dia, ↓holv_dia0, ↓holv_u8s, ↓holv_i64s, ↓holv_n64s, Int.toNat_natCast, Nat.mul_one, enumE, ev, get_put, putE, ↓hol_plainE, ↓hol_mov, ↓hol_pick, ↓hol_bin, ↓hol_un, ↓hol_alloc, ↓hol_box, ↓hol_build, ↓hol_mkslc, ↓hol_load1, ↓hol_loadN, ↓hol_store1, ↓hol_storeN, ↓hol_conv, ↓hol_faddr, ↓hol_iaddrA, ↓hol_iaddrS, ↓hol_field, ↓hol_field1, ↓hol_ext, ↓hol_nilchk, ↓hol_idxA, ↓hol_idxN, ↓hol_idxS, ↓hol_minmax, ↓hol_lenS, ↓hol_lenL, ↓hol_substr, ↓hol_reslc, ↓hol_b2s, ↓hol_strid, ↓hol_eqs, ↓hol_eqb, ↓hol_mkslice, ↓hol_mkfn, ↓hol_append, astep_loadN, astep_load1, chk_true, holv_some, holv_none, holv_chk, ↓hol_chk, ↓hol_some, abin, aun, AV.cells, ↓reduceIte, reduceCtorEq, Nat.reduceAdd, Nat.reduceMul, Nat.reduceSub, Nat.reduceEqDiff, Nat.reduceLT, Nat.reduceLeDiff, Nat.zero_add, Nat.add_zero, true_and, and_true, Bool.not_true, Bool.not_false, true_implies, false_implies, implies_true, cond_true, cond_false, decide_true, decide_false, true_or, or_true, or_false, false_or, decide_eq_true_eq, decide_eq_false_iff_not, not_true_eq_false, eq_self, AV.bool.injEq, List.length_nil, List.length_cons, List.map_cons, List.map_nil, List.append_nil, List.nil_append, List.cons_append, Back, retv, retV, AV.scal, AV.scals, Bool.and_self, exists_eq', beq_iff_eq, beq_eq_false_iff_ne, bne_iff_ne, bne_eq_false_iff_eq, Bool.not_eq_true', Bool.not_eq_false', List.nil_eq, ne_eq, not_false_eq_true]; try simp only [ite_both, pickP_both, not_not_eq, Bool.not_eq_false, Bool.not_eq_true]
    exact ⟨rfl, _, Weak.refl _, nilR 1 _ (bad1 hS) rfl⟩
  | true =>
    have hnb := isS_bd hS
    have hnb' : 0 ≤ n ∧ n ≤ 8 := by omega
    cases hP : (primeB p && decide (0 ≤ c ∧ c ≤ p - 1)) with
    | false =>
      simp (maxSteps := 3000000) only [over4_0, over4_1, over4_2, over4_3, over4_4, fillA, rd, wrt, wrl, AO.withl, List.getElem?_cons_zero, List.getElem?_cons_succ, List.getElem?_nil, List.set_cons_zero, List.set_cons_succ, List.drop_zero, List.drop_succ_cons, List.take_zero, List.take_succ_cons, a_i_ElementOf, B29_g_ContainsFunc_SDiagram_Diagram, B29_g_IndexFunc_SDiagram_Diagram, B29_g_SortFunc_STerm_Term, B29_i_Diagram_n, B29_i_Diagram_text, B29_i_IsDiagram, B29_i_fieldOk, B29_i_in, B29_i_invalid, B29_i_invalid_1, B29_i_isPrime, B29_i_joined, B29_i_partners, B29_i_placeOf, B29_i_read, B29_i_rest, B29_i_scaleOk, B29_s_ElementOf, B29_s_l01Ends, B29_s_l01In, B29_s_l01Is, B29_s_l01Mod, B29_s_l01Place, B29_s_l01Prime, B29_s_l01Text, B29_s_l02Put, B29_st_Compare, B29_w_eqByteA16, B29_w_eqDiagram, B29_w_eqElement, B29_w_eqTerm, B29_w_eqTermS, B29_w_heldElement, B29_w_heldTermS, B29_w_markElement, B29_w_markTermS, B29_w_toByteA16, B29_w_toDiagram, B29_i_Element_with, B29_i_single, g_bad, g_bytes, g_compare, g_contains, g_dia, g_elemOf, g_ends, g_eqBytes, g_eqDiagram, g_eqElement, g_eqTerm, g_eqTermS, g_fieldOk, g_heldElement, g_heldTermS, g_in, g_index, g_invalid, g_isS, g_joined, g_markElement, g_markTermS, g_mod, g_n, g_partners, g_place, g_prime, g_put0, g_read, g_rest, g_scaleOk, g_single, g_sort, g_text, g_textS, g_with, dia_length, hml, diaOf_dia hm, dia_take17 hml, dia_zero, dia_zero_len, over_dia0 hml, hdis, hbad, hS, hP, List.length_replicate, Int.reduceEq, Int.reduceNe, Int.reduceBEq, Int.reduceBNe, Int.reduceLT, Int.reduceLE, Int.reduceAdd, Int.reduceSub, Int.reduceMul, ren_el, elemV, rn_vec, rens_scal _ _ (scals_trms _), rens_scal _ _ (scals_dia _ _), wbC, wbL, wbT, wbK, wbOne, wbTT, ↓hol_mapupd, ↓hol_mkmap, ↓hol_entry, ↓hol_mapent, ↓hol_entst, ↓hol_lookup, ↓hol_rangeM,  AK.isCall, ↓pickP_true, ↓pickP_false, pickP_true, pickP_false, AX.then, AX.inBlock, ↓hol_readE, ↓hol_readS, ↓hol_newE, ↓holv_dia, ↓holv_dia0, ↓holv_u8s, ↓holv_i64s, ↓holv_n64s, Int.toNat_natCast, Nat.mul_one, enumE, ev, get_put, putE, ↓hol_plainE, ↓hol_mov, ↓hol_pick, ↓hol_bin, ↓hol_un, ↓hol_alloc, ↓hol_box, ↓hol_build, ↓hol_mkslc, ↓hol_load1, ↓hol_loadN, ↓hol_store1, ↓hol_storeN, ↓hol_conv, ↓hol_faddr, ↓hol_iaddrA, ↓hol_iaddrS, ↓hol_field, ↓hol_field1, ↓hol_ext, ↓hol_nilchk, ↓hol_idxA, ↓hol_idxN, ↓hol_idxS, ↓hol_minmax, ↓hol_lenS, ↓hol_lenL, ↓hol_substr, ↓hol_reslc, ↓hol_b2s, ↓hol_strid, ↓hol_eqs, ↓hol_eqb, ↓hol_mkslice, ↓hol_mkfn, ↓hol_append, astep_loadN, astep_load1, chk_true, holv_some, holv_none, holv_chk, ↓hol_chk, ↓hol_some, abin, aun, AV.cells, ↓reduceIte, reduceCtorEq, Nat.reduceAdd, Nat.reduceMul, Nat.reduceSub, Nat.reduceEqDiff, Nat.reduceLT, Nat.reduceLeDiff, Nat.zero_add, Nat.add_zero, true_and, and_true, Bool.not_true, Bool.not_false, true_implies, false_implies, implies_true, cond_true, cond_false, decide_true, decide_false, true_or, or_true, or_false, false_or, decide_eq_true_eq, decide_eq_false_iff_not, not_true_eq_false, eq_self, AV.bool.injEq, List.length_nil, List.length_cons, List.map_cons, List.map_nil, List.append_nil, List.nil_append, List.cons_append, Back, retv, retV, AV.scal, AV.scals, Bool.and_self, exists_eq', beq_iff_eq, beq_eq_false_iff_ne, bne_iff_ne, bne_eq_false_iff_eq, Bool.not_eq_true', Bool.not_eq_false', List.nil_eq, ne_eq, not_false_eq_true]; try simp only [ite_both, pickP_both, not_not_eq, Bool.not_eq_false, Bool.not_eq_true]
      exact ⟨rfl, _, Weak.refl _, nilR 2 _ (bad2 hS (by rw [hP]; rfl)) rfl⟩
    | true =>
      by_cases hK : -1000000 ≤ k ∧ k ≤ 1000000
      · have hp2 := hP
        simp only [Bool.and_eq_true, decide_eq_true_eq] at hp2
        have hpb := prime_bd hp2.1
        have hpb' : 0 < p ∧ p ≤ 1000000 := by omega
        have hg := good hS hp2.1 hp2.2 hK
        simp (maxSteps := 3000000) only [over4_0, over4_1, over4_2, over4_3, over4_4, fillA, rd, wrt, wrl, AO.withl, List.getElem?_cons_zero, List.getElem?_cons_succ, List.getElem?_nil, List.set_cons_zero, List.set_cons_succ, List.drop_zero, List.drop_succ_cons, List.take_zero, List.take_succ_cons, a_i_ElementOf, B29_g_ContainsFunc_SDiagram_Diagram, B29_g_IndexFunc_SDiagram_Diagram, B29_g_SortFunc_STerm_Term, B29_i_Diagram_n, B29_i_Diagram_text, B29_i_IsDiagram, B29_i_fieldOk, B29_i_in, B29_i_invalid, B29_i_invalid_1, B29_i_isPrime, B29_i_joined, B29_i_partners, B29_i_placeOf, B29_i_read, B29_i_rest, B29_i_scaleOk, B29_s_ElementOf, B29_s_l01Ends, B29_s_l01In, B29_s_l01Is, B29_s_l01Mod, B29_s_l01Place, B29_s_l01Prime, B29_s_l01Text, B29_s_l02Put, B29_st_Compare, B29_w_eqByteA16, B29_w_eqDiagram, B29_w_eqElement, B29_w_eqTerm, B29_w_eqTermS, B29_w_heldElement, B29_w_heldTermS, B29_w_markElement, B29_w_markTermS, B29_w_toByteA16, B29_w_toDiagram, B29_i_Element_with, B29_i_single, g_bad, g_bytes, g_compare, g_contains, g_dia, g_elemOf, g_ends, g_eqBytes, g_eqDiagram, g_eqElement, g_eqTerm, g_eqTermS, g_fieldOk, g_heldElement, g_heldTermS, g_in, g_index, g_invalid, g_isS, g_joined, g_markElement, g_markTermS, g_mod, g_n, g_partners, g_place, g_prime, g_put0, g_read, g_rest, g_scaleOk, g_single, g_sort, g_text, g_textS, g_with, dia_length, hml, diaOf_dia hm, dia_take17 hml, dia_zero, dia_zero_len, over_dia0 hml, hdis, hbad, hS, hP, hK, hnb', hpb', List.length_replicate, Int.reduceEq, Int.reduceNe, Int.reduceBEq, Int.reduceBNe, Int.reduceLT, Int.reduceLE, Int.reduceAdd, Int.reduceSub, Int.reduceMul, ren_el, elemV, rn_vec, rens_scal _ _ (scals_trms _), rens_scal _ _ (scals_dia _ _), wbC, wbL, wbT, wbK, wbOne, wbTT, ↓hol_mapupd, ↓hol_mkmap, ↓hol_entry, ↓hol_mapent, ↓hol_entst, ↓hol_lookup, ↓hol_rangeM,  AK.isCall, ↓pickP_true, ↓pickP_false, pickP_true, pickP_false, AX.then, AX.inBlock, ↓hol_readE, ↓hol_readS, ↓hol_newE, ↓holv_dia, ↓holv_dia0, ↓holv_u8s, ↓holv_i64s, ↓holv_n64s, Int.toNat_natCast, Nat.mul_one, enumE, ev, get_put, putE, ↓hol_plainE, ↓hol_mov, ↓hol_pick, ↓hol_bin, ↓hol_un, ↓hol_alloc, ↓hol_box, ↓hol_build, ↓hol_mkslc, ↓hol_load1, ↓hol_loadN, ↓hol_store1, ↓hol_storeN, ↓hol_conv, ↓hol_faddr, ↓hol_iaddrA, ↓hol_iaddrS, ↓hol_field, ↓hol_field1, ↓hol_ext, ↓hol_nilchk, ↓hol_idxA, ↓hol_idxN, ↓hol_idxS, ↓hol_minmax, ↓hol_lenS, ↓hol_lenL, ↓hol_substr, ↓hol_reslc, ↓hol_b2s, ↓hol_strid, ↓hol_eqs, ↓hol_eqb, ↓hol_mkslice, ↓hol_mkfn, ↓hol_append, astep_loadN, astep_load1, chk_true, holv_some, holv_none, holv_chk, ↓hol_chk, ↓hol_some, abin, aun, AV.cells, ↓reduceIte, reduceCtorEq, Nat.reduceAdd, Nat.reduceMul, Nat.reduceSub, Nat.reduceEqDiff, Nat.reduceLT, Nat.reduceLeDiff, Nat.zero_add, Nat.add_zero, true_and, and_true, Bool.not_true, Bool.not_false, true_implies, false_implies, implies_true, cond_true, cond_false, decide_true, decide_false, true_or, or_true, or_false, false_or, decide_eq_true_eq, decide_eq_false_iff_not, not_true_eq_false, eq_self, AV.bool.injEq, List.length_nil, List.length_cons, List.map_cons, List.map_nil, List.append_nil, List.nil_append, List.cons_append, Back, retv, retV, AV.scal, AV.scals, Bool.and_self, exists_eq', beq_iff_eq, beq_eq_false_iff_ne, bne_iff_ne, bne_eq_false_iff_eq, Bool.not_eq_true', Bool.not_eq_false', List.nil_eq, ne_eq, not_false_eq_true]; try simp only [ite_both, pickP_both, not_not_eq, Bool.not_eq_false, Bool.not_eq_true]
        refine ⟨rfl, _, Weak.refl _, ?_⟩
        rw [hg]
        unfold ElemR
        generalize (if k.emod p = 0 then [] else [(n, m, k.emod p)]) = L
        refine Ret.keep [3] ⟨⟨by simp, rfl, by decide⟩, ?_⟩ (rs := [.agg [.int .i64 p, .int .i64 c, .int .i64 n, .slc 3 0 L.length false 0], .int .i64 0]) rfl (by rfl) (by simp [retV]) ?_ ⟨?_, ?_⟩
        · simp only [withins_scal _ _ (scals_trms _), List.mem_cons, List.not_mem_nil, or_false, forall_eq_or_imp, forall_eq, List.getElem?_cons_zero, List.getElem?_cons_succ, List.getElem?_nil, wi_cells, wi_vec, wi_ro, wi_map, wi_miter, wi_siter, wi_dead, AV.within, AV.withins, List.contains_cons, List.contains_nil, get_put, ↓reduceIte, reduceCtorEq, Nat.reduceEqDiff, Nat.reduceBEq, beq_self_eq_true, Bool.or_true, Bool.true_or, Bool.or_false, Bool.false_or, Bool.and_self, Bool.and_true, Bool.true_and, and_self, and_true, true_and, implies_true, withins_scal _ _ (scals_dia _ _), withins_scal _ _ (scals_u8s _), withins_scal _ _ (scals_i64s _), withins_scal _ _ (scals_n64s _), List.cons_append, List.nil_append, List.set_cons_zero, List.set_cons_succ, Nat.reduceAdd]
        · intro j l; match j with
          | 0 => simp [kepts, AO.ren]
          | j + 1 => simp [kepts]
        · simp only [retV, elemV]
          simp only [Option.bind_some, Option.map_some, keptE, kepts, slots, get_put, ↓reduceIte, reduceCtorEq, Nat.reduceEqDiff, List.map_cons, List.map_nil, List.getElem?_cons_zero, List.getElem?_cons_succ, List.getElem?_nil, AV.ren, rn_cells, rn_vec, rn_ro, rn_map, rn_miter, rn_siter, rn_dead, AV.rens, backR_eq, pos, Nat.reduceAdd, Nat.add_zero, Nat.zero_add, rens_scal _ _ (scals_dia _ _), rens_scal _ _ (scals_u8s _), rens_scal _ _ (scals_i64s _), rens_scal _ _ (scals_n64s _), List.cons_append, List.nil_append, List.set_cons_zero, List.set_cons_succ]
        · simp only [rens_scal _ _ (scals_trms _), Option.bind_some, Option.map_some, keptE, kepts, slots, get_put, ↓reduceIte, reduceCtorEq, Nat.reduceEqDiff, List.map_cons, List.map_nil, List.getElem?_cons_zero, List.getElem?_cons_succ, List.getElem?_nil, AV.ren, rn_cells, rn_vec, rn_ro, rn_map, rn_miter, rn_siter, rn_dead, AV.rens, backR_eq, pos, Nat.reduceAdd, Nat.add_zero, Nat.zero_add, rens_scal _ _ (scals_dia _ _), rens_scal _ _ (scals_u8s _), rens_scal _ _ (scals_i64s _), rens_scal _ _ (scals_n64s _), List.cons_append, List.nil_append, List.set_cons_zero, List.set_cons_succ]
      · simp (maxSteps := 3000000) only [over4_0, over4_1, over4_2, over4_3, over4_4, fillA, rd, wrt, wrl, AO.withl, List.getElem?_cons_zero, List.getElem?_cons_succ, List.getElem?_nil, List.set_cons_zero, List.set_cons_succ, List.drop_zero, List.drop_succ_cons, List.take_zero, List.take_succ_cons, a_i_ElementOf, B29_g_ContainsFunc_SDiagram_Diagram, B29_g_IndexFunc_SDiagram_Diagram, B29_g_SortFunc_STerm_Term, B29_i_Diagram_n, B29_i_Diagram_text, B29_i_IsDiagram, B29_i_fieldOk, B29_i_in, B29_i_invalid, B29_i_invalid_1, B29_i_isPrime, B29_i_joined, B29_i_partners, B29_i_placeOf, B29_i_read, B29_i_rest, B29_i_scaleOk, B29_s_ElementOf, B29_s_l01Ends, B29_s_l01In, B29_s_l01Is, B29_s_l01Mod, B29_s_l01Place, B29_s_l01Prime, B29_s_l01Text, B29_s_l02Put, B29_st_Compare, B29_w_eqByteA16, B29_w_eqDiagram, B29_w_eqElement, B29_w_eqTerm, B29_w_eqTermS, B29_w_heldElement, B29_w_heldTermS, B29_w_markElement, B29_w_markTermS, B29_w_toByteA16, B29_w_toDiagram, B29_i_Element_with, B29_i_single, g_bad, g_bytes, g_compare, g_contains, g_dia, g_elemOf, g_ends, g_eqBytes, g_eqDiagram, g_eqElement, g_eqTerm, g_eqTermS, g_fieldOk, g_heldElement, g_heldTermS, g_in, g_index, g_invalid, g_isS, g_joined, g_markElement, g_markTermS, g_mod, g_n, g_partners, g_place, g_prime, g_put0, g_read, g_rest, g_scaleOk, g_single, g_sort, g_text, g_textS, g_with, dia_length, hml, diaOf_dia hm, dia_take17 hml, dia_zero, dia_zero_len, over_dia0 hml, hdis, hbad, hS, hP, hK, List.length_replicate, Int.reduceEq, Int.reduceNe, Int.reduceBEq, Int.reduceBNe, Int.reduceLT, Int.reduceLE, Int.reduceAdd, Int.reduceSub, Int.reduceMul, ren_el, elemV, rn_vec, rens_scal _ _ (scals_trms _), rens_scal _ _ (scals_dia _ _), wbC, wbL, wbT, wbK, wbOne, wbTT, ↓hol_mapupd, ↓hol_mkmap, ↓hol_entry, ↓hol_mapent, ↓hol_entst, ↓hol_lookup, ↓hol_rangeM,  AK.isCall, ↓pickP_true, ↓pickP_false, pickP_true, pickP_false, AX.then, AX.inBlock, ↓hol_readE, ↓hol_readS, ↓hol_newE, ↓holv_dia, ↓holv_dia0, ↓holv_u8s, ↓holv_i64s, ↓holv_n64s, Int.toNat_natCast, Nat.mul_one, enumE, ev, get_put, putE, ↓hol_plainE, ↓hol_mov, ↓hol_pick, ↓hol_bin, ↓hol_un, ↓hol_alloc, ↓hol_box, ↓hol_build, ↓hol_mkslc, ↓hol_load1, ↓hol_loadN, ↓hol_store1, ↓hol_storeN, ↓hol_conv, ↓hol_faddr, ↓hol_iaddrA, ↓hol_iaddrS, ↓hol_field, ↓hol_field1, ↓hol_ext, ↓hol_nilchk, ↓hol_idxA, ↓hol_idxN, ↓hol_idxS, ↓hol_minmax, ↓hol_lenS, ↓hol_lenL, ↓hol_substr, ↓hol_reslc, ↓hol_b2s, ↓hol_strid, ↓hol_eqs, ↓hol_eqb, ↓hol_mkslice, ↓hol_mkfn, ↓hol_append, astep_loadN, astep_load1, chk_true, holv_some, holv_none, holv_chk, ↓hol_chk, ↓hol_some, abin, aun, AV.cells, ↓reduceIte, reduceCtorEq, Nat.reduceAdd, Nat.reduceMul, Nat.reduceSub, Nat.reduceEqDiff, Nat.reduceLT, Nat.reduceLeDiff, Nat.zero_add, Nat.add_zero, true_and, and_true, Bool.not_true, Bool.not_false, true_implies, false_implies, implies_true, cond_true, cond_false, decide_true, decide_false, true_or, or_true, or_false, false_or, decide_eq_true_eq, decide_eq_false_iff_not, not_true_eq_false, eq_self, AV.bool.injEq, List.length_nil, List.length_cons, List.map_cons, List.map_nil, List.append_nil, List.nil_append, List.cons_append, Back, retv, retV, AV.scal, AV.scals, Bool.and_self, exists_eq', beq_iff_eq, beq_eq_false_iff_ne, bne_iff_ne, bne_eq_false_iff_eq, Bool.not_eq_true', Bool.not_eq_false', List.nil_eq, ne_eq, not_false_eq_true]; try simp only [ite_both, pickP_both, not_not_eq, Bool.not_eq_false, Bool.not_eq_true]
        exact ⟨rfl, _, Weak.refl _, nilR 2 _ (bad2 hS (by rw [decide_eq_false hK, Bool.and_false])) rfl⟩
theorem k_i_ElementOf : Am.Callee Try.prog 25 (newE g_elemOf) :=
  Am.Callee.new fun xs v H he => by
    unfold g_elemOf at he
    split at he
    · rename_i p c l k
      split at he
      · rename_i n m hd
        obtain ⟨rfl, hm⟩ := diaOf_some hd
        have e1 := congrArg Prod.fst (Option.some.inj he)
        have e2 := congrArg Prod.snd (Option.some.inj he)
        simp only at e1 e2
        subst e1; subst e2
        exact ⟨by simp only [AV.scals, AV.scal, scals_dia, Bool.and_self], c_i_ElementOf p c n m k hm⟩
      · cases he
    · cases he
def B30 : Book := (B29.put 25 (newE g_elemOf))
theorem B30_ok : BookOk Try.prog B30 := (B29_ok.put (k_i_ElementOf))
theorem B30_g_ContainsFunc_SDiagram_Diagram : B30 110 = some (readS 0 17 g_contains) := rfl
theorem B30_g_IndexFunc_SDiagram_Diagram : B30 136 = some (readS 0 17 g_index) := rfl
theorem B30_g_SortFunc_STerm_Term : B30 137 = some (g_sort) := rfl
theorem B30_i_Diagram_n : B30 115 = some (readE 1 g_n) := rfl
theorem B30_i_Diagram_text : B30 100 = some (readE 17 g_text) := rfl
theorem B30_i_IsDiagram : B30 99 = some (plainE g_isS) := rfl
theorem B30_i_fieldOk : B30 64 = some (plainE g_fieldOk) := rfl
theorem B30_i_in : B30 93 = some (plainE g_in) := rfl
theorem B30_i_invalid : B30 63 = some (readS 0 17 g_invalid) := rfl
theorem B30_i_invalid_1 : B30 111 = some (plainE g_bad) := rfl
theorem B30_i_isPrime : B30 112 = some (plainE g_prime) := rfl
theorem B30_i_joined : B30 150 = some (readS 1 1 g_joined) := rfl
theorem B30_i_partners : B30 149 = some (newE g_partners) := rfl
theorem B30_i_placeOf : B30 132 = some (plainE g_place) := rfl
theorem B30_i_read : B30 131 = some (plainE g_read) := rfl
theorem B30_i_rest : B30 103 = some (plainE g_rest) := rfl
theorem B30_i_scaleOk : B30 65 = some (plainE g_scaleOk) := rfl
theorem B30_s_ElementOf : B30 23 = some (newE g_elemOf) := rfl
theorem B30_s_l01Ends : B30 107 = some (plainE g_ends) := rfl
theorem B30_s_l01In : B30 60 = some (plainE g_in) := rfl
theorem B30_s_l01Is : B30 58 = some (plainE g_isS) := rfl
theorem B30_s_l01Mod : B30 108 = some (plainE g_mod) := rfl
theorem B30_s_l01Place : B30 135 = some (plainE g_place) := rfl
theorem B30_s_l01Prime : B30 59 = some (plainE g_prime) := rfl
theorem B30_s_l01Text : B30 109 = some (plainE g_textS) := rfl
theorem B30_s_l02Put : B30 61 = some (g_put0) := rfl
theorem B30_st_Compare : B30 139 = some (plainE g_compare) := rfl
theorem B30_w_eqByteA16 : B30 151 = some (plainE g_eqBytes) := rfl
theorem B30_w_eqDiagram : B30 134 = some (plainE g_eqDiagram) := rfl
theorem B30_w_eqElement : B30 19 = some (g_eqElement) := rfl
theorem B30_w_eqTerm : B30 106 = some (plainE g_eqTerm) := rfl
theorem B30_w_eqTermS : B30 54 = some (g_eqTermS) := rfl
theorem B30_w_heldElement : B30 26 = some (g_heldElement) := rfl
theorem B30_w_heldTermS : B30 67 = some (g_heldTermS) := rfl
theorem B30_w_markElement : B30 20 = some (g_markElement) := rfl
theorem B30_w_markTermS : B30 55 = some (g_markTermS) := rfl
theorem B30_w_toByteA16 : B30 62 = some (plainE g_bytes) := rfl
theorem B30_w_toDiagram : B30 24 = some (plainE g_dia) := rfl
theorem B30_i_Element_with : B30 113 = some (g_with) := rfl
theorem B30_i_single : B30 66 = some (newE g_single) := rfl
theorem B30_i_ElementOf : B30 25 = some (newE g_elemOf) := rfl

end Go.Proofs.Ytkgoadglalpbfaa
