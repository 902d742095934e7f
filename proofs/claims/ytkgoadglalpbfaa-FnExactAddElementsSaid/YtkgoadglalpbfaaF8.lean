/- Contracts: the element of a diagram. -/
import Derived.Test.YtkgoadglalpbfaaF7
namespace Go.Proofs.Ytkgoadglalpbfaa
open Go.Am Go.Dia
set_option linter.unusedSimpArgs false
set_option linter.unusedVariables false
set_option maxRecDepth 4000
set_option maxHeartbeats 1000000

def tsE : Nat → List AE → Option (List (Int × List Nat × Int))
  | _, [] => some []
  | k, ⟨.agg l, .int .i64 v, b⟩ :: es => match diaOf l, tsE (k + 1) es with
    | some (n, m), some ts => if b = k then some ((n, m, v) :: ts) else none
    | _, _ => none
  | _, _ => none
theorem tsE_esT : ∀ {ts : List (Int × List Nat × Int)} {k : Nat}, okT ts → tsE k (esT k ts) = some ts
  | [], _, _ => rfl
  | t :: l, k, h => by
    simp only [esT, tsE, diaOf_dia (h t (List.mem_cons_self ..)), tsE_esT (ts := l) (k := k + 1) fun u hu => h u (List.mem_cons_of_mem _ hu), if_true]
theorem tsE_some : ∀ {es : List AE} {k : Nat} {ts : List (Int × List Nat × Int)}, tsE k es = some ts → es = esT k ts ∧ okT ts
  | [], k, ts, h => by simp only [tsE, Option.some.injEq] at h; subst h; exact ⟨rfl, fun t ht => by cases ht⟩
  | ⟨key, val, b⟩ :: es, k, ts, h => by
    unfold tsE at h
    split at h
    · rename_i e; cases e
    · rename_i e; cases e
      split at h
      · rename_i n m ts' hd hts
        split at h
        · rename_i hb
          cases h; subst hb
          obtain ⟨rfl, hm⟩ := diaOf_some hd
          obtain ⟨e1, e2⟩ := tsE_some hts
          refine ⟨by rw [e1]; rfl, fun t ht => ?_⟩
          rcases List.mem_cons.1 ht with rfl | ht
          · exact hm
          · exact e2 t ht
        · cases h
      · cases h
    · cases h
theorem set_same {α : Type} : ∀ {l : List α} {i : Nat} {a : α}, l[i]? = some a → l.set i a = l
  | [], i, a, h => by simp at h
  | x :: l, 0, a, h => by simp only [List.getElem?_cons_zero, Option.some.injEq] at h; simp [h]
  | x :: l, i + 1, a, h => by simp only [List.getElem?_cons_succ] at h; simp [set_same h]

def szOf (ts : List (Int × List Nat × Int)) : Int := match ts with | t :: _ => t.1 | [] => 0
def g_with : BE := fun hp xs => match xs with
  | [.ptr b 0, .map m] => match rd hp b, hp[m]? with
    | some (.int .i64 p :: .int .i64 c :: .int .i64 n :: _), some (.map es ck) => match tsE 0 es with
      | some ts => chk (ck = ts.length ∧ (0 < p ∧ p ≤ 1000000) ∧ ts.length ≤ 1000000 ∧ (0 ≤ szOf ts ∧ szOf ts ≤ 8) ∧ (∀ t ∈ ts, t.1 = szOf ts) ∧ (ts.map txt).Nodup)
          (some (elemV p c (if restT p ts = [] then n else szOf ts) hp.length (restT p ts).length, hp ++ [.vec 18 (trms (sortT (restT p ts)))]))
      | none => none
    | _, _ => none
  | _ => none
theorem k_with : Am.Callee Try.prog 113 g_with := Callee.fp fun hp xs v hp' he => by
  unfold g_with at he
  split at he
  · rename_i b m
    split at he
    · rename_i p c n L es ck hrd hm
      split at he
      · rename_i ts hts
        obtain ⟨⟨h1, h2, h3, h4, h5, h6⟩, he⟩ := chk_some he
        simp only [Option.some.injEq, Prod.mk.injEq] at he
        obtain ⟨rfl, rfl⟩ := he
        obtain ⟨rfl, hok⟩ := tsE_some hts
        subst h1
        have hne : m ≠ b := by
          rintro rfl
          simp [rd, hm] at hrd
        refine ⟨[(b, 0), (m, 0)], [.ptr 0 0, .map 1], _, _, _, c_with p c n (szOf ts) ts h2 h4 hok h5 h6 h3, ?_, rfl, ⟨⟨_, hrd, by simp, by simp [AV.rens, AV.ren]⟩, ⟨rfl, ?_⟩, trivial⟩, ?_, ?_, ?_, ?_, ?_⟩
        · simp [ofL, AV.rens, AV.ren]
        · rw [mapT_ren]; exact hm
        · simp [apartB, AO.wr, hne]
        · exact ⟨⟨trivial, trivial, trivial, trivial⟩, esT_under _ _ _, trivial⟩
        · exact ⟨by simp [AV.under], by simp [AV.under], trivial⟩
        · simp [elemV, AV.ren, AV.rens, Ren.ext]
        · simp only [after, upd, wr_ro, show (mapT ts).wr = true from rfl, mapT_ren, rn_ro, rn_vec, if_true, Bool.false_eq_true, if_false, set_same (show hp[m]? = some (mapT ts) from hm), rens_scal _ _ (scals_trms _), List.length_cons, List.length_nil, List.drop_succ_cons, List.drop_zero, List.map_cons, List.map_nil]
      · cases he
    · cases he
  · cases he
def B28 : Book := (B27.put 113 (g_with))
theorem B28_ok : BookOk Try.prog B28 := (B27_ok.put (k_with))
theorem B28_i_fieldOk_F8 : B28 64 = some (plainE g_fieldOk) := rfl
theorem B28_i_invalid_F8 : B28 63 = some (readS 0 17 g_invalid) := rfl
theorem B28_i_scaleOk_F8 : B28 65 = some (plainE g_scaleOk) := rfl
theorem B28_i_Element_with_F8 : B28 113 = some (g_with) := rfl


abbrev KD : List LT := [LT.int, LT.int, LT.int, LT.int, LT.int, LT.int, LT.int, LT.int, LT.int, LT.int, LT.int, LT.int, LT.int, LT.int, LT.int, LT.int, LT.int]
theorem leqs_u8s : ∀ (m m' : List Nat), m.length = m'.length → leqs (List.replicate m.length .int) (u8s m) (u8s m') = some (decide (m = m'))
  | [], [], _ => rfl
  | [], _ :: _, h => by simp at h
  | _ :: _, [], h => by simp at h
  | a :: m, b :: m', h => by
    have ih := leqs_u8s m m' (by simpa using h)
    simp only [u8s] at ih
    simp only [List.length_cons, List.replicate_succ, u8s, List.map_cons, leqs, leq, if_true, ih]
    by_cases e : a = b
    · subst e; simp
    · have : ¬ ((a : Int) = (b : Int)) := by omega
      simp [e, this]
theorem leqs_dia {n n' : Int} {m m' : List Nat} (h : m.length = 16) (h' : m'.length = 16) : leqs KD (dia n m) (dia n' m') = some (decide (n = n' ∧ m = m')) := by
  have h1 := leqs_u8s m m' (by rw [h, h'])
  rw [h] at h1
  have h2 : KD = .int :: List.replicate 16 .int := rfl
  rw [h2]
  simp only [dia, leqs, leq, if_true, h1]
  by_cases e : n = n'
  · subst e; simp
  · simp [e]
theorem kok_dia {n : Int} {m : List Nat} (h : m.length = 16) : kok KD true (.agg (dia n m)) = true := by
  simp only [kok, keq, leqs_dia h h]


def a_i_single : AC := .seq (.region [⟨some 6, none, .op (.box (.t 2))⟩,
     ⟨some 8, none, .op (.alloc [(.int .i64 0), (.int .i64 0), (.int .i64 0), (.v (.slice none 0 0))])⟩]) (.seq (.region [⟨some 10, none, .op (.mov (.t 0))⟩,
     ⟨some 11, none, .op (.mov (.t 1))⟩,
     ⟨some 12, none, .op (.faddr 0 (.t 6))⟩,
     ⟨some 13, none, .op (.load1 (.t 12))⟩,
     ⟨some 14, none, .op (.build [(.int .i64 0), (.int .i64 0), (.int .i64 0), (.v (.slice none 0 0))] [(0, 1, (.t 10)), (1, 1, (.t 11)), (2, 1, (.t 13))])⟩,
     ⟨some 9, none, .op (.alloc [(.int .i64 0), (.int .i64 0), (.int .i64 0), (.v (.slice none 0 0))])⟩,
     ⟨none, none, .op (.storeN 4 (.t 9) (.t 14))⟩]) (.seq (.region [⟨some 15, none, .op (.mkmap)⟩,
     ⟨some 16, none, .op (.loadN 17 (.t 6))⟩,
     ⟨some 17, none, .op (.mov (.t 3))⟩,
     ⟨none, none, .op (.mapupd [.int, .int, .int, .int, .int, .int, .int, .int, .int, .int, .int, .int, .int, .int, .int, .int, .int] true (.t 15) (.t 16) (.t 17))⟩,
     ⟨some 18, none, .op (.mov (.t 15))⟩,
     ⟨some 19, none, .call (.c (.fn 113 [] [])) [(.t 9), (.t 18)]⟩,
     ⟨none, none, .op (.storeN 4 (.t 8) (.t 19))⟩]) .ret))
theorem r_i_single : readF Try.prog 66 = some ⟨20, a_i_single, [.cellN 8 4]⟩ := by kernel_rfl
theorem c_single (p c n : Int) (m : List Nat) (k : Int) (hp : 0 < p ∧ p ≤ 1000000) (hn : 0 ≤ n ∧ n ≤ 8) (hm : okD m) :
    Am.Fn Try.prog 66 [.int .i64 p, .int .i64 c, .agg (dia n m), .int .i64 k] [] (fun v H' => v = elemV p c n 0 (if k.emod p = 0 then ([] : List (Int × List Nat × Int)) else [(n, m, k.emod p)]).length ∧ H' = [.vec 18 (trms (if k.emod p = 0 then [] else [(n, m, k.emod p)]))]) := by
  refine Am.Fn.ofB B28_ok mixed r_i_single (by simp) (by simp) ?_
  have hr : restT p [(n, m, k)] = if k.emod p = 0 then [] else [(n, m, k.emod p)] := by
    unfold restT; by_cases h : k.emod p = 0 <;> simp [h]
  have hle : (if k.emod p = 0 then [] else [(n, m, k.emod p)]).length ≤ 1 := by split <;> simp
  generalize (if k.emod p = 0 then [] else [(n, m, k.emod p)]) = L at hr hle ⊢
  have hs : sortT L = L := by
    match L, hle with
    | [], _ => rfl
    | [t], _ => rfl
  have hsz : szOf [(n, m, k)] = n := rfl
  have hall : ∀ t ∈ [(n, m, k)], t.1 = n := by simp
  have hnd : [txt (n, m, k)].Nodup := by simp
  simp (maxSteps := 3000000) only [over4E, heapL, fillA, rd, wrt, wrl, AO.withl, a_i_single, B28_i_fieldOk_F8, B28_i_invalid_F8, B28_i_scaleOk_F8, B28_i_Element_with_F8, g_fieldOk, g_invalid, g_scaleOk, g_with, dia_length, hm.1, diaOf_dia hm, kok_dia hm.1, dia_take17 hm.1, noTopB, findK, tsE, hp, hn, hsz, hall, hnd, hr, hs, elemV, ite_self, idX_eq, wbE, ↓symP, symE, listE, AK.isCall, enumE, ev, putE, abin, aun, AV.cells, ↓reduceIte, reduceCtorEq, Nat.reduceAdd, Nat.reduceMul, Nat.reduceSub, Nat.reduceEqDiff, Nat.reduceLT, Nat.reduceLeDiff, implies_true, Back, retv, retV, AV.scal, AV.scals]; try simp only [idX_eq, ite_both, pickP_both, not_not_eq, Bool.not_eq_false, Bool.not_eq_true]
  refine ⟨rfl, hall, rfl, ?_⟩
  refine Ret.keep [4] ⟨⟨by simp, rfl, by decide⟩, ?_⟩ (rs := [.agg [.int .i64 p, .int .i64 c, .int .i64 n, .slc 4 0 L.length false 0]]) rfl rfl (by simp [retV]) ?_ ⟨?_, ?_⟩
  · simp only [withins_scal _ _ (scals_trms _), keepW, keepL, AV.within, AV.withins, ↓reduceIte, reduceCtorEq, Nat.reduceEqDiff, Nat.reduceBEq, implies_true, Nat.reduceAdd]
  · intro j l; match j with
    | 0 => simp [kepts, AO.ren]
    | j + 1 => simp [kepts]
  · simp only [retV]
    simp only [keptL, keptW, keptE, kepts, slots, ↓reduceIte, reduceCtorEq, Nat.reduceEqDiff, AV.ren, AV.rens, pos, Nat.reduceAdd]
  · simp only [rens_scal _ _ (scals_trms _), keptL, keptW, keptE, kepts, slots, ↓reduceIte, reduceCtorEq, Nat.reduceEqDiff, AV.ren, AV.rens, pos, Nat.reduceAdd]

def g_single : List AV → Option (AV × List AO)
  | [.int .i64 p, .int .i64 c, .agg l, .int .i64 k] => match diaOf l with
    | some (n, m) => chk ((0 < p ∧ p ≤ 1000000) ∧ (0 ≤ n ∧ n ≤ 8)) (some (elemV p c n 0 (if k.emod p = 0 then ([] : List (Int × List Nat × Int)) else [(n, m, k.emod p)]).length, [.vec 18 (trms (if k.emod p = 0 then [] else [(n, m, k.emod p)]))]))
    | none => none
  | _ => none
theorem k_single : Am.Callee Try.prog 66 (newE g_single) :=
  Am.Callee.new fun xs v H he => by
    unfold g_single at he
    split at he
    · rename_i p c l k
      split at he
      · rename_i n m hd
        obtain ⟨⟨h1, h2⟩, he⟩ := chk_some he
        obtain ⟨rfl, hm⟩ := diaOf_some hd
        have e1 := congrArg Prod.fst (Option.some.inj he)
        have e2 := congrArg Prod.snd (Option.some.inj he)
        simp only at e1 e2
        subst e1; subst e2
        exact ⟨by simp only [AV.scals, AV.scal, scals_dia, Bool.and_self], c_single p c n m k h1 h2 hm⟩
      · cases he
    · cases he
def B29 : Book := (B28.put 66 (newE g_single))
theorem B29_ok : BookOk Try.prog B29 := (B28_ok.put (k_single))
theorem B29_i_fieldOk_F8 : B29 64 = some (plainE g_fieldOk) := rfl
theorem B29_i_invalid_F8 : B29 63 = some (readS 0 17 g_invalid) := rfl
theorem B29_i_scaleOk_F8 : B29 65 = some (plainE g_scaleOk) := rfl
theorem B29_i_Element_with_F8 : B29 113 = some (g_with) := rfl
theorem B29_i_single_F8 : B29 66 = some (newE g_single) := rfl


theorem ren_el (p c n : Int) (b k m : Nat) : AV.ren (shiftR m) (.agg [.int .i64 p, .int .i64 c, .int .i64 n, .slc b 0 k false 0]) = .agg [.int .i64 p, .int .i64 c, .int .i64 n, .slc (m + b) 0 k false 0] := rfl

def a_i_ElementOf : AC := .seq (.region [⟨some 6, none, .op (.box (.t 2))⟩,
     ⟨some 8, none, .op (.alloc [(.int .i64 0), (.int .i64 0), (.int .i64 0), (.v (.slice none 0 0))])⟩,
     ⟨some 9, none, .op (.mov (.c (.int .i64 0)))⟩]) (.seq (.block 0 (.seq (.region [⟨some 11, none, .op (.loadN 17 (.t 6))⟩,
       ⟨some 12, none, .op (.mkslc 1 [(.int .i64 0), (.int .u8 0), (.int .u8 0), (.int .u8 0), (.int .u8 0), (.int .u8 0), (.int .u8 0), (.int .u8 0), (.int .u8 0), (.int .u8 0), (.int .u8 0), (.int .u8 0), (.int .u8 0), (.int .u8 0), (.int .u8 0), (.int .u8 0), (.int .u8 0)] [(0, 17, (.t 11))])⟩,
       ⟨some 13, none, .call (.c (.fn 63 [] [])) [(.t 12)]⟩,
       ⟨some 14, none, .op (.bin .neq (.t 13) (.c (.int .i64 0)))⟩,
       ⟨some 10, none, .op (.mov (.t 14))⟩]) (.cond 10 (.seq (.region [⟨some 15, none, .op (.build [(.int .i64 0), (.int .i64 0), (.int .i64 0), (.v (.slice none 0 0))] [])⟩,
         ⟨none, none, .op (.storeN 4 (.t 8) (.t 15))⟩,
         ⟨some 9, none, .op (.mov (.c (.int .i64 1)))⟩]) .ret) (.seq (.region [⟨some 17, none, .op (.mov (.t 0))⟩,
         ⟨some 18, none, .op (.mov (.t 1))⟩,
         ⟨some 19, none, .call (.c (.fn 64 [] [])) [(.t 17), (.t 18)]⟩,
         ⟨some 20, none, .op (.un .not (.t 19))⟩,
         ⟨some 21, none, .op (.mov (.t 20))⟩,
         ⟨some 22, some (21, false), .op (.mov (.t 3))⟩,
         ⟨some 23, some (21, false), .call (.c (.fn 65 [] [])) [(.t 22)]⟩,
         ⟨some 24, some (21, false), .op (.un .not (.t 23))⟩,
         ⟨some 25, none, .op (.pick (.t 21) (.c (.bool true)) (.t 24))⟩,
         ⟨some 16, none, .op (.mov (.t 25))⟩]) (.cond 16 (.seq (.region [⟨some 26, none, .op (.build [(.int .i64 0), (.int .i64 0), (.int .i64 0), (.v (.slice none 0 0))] [])⟩,
           ⟨none, none, .op (.storeN 4 (.t 8) (.t 26))⟩,
           ⟨some 9, none, .op (.mov (.c (.int .i64 2)))⟩]) .ret) .skip))))) (.seq (.region [⟨some 27, none, .op (.mov (.t 0))⟩,
     ⟨some 28, none, .op (.mov (.t 1))⟩,
     ⟨some 29, none, .op (.loadN 17 (.t 6))⟩,
     ⟨some 30, none, .op (.mov (.t 3))⟩,
     ⟨some 31, none, .call (.c (.fn 66 [] [])) [(.t 27), (.t 28), (.t 29), (.t 30)]⟩,
     ⟨none, none, .op (.storeN 4 (.t 8) (.t 31))⟩,
     ⟨some 9, none, .op (.mov (.c (.int .i64 0)))⟩]) .ret))
theorem r_i_ElementOf : readF Try.prog 25 = some ⟨32, a_i_ElementOf, [.cellN 8 4, .slot 9]⟩ := by kernel_rfl
theorem c_i_ElementOf (p c n : Int) (m : List Nat) (k : Int) (hm : okD m) : Am.Fn Try.prog 25 [.int .i64 p, .int .i64 c, .agg (dia n m), .int .i64 k] [] (ElemR (elemOf p c n m k)) := by
  refine Am.Fn.ofW B29_ok mixed r_i_ElementOf (by simp) (by simp) ?_
  have hml := hm.1
  have bad1 : isS n.toNat m = false → elemOf p c n m k = (0, 0, 0, [], 1) := fun h => by unfold elemOf; rw [if_pos h]
  have bad2 : isS n.toNat m = true → (primeB p && decide (0 ≤ c ∧ c ≤ p - 1) && decide (-1000000 ≤ k ∧ k ≤ 1000000)) = false → elemOf p c n m k = (0, 0, 0, [], 2) := fun h h' => by unfold elemOf; rw [if_neg (by rw [h]; simp), if_pos h']
  have nilR : ∀ (code : Int) (s : St), elemOf p c n m k = (0, 0, 0, [], code) → retv s [.cellN 8 4, .slot 9] = some [.agg [.int .i64 0, .int .i64 0, .int .i64 0, .v (.slice none 0 0)], .int .i64 code] → Ret [.cellN 8 4, .slot 9] [] (ElemR (elemOf p c n m k)) s := fun code s he hr => by
    refine Ret.nil 18 (.tup [elemV 0 0 0 0 0, .int .i64 code]) hr ?_ (by simp) ?_ ?_
    · simp [retV, elemV, AV.ren, AV.rens]
    · exact ⟨⟨trivial, trivial, trivial, by simp [AV.under], trivial⟩, trivial, trivial⟩
    · rw [he]; exact ⟨rfl, rfl⟩
  have good : isS n.toNat m = true → primeB p = true → (0 ≤ c ∧ c ≤ p - 1) → (-1000000 ≤ k ∧ k ≤ 1000000) → elemOf p c n m k = (p, c, n, if k.emod p = 0 then [] else [(n, m, k.emod p)], 0) := fun h h2 h3 h4 => by
    unfold elemOf; rw [if_neg (by rw [h]; simp), if_neg (by rw [h2, decide_eq_true h3, decide_eq_true h4]; simp)]
  have hdis : disOf 1 (dia n m) = some [(n, m)] := by
    have := disOf_dis (ds := [(n, m)]) (fun d hd => by simp at hd; subst hd; exact hm)
    simpa [dis] using this
  have hbad : [(n, m)].any bad = !isS n.toNat m := by simp [bad]
  cases hS : isS n.toNat m with
  | false =>
    simp (maxSteps := 3000000) only [over4E, heapL, fillA, rd, wrt, wrl, AO.withl, a_i_ElementOf, B29_i_fieldOk_F8, B29_i_invalid_F8, B29_i_scaleOk_F8, B29_i_Element_with_F8, B29_i_single_F8, g_fieldOk, g_invalid, g_scaleOk, g_single, g_with, dia_length, hml, diaOf_dia hm, dia_take17 hml, dia_zero, dia_zero_len, over_dia0 hml, hdis, hbad, hS, List.length_replicate, Int.reduceEq, Int.reduceNe, Int.reduceBEq, Int.reduceBNe, Int.reduceLT, Int.reduceLE, Int.reduceAdd, Int.reduceSub, Int.reduceMul, ren_el, elemV, rn_vec, rens_scal _ _ (scals_trms _), rens_scal _ _ (scals_dia _ _), idX_eq, wbE, ↓symP, symE, listE, AK.isCall, enumE, ev, putE, abin, aun, AV.cells, ↓reduceIte, reduceCtorEq, Nat.reduceAdd, Nat.reduceMul, Nat.reduceSub, Nat.reduceEqDiff, Nat.reduceLT, Nat.reduceLeDiff, implies_true, Back, retv, retV, AV.scal, AV.scals]; try simp only [idX_eq, ite_both, pickP_both, not_not_eq, Bool.not_eq_false, Bool.not_eq_true]
    exact ⟨rfl, _, Weak.refl _, nilR 1 _ (bad1 hS) rfl⟩
  | true =>
    have hnb := isS_bd hS
    have hnb' : 0 ≤ n ∧ n ≤ 8 := by omega
    cases hP : (primeB p && decide (0 ≤ c ∧ c ≤ p - 1)) with
    | false =>
      simp (maxSteps := 3000000) only [over4E, heapL, fillA, rd, wrt, wrl, AO.withl, a_i_ElementOf, B29_i_fieldOk_F8, B29_i_invalid_F8, B29_i_scaleOk_F8, B29_i_Element_with_F8, B29_i_single_F8, g_fieldOk, g_invalid, g_scaleOk, g_single, g_with, dia_length, hml, diaOf_dia hm, dia_take17 hml, dia_zero, dia_zero_len, over_dia0 hml, hdis, hbad, hS, hP, List.length_replicate, Int.reduceEq, Int.reduceNe, Int.reduceBEq, Int.reduceBNe, Int.reduceLT, Int.reduceLE, Int.reduceAdd, Int.reduceSub, Int.reduceMul, ren_el, elemV, rn_vec, rens_scal _ _ (scals_trms _), rens_scal _ _ (scals_dia _ _), idX_eq, wbE, ↓symP, symE, listE, AK.isCall, enumE, ev, putE, abin, aun, AV.cells, ↓reduceIte, reduceCtorEq, Nat.reduceAdd, Nat.reduceMul, Nat.reduceSub, Nat.reduceEqDiff, Nat.reduceLT, Nat.reduceLeDiff, implies_true, Back, retv, retV, AV.scal, AV.scals]; try simp only [idX_eq, ite_both, pickP_both, not_not_eq, Bool.not_eq_false, Bool.not_eq_true]
      exact ⟨rfl, _, Weak.refl _, nilR 2 _ (bad2 hS (by rw [hP]; rfl)) rfl⟩
    | true =>
      by_cases hK : -1000000 ≤ k ∧ k ≤ 1000000
      · have hp2 := hP
        simp only [Bool.and_eq_true, decide_eq_true_eq] at hp2
        have hpb := prime_bd hp2.1
        have hpb' : 0 < p ∧ p ≤ 1000000 := by omega
        have hg := good hS hp2.1 hp2.2 hK
        simp (maxSteps := 3000000) only [over4E, heapL, fillA, rd, wrt, wrl, AO.withl, a_i_ElementOf, B29_i_fieldOk_F8, B29_i_invalid_F8, B29_i_scaleOk_F8, B29_i_Element_with_F8, B29_i_single_F8, g_fieldOk, g_invalid, g_scaleOk, g_single, g_with, dia_length, hml, diaOf_dia hm, dia_take17 hml, dia_zero, dia_zero_len, over_dia0 hml, hdis, hbad, hS, hP, hK, hnb', hpb', List.length_replicate, Int.reduceEq, Int.reduceNe, Int.reduceBEq, Int.reduceBNe, Int.reduceLT, Int.reduceLE, Int.reduceAdd, Int.reduceSub, Int.reduceMul, ren_el, elemV, rn_vec, rens_scal _ _ (scals_trms _), rens_scal _ _ (scals_dia _ _), idX_eq, wbE, ↓symP, symE, listE, AK.isCall, enumE, ev, putE, abin, aun, AV.cells, ↓reduceIte, reduceCtorEq, Nat.reduceAdd, Nat.reduceMul, Nat.reduceSub, Nat.reduceEqDiff, Nat.reduceLT, Nat.reduceLeDiff, implies_true, Back, retv, retV, AV.scal, AV.scals]; try simp only [idX_eq, ite_both, pickP_both, not_not_eq, Bool.not_eq_false, Bool.not_eq_true]
        refine ⟨rfl, _, Weak.refl _, ?_⟩
        rw [hg]
        unfold ElemR
        generalize (if k.emod p = 0 then [] else [(n, m, k.emod p)]) = L
        refine Ret.keep [3] ⟨⟨by simp, rfl, by decide⟩, ?_⟩ (rs := [.agg [.int .i64 p, .int .i64 c, .int .i64 n, .slc 3 0 L.length false 0], .int .i64 0]) rfl (by rfl) (by simp [retV]) ?_ ⟨?_, ?_⟩
        · simp only [withins_scal _ _ (scals_trms _), keepW, keepL, AV.within, AV.withins, ↓reduceIte, reduceCtorEq, Nat.reduceEqDiff, Nat.reduceBEq, implies_true, Nat.reduceAdd]
        · intro j l; match j with
          | 0 => simp [kepts, AO.ren]
          | j + 1 => simp [kepts]
        · simp only [retV, elemV]
          simp only [keptL, keptW, keptE, kepts, slots, ↓reduceIte, reduceCtorEq, Nat.reduceEqDiff, AV.ren, AV.rens, pos, Nat.reduceAdd]
        · simp only [rens_scal _ _ (scals_trms _), keptL, keptW, keptE, kepts, slots, ↓reduceIte, reduceCtorEq, Nat.reduceEqDiff, AV.ren, AV.rens, pos, Nat.reduceAdd]
      · simp (maxSteps := 3000000) only [over4E, heapL, fillA, rd, wrt, wrl, AO.withl, a_i_ElementOf, B29_i_fieldOk_F8, B29_i_invalid_F8, B29_i_scaleOk_F8, B29_i_Element_with_F8, B29_i_single_F8, g_fieldOk, g_invalid, g_scaleOk, g_single, g_with, dia_length, hml, diaOf_dia hm, dia_take17 hml, dia_zero, dia_zero_len, over_dia0 hml, hdis, hbad, hS, hP, hK, List.length_replicate, Int.reduceEq, Int.reduceNe, Int.reduceBEq, Int.reduceBNe, Int.reduceLT, Int.reduceLE, Int.reduceAdd, Int.reduceSub, Int.reduceMul, ren_el, elemV, rn_vec, rens_scal _ _ (scals_trms _), rens_scal _ _ (scals_dia _ _), idX_eq, wbE, ↓symP, symE, listE, AK.isCall, enumE, ev, putE, abin, aun, AV.cells, ↓reduceIte, reduceCtorEq, Nat.reduceAdd, Nat.reduceMul, Nat.reduceSub, Nat.reduceEqDiff, Nat.reduceLT, Nat.reduceLeDiff, implies_true, Back, retv, retV, AV.scal, AV.scals]; try simp only [idX_eq, ite_both, pickP_both, not_not_eq, Bool.not_eq_false, Bool.not_eq_true]
        exact ⟨rfl, _, Weak.refl _, nilR 2 _ (bad2 hS (by rw [decide_eq_false hK, Bool.and_false])) rfl⟩
theorem k_i_ElementOf : Am.Callee Try.prog 25 (newE g_elemOf) :=
  Am.Callee.new fun xs v H he => by
    unfold g_elemOf at he
    split at he
    · rename_i p c l k
      split at he
      · rename_i n m hd
        obtain ⟨rfl, hm⟩ := diaOf_some hd
        have e1 := congrArg Prod.fst (Option.some.inj he)
        have e2 := congrArg Prod.snd (Option.some.inj he)
        simp only at e1 e2
        subst e1; subst e2
        exact ⟨by simp only [AV.scals, AV.scal, scals_dia, Bool.and_self], c_i_ElementOf p c n m k hm⟩
      · cases he
    · cases he
def B30 : Book := (B29.put 25 (newE g_elemOf))
theorem B30_ok : BookOk Try.prog B30 := (B29_ok.put (k_i_ElementOf))

end Go.Proofs.Ytkgoadglalpbfaa
