/- Contracts: an element of a sum. -/
import Derived.Test.YtkgoadglalpbfaaF6
namespace Go.Proofs.Ytkgoadglalpbfaa
open Go.Am Go.Dia
set_option linter.unusedSimpArgs false
set_option linter.unusedVariables false
set_option maxRecDepth 4000
set_option maxHeartbeats 1000000

def g_sort : BE := fun hp xs => match xs with
  | [.slc b 0 n false 0, .fn 138 [] []] => match hp[b]? with
    | some (.vec 18 l) => match tsOf n l with
      | some ts => chk (l.length = n * 18 ∧ n ≤ 1000000 ∧ (∀ t ∈ ts, 0 ≤ t.1 ∧ t.1 ≤ 8) ∧ (ts.map txt).Nodup) (some (.tup [], hp.set b (.vec 18 (trms (sortT ts)))))
      | none => none
    | _ => none
  | _ => none
theorem k_sort : Am.Callee Try.prog 137 g_sort := Callee.wr1 fun hp xs v hp' he => by
  unfold g_sort at he
  split at he
  · rename_i b n
    split at he
    · rename_i l hb
      split at he
      · rename_i ts hts
        obtain ⟨h0, he⟩ := chk_some he
        simp only [Option.some.injEq, Prod.mk.injEq] at he
        obtain ⟨rfl, rfl⟩ := he
        obtain ⟨e1, e2, e3, e4⟩ := tsOf_some hts
        have hl : l = trms ts := by rw [← e3, List.take_of_length_le (by omega)]
        subst hl
        refine ⟨18, trms ts, _, b, [.slc 0 0 ts.length false 0, .fn 138 [] []], hb, rfl, scals_trms _, scals_trms _, ?_, rfl, ⟨by simp [AV.under], ⟨trivial, trivial⟩, trivial⟩, rfl, ?_⟩
        · simp only [AV.rens, AV.ren, one, if_true, e1, Nat.zero_add]
        · exact c_sort ts (by omega) (fun t ht => ⟨e2 t ht, h0.2.2.1 t ht⟩) h0.2.2.2
      · cases he
    · cases he
  · cases he
def B27 : Book := (B26.put 137 (g_sort))

theorem B27_ok : BookOk Try.prog B27 := (B26_ok.put (k_sort))

theorem B27_i_rest_F7 : B27 103 = some (plainE g_rest) := rfl
theorem B27_g_SortFunc_STerm_Term_F7 : B27 137 = some (g_sort) := rfl


/-- The entries of a sum. -/
def esT : Nat → List (Int × List Nat × Int) → List AE
  | _, [] => []
  | k, t :: l => ⟨.agg (dia t.1 t.2.1), .int .i64 t.2.2, k⟩ :: esT (k + 1) l
def mapT (ts : List (Int × List Nat × Int)) : AO := .map (esT 0 ts) ts.length
def restT (p : Int) (ts : List (Int × List Nat × Int)) : List (Int × List Nat × Int) := ts.filterMap fun t => if t.2.2.emod p = 0 then none else some (t.1, t.2.1, t.2.2.emod p)
def pickT (ts : List (Int × List Nat × Int)) (seen : List Nat) : List (Int × List Nat × Int) := seen.map fun i => ts.getD i (0, [], 0)

theorem esT_mem : ∀ {ts : List (Int × List Nat × Int)} {k : Nat} {e : AE}, e ∈ esT k ts → ∃ i, i < ts.length ∧ e = ⟨.agg (dia (ts.getD i (0, [], 0)).1 (ts.getD i (0, [], 0)).2.1), .int .i64 (ts.getD i (0, [], 0)).2.2, k + i⟩
  | [], k, e, h => by cases h
  | t :: l, k, e, h => by
    rcases List.mem_cons.1 h with rfl | h
    · exact ⟨0, by simp, by simp⟩
    · obtain ⟨i, h1, rfl⟩ := esT_mem h
      refine ⟨i + 1, by simpa using h1, ?_⟩
      simp only [List.getD_cons_succ, AE.mk.injEq, true_and]; omega
theorem esT_get : ∀ {ts : List (Int × List Nat × Int)} {k i : Nat}, i < ts.length → (⟨.agg (dia (ts.getD i (0, [], 0)).1 (ts.getD i (0, [], 0)).2.1), .int .i64 (ts.getD i (0, [], 0)).2.2, k + i⟩ : AE) ∈ esT k ts
  | t :: l, k, 0, h => by simp [esT]
  | t :: l, k, i + 1, h => by
    have := esT_get (ts := l) (k := k + 1) (i := i) (by simpa using h)
    simp only [esT, List.mem_cons]
    right
    rw [show k + (i + 1) = k + 1 + i by omega]
    simpa using this
theorem esT_find : ∀ {ts : List (Int × List Nat × Int)} {k i : Nat}, i < ts.length → (esT k ts).find? (fun x => x.born == k + i) = some ⟨.agg (dia (ts.getD i (0, [], 0)).1 (ts.getD i (0, [], 0)).2.1), .int .i64 (ts.getD i (0, [], 0)).2.2, k + i⟩
  | t :: l, k, 0, h => by simp [esT]
  | t :: l, k, i + 1, h => by
    have := esT_find (ts := l) (k := k + 1) (i := i) (by simpa using h)
    rw [show k + 1 + i = k + (i + 1) by omega] at this
    simp only [esT, List.find?_cons]
    rw [show (k == k + (i + 1)) = false by simp]
    simpa using this
theorem esT_under (n : Nat) (ts : List (Int × List Nat × Int)) (k : Nat) : ∀ e ∈ esT k ts, e.key.under n ∧ e.val.under n := fun e he => by
  obtain ⟨i, _, rfl⟩ := esT_mem he
  exact ⟨unders_scal _ _ (scals_dia _ _), trivial⟩
theorem mapT_ren (ρ : Ren) (ts : List (Int × List Nat × Int)) : (mapT ts).ren ρ = mapT ts := by
  simp only [mapT, AO.ren]
  congr 1
  conv => rhs; rw [← List.map_id (esT 0 ts)]
  refine List.map_congr_left fun e he => ?_
  obtain ⟨i, _, rfl⟩ := esT_mem he
  simp only [AE.ren, AV.ren, rens_scal _ _ (scals_dia _ _), id]
theorem mapT_within (ids : List Nat) (ts : List (Int × List Nat × Int)) : (mapT ts).within ids = true := by
  simp only [mapT, AO.within, List.all_eq_true]
  intro e he
  obtain ⟨i, _, rfl⟩ := esT_mem he
  simp only [AV.within, withins_scal _ _ (scals_dia _ _), Bool.and_self]

theorem esT_within (ids : List Nat) (ts : List (Int × List Nat × Int)) (k : Nat) : (AO.map (esT 0 ts) k).within ids = true := mapT_within ids ts
theorem esT_ren (ρ : Ren) (ts : List (Int × List Nat × Int)) (k : Nat) : (AO.map (esT 0 ts) k).ren ρ = AO.map (esT 0 ts) k := by
  have := mapT_ren ρ ts
  simp only [mapT, AO.ren, AO.map.injEq] at this ⊢
  exact ⟨this.1, trivial⟩
theorem wbN_mapT {r m : Nat} {ts : List (Int × List Nat × Int)} {seen : List Nat} {hp : List AO} {K : AV → List AO → Prop} (h1 : hp[r]? = some (.miter (some m) ts.length seen ts.length)) (h2 : hp[m]? = some (mapT ts))
    (hend : (∀ i, i < ts.length → i ∈ seen) → K (.tup [.bool false]) hp)
    (hgo : ∀ i, i < ts.length → i ∉ seen → K (.tup [.bool true, .agg (dia (ts.getD i (0, [], 0)).1 (ts.getD i (0, [], 0)).2.1), .int .i64 (ts.getD i (0, [], 0)).2.2]) (hp.set r (.miter (some m) ts.length (seen ++ [i]) ts.length))) :
    wbN (.ptr r 0) hp K := by
  simp only [wbN, nexts, h1, h2, mapT]
  refine ⟨_, chk_ok ⟨trivial, trivial, fun e he => ?_⟩, fun h => ?_, fun e he hs => ?_⟩
  · obtain ⟨i, h3, rfl⟩ := esT_mem he; show 0 + i < _; omega
  · refine hend fun i hi => ?_
    have := h _ (esT_get (k := 0) hi)
    simpa using this
  · obtain ⟨i, h3, rfl⟩ := esT_mem he
    simp only [Nat.zero_add] at hs ⊢
    exact hgo i h3 hs

theorem wbC_next {B : Book} {n0 nt : Nat} {dst : Option Nat} {it : Opd} {l : List AI} {b : AC} {Q : AX → St → Prop} {s : St}
    (h : wbN (ev s.env it) s.hp (fun v hp' => wbC Try.prog B n0 nt (.seq (.region l) b) Q ⟨putE dst v s.env, hp'⟩)) : wbC Try.prog B n0 nt (.seq (.region (⟨dst, none, .next it⟩ :: l)) b) Q s := h

theorem pick_all {ts : List (Int × List Nat × Int)} {seen : List Nat} (hn : seen.Nodup) (hlt : ∀ i ∈ seen, i < ts.length) (h : ∀ i, i < ts.length → i ∈ seen) : (pickT ts seen).Perm ts := by
  have hp : seen.Perm (List.range ts.length) := (List.perm_ext_iff_of_nodup hn List.nodup_range).2 fun i => ⟨fun hi => List.mem_range.2 (hlt i hi), fun hi => h i (List.mem_range.1 hi)⟩
  have e : (List.range ts.length).map (fun i => ts.getD i (0, [], 0)) = ts := by
    apply List.ext_getElem (by simp)
    intro i h1 h2
    simp at h1
    simp [h1]
  unfold pickT
  refine (hp.map _).trans ?_
  rw [e]
theorem rest_perm {p : Int} {a b : List (Int × List Nat × Int)} (h : a.Perm b) : (restT p a).Perm (restT p b) := h.filterMap _
theorem rest_txt {p : Int} : ∀ {l : List (Int × List Nat × Int)}, apartT l → apartT (restT p l) := fun {l} h => by
  unfold apartT restT at *
  refine List.Nodup.sublist ?_ h
  induction l with
  | nil => exact List.nil_sublist _
  | cons t l ih =>
    simp only [List.filterMap_cons]
    split
    · exact (ih (List.nodup_cons.1 h).2).trans (List.sublist_cons_self _ _)
    · rename_i u hu
      split at hu
      · cases hu
      · cases hu
        exact (ih (List.nodup_cons.1 h).2).cons_cons _
theorem rest_mem {p : Int} {l : List (Int × List Nat × Int)} {t : Int × List Nat × Int} (h : t ∈ restT p l) : ∃ u ∈ l, t = (u.1, u.2.1, u.2.2.emod p) ∧ u.2.2.emod p ≠ 0 := by
  obtain ⟨u, hu, he⟩ := List.mem_filterMap.1 h
  split at he
  · cases he
  · rename_i hne; cases he; exact ⟨u, hu, rfl, hne⟩
theorem rest_ok {p : Int} {l : List (Int × List Nat × Int)} (h : okT l) : okT (restT p l) := fun t ht => by
  obtain ⟨u, hu, rfl, _⟩ := rest_mem ht; exact h u hu
theorem okT_pick {ts : List (Int × List Nat × Int)} {seen : List Nat} (h : okT ts) (hlt : ∀ i ∈ seen, i < ts.length) : okT (pickT ts seen) := fun t ht => by
  obtain ⟨i, hi, rfl⟩ := List.mem_map.1 ht
  have := hlt i hi
  simp only [List.getD_eq_getElem?_getD, List.getElem?_eq_getElem this, Option.getD_some]
  exact h _ (List.getElem_mem _)
theorem trms_snoc (l : List (Int × List Nat × Int)) (t : Int × List Nat × Int) : trms l ++ trm t = trms (l ++ [t]) := by simp [trms]
theorem dia_zero : [AV.int .i64 0, .int .u8 0, .int .u8 0, .int .u8 0, .int .u8 0, .int .u8 0, .int .u8 0, .int .u8 0, .int .u8 0, .int .u8 0, .int .u8 0, .int .u8 0, .int .u8 0, .int .u8 0, .int .u8 0, .int .u8 0, .int .u8 0] = dia 0 (List.replicate 16 0) := rfl
theorem over_dia0 {n : Int} {m : List Nat} (h : m.length = 16) : over (dia 0 (List.replicate 16 0)) 0 (dia n m) = dia n m := over_all (by rw [dia_length, dia_length, h, List.length_replicate])
theorem over_trm0 {n : Int} {m : List Nat} (h : m.length = 16) : over (trm (0, List.replicate 16 0, 0)) 0 (dia n m) = trm (n, m, 0) := over_trm_dia (by simp) h
theorem trm_zero_len : (trm (0, List.replicate 16 0, 0)).length = 18 := rfl
theorem dia_zero_len : (dia 0 (List.replicate 16 0)).length = 17 := rfl

def a_i_Element_with_l1 : AC := .seq (.region [⟨some 23, none, .next (.t 22)⟩,
        ⟨some 24, none, .op (.ext 0 (.t 23))⟩]) (.seq (.cond 24 .skip (.exit 0)) (.block 1 (.seq (.region [⟨some 25, none, .op (.entry (.t 22))⟩,
         ⟨some 26, none, .op (.ext 0 (.t 25))⟩,
         ⟨some 27, none, .op (.ext 1 (.t 25))⟩,
         ⟨some 6, none, .op (.alloc [(.int .i64 0), (.int .u8 0), (.int .u8 0), (.int .u8 0), (.int .u8 0), (.int .u8 0), (.int .u8 0), (.int .u8 0), (.int .u8 0), (.int .u8 0), (.int .u8 0), (.int .u8 0), (.int .u8 0), (.int .u8 0), (.int .u8 0), (.int .u8 0), (.int .u8 0)])⟩,
         ⟨none, none, .op (.storeN 17 (.t 6) (.t 26))⟩,
         ⟨some 7, none, .op (.mov (.t 27))⟩]) (.seq (.region [⟨some 28, none, .op (.mov (.t 7))⟩,
         ⟨some 29, none, .op (.mov (.t 0))⟩,
         ⟨some 30, none, .op (.nilchk (.t 29))⟩,
         ⟨some 31, none, .op (.faddr 0 (.t 30))⟩,
         ⟨some 32, none, .op (.load1 (.t 31))⟩,
         ⟨some 33, none, .call (.c (.fn 103 [] [])) [(.t 28), (.t 32)]⟩,
         ⟨some 7, none, .op (.mov (.t 33))⟩]) (.seq (.region [⟨some 34, none, .op (.mov (.t 7))⟩,
         ⟨some 35, none, .op (.bin .neq (.t 34) (.c (.int .i64 0)))⟩]) (.cond 35 (.seq (.region [⟨some 36, none, .op (.faddr 0 (.t 6))⟩,
           ⟨some 37, none, .op (.load1 (.t 36))⟩,
           ⟨some 38, none, .op (.faddr 2 (.t 5))⟩,
           ⟨none, none, .op (.store1 (.t 38) (.t 37))⟩]) (.region [⟨some 39, none, .op (.faddr 3 (.t 5))⟩,
          ⟨some 40, none, .op (.load1 (.t 39))⟩,
          ⟨some 41, none, .op (.loadN 17 (.t 6))⟩,
          ⟨some 42, none, .op (.mov (.t 7))⟩,
          ⟨some 43, none, .op (.build [(.int .i64 0), (.int .u8 0), (.int .u8 0), (.int .u8 0), (.int .u8 0), (.int .u8 0), (.int .u8 0), (.int .u8 0), (.int .u8 0), (.int .u8 0), (.int .u8 0), (.int .u8 0), (.int .u8 0), (.int .u8 0), (.int .u8 0), (.int .u8 0), (.int .u8 0), (.int .i64 0)] [(0, 17, (.t 41)), (17, 1, (.t 42))])⟩,
          ⟨some 44, none, .op (.mkslc 1 [(.int .i64 0), (.int .u8 0), (.int .u8 0), (.int .u8 0), (.int .u8 0), (.int .u8 0), (.int .u8 0), (.int .u8 0), (.int .u8 0), (.int .u8 0), (.int .u8 0), (.int .u8 0), (.int .u8 0), (.int .u8 0), (.int .u8 0), (.int .u8 0), (.int .u8 0), (.int .i64 0)] [(0, 18, (.t 43))])⟩,
          ⟨some 45, none, .op (.append 18 32 (.t 40) (.t 44))⟩,
          ⟨some 46, none, .op (.faddr 3 (.t 5))⟩,
          ⟨none, none, .op (.store1 (.t 46) (.t 45))⟩])) .skip))))))
def a_i_Element_with_k1 : AC := .seq (.region [⟨some 47, none, .op (.faddr 3 (.t 5))⟩,
     ⟨some 48, none, .op (.load1 (.t 47))⟩,
     ⟨some 49, none, .call (.c (.fn 137 [] [])) [(.t 48), (.c (.fn 138 [] []))]⟩]) (.seq (.region [⟨some 50, none, .op (.loadN 4 (.t 5))⟩,
     ⟨none, none, .op (.storeN 4 (.t 4) (.t 50))⟩]) .ret)
def a_i_Element_with : AC := .seq (.region [⟨some 4, none, .op (.alloc [(.int .i64 0), (.int .i64 0), (.int .i64 0), (.v (.slice none 0 0))])⟩]) (.seq (.draw false [⟨some 8, none, .op (.mov (.t 0))⟩,
     ⟨some 9, none, .op (.nilchk (.t 8))⟩,
     ⟨some 10, none, .op (.faddr 0 (.t 9))⟩,
     ⟨some 11, none, .op (.load1 (.t 10))⟩,
     ⟨some 12, none, .op (.mov (.t 0))⟩,
     ⟨some 13, none, .op (.nilchk (.t 12))⟩,
     ⟨some 14, none, .op (.faddr 1 (.t 13))⟩,
     ⟨some 15, none, .op (.load1 (.t 14))⟩,
     ⟨some 16, none, .op (.mov (.t 0))⟩,
     ⟨some 17, none, .op (.nilchk (.t 16))⟩,
     ⟨some 18, none, .op (.faddr 2 (.t 17))⟩,
     ⟨some 19, none, .op (.load1 (.t 18))⟩,
     ⟨some 20, none, .op (.build [(.int .i64 0), (.int .i64 0), (.int .i64 0), (.v (.slice none 0 0))] [(0, 1, (.t 11)), (1, 1, (.t 15)), (2, 1, (.t 19))])⟩,
     ⟨some 5, none, .op (.alloc [(.int .i64 0), (.int .i64 0), (.int .i64 0), (.v (.slice none 0 0))])⟩,
     ⟨none, none, .op (.storeN 4 (.t 5) (.t 20))⟩]) (.seq (.seq (.region [⟨some 21, none, .op (.mov (.t 1))⟩,
      ⟨some 22, none, .op (.rangeM (.t 21))⟩]) (.block 0 (.loop a_i_Element_with_l1))) a_i_Element_with_k1))
theorem r_i_Element_with : readF Try.prog 113 = some ⟨51, a_i_Element_with, [.cellN 4 4]⟩ := by kernel_rfl

def withI (p c n sz : Int) (ts : List (Int × List Nat × Int)) (seen : List Nat) : St :=
  ⟨[(22, .ptr 4 0), (5, .ptr 3 0), (4, .ptr 2 0), (0, .ptr 0 0)], [.ro [.int .i64 p, .int .i64 c, .int .i64 n], mapT ts, .cells [.int .i64 0, .int .i64 0, .int .i64 0, .v (.slice none 0 0)],
    .cells [.int .i64 p, .int .i64 c, .int .i64 (if restT p (pickT ts seen) = [] then n else sz), .slc 5 0 (restT p (pickT ts seen)).length false 0], .miter (some 1) ts.length seen ts.length, .vec 18 (trms (restT p (pickT ts seen)))]⟩
def withP (p c n sz : Int) (ts : List (Int × List Nat × Int)) (s : St) : Prop := ∃ seen : List Nat, seen.Nodup ∧ (∀ i ∈ seen, i < ts.length) ∧ s = withI p c n sz ts seen
def withM (ts : List (Int × List Nat × Int)) (s : St) : Nat := match s.hp[4]? with | some (AO.miter _ _ seen _) => ts.length - seen.length | _ => 0

theorem c_with (p c n sz : Int) (ts : List (Int × List Nat × Int)) (hp : 0 < p ∧ p ≤ 1000000) (hs : 0 ≤ sz ∧ sz ≤ 8) (ht : okT ts) (hz : ∀ t ∈ ts, t.1 = sz) (ha : apartT ts) (hl : ts.length ≤ 1000000) :
    Am.Fn Try.prog 113 [.ptr 0 0, .map 1] [.ro [.int .i64 p, .int .i64 c, .int .i64 n], mapT ts] (fun v H' => v = elemV p c (if restT p ts = [] then n else sz) 2 (restT p ts).length ∧
      H' = [.ro [.int .i64 p, .int .i64 c, .int .i64 n], mapT ts, .vec 18 (trms (sortT (restT p ts)))]) := by
  refine Am.Fn.ofB B27_ok mixed r_i_Element_with (by simp) ?_ ?_
  · intro j o hj
    match j, hj with
    | 0, hj => cases hj; exact ⟨trivial, trivial, trivial, trivial⟩
    | 1, hj => cases hj; exact esT_under _ _ _
    | j + 2, hj => simp at hj
  have hm : mapT ts = .map (esT 0 ts) ts.length := rfl
  simp (maxSteps := 3000000) only [a_i_Element_with, hm, over4_0, over4_1, over4_2, over4_3, over4_4, B27_i_rest_F7, B27_g_SortFunc_STerm_Term_F7, g_rest, g_sort, fillA, rd, wrt, wrl, AO.withl, List.getElem?_cons_zero, List.getElem?_cons_succ, List.set_cons_zero, List.set_cons_succ, idX_eq, wbE, ↓symP, symE, listE, AK.isCall, enumE, ev, putE, abin, aun, AV.cells, ↓reduceIte, reduceCtorEq, Nat.reduceAdd, Nat.reduceMul, Nat.reduceSub, Nat.reduceEqDiff, Nat.reduceLT, Nat.reduceLeDiff, implies_true, Back, retv, retV, AV.scal, AV.scals]; try simp only [idX_eq, ite_both, pickP_both, not_not_eq, Bool.not_eq_false, Bool.not_eq_true]
  refine ⟨rfl, WA.loopB B27_ok (withP p c n sz ts) (withM ts) ⟨withI p c n sz ts [], ?_, [], .nil, by simp, rfl⟩ ?_⟩
  · refine Weak.trans (Weak.slots [22, 5, 4, 0]) ?_
    refine Eq.subst (motive := fun s' => Weak 2 _ s') ?_ (Weak.nilH 3 3 18 rfl rfl (by simp) ?_ ?_)
    · simp only [slots, get_put]
      rfl
    · simp [slots, get_put, AV.under]
    · simp only [List.mem_cons, List.not_mem_nil, or_false, forall_eq_or_imp, forall_eq]
      exact ⟨⟨trivial, trivial, trivial, trivial⟩, esT_under _ _ _, ⟨trivial, trivial, trivial, trivial, trivial⟩, ⟨trivial, trivial, trivial, trivial, trivial⟩, fun b h => by cases h; simp⟩
  rintro s ⟨seen, hnd, hlt, rfl⟩
  unfold a_i_Element_with_l1
  refine wbC_next (wbN_mapT (r := 4) (m := 1) (ts := ts) (seen := seen) rfl rfl (fun hall => ?_) (fun i hi hsn => ?_))
  · have hpm := pick_all hnd hlt hall
    have hr := rest_perm (p := p) hpm
    have hrt := rest_ok (p := p) (okT_pick ht hlt)
    have hap : (List.map txt (restT p (pickT ts seen))).Nodup := (hr.map txt).nodup_iff.2 (rest_txt ha)
    have hsz : ∀ t ∈ restT p (pickT ts seen), 0 ≤ t.1 ∧ t.1 ≤ 8 := fun t h => by
      obtain ⟨u, hu, rfl, _⟩ := rest_mem (hr.mem_iff.1 h)
      simp only [hz u hu]; exact hs
    have hlen : (restT p (pickT ts seen)).length = (restT p ts).length := hr.length_eq
    have hle : (restT p ts).length ≤ 1000000 := Nat.le_trans (List.length_filterMap_le _ _) hl
    have hle' : (restT p (pickT ts seen)).length ≤ 1000000 := by omega
    have hso : sortT (restT p (pickT ts seen)) = sortT (restT p ts) := up_sortT ((sortT_perm _).trans hr) ((sortT_up hap).imp fun {a b} h => lessB_asymm _ _ h) (rest_txt ha)
    have hnil : (restT p (pickT ts seen) = []) = (restT p ts = []) := propext ⟨fun h => by rw [h] at hr; exact List.nil_perm.1 hr, fun h => by rw [h] at hr; exact List.perm_nil.1 hr⟩
    have htl := trms_length hrt
    have hto := tsOf_trms' hrt
    rw [hlen] at htl hto
    unfold withI
    simp (maxSteps := 3000000) only [over4E, heapL, fillA, rd, wrt, wrl, AO.withl, a_i_Element_with_k1, B27_i_rest_F7, B27_g_SortFunc_STerm_Term_F7, g_rest, g_sort, htl, hto, hle, hap, hsz, hso, hnil, hlen, idX_eq, wbE, ↓symP, symE, listE, AK.isCall, enumE, ev, putE, abin, aun, AV.cells, ↓reduceIte, reduceCtorEq, Nat.reduceAdd, Nat.reduceMul, Nat.reduceSub, Nat.reduceEqDiff, Nat.reduceLT, Nat.reduceLeDiff, implies_true, Back, retv, retV, AV.scal, AV.scals]; try simp only [idX_eq, ite_both, pickP_both, not_not_eq, Bool.not_eq_false, Bool.not_eq_true]
    refine ⟨hsz, rfl, ?_⟩
    refine Ret.keep [0, 1, 5] ⟨⟨by simp, rfl, by decide⟩, ?_⟩ (rs := [.agg [.int .i64 p, .int .i64 c, .int .i64 (if restT p ts = [] then n else sz), .slc 5 0 (restT p ts).length false 0]]) rfl rfl (by simp [retV]) ?_ ⟨?_, ?_⟩
    · simp only [mapT_within, ↓esT_within, withins_scal _ _ (scals_trms _), keepW, keepL, AV.within, AV.withins, ↓reduceIte, reduceCtorEq, Nat.reduceEqDiff, Nat.reduceBEq, implies_true, Nat.reduceAdd]
    · intro j l; match j with
      | 0 => exact fun _ => ⟨_, rfl⟩
      | 1 => simp [kepts, mapT_ren]; simp [mapT]
      | 2 => simp [kepts, AO.ren]
      | j + 3 => simp [kepts]
    · simp only [elemV, retV]
      simp only [keptL, keptW, keptE, kepts, slots, ↓reduceIte, reduceCtorEq, Nat.reduceEqDiff, AV.ren, AV.rens, pos, Nat.reduceAdd]
    · simp only [mapT_ren, ↓esT_ren, rens_scal _ _ (scals_trms _), keptL, keptW, keptE, kepts, slots, ↓reduceIte, reduceCtorEq, Nat.reduceEqDiff, AV.ren, AV.rens, pos, Nat.reduceAdd]
      rfl
  · unfold withI
    have htm : ts.getD i (0, [], 0) ∈ ts := by rw [List.getD_eq_getElem?_getD, List.getElem?_eq_getElem hi]; exact List.getElem_mem _
    have hk : okD (ts.getD i (0, [], 0)).2.1 := ht _ htm
    have h1 : (ts.getD i (0, [], 0)).1 = sz := hz _ htm
    have hfind := esT_find (ts := ts) (k := 0) hi
    have hlast : (seen ++ [i]).getLast? = some i := List.getLast?_concat ..
    have hpk : pickT ts (seen ++ [i]) = pickT ts seen ++ [ts.getD i (0, [], 0)] := by simp [pickT]
    have hnd' : (seen ++ [i]).Nodup := by
      rw [List.nodup_append]
      exact ⟨hnd, by simp, fun a ha b hb => by simp at hb; subst hb; rintro rfl; exact hsn ha⟩
    have hlt' : ∀ j ∈ seen ++ [i], j < ts.length := fun j hj => by
      rcases List.mem_append.1 hj with h | h
      · exact hlt j h
      · simp at h; omega
    have hsl : seen.length < ts.length := by
      have := nodup_le ts.length (seen ++ [i]) hnd' hlt'
      simp at this; omega
    rw [Nat.zero_add] at hfind
    generalize htt : ts.getD i (0, [], 0) = t at hk h1 hfind hpk ⊢
    obtain ⟨n1, m1, k1⟩ := t
    simp only at hk h1 hfind
    subst h1
    have hone : (dia n1 m1).all AV.one = true := ones_dia _ _
    have hrt := rest_ok (p := p) (okT_pick ht hlt)
    have htl := trms_length hrt
    have htk : List.take ((restT p (pickT ts seen)).length * 18) (trms (restT p (pickT ts seen))) = trms (restT p (pickT ts seen)) := List.take_of_length_le (by rw [htl]; exact Nat.le_refl _)
    have hbd : (restT p (pickT ts seen)).length ≤ 1000000 := by
      have := List.length_filterMap_le (fun t : Int × List Nat × Int => if t.2.2.emod p = 0 then none else some (t.1, t.2.1, t.2.2.emod p)) (pickT ts seen)
      have h2 : (pickT ts seen).length = seen.length := by simp [pickT]
      unfold restT; omega
    by_cases hkz : k1.emod p = 0
    · have hre : restT p (pickT ts (seen ++ [i])) = restT p (pickT ts seen) := by rw [hpk]; simp [restT, hkz]
      simp (maxSteps := 3000000) only [over4E, heapL, fillA, rd, wrt, wrl, AO.withl, B27_i_rest_F7, B27_g_SortFunc_STerm_Term_F7, g_rest, g_sort, hkz, hp, hm, dia_length, hk.1, hlast, hfind, hone, dia_zero, over_dia0 hk.1, over_trm0 hk.1, over_trm_f (t := (n1, m1, 0)) hk.1, trm_zero, trm_len, trm_zero_len, dia_zero_len, dia_take17 hk.1, ones_trm, src, cast0, cast1, Int.toNat_zero, Option.map_some, Option.map_none, List.length_replicate, over_trm (t := (0, List.replicate 16 0, 0)) (u := (n1, m1, k1.emod p)) (by simp) hk.1, trm_take18 (t := (n1, m1, k1.emod p)) hk.1, htk, htl, idX_eq, wbE, ↓symP, symE, listE, AK.isCall, enumE, ev, putE, abin, aun, AV.cells, ↓reduceIte, reduceCtorEq, Nat.reduceAdd, Nat.reduceMul, Nat.reduceSub, Nat.reduceEqDiff, Nat.reduceLT, Nat.reduceLeDiff, implies_true, Back, retv, retV, AV.scal, AV.scals]; try simp only [idX_eq, ite_both, pickP_both, not_not_eq, Bool.not_eq_false, Bool.not_eq_true]
      refine ⟨_, Weak.keep [0, 1, 2, 3, 4, 5] [22, 5, 4, 0] ⟨by decide, ?_⟩ ?_, ⟨seen ++ [i], hnd', hlt', ?_⟩, ?_⟩
      · simp only [mapT_within, ↓esT_within, withins_scal _ _ (scals_trms _), keepW, keepL, AV.within, AV.withins, ↓reduceIte, reduceCtorEq, Nat.reduceEqDiff, Nat.reduceBEq, implies_true, Nat.reduceAdd]
      · simp only [keepW, keepL, AV.within, AV.withins, ↓reduceIte, reduceCtorEq, Nat.reduceEqDiff, Nat.reduceBEq, implies_true, Nat.reduceAdd]
      · unfold withI
        simp only [mapT_ren, ↓esT_ren, rens_scal _ _ (scals_trms _), hre, keptL, keptW, keptE, kepts, slots, ↓reduceIte, reduceCtorEq, Nat.reduceEqDiff, AV.ren, AV.rens, pos, Nat.reduceAdd]
        rfl
      · simp only [withM]
        simp only [mapT_ren, ↓esT_ren, keptL, keptW, keptE, kepts, slots, ↓reduceIte, reduceCtorEq, Nat.reduceEqDiff, AV.ren, AV.rens, pos, Nat.reduceAdd]
        simp; omega
    · have hre : restT p (pickT ts (seen ++ [i])) = restT p (pickT ts seen) ++ [(n1, m1, k1.emod p)] := by rw [hpk]; simp [restT, hkz]
      simp (maxSteps := 3000000) only [over4E, heapL, fillA, rd, wrt, wrl, AO.withl, B27_i_rest_F7, B27_g_SortFunc_STerm_Term_F7, g_rest, g_sort, hkz, hp, hm, dia_length, hk.1, hlast, hfind, hone, dia_zero, over_dia0 hk.1, over_trm0 hk.1, over_trm_f (t := (n1, m1, 0)) hk.1, trm_zero, trm_len, trm_zero_len, dia_zero_len, dia_take17 hk.1, ones_trm, src, cast0, cast1, Int.toNat_zero, Option.map_some, Option.map_none, List.length_replicate, over_trm (t := (0, List.replicate 16 0, 0)) (u := (n1, m1, k1.emod p)) (by simp) hk.1, trm_take18 (t := (n1, m1, k1.emod p)) hk.1, htk, htl, idX_eq, wbE, ↓symP, symE, listE, AK.isCall, enumE, ev, putE, abin, aun, AV.cells, ↓reduceIte, reduceCtorEq, Nat.reduceAdd, Nat.reduceMul, Nat.reduceSub, Nat.reduceEqDiff, Nat.reduceLT, Nat.reduceLeDiff, implies_true, Back, retv, retV, AV.scal, AV.scals]; try simp only [idX_eq, ite_both, pickP_both, not_not_eq, Bool.not_eq_false, Bool.not_eq_true]
      refine ⟨rfl, ⟨Nat.le_refl _, by omega⟩, rfl, _, Weak.keep [0, 1, 2, 3, 4, 8] [22, 5, 4, 0] ⟨by decide, ?_⟩ ?_, ⟨seen ++ [i], hnd', hlt', ?_⟩, ?_⟩
      · simp only [mapT_within, ↓esT_within, trms_snoc, withins_scal _ _ (scals_trms _), keepW, keepL, AV.within, AV.withins, ↓reduceIte, reduceCtorEq, Nat.reduceEqDiff, Nat.reduceBEq, implies_true, Nat.reduceAdd]
      · simp only [keepW, keepL, AV.within, AV.withins, ↓reduceIte, reduceCtorEq, Nat.reduceEqDiff, Nat.reduceBEq, implies_true, Nat.reduceAdd]
      · unfold withI
        have hne : (restT p (pickT ts seen) ++ [(n1, m1, k1.emod p)] = []) = False := by simp
        simp only [mapT_ren, ↓esT_ren, trms_snoc, rens_scal _ _ (scals_trms _), hre, hne, List.length_append, List.length_nil, List.length_cons, keptL, keptW, keptE, kepts, slots, ↓reduceIte, reduceCtorEq, Nat.reduceEqDiff, AV.ren, AV.rens, pos, Nat.reduceAdd]
        rfl
      · simp only [withM]
        simp only [mapT_ren, ↓esT_ren, keptL, keptW, keptE, kepts, slots, ↓reduceIte, reduceCtorEq, Nat.reduceEqDiff, AV.ren, AV.rens, pos, Nat.reduceAdd]
        simp; omega
end Go.Proofs.Ytkgoadglalpbfaa
