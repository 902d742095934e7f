/- Contracts: sums of elements, the spec's side. -/
import Derived.Test.YtkgoadglalpbfaaG4
namespace Go.Proofs.Ytkgoadglalpbfaa
open Go.Am Go.Dia
set_option linter.unusedSimpArgs false
set_option linter.unusedVariables false
set_option maxRecDepth 4000
set_option maxHeartbeats 1000000


def a_s_l02Empty : AC := .seq (.region [⟨some 1, none, .op (.box (.t 0))⟩,
     ⟨some 2, none, .op (.alloc [(.int .i64 0), (.int .i64 0), (.int .i64 0), (.v (.slice none 0 0))])⟩]) (.seq (.region [⟨some 3, none, .op (.faddr 0 (.t 1))⟩,
     ⟨some 4, none, .op (.load1 (.t 3))⟩,
     ⟨some 5, none, .op (.faddr 1 (.t 1))⟩,
     ⟨some 6, none, .op (.load1 (.t 5))⟩,
     ⟨some 7, none, .op (.faddr 2 (.t 1))⟩,
     ⟨some 8, none, .op (.load1 (.t 7))⟩,
     ⟨some 9, none, .op (.mkslc 0 [] [])⟩,
     ⟨some 10, none, .op (.build [(.int .i64 0), (.int .i64 0), (.int .i64 0), (.v (.slice none 0 0))] [(0, 1, (.t 4)), (1, 1, (.t 6)), (2, 1, (.t 8)), (3, 1, (.t 9))])⟩,
     ⟨none, none, .op (.storeN 4 (.t 2) (.t 10))⟩]) .ret)
theorem r_s_l02Empty : readF Try.prog 70 = some ⟨11, a_s_l02Empty, [.cellN 2 4]⟩ := by kernel_rfl
theorem c_s_l02Empty (p c n : Int) (k : Nat) :
    Am.Fn Try.prog 70 [elemV p c n 0 k] [.ro []] (fun v H' => v = elemV p c n 1 0 ∧ H' = [.ro [], .vec 18 []]) := by
  refine Am.Fn.ofW B35_ok mixed r_s_l02Empty (by simp [elemV, AV.unders, AV.under]) (ro_under rfl) ?_
  simp (maxSteps := 3000000) only [over4E, heapL, fillA, rd, wrt, wrl, AO.withl, a_s_l02Empty, idX_eq, elemV, Int.reduceEq, Int.reduceNe, Int.reduceBEq, Int.reduceBNe, Int.reduceLT, Int.reduceLE, Int.reduceAdd, Int.reduceSub, Int.reduceMul, rep, idX_eq, wbE, ↓symP, symE, listE, AK.isCall, enumE, ev, putE, abin, aun, AV.cells, ↓reduceIte, reduceCtorEq, Nat.reduceAdd, Nat.reduceMul, Nat.reduceSub, Nat.reduceEqDiff, Nat.reduceLT, Nat.reduceLeDiff, implies_true, Back, retv, retV, AV.scal, AV.scals]; try simp only [idX_eq, ite_both, pickP_both, not_not_eq, Bool.not_eq_false, Bool.not_eq_true]
  refine ⟨rfl, _, Weak.trans (Weak.slots [2]) (Weak.vec 3 0 18 (by decide) rfl rfl rfl rfl), ?_⟩
  refine Ret.keep [0, 3] ⟨⟨by simp, rfl, by decide⟩, ?_⟩ (rs := [.agg [.int .i64 p, .int .i64 c, .int .i64 n, .slc 3 0 0 false 0]]) ?_ rfl (by simp [retV]) ?_ ⟨?_, ?_⟩
  · simp only [slots, get_put, vecs, List.map_cons, List.map_nil, AV.toVec, AO.toVec, AV.toVecs, toVecs_scal _ _ _ (scals_dia _ _), toVecs_scal _ _ _ (scals_u8s _), toVecs_scal _ _ _ (scals_i64s _), toVecs_scal _ _ _ (scals_n64s _), List.set_cons_zero, List.set_cons_succ, List.getElem?_cons_zero, List.getElem?_cons_succ, reduceIte, and_self, Nat.reduceEqDiff, reduceCtorEq, false_and, and_false, AV.exact, AV.exacts, AO.exact, List.all_cons, List.all_nil, exacts_scal _ _ (scals_dia _ _), exacts_scal _ _ (scals_u8s _), exacts_scal _ _ (scals_i64s _), exacts_scal _ _ (scals_n64s _), Bool.and_self, Bool.and_true, Bool.or_true, Bool.or_false, Nat.reduceBEq, beq_self_eq_true, Bool.not_true, Bool.not_false, List.cons_append, List.nil_append]
    simp only [keepW, keepL, AV.within, AV.withins, ↓reduceIte, reduceCtorEq, Nat.reduceEqDiff, Nat.reduceBEq, implies_true, Nat.reduceAdd]
  · simp only [slots, get_put, vecs, List.map_cons, List.map_nil, AV.toVec, AO.toVec, AV.toVecs, toVecs_scal _ _ _ (scals_dia _ _), toVecs_scal _ _ _ (scals_u8s _), toVecs_scal _ _ _ (scals_i64s _), toVecs_scal _ _ _ (scals_n64s _), List.set_cons_zero, List.set_cons_succ, List.getElem?_cons_zero, List.getElem?_cons_succ, reduceIte, and_self, Nat.reduceEqDiff, reduceCtorEq, false_and, and_false, AV.exact, AV.exacts, AO.exact, List.all_cons, List.all_nil, exacts_scal _ _ (scals_dia _ _), exacts_scal _ _ (scals_u8s _), exacts_scal _ _ (scals_i64s _), exacts_scal _ _ (scals_n64s _), Bool.and_self, Bool.and_true, Bool.or_true, Bool.or_false, Nat.reduceBEq, beq_self_eq_true, Bool.not_true, Bool.not_false, List.cons_append, List.nil_append]
    rfl
  · intro j l; match j with
    | 0 => simp [kepts, vecs, AO.toVec, AO.ren]
    | 1 => simp [kepts, vecs, AO.toVec, AO.ren]
    | j + 2 => simp [kepts]
  · simp only [retV]
    simp only [keptL, keptW, keptE, kepts, slots, ↓reduceIte, reduceCtorEq, Nat.reduceEqDiff, AV.ren, AV.rens, pos, Nat.reduceAdd]
  · rfl
def g_empty : BE := fun hp xs => match xs with
  | [.agg [.int .i64 p, .int .i64 c, .int .i64 n, .slc b 0 k false 0]] => match rd hp b with
    | some _ => some (elemV p c n hp.length 0, hp ++ [.vec 18 []])
    | none => none
  | _ => none
theorem k_empty : Am.Callee Try.prog 70 g_empty := Callee.fp fun hp xs v hp' he => by
  unfold g_empty at he
  split at he
  · rename_i p c n b k
    split at he
    · rename_i L hL
      simp only [Option.some.injEq, Prod.mk.injEq] at he
      obtain ⟨rfl, rfl⟩ := he
      refine ⟨[(b, 0)], [elemV p c n 0 k], _, _, _, c_s_l02Empty p c n k, by simp [elemV, AV.ren, AV.rens, ofL], rfl, ⟨⟨L, hL, by simp, by simp [AV.rens]⟩, trivial⟩, rfl, ⟨trivial, trivial⟩, ⟨⟨trivial, trivial, trivial, by simp [AV.under], trivial⟩, trivial⟩, by simp [elemV, AV.ren, AV.rens, Ren.ext], ?_⟩
      simp [after, upd, AO.wr, AO.ren, AV.rens]
    · cases he
  · cases he
def B36 : Book := (B35.put 70 (g_empty))

theorem B36_ok : BookOk Try.prog B36 := (B35_ok.put (k_empty))

/-- Diagrams that are right and have one text are one. -/
theorem text_inj {n n' : Nat} {m m' : List Nat} (h : isS n m = true) (h' : isS n' m' = true) (hm : m.length = 16) (hm' : m'.length = 16) (e : textOf n m = textOf n' m') : n = n' ∧ m = m' := by
  rw [isS_eq_isI n m hm] at h
  rw [isS_eq_isI n' m' hm'] at h'
  simp only [isI, Bool.and_eq_true, beq_iff_eq] at h h'
  have h1 := h.2.2
  rw [e, h'.2.2] at h1
  simp only [Option.some.injEq, Prod.mk.injEq] at h1
  exact ⟨h1.1.symm, h1.2.symm⟩

/-- Terms of an element, the factors within bounds. -/
structure GoodT (p n : Int) (ts : List (Int × List Nat × Int)) : Prop where
  ok : okT ts
  dia : ∀ t ∈ ts, t.1 = n ∧ isS n.toNat t.2.1 = true
  fac : ∀ t ∈ ts, 1 ≤ t.2.2 ∧ t.2.2 ≤ p - 1
  up : upT ts
theorem GoodT.fit {p n : Int} {ts : List (Int × List Nat × Int)} (h : GoodT p n ts) (hp : p ≤ 1000000) (hl : ts.length ≤ 1000000) : fitT n ts :=
  ⟨hl, fun t ht => (h.dia t ht).1, fun t ht => by have := h.fac t ht; omega, h.up⟩
theorem goodT_of {p c n : Int} {ts : List (Int × List Nat × Int)} (ho : okT ts) (h : elemB p c n ts = true) : GoodT p n ts := by
  simp only [elemB, Bool.and_eq_true, decide_eq_true_eq, List.all_eq_true, List.mem_range] at h
  have hg : ∀ i (hi : i < ts.length), isS ts[i].1.toNat ts[i].2.1 = true ∧ ts[i].1 = n ∧ (1 ≤ ts[i].2.2 ∧ ts[i].2.2 ≤ p - 1) ∧ (i = 0 ∨ ltT (ts.getD (i - 1) zT) ts[i] = true) := fun i hi => by
    have := h.2 i hi
    simp only [goodB, getD_at hi, Bool.and_eq_true, Bool.or_eq_true, beq_iff_eq, decide_eq_true_eq] at this
    exact ⟨this.1.1.1, this.1.1.2, this.1.2, this.2⟩
  have hstep : ∀ i j, i < j → ∀ (hj : j < ts.length), ltT (ts.getD i zT) (ts.getD j zT) = true := by
    intro i j hij
    induction j with
    | zero => omega
    | succ j ih =>
      intro hj
      have h1 := (hg (j + 1) hj).2.2.2
      have h2 : ltT (ts.getD j zT) (ts.getD (j + 1) zT) = true := by
        rcases h1 with h1 | h1
        · omega
        · rw [getD_at hj]; exact h1
      by_cases e : i = j
      · subst e; exact h2
      · exact lessB_trans _ _ _ (ih (by omega) (by omega)) h2
  refine ⟨ho, fun t ht => ?_, fun t ht => ?_, ?_⟩
  · obtain ⟨i, hi, rfl⟩ := List.mem_iff_getElem.1 ht
    have := hg i hi
    refine ⟨this.2.1, ?_⟩
    rw [← this.2.1]; exact this.1
  · obtain ⟨i, hi, rfl⟩ := List.mem_iff_getElem.1 ht
    exact (hg i hi).2.2.1
  · unfold upT
    rw [List.pairwise_iff_getElem]
    intro i j hi hj hij
    have := hstep i j hij hj
    rwa [getD_at hi, getD_at hj] at this

/-- Putting, term by term. -/
def putL (p n : Int) (m : List Nat) (kk : Int) : List (Int × List Nat × Int) → List (Int × List Nat × Int)
  | [] => [(n, m, kk)]
  | t :: l => if ltT t (n, m, 0) then t :: putL p n m kk l else
    if t.1 = n ∧ t.2.1 = m then (if (t.2.2 + kk).emod p = 0 then [] else [(n, m, (t.2.2 + kk).emod p)]) ++ l else (n, m, kk) :: t :: l
theorem cutT_cons (t : Int × List Nat × Int) (l : List (Int × List Nat × Int)) (n : Int) (m : List Nat) : cutT (t :: l) n m = if ltT t (n, m, 0) = true then cutT l n m + 1 else 0 := by
  unfold cutT
  rw [List.takeWhile_cons]
  split <;> rfl
theorem putT_eq (p n : Int) (m : List Nat) (k : Int) (ts : List (Int × List Nat × Int)) : putT p ts n m k = if k.emod p = 0 then ts else putL p n m (k.emod p) ts := by
  unfold putT
  split
  · rfl
  · rename_i hk
    induction ts with
    | nil => simp [cutT, putL]
    | cons t l ih =>
      rw [cutT_cons]
      unfold putL
      by_cases h : ltT t (n, m, 0) = true
      · simp only [if_pos h, List.length_cons, Nat.add_lt_add_iff_right, List.getD_cons_succ, List.take_succ_cons, List.drop_succ_cons]
        rw [← ih]
        split <;> simp
      · simp only [if_neg h, List.length_cons, List.getD_cons_zero, List.take_zero, List.drop_zero, List.nil_append, List.drop_succ_cons]
        by_cases h2 : t.1 = n ∧ t.2.1 = m
        · rw [if_pos ⟨by omega, h2⟩, if_pos h2]
        · rw [if_neg (fun h3 => h2 h3.2), if_neg h2]

theorem putL_len {p n : Int} {m : List Nat} {kk : Int} : ∀ {ts : List (Int × List Nat × Int)}, (putL p n m kk ts).length ≤ ts.length + 1
  | [] => Nat.le_refl _
  | t :: l => by
    unfold putL
    split
    · have := putL_len (p := p) (n := n) (m := m) (kk := kk) (ts := l)
      simp only [List.length_cons]; omega
    · split
      · split <;> simp <;> omega
      · simp
theorem putL_mem {p n : Int} {m : List Nat} {kk : Int} {u : Int × List Nat × Int} : ∀ {ts : List (Int × List Nat × Int)}, u ∈ putL p n m kk ts → u ∈ ts ∨ (u.1 = n ∧ u.2.1 = m ∧ (u.2.2 = kk ∨ ∃ f : Int, u.2.2 = (f + kk).emod p ∧ (f + kk).emod p ≠ 0))
  | [], h => by
    rw [putL, List.mem_singleton] at h
    subst h; exact .inr ⟨rfl, rfl, .inl rfl⟩
  | t :: l, h => by
    unfold putL at h
    split at h
    · rcases List.mem_cons.1 h with rfl | h
      · exact .inl (List.mem_cons_self ..)
      · rcases putL_mem h with h | h
        · exact .inl (List.mem_cons_of_mem _ h)
        · exact .inr h
    · split at h
      · split at h
        · exact .inl (List.mem_cons_of_mem _ h)
        · rename_i hne
          rcases List.mem_cons.1 h with rfl | h
          · exact .inr ⟨rfl, rfl, .inr ⟨t.2.2, rfl, hne⟩⟩
          · exact .inl (List.mem_cons_of_mem _ h)
      · rcases List.mem_cons.1 h with rfl | h
        · exact .inr ⟨rfl, rfl, .inl rfl⟩
        · exact .inl h
theorem ltT_of {t u u' : Int × List Nat × Int} (h1 : u.1 = u'.1) (h2 : u.2.1 = u'.2.1) : ltT t u = ltT t u' := by unfold ltT txt; rw [h1, h2]
theorem ltT_of' {t t' u : Int × List Nat × Int} (h1 : t.1 = t'.1) (h2 : t.2.1 = t'.2.1) : ltT t u = ltT t' u := by unfold ltT txt; rw [h1, h2]
theorem putL_up {p n : Int} {m : List Nat} {kk : Int} (hm : okD m) (hs : isS n.toNat m = true) : ∀ {ts : List (Int × List Nat × Int)}, okT ts → (∀ t ∈ ts, t.1 = n ∧ isS n.toNat t.2.1 = true) → upT ts → upT (putL p n m kk ts)
  | [], _, _, _ => by unfold putL upT; exact List.pairwise_singleton _ _
  | t :: l, ho, hd, hu => by
    have hu' := List.pairwise_cons.1 hu
    have ih := putL_up (p := p) (kk := kk) hm hs (ts := l) (fun u h => ho u (List.mem_cons_of_mem _ h)) (fun u h => hd u (List.mem_cons_of_mem _ h)) hu'.2
    unfold putL
    split
    · rename_i hlt
      refine List.pairwise_cons.2 ⟨fun u hu2 => ?_, ih⟩
      rcases putL_mem hu2 with h | ⟨h1, h2, _⟩
      · exact hu'.1 u h
      · rw [ltT_of (u' := (n, m, 0)) h1 h2]; exact hlt
    · rename_i hlt
      split
      · rename_i he
        split
        · exact hu'.2
        · refine List.pairwise_cons.2 ⟨fun u hu2 => ?_, hu'.2⟩
          rw [ltT_of' (t' := t) he.1.symm he.2.symm]
          exact hu'.1 u hu2
      · rename_i he
        have hx : ltT (n, m, kk) t = true := by
          cases hb : ltT (n, m, kk) t with
          | true => rfl
          | false =>
            exfalso
            have hdt := hd t (List.mem_cons_self ..)
            have e := lessB_total _ _ (Bool.eq_false_iff.2 hlt) hb
            unfold txt at e
            simp only [hdt.1] at e
            exact he ⟨hdt.1, (text_inj hdt.2 hs (ho t (List.mem_cons_self ..)).1 hm.1 e).2⟩
        refine List.pairwise_cons.2 ⟨fun u hu2 => ?_, hu⟩
        rcases List.mem_cons.1 hu2 with rfl | h
        · exact hx
        · exact lessB_trans _ _ _ hx (hu'.1 u h)
theorem putT_good {p n : Int} {m : List Nat} {k : Int} {ts : List (Int × List Nat × Int)} (hp : 0 < p) (hm : okD m) (hs : isS n.toNat m = true) (h : GoodT p n ts) : GoodT p n (putT p ts n m k) := by
  rw [putT_eq]
  split
  · exact h
  · rename_i hk
    have b1 : 0 ≤ k.emod p := Int.emod_nonneg k (by omega)
    have b2 : k.emod p < p := Int.emod_lt_of_pos k hp
    refine ⟨fun u hu => ?_, fun u hu => ?_, fun u hu => ?_, putL_up hm hs h.ok h.dia h.up⟩
    · rcases putL_mem hu with h1 | ⟨_, h2, _⟩
      · exact h.ok u h1
      · rw [h2]; exact hm
    · rcases putL_mem hu with h1 | ⟨h1, h2, _⟩
      · exact h.dia u h1
      · rw [h2]; exact ⟨h1, hs⟩
    · rcases putL_mem hu with h1 | ⟨_, _, h3 | ⟨f, h3, h4⟩⟩
      · exact h.fac u h1
      · omega
      · have c1 : 0 ≤ (f + k.emod p).emod p := Int.emod_nonneg _ (by omega)
        have c2 : (f + k.emod p).emod p < p := Int.emod_lt_of_pos _ hp
        omega
theorem putT_len {p n : Int} {m : List Nat} {k : Int} {ts : List (Int × List Nat × Int)} : (putT p ts n m k).length ≤ ts.length + 1 := by
  rw [putT_eq]; split
  · omega
  · exact putL_len
end Go.Proofs.Ytkgoadglalpbfaa
