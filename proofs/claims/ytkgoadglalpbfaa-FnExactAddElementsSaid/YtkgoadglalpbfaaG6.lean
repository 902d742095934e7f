/- Contracts: the spec's sum of elements. -/
import Derived.Test.YtkgoadglalpbfaaG5
namespace Go.Proofs.Ytkgoadglalpbfaa
open Go.Am Go.Dia
set_option linter.unusedSimpArgs false
set_option linter.unusedVariables false
set_option maxRecDepth 4000
set_option maxHeartbeats 1000000

def sumL (p n k : Int) (acc b : List (Int × List Nat × Int)) : List (Int × List Nat × Int) := b.foldl (fun acc t => putT p acc n t.2.1 (k * t.2.2)) acc
theorem sumL_succ {p n k : Int} {a b : List (Int × List Nat × Int)} {i : Nat} (h : i < b.length) : sumL p n k a (b.take (i + 1)) = putT p (sumL p n k a (b.take i)) n b[i].2.1 (k * b[i].2.2) := by
  rw [List.take_succ_eq_append_getElem h, sumL, List.foldl_append]; rfl
theorem sumL_good {p n k : Int} {a : List (Int × List Nat × Int)} (hp : 0 < p) (ha : GoodT p n a) : ∀ {b : List (Int × List Nat × Int)}, GoodT p n b → GoodT p n (sumL p n k a b) ∧ (sumL p n k a b).length ≤ a.length + b.length := by
  intro b
  unfold sumL
  induction b generalizing a with
  | nil => exact fun _ => ⟨ha, by simp⟩
  | cons t b ih =>
    intro hb
    have h1 := putT_good (k := k * t.2.2) hp (hb.ok t (List.mem_cons_self ..)) (hb.dia t (List.mem_cons_self ..)).2 ha
    have h2 := putT_len (p := p) (n := n) (m := t.2.1) (k := k * t.2.2) (ts := a)
    have h3 := ih h1 ⟨fun u h => hb.ok u (List.mem_cons_of_mem _ h), fun u h => hb.dia u (List.mem_cons_of_mem _ h), fun u h => hb.fac u (List.mem_cons_of_mem _ h), (List.pairwise_cons.1 hb.up).2⟩
    rw [List.foldl_cons]
    refine ⟨h3.1, ?_⟩
    have := h3.2
    simp only [List.length_cons]; omega
theorem B36_s_l02Empty_G6 : B36 70 = some (g_empty) := rfl
theorem B36_s_l02Put_G6 : B36 61 = some (g_put) := rfl
def a_s_l02Sum_l1 : AC := .seq (.seq (.region [⟨some 17, none, .op (.mov (.t 8))⟩,
         ⟨some 18, none, .op (.faddr 3 (.t 4))⟩,
         ⟨some 19, none, .op (.load1 (.t 18))⟩,
         ⟨some 20, none, .op (.len .slc (.t 19))⟩,
         ⟨some 21, none, .op (.bin .lss (.t 17) (.t 20))⟩]) (.cond 21 .skip (.exit 0))) (.seq (.block 1 (.draw false [⟨some 24, none, .op (.faddr 0 (.t 3))⟩,
         ⟨some 25, none, .op (.load1 (.t 24))⟩,
         ⟨some 26, none, .op (.faddr 3 (.t 7))⟩,
         ⟨some 27, none, .op (.load1 (.t 26))⟩,
         ⟨some 28, none, .op (.faddr 3 (.t 4))⟩,
         ⟨some 29, none, .op (.load1 (.t 28))⟩,
         ⟨some 30, none, .op (.mov (.t 8))⟩,
         ⟨some 31, none, .op (.iaddrS 18 (.t 29) (.t 30))⟩,
         ⟨some 32, none, .op (.faddr 0 (.t 31))⟩,
         ⟨some 33, none, .op (.loadN 17 (.t 32))⟩,
         ⟨some 34, none, .op (.mov (.t 2))⟩,
         ⟨some 35, none, .op (.faddr 3 (.t 4))⟩,
         ⟨some 36, none, .op (.load1 (.t 35))⟩,
         ⟨some 37, none, .op (.mov (.t 8))⟩,
         ⟨some 38, none, .op (.iaddrS 18 (.t 36) (.t 37))⟩,
         ⟨some 39, none, .op (.faddr 17 (.t 38))⟩,
         ⟨some 40, none, .op (.load1 (.t 39))⟩,
         ⟨some 41, none, .op (.bin .mul (.t 34) (.t 40))⟩,
         ⟨some 42, none, .call (.c (.fn 61 [] [])) [(.t 25), (.t 27), (.t 33), (.t 41)]⟩,
         ⟨some 43, none, .op (.faddr 3 (.t 7))⟩,
         ⟨none, none, .op (.store1 (.t 43) (.t 42))⟩])) (.region [⟨some 22, none, .op (.mov (.t 8))⟩,
       ⟨some 23, none, .op (.bin .add (.t 22) (.c (.int .i64 1)))⟩,
       ⟨some 8, none, .op (.mov (.t 23))⟩]))
def a_s_l02Sum_k1 : AC := .seq (.region [⟨some 44, none, .op (.loadN 4 (.t 7))⟩,
     ⟨none, none, .op (.storeN 4 (.t 6) (.t 44))⟩]) .ret
def a_s_l02Sum : AC := .seq (.region [⟨some 3, none, .op (.box (.t 0))⟩,
     ⟨some 4, none, .op (.box (.t 1))⟩,
     ⟨some 6, none, .op (.alloc [(.int .i64 0), (.int .i64 0), (.int .i64 0), (.v (.slice none 0 0))])⟩]) (.seq (.region [⟨some 9, none, .op (.loadN 4 (.t 3))⟩,
     ⟨some 10, none, .call (.c (.fn 70 [] [])) [(.t 9)]⟩,
     ⟨some 7, none, .op (.alloc [(.int .i64 0), (.int .i64 0), (.int .i64 0), (.v (.slice none 0 0))])⟩,
     ⟨none, none, .op (.storeN 4 (.t 7) (.t 10))⟩]) (.seq (.region [⟨some 11, none, .op (.faddr 3 (.t 7))⟩,
     ⟨some 12, none, .op (.load1 (.t 11))⟩,
     ⟨some 13, none, .op (.faddr 3 (.t 3))⟩,
     ⟨some 14, none, .op (.load1 (.t 13))⟩,
     ⟨some 15, none, .op (.append 18 32 (.t 12) (.t 14))⟩,
     ⟨some 16, none, .op (.faddr 3 (.t 7))⟩,
     ⟨none, none, .op (.store1 (.t 16) (.t 15))⟩]) (.seq (.seq (.region [⟨some 8, none, .op (.mov (.c (.int .i64 0)))⟩]) (.block 0 (.loop a_s_l02Sum_l1))) a_s_l02Sum_k1)))
theorem r_s_l02Sum : readF Try.prog 69 = some ⟨45, a_s_l02Sum, [.cellN 6 4]⟩ := by kernel_rfl
theorem c_s_l02Sum (p c n p' c' k : Int) (a b : List (Int × List Nat × Int)) (hp : 2 ≤ p ∧ p ≤ 97) (hn : 0 ≤ n ∧ n ≤ 8) (ha : GoodT p n a) (hb : GoodT p n b) (hl : a.length ≤ 100000 ∧ b.length ≤ 100000) (hk : -1000000 ≤ k ∧ k ≤ 1000000) :
    Am.Fn Try.prog 69 [elemV p c n 0 a.length, elemV p' c' n 1 b.length, .int .i64 k] [.ro (trms a), .ro (trms b)] (fun v H' => v = elemV p c n 2 (sumL p n k a b).length ∧ H' = [.ro (trms a), .ro (trms b), .vec 18 (trms (sumL p n k a b))]) := by
  refine Am.Fn.ofB B36_ok mixed r_s_l02Sum (by simp [elemV, AV.unders, AV.under]) (ro_under2 (scals_trms _) (scals_trms _)) ?_
  have hal := trms_length ha.ok
  have hbl := trms_length hb.ok
  have hones : ∀ l, (trms l).all AV.one = true := fun l => by
    simp only [trms, List.all_flatMap]; simp [ones_trm]
  have htt : List.take (a.length * 18) (trms a) = trms a := by rw [List.take_of_length_le (by omega)]
  have hby : a.length * 32 ≤ 1099511627776 := by omega
  simp (maxSteps := 3000000) only [over4E, heapL, fillA, rd, wrt, wrl, AO.withl, a_s_l02Sum, B36_s_l02Empty_G6, B36_s_l02Put_G6, g_empty, g_put, elemV, src, hal, hones, htt, hby, Nat.le_refl, Int.reduceEq, Int.reduceNe, Int.reduceBEq, Int.reduceBNe, Int.reduceLT, Int.reduceLE, Int.reduceAdd, Int.reduceSub, Int.reduceMul, idX_eq, wbE, ↓symP, symE, listE, AK.isCall, enumE, ev, putE, abin, aun, AV.cells, ↓reduceIte, reduceCtorEq, Nat.reduceAdd, Nat.reduceMul, Nat.reduceSub, Nat.reduceEqDiff, Nat.reduceLT, Nat.reduceLeDiff, implies_true, Back, retv, retV, AV.scal, AV.scals]; try simp only [idX_eq, ite_both, pickP_both, not_not_eq, Bool.not_eq_false, Bool.not_eq_true]
  refine ⟨rfl, rfl, ?_⟩
  refine WA.loopB B36_ok (fun s => ∃ (i : Nat) (acc : List (Int × List Nat × Int)), i ≤ b.length ∧ acc = sumL p n k a (b.take i) ∧
      s = ⟨[(8, .int .i64 i), (7, .ptr 5 0), (6, .ptr 4 0), (4, .ptr 3 0), (3, .ptr 2 0), (2, .int .i64 k)], [.ro (trms a), .ro (trms b), .cells [.int .i64 p, .int .i64 c, .int .i64 n, .slc 0 0 a.length false 0],
        .cells [.int .i64 p', .int .i64 c', .int .i64 n, .slc 1 0 b.length false 0], .cells [.int .i64 0, .int .i64 0, .int .i64 0, .v (.slice none 0 0)], .cells [.int .i64 p, .int .i64 c, .int .i64 n, .slc 6 0 acc.length false 0], .vec 18 (trms acc)]⟩)
    (fun s => match get s.env 8 with | .int _ x => b.length - x.toNat | _ => 0) ⟨_, Weak.keep [0, 1, 2, 3, 4, 6, 7] [8, 7, 6, 4, 3, 2] ⟨by decide, ?_⟩ ?_, 0, a, by omega, by simp [sumL], ?_⟩ ?_
  · simp only [withins_scal _ _ (scals_trms _), keepW, keepL, AV.within, AV.withins, ↓reduceIte, reduceCtorEq, Nat.reduceEqDiff, Nat.reduceBEq, implies_true, Nat.reduceAdd]
  · simp only [withins_scal _ _ (scals_trms _), keepW, keepL, AV.within, AV.withins, ↓reduceIte, reduceCtorEq, Nat.reduceEqDiff, Nat.reduceBEq, implies_true, Nat.reduceAdd]
  · simp only [rens_scal _ _ (scals_trms _), keptL, keptW, keptE, kepts, slots, ↓reduceIte, reduceCtorEq, Nat.reduceEqDiff, AV.ren, AV.rens, pos, Nat.reduceAdd]
    rfl
  rintro s ⟨i, acc, hi, hacc, rfl⟩
  by_cases hlt : i < b.length
  · have hg := sumL_good (k := k) (p := p) (by omega) ha (b := b.take i) ⟨fun u h => hb.ok u (List.mem_of_mem_take h), fun u h => hb.dia u (List.mem_of_mem_take h), fun u h => hb.fac u (List.mem_of_mem_take h), hb.up.sublist (List.take_sublist ..)⟩
    rw [← hacc] at hg
    have hgl := hg.2
    rw [List.length_take, Nat.min_eq_left hi] at hgl
    have hli : (i : Int) < b.length := by omega
    have hli' : (0 : Int) ≤ i := by omega
    have hd := trms_dia17 hb.ok hlt
    have hf := trms_fac hb.ok hlt
    have hok := hb.ok _ (List.getElem_mem hlt)
    have hsz := hb.dia _ (List.getElem_mem hlt)
    have hfc := hb.fac _ (List.getElem_mem hlt)
    rw [hsz.1] at hd
    have hnext := sumL_succ (p := p) (n := n) (k := k) (a := a) hlt
    rw [← hacc] at hnext
    generalize b[i].2.1 = m at hd hok hsz hnext
    generalize b[i].2.2 = f at hf hfc hnext
    have hkf : wrapK .i64 (k * f) = k * f := by
      have h1 : -1000000 * f ≤ k * f := Int.mul_le_mul_of_nonneg_right (by omega) (by omega)
      have h2 : k * f ≤ 1000000 * f := Int.mul_le_mul_of_nonneg_right (by omega) (by omega)
      generalize k * f = q at h1 h2 ⊢
      rw [wrap64 (by omega) (by omega)]
    have hw : wrapK .i64 ((i : Int) + 1) = ((i + 1 : Nat) : Int) := by rw [wrap64 (by omega) (by omega)]; rfl
    have hb1 : i * 18 < b.length * 18 := by omega
    have hb2 : i * 18 + 17 ≤ b.length * 18 := by omega
    have hb3 : i * 18 + 17 < b.length * 18 := by omega
    have hfit := hg.1.fit (by omega) (by omega)
    have hacl := trms_length hg.1.ok
    have hpp : 0 < p ∧ p ≤ 1000000 := by omega
    have hrf : ∀ (x : AV) (l : List AV), x = x := fun _ _ => rfl
    by_cases hz : (k * f).emod p = 0
    · simp (maxSteps := 3000000) only [over4E, heapL, fillA, rd, wrt, wrl, AO.withl, a_s_l02Sum_l1, B36_s_l02Empty_G6, B36_s_l02Put_G6, g_empty, g_put, hli, hli', hbl, hb1, hb2, hb3, hd, hf, hkf, hw, tsOf_trms' hg.1.ok, diaOf_dia hok, hacl, hpp, hn, hfit, hz, and_self, Int.reduceEq, Int.reduceNe, Int.reduceBEq, Int.reduceBNe, Int.reduceLT, Int.reduceLE, Int.reduceAdd, Int.reduceSub, Int.reduceMul, idX_eq, wbE, ↓symP, symE, listE, AK.isCall, enumE, ev, putE, abin, aun, AV.cells, ↓reduceIte, reduceCtorEq, Nat.reduceAdd, Nat.reduceMul, Nat.reduceSub, Nat.reduceEqDiff, Nat.reduceLT, Nat.reduceLeDiff, implies_true, Back, retv, retV, AV.scal, AV.scals]; try simp only [idX_eq, ite_both, pickP_both, not_not_eq, Bool.not_eq_false, Bool.not_eq_true]
      refine ⟨rfl, _, Weak.keep [0, 1, 2, 3, 4, 5, 6] [8, 7, 6, 4, 3, 2] ⟨by decide, ?_⟩ ?_, ⟨i + 1, acc, by omega, by rw [hnext, putT_eq, if_pos hz], ?_⟩, ?_⟩
      · simp only [withins_scal _ _ (scals_trms _), keepW, keepL, AV.within, AV.withins, ↓reduceIte, reduceCtorEq, Nat.reduceEqDiff, Nat.reduceBEq, implies_true, Nat.reduceAdd]
      · simp only [withins_scal _ _ (scals_trms _), keepW, keepL, AV.within, AV.withins, ↓reduceIte, reduceCtorEq, Nat.reduceEqDiff, Nat.reduceBEq, implies_true, Nat.reduceAdd]
      · simp only [rens_scal _ _ (scals_trms _), keptL, keptW, keptE, kepts, slots, ↓reduceIte, reduceCtorEq, Nat.reduceEqDiff, AV.ren, AV.rens, pos, Nat.reduceAdd]
      · simp only [keptL, keptW, keptE, kepts, slots, ↓reduceIte, reduceCtorEq, Nat.reduceEqDiff, AV.ren, AV.rens, pos, Nat.reduceAdd]; omega
    · simp (maxSteps := 3000000) only [over4E, heapL, fillA, rd, wrt, wrl, AO.withl, a_s_l02Sum_l1, B36_s_l02Empty_G6, B36_s_l02Put_G6, g_empty, g_put, hli, hli', hbl, hb1, hb2, hb3, hd, hf, hkf, hw, tsOf_trms' hg.1.ok, diaOf_dia hok, hacl, hpp, hn, hfit, hz, and_self, Int.reduceEq, Int.reduceNe, Int.reduceBEq, Int.reduceBNe, Int.reduceLT, Int.reduceLE, Int.reduceAdd, Int.reduceSub, Int.reduceMul, idX_eq, wbE, ↓symP, symE, listE, AK.isCall, enumE, ev, putE, abin, aun, AV.cells, ↓reduceIte, reduceCtorEq, Nat.reduceAdd, Nat.reduceMul, Nat.reduceSub, Nat.reduceEqDiff, Nat.reduceLT, Nat.reduceLeDiff, implies_true, Back, retv, retV, AV.scal, AV.scals]; try simp only [idX_eq, ite_both, pickP_both, not_not_eq, Bool.not_eq_false, Bool.not_eq_true]
      refine ⟨rfl, _, Weak.keep [0, 1, 2, 3, 4, 5, 7] [8, 7, 6, 4, 3, 2] ⟨by decide, ?_⟩ ?_, ⟨i + 1, putT p acc n m (k * f), by omega, hnext.symm, ?_⟩, ?_⟩
      · simp only [withins_scal _ _ (scals_trms _), keepW, keepL, AV.within, AV.withins, ↓reduceIte, reduceCtorEq, Nat.reduceEqDiff, Nat.reduceBEq, implies_true, Nat.reduceAdd]
      · simp only [withins_scal _ _ (scals_trms _), keepW, keepL, AV.within, AV.withins, ↓reduceIte, reduceCtorEq, Nat.reduceEqDiff, Nat.reduceBEq, implies_true, Nat.reduceAdd]
      · simp only [rens_scal _ _ (scals_trms _), keptL, keptW, keptE, kepts, slots, ↓reduceIte, reduceCtorEq, Nat.reduceEqDiff, AV.ren, AV.rens, pos, Nat.reduceAdd]
      · simp only [keptL, keptW, keptE, kepts, slots, ↓reduceIte, reduceCtorEq, Nat.reduceEqDiff, AV.ren, AV.rens, pos, Nat.reduceAdd]; omega
  · have hli : ¬ ((i : Int) < b.length) := by omega
    simp (maxSteps := 3000000) only [over4E, heapL, fillA, rd, wrt, wrl, AO.withl, a_s_l02Sum_l1, a_s_l02Sum_k1, B36_s_l02Empty_G6, B36_s_l02Put_G6, g_empty, g_put, hli, Int.reduceEq, Int.reduceNe, Int.reduceBEq, Int.reduceBNe, Int.reduceLT, Int.reduceLE, Int.reduceAdd, Int.reduceSub, Int.reduceMul, idX_eq, wbE, ↓symP, symE, listE, AK.isCall, enumE, ev, putE, abin, aun, AV.cells, ↓reduceIte, reduceCtorEq, Nat.reduceAdd, Nat.reduceMul, Nat.reduceSub, Nat.reduceEqDiff, Nat.reduceLT, Nat.reduceLeDiff, implies_true, Back, retv, retV, AV.scal, AV.scals]; try simp only [idX_eq, ite_both, pickP_both, not_not_eq, Bool.not_eq_false, Bool.not_eq_true]
    obtain rfl : i = b.length := by omega
    rw [List.take_length] at hacc
    subst hacc
    refine ⟨rfl, ?_⟩
    refine Ret.keep [0, 1, 6] ⟨⟨by simp, rfl, by decide⟩, ?_⟩ (rs := [.agg [.int .i64 p, .int .i64 c, .int .i64 n, .slc 6 0 (sumL p n k a b).length false 0]]) rfl rfl (by simp [retV]) ?_ ⟨?_, ?_⟩
    · simp only [withins_scal _ _ (scals_trms _), keepW, keepL, AV.within, AV.withins, ↓reduceIte, reduceCtorEq, Nat.reduceEqDiff, Nat.reduceBEq, implies_true, Nat.reduceAdd]
    · intro j l; match j with
      | 0 => simp [kepts, AO.ren]
      | 1 => simp [kepts, AO.ren]
      | 2 => simp [kepts, AO.ren]
      | j + 3 => simp [kepts]
    · simp only [retV]
      simp only [keptL, keptW, keptE, kepts, slots, ↓reduceIte, reduceCtorEq, Nat.reduceEqDiff, AV.ren, AV.rens, pos, Nat.reduceAdd]
    · simp only [rens_scal _ _ (scals_trms _), keptL, keptW, keptE, kepts, slots, ↓reduceIte, reduceCtorEq, Nat.reduceEqDiff, AV.ren, AV.rens, pos, Nat.reduceAdd]

def goodT (p n : Int) (ts : List (Int × List Nat × Int)) : Prop := (∀ t ∈ ts, t.1 = n ∧ isS n.toNat t.2.1 = true) ∧ (∀ t ∈ ts, 1 ≤ t.2.2 ∧ t.2.2 ≤ p - 1) ∧ (ts.Pairwise fun a b => ltT a b = true)
instance {p n : Int} {ts : List (Int × List Nat × Int)} : Decidable (goodT p n ts) := by unfold goodT; infer_instance
theorem goodT.good {p n : Int} {ts : List (Int × List Nat × Int)} (h : goodT p n ts) (ho : okT ts) : GoodT p n ts := ⟨ho, h.1, h.2.1, h.2.2⟩
theorem GoodT.dec {p n : Int} {ts : List (Int × List Nat × Int)} (h : GoodT p n ts) : goodT p n ts := ⟨h.dia, h.fac, h.up⟩
def g_sum : BE := fun hp xs => match xs with
  | [.agg [.int .i64 p, .int .i64 c, .int .i64 n, .slc b 0 la false 0], .agg [.int .i64 p', .int .i64 c', .int .i64 n', .slc b' 0 lb false 0], .int .i64 k] => match rd hp b, rd hp b' with
    | some L, some L' => match tsOf la L, tsOf lb L' with
      | some ta, some tb => chk ((((2 ≤ p ∧ p ≤ 97) ∧ (0 ≤ n ∧ n ≤ 8) ∧ n' = n) ∧ goodT p n ta ∧ goodT p n tb) ∧ (ta.length ≤ 100000 ∧ tb.length ≤ 100000) ∧ (-1000000 ≤ k ∧ k ≤ 1000000)) (some (elemV p c n hp.length (sumL p n k ta tb).length, hp ++ [.vec 18 (trms (sumL p n k ta tb))]))
      | _, _ => none
    | _, _ => none
  | _ => none
theorem k_sum : Am.Callee Try.prog 69 g_sum := Callee.fp fun hp xs v hp' he => by
  unfold g_sum at he
  split at he
  · rename_i p c n b la p' c' n' b' lb k
    split at he
    · rename_i L L' hL hL'
      split at he
      · rename_i ta tb h1 h1'
        obtain ⟨⟨⟨⟨a1, a2, a3⟩, a4, a5⟩, a6, a7⟩, he2⟩ := chk_some he
        simp only [Option.some.injEq, Prod.mk.injEq] at he2
        obtain ⟨rfl, rfl⟩ := he2
        obtain ⟨e1, e2, e3, e4⟩ := tsOf_some h1
        obtain ⟨f1, f2, f3, f4⟩ := tsOf_some h1'
        have g1 := trms_length e2
        have g2 := trms_length f2
        subst a3
        refine ⟨[(b, 0), (b', 0)], [elemV p c n' 0 ta.length, elemV p' c' n' 1 tb.length, .int .i64 k], _, _, _, c_s_l02Sum p c n' p' c' k ta tb a1 a2 (a4.good e2) (a5.good f2) a6 a7, by simp [elemV, AV.ren, AV.rens, ofL, e1, f1], rfl,
          ⟨⟨L, hL, by omega, by rw [List.drop_zero, rens_scal _ _ (scals_trms _), g1, e1]; exact e3⟩, ⟨L', hL', by omega, by rw [List.drop_zero, rens_scal _ _ (scals_trms _), g2, f1]; exact f3⟩, trivial⟩, rfl,
          ⟨unders_scal _ _ (scals_trms _), unders_scal _ _ (scals_trms _), trivial⟩, ⟨⟨trivial, trivial, trivial, by simp [AV.under], trivial⟩, ⟨trivial, trivial, trivial, by simp [AV.under], trivial⟩, trivial, trivial⟩, by simp [elemV, AV.ren, AV.rens, Ren.ext], ?_⟩
        simp [after, upd, AO.wr, AO.ren, rens_scal _ _ (scals_trms _)]
      · cases he
    · cases he
  · cases he
def B37 : Book := (B36.put 69 (g_sum))
theorem B37_ok : BookOk Try.prog B37 := (B36_ok.put (k_sum))

end Go.Proofs.Ytkgoadglalpbfaa
