/- Contracts: along the lines of two diagrams, the reference. -/
import Derived.Test.YtkgoadglalpbfaaK1
import Derived.Test.YtkgoadglalpbfaaH4
namespace Go.Proofs.Ytkgoadglalpbfaa
open Go.Am Go.Dia
set_option linter.unusedSimpArgs false
set_option linter.unusedVariables false
set_option maxRecDepth 4000
set_option maxHeartbeats 1000000

theorem exists_least {p : Nat → Prop} (h : ∃ k, p k) : ∃ k, p k ∧ ∀ j, p j → k ≤ j := by
  obtain ⟨k, hk⟩ := h
  induction k using Nat.strongRecOn with
  | ind k ih =>
    by_cases hj : ∃ j, j < k ∧ p j
    · obtain ⟨j, h1, h2⟩ := hj; exact ih j h1 h2
    · exact ⟨k, hk, fun j h2 => Nat.le_of_not_lt fun h1 => hj ⟨j, h1, h2⟩⟩
open Classical in
noncomputable def leastN (J : Nat → St → Prop) (s : St) : Nat := if h : ∃ k, J k s then Classical.choose (exists_least h) else 0
theorem leastN_ok {J : Nat → St → Prop} {s : St} (h : ∃ k, J k s) : J (leastN J s) s ∧ ∀ j, J j s → leastN J s ≤ j := by
  unfold leastN; rw [dif_pos h]; exact Classical.choose_spec (exists_least h)
/-- A loop whose rounds still to come are counted. -/
theorem loopN {B : Book} (hB : BookOk Try.prog B) {n0 nt : Nat} {Q : AX → St → Prop} {s : St} {a : AC} (J : Nat → St → Prop) (h0 : ∃ s', Weak n0 s s' ∧ ∃ k, J k s')
    (round : ∀ k s, J k s → ∀ (post : St → Prop), (∀ s' s'' k', Weak n0 s' s'' → J k' s'' → k' < k → post s') → wbC Try.prog B n0 nt a (AX.then post Q) s) : WA Try.prog n0 nt (.loop a) Q s := by
  refine WA.loopB hB (fun s => ∃ k, J k s) (leastN J) h0 fun s hs => ?_
  obtain ⟨h1, h2⟩ := leastN_ok hs
  exact round _ s h1 _ fun s' s'' k' hw hj hlt => ⟨s'', hw, ⟨k', hj⟩, Nat.lt_of_le_of_lt ((leastN_ok ⟨k', hj⟩).2 k' hj) hlt⟩

def bls (l : List Bool) : List AV := l.map .bool
theorem bls_length (l : List Bool) : (bls l).length = l.length := by simp [bls]
theorem scals_bls (l : List Bool) : AV.scals (bls l) = true := by
  induction l with
  | nil => rfl
  | cons a l ih => simp only [bls, List.map_cons, AV.scals, AV.scal, Bool.true_and]; exact ih
theorem bls_get {l : List Bool} {i : Nat} (h : i < l.length) : (bls l)[i]? = some (.bool (l.getD i false)) := by
  simp [bls, List.getD_eq_getElem?_getD, h]
theorem bls_set {l : List Bool} {i : Nat} {b : Bool} : (bls l).set i (.bool b) = bls (l.set i b) := by simp [bls, List.map_set]
theorem small8 {x : Nat} (h : x < 8) : ((0 : Int) ≤ (x : Int) ∧ (x : Int) < ((8 : Nat) : Int)) := by omega

def a_s_l01Follow_c1 : AC := .seq (.region [⟨some 18, none, .op (.mov (.t 2))⟩,
           ⟨some 19, none, .op (.faddr 1 (.t 5))⟩,
           ⟨some 20, none, .op (.iaddrA 16 1 (.t 19) (.t 18))⟩,
           ⟨some 21, none, .op (.load1 (.t 20))⟩,
           ⟨some 22, none, .op (.conv .i64 (.t 21))⟩,
           ⟨some 13, none, .op (.mov (.t 22))⟩]) (.seq (.seq (.region [⟨some 23, none, .op (.mov (.t 13))⟩,
            ⟨some 24, none, .op (.mov (.t 12))⟩,
            ⟨some 25, none, .op (.bin .lss (.t 23) (.t 24))⟩]) (.cond 25 (.seq (.region [⟨some 26, none, .op (.mov (.t 13))⟩,
              ⟨some 10, none, .op (.mov (.t 26))⟩,
              ⟨some 11, none, .op (.mov (.c (.bool true)))⟩]) .ret) .skip)) (.seq (.region [⟨some 27, none, .op (.mov (.t 4))⟩,
           ⟨some 28, none, .op (.mov (.t 13))⟩,
           ⟨some 29, none, .op (.mov (.t 12))⟩,
           ⟨some 30, none, .op (.bin .sub (.t 28) (.t 29))⟩,
           ⟨some 31, none, .op (.nilchk (.t 27))⟩,
           ⟨some 32, none, .op (.iaddrA 8 1 (.t 31) (.t 30))⟩,
           ⟨none, none, .op (.store1 (.t 32) (.c (.bool true)))⟩]) (.seq (.region [⟨some 33, none, .op (.mov (.t 13))⟩,
           ⟨some 34, none, .op (.mov (.t 12))⟩,
           ⟨some 35, none, .op (.bin .sub (.t 33) (.t 34))⟩,
           ⟨some 2, none, .op (.mov (.t 35))⟩]) (.seq (.region [⟨some 3, none, .op (.mov (.c (.bool false)))⟩]) (.exit 1)))))
def a_s_l01Follow_l1 : AC := .block 1 (.seq (.seq (.region [⟨some 17, none, .op (.mov (.t 3))⟩]) (.cond 17 a_s_l01Follow_c1 .skip)) (.seq (.region [⟨some 36, none, .op (.mov (.t 2))⟩,
        ⟨some 37, none, .op (.faddr 1 (.t 6))⟩,
        ⟨some 38, none, .op (.iaddrA 16 1 (.t 37) (.t 36))⟩,
        ⟨some 39, none, .op (.load1 (.t 38))⟩,
        ⟨some 40, none, .op (.conv .i64 (.t 39))⟩,
        ⟨some 14, none, .op (.mov (.t 40))⟩]) (.seq (.seq (.region [⟨some 41, none, .op (.mov (.t 14))⟩,
         ⟨some 42, none, .op (.mov (.t 12))⟩,
         ⟨some 43, none, .op (.bin .geq (.t 41) (.t 42))⟩]) (.cond 43 (.seq (.region [⟨some 44, none, .op (.mov (.t 14))⟩,
           ⟨some 10, none, .op (.mov (.t 44))⟩,
           ⟨some 11, none, .op (.mov (.c (.bool false)))⟩]) .ret) .skip)) (.seq (.region [⟨some 45, none, .op (.mov (.t 4))⟩,
        ⟨some 46, none, .op (.mov (.t 14))⟩,
        ⟨some 47, none, .op (.nilchk (.t 45))⟩,
        ⟨some 48, none, .op (.iaddrA 8 1 (.t 47) (.t 46))⟩,
        ⟨none, none, .op (.store1 (.t 48) (.c (.bool true)))⟩]) (.seq (.region [⟨some 49, none, .op (.mov (.t 12))⟩,
        ⟨some 50, none, .op (.mov (.t 14))⟩,
        ⟨some 51, none, .op (.bin .add (.t 49) (.t 50))⟩,
        ⟨some 2, none, .op (.mov (.t 51))⟩]) (.region [⟨some 3, none, .op (.mov (.c (.bool true)))⟩]))))))
def a_s_l01Follow : AC := .seq (.region [⟨some 5, none, .op (.box (.t 0))⟩,
     ⟨some 6, none, .op (.box (.t 1))⟩,
     ⟨some 10, none, .op (.mov (.c (.int .i64 0)))⟩,
     ⟨some 11, none, .op (.mov (.c (.bool false)))⟩]) (.seq (.region [⟨some 15, none, .op (.faddr 0 (.t 5))⟩,
     ⟨some 16, none, .op (.load1 (.t 15))⟩,
     ⟨some 12, none, .op (.mov (.t 16))⟩]) (.block 0 (.loop a_s_l01Follow_l1)))
theorem r_s_l01Follow : readF Try.prog 143 = some ⟨52, a_s_l01Follow, [.slot 10, .slot 11]⟩ := by kernel_rfl
theorem c_s_l01Follow (N : Nat) (d e : List Nat) (hd : okD d) (he : okD e) (hds : isS N d = true) (hes : isS N e = true) {f : Nat} {u : Bool} {i : Nat} {met : List Bool} {r : Nat} {s : Bool} {met' : List Bool} (hf : followF N d e f u i met = some (r, s, met')) (hi : i < 2 * N) (hm : met.length = 8) :
    Am.Fn Try.prog 143 [.agg (dia N d), .agg (dia N e), .int .i64 i, .bool u, .ptr 0 0] [.cells (bls met)] (fun v H' => v = .tup [.int .i64 r, .bool s] ∧ H' = [.cells (bls met')]) := by
  refine Am.Fn.ofB B79_ok mixed r_s_l01Follow (by simp [AV.unders, AV.under, unders_scal _ _ (scals_dia _ _)]) (fun j o hj => by
    match j, hj with
    | 0, hj => cases hj; exact unders_scal _ _ (scals_bls _)
    | j + 1, hj => simp at hj) ?_
  obtain ⟨hN, hpd, _⟩ := isS_mate hds
  obtain ⟨_, hpe, _⟩ := isS_mate hes
  have hdl := hd.1
  have hel := he.1
  simp (maxSteps := 3000000) only [over4E, heapL, fillA, rd, wrt, wrl, AO.withl, a_s_l01Follow, idX_eq, dia_length, hdl, hel, dia_get0, Int.reduceEq, Int.reduceNe, Int.reduceBEq, Int.reduceBNe, Int.reduceLT, Int.reduceLE, Int.reduceAdd, Int.reduceSub, Int.reduceMul, idX_eq, wbE, ↓symP, symE, listE, AK.isCall, enumE, ev, putE, abin, aun, AV.cells, ↓reduceIte, reduceCtorEq, Nat.reduceAdd, Nat.reduceMul, Nat.reduceSub, Nat.reduceEqDiff, Nat.reduceLT, Nat.reduceLeDiff, implies_true, Back, retv, retV, AV.scal, AV.scals]; try simp only [idX_eq, ite_both, pickP_both, not_not_eq, Bool.not_eq_false, Bool.not_eq_true]
  refine loopN B79_ok (fun f st => ∃ (u : Bool) (i : Nat) (met : List Bool), followF N d e f u i met = some (r, s, met') ∧ i < 2 * N ∧ met.length = 8 ∧
      st = ⟨[(12, .int .i64 N), (6, .ptr 2 0), (5, .ptr 1 0), (4, .ptr 0 0), (3, .bool u), (2, .int .i64 i)], [.cells (bls met), .cells (dia N d), .cells (dia N e)]⟩) ⟨_, Weak.slots [12, 6, 5, 4, 3, 2], f, u, i, met, hf, hi, hm, rfl⟩ ?_
  clear hf hi hm
  rintro k st ⟨u, i, met, hf, hi, hm, rfl⟩ post hpost
  obtain ⟨hi16, hi16'⟩ := small16 (show i < 16 by omega)
  have hi17 : i < 16 := by omega
  match k, u, hf with
  | 0, _, hf => simp [followF] at hf
  | f + 1, true, hf =>
    have hx := (hpd i hi).1
    have hcx : wrapK .i64 ((d.getD i 0 : Nat) : Int) = ((d.getD i 0 : Nat) : Int) := wrap64N (by omega)
    rw [followF] at hf
    by_cases hlt : d.getD i 0 < N
    · rw [if_pos hlt] at hf
      simp only [Option.some.injEq, Prod.mk.injEq] at hf
      obtain ⟨rfl, rfl, rfl⟩ := hf
      have hli : ((d.getD i 0 : Nat) : Int) < (N : Int) := by omega
      simp (maxSteps := 3000000) only [over4E, heapL, fillA, rd, wrt, wrl, AO.withl, a_s_l01Follow_l1, a_s_l01Follow_c1, hi16, hi16', hi17, dia_length, hdl, hel, hcx, hli, Int.reduceEq, Int.reduceNe, Int.reduceBEq, Int.reduceBNe, Int.reduceLT, Int.reduceLE, Int.reduceAdd, Int.reduceSub, Int.reduceMul, idX_eq, wbE, ↓symP, symE, listE, AK.isCall, enumE, ev, putE, abin, aun, AV.cells, ↓reduceIte, reduceCtorEq, Nat.reduceAdd, Nat.reduceMul, Nat.reduceSub, Nat.reduceEqDiff, Nat.reduceLT, Nat.reduceLeDiff, implies_true, Back, retv, retV, AV.scal, AV.scals]; try simp only [idX_eq, ite_both, pickP_both, not_not_eq, Bool.not_eq_false, Bool.not_eq_true]
      refine Ret.keep [0] ⟨⟨Nat.le_refl 1, rfl, by decide⟩, ?_⟩ (rs := [.int .i64 (d.getD i 0 : Nat), .bool true]) rfl rfl (by simp [retV]) ?_ ⟨?_, ?_⟩
      · simp only [withins_scal _ _ (scals_bls _), keepW, keepL, AV.within, AV.withins, ↓reduceIte, reduceCtorEq, Nat.reduceEqDiff, Nat.reduceBEq, implies_true, Nat.reduceAdd]
      · intro j l; cases j <;> simp [kepts, AO.ren]
      · rfl
      · simp only [rens_scal _ _ (scals_bls _), keptL, keptW, keptE, kepts, slots, ↓reduceIte, reduceCtorEq, Nat.reduceEqDiff, AV.ren, AV.rens, pos, Nat.reduceAdd]
    · rw [if_neg hlt] at hf
      have hli : ¬ ((d.getD i 0 : Nat) : Int) < (N : Int) := by omega
      have hsub : wrapK .i64 (((d.getD i 0 : Nat) : Int) - (N : Int)) = ((d.getD i 0 - N : Nat) : Int) := by rw [wrap64 (by omega) (by omega)]; omega
      have h8 := small8 (show d.getD i 0 - N < 8 by omega)
      have h8' : d.getD i 0 - N < 8 := by omega
      simp (maxSteps := 3000000) only [over4E, heapL, fillA, rd, wrt, wrl, AO.withl, a_s_l01Follow_l1, a_s_l01Follow_c1, hi16, hi16', hi17, dia_length, hdl, hel, hcx, hli, hsub, h8, h8', bls_length, hm, bls_set, AV.one, Int.reduceEq, Int.reduceNe, Int.reduceBEq, Int.reduceBNe, Int.reduceLT, Int.reduceLE, Int.reduceAdd, Int.reduceSub, Int.reduceMul, idX_eq, wbE, ↓symP, symE, listE, AK.isCall, enumE, ev, putE, abin, aun, AV.cells, ↓reduceIte, reduceCtorEq, Nat.reduceAdd, Nat.reduceMul, Nat.reduceSub, Nat.reduceEqDiff, Nat.reduceLT, Nat.reduceLeDiff, implies_true, Back, retv, retV, AV.scal, AV.scals]; try simp only [idX_eq, ite_both, pickP_both, not_not_eq, Bool.not_eq_false, Bool.not_eq_true]
      exact hpost _ _ f (Weak.slots [12, 6, 5, 4, 3, 2]) ⟨false, d.getD i 0 - N, _, hf, by omega, by simp [hm], rfl⟩ (Nat.lt_succ_self _)
  | f + 1, false, hf =>
    have hx := (hpe i hi).1
    have hcx : wrapK .i64 ((e.getD i 0 : Nat) : Int) = ((e.getD i 0 : Nat) : Int) := wrap64N (by omega)
    rw [followF] at hf
    by_cases hlt : N ≤ e.getD i 0
    · rw [if_pos hlt] at hf
      simp only [Option.some.injEq, Prod.mk.injEq] at hf
      obtain ⟨rfl, rfl, rfl⟩ := hf
      have hli : (N : Int) ≤ ((e.getD i 0 : Nat) : Int) := by omega
      simp (maxSteps := 3000000) only [over4E, heapL, fillA, rd, wrt, wrl, AO.withl, a_s_l01Follow_l1, a_s_l01Follow_c1, hi16, hi16', hi17, dia_length, hdl, hel, hcx, hli, Int.reduceEq, Int.reduceNe, Int.reduceBEq, Int.reduceBNe, Int.reduceLT, Int.reduceLE, Int.reduceAdd, Int.reduceSub, Int.reduceMul, idX_eq, wbE, ↓symP, symE, listE, AK.isCall, enumE, ev, putE, abin, aun, AV.cells, ↓reduceIte, reduceCtorEq, Nat.reduceAdd, Nat.reduceMul, Nat.reduceSub, Nat.reduceEqDiff, Nat.reduceLT, Nat.reduceLeDiff, implies_true, Back, retv, retV, AV.scal, AV.scals]; try simp only [idX_eq, ite_both, pickP_both, not_not_eq, Bool.not_eq_false, Bool.not_eq_true]
      refine Ret.keep [0] ⟨⟨Nat.le_refl 1, rfl, by decide⟩, ?_⟩ (rs := [.int .i64 (e.getD i 0 : Nat), .bool false]) rfl rfl (by simp [retV]) ?_ ⟨?_, ?_⟩
      · simp only [withins_scal _ _ (scals_bls _), keepW, keepL, AV.within, AV.withins, ↓reduceIte, reduceCtorEq, Nat.reduceEqDiff, Nat.reduceBEq, implies_true, Nat.reduceAdd]
      · intro j l; cases j <;> simp [kepts, AO.ren]
      · rfl
      · simp only [rens_scal _ _ (scals_bls _), keptL, keptW, keptE, kepts, slots, ↓reduceIte, reduceCtorEq, Nat.reduceEqDiff, AV.ren, AV.rens, pos, Nat.reduceAdd]
    · rw [if_neg hlt] at hf
      have hli : ¬ (N : Int) ≤ ((e.getD i 0 : Nat) : Int) := by omega
      have hadd : wrapK .i64 ((N : Int) + ((e.getD i 0 : Nat) : Int)) = ((N + e.getD i 0 : Nat) : Int) := by rw [wrap64 (by omega) (by omega)]; rfl
      have h8 := small8 (show e.getD i 0 < 8 by omega)
      have h8' : e.getD i 0 < 8 := by omega
      simp (maxSteps := 3000000) only [over4E, heapL, fillA, rd, wrt, wrl, AO.withl, a_s_l01Follow_l1, a_s_l01Follow_c1, hi16, hi16', hi17, dia_length, hdl, hel, hcx, hli, hadd, h8, h8', bls_length, hm, bls_set, AV.one, Int.reduceEq, Int.reduceNe, Int.reduceBEq, Int.reduceBNe, Int.reduceLT, Int.reduceLE, Int.reduceAdd, Int.reduceSub, Int.reduceMul, idX_eq, wbE, ↓symP, symE, listE, AK.isCall, enumE, ev, putE, abin, aun, AV.cells, ↓reduceIte, reduceCtorEq, Nat.reduceAdd, Nat.reduceMul, Nat.reduceSub, Nat.reduceEqDiff, Nat.reduceLT, Nat.reduceLeDiff, implies_true, Back, retv, retV, AV.scal, AV.scals]; try simp only [idX_eq, ite_both, pickP_both, not_not_eq, Bool.not_eq_false, Bool.not_eq_true]
      exact hpost _ _ f (Weak.slots [12, 6, 5, 4, 3, 2]) ⟨true, N + e.getD i 0, _, hf, by omega, by simp [hm], rfl⟩ (Nat.lt_succ_self _)
def boolsOf : List AV → Option (List Bool)
  | [] => some []
  | .bool b :: l => (boolsOf l).map (b :: ·)
  | _ => none
theorem boolsOf_bls : ∀ l, boolsOf (bls l) = some l
  | [] => rfl
  | b :: l => by
    have := boolsOf_bls l
    simp only [bls] at this
    simp only [bls, List.map_cons, boolsOf, this, Option.map_some]
theorem boolsOf_some : ∀ {l : List AV} {m : List Bool}, boolsOf l = some m → l = bls m
  | [], m, h => by simp only [boolsOf, Option.some.injEq] at h; subst h; rfl
  | .bool b :: l, m, h => by
    simp only [boolsOf, Option.map_eq_some_iff] at h
    obtain ⟨m', h1, rfl⟩ := h
    rw [boolsOf_some h1]; rfl
noncomputable def g_follow : BE := fun hp xs => match xs with
  | [.agg ld, .agg le, .int .i64 i, .bool u, .ptr b 0] => match hp[b]? with
    | some (.cells lm) => match diaOf ld, diaOf le, boolsOf lm with
      | some (n, d), some (n', e), some met => chk (((n' = n ∧ 0 ≤ n) ∧ isS n.toNat d = true ∧ isS n.toNat e = true) ∧ (0 ≤ i ∧ i < 2 * n) ∧ met.length = 8 ∧ u = decide (i < n)) (some (.tup [.int .i64 (pr n.toNat d e i.toNat : Nat), .bool (decide (pr n.toNat d e i.toNat < n.toNat))], hp.set b (.cells (bls (fol n.toNat d e u i.toNat met)))))
      | _, _, _ => none
    | _ => none
  | _ => none
theorem k_follow : Am.Callee Try.prog 143 g_follow := Callee.fp fun hp xs v hp' he => by
  unfold g_follow at he
  split at he
  · rename_i ld le i u b
    split at he
    · rename_i lm hb
      split at he
      · rename_i n d n' e met hd1 he1 hm1
        obtain ⟨⟨⟨⟨a1, a2⟩, a3, a4⟩, a5, a6, a7⟩, he2⟩ := chk_some he
        simp only [Option.some.injEq, Prod.mk.injEq] at he2
        obtain ⟨rfl, rfl⟩ := he2
        obtain ⟨rfl, hd⟩ := diaOf_some hd1
        obtain ⟨rfl, he'⟩ := diaOf_some he1
        have hbl := boolsOf_some hm1
        subst hbl; subst a1
        obtain ⟨N, rfl⟩ : ∃ N : Nat, n' = N := ⟨n'.toNat, by omega⟩
        obtain ⟨k, rfl⟩ : ∃ k : Nat, i = k := ⟨i.toNat, by omega⟩
        simp only [Int.toNat_natCast] at a3 a4 ⊢
        have hu : u = decide (k < N) := by rw [a7]; congr 1; exact propext (by omega)
        subst hu
        obtain ⟨f, met', hf⟩ := follow_pr a3 a4 (i := k) (by omega) met
        have hfo := fol_eq hf
        refine ⟨[(b, 0)], [.agg (dia N d), .agg (dia N e), .int .i64 k, .bool (decide (k < N)), .ptr 0 0], _, _, _, c_s_l01Follow N d e hd he' a3 a4 hf (by omega) a6, by simp [AV.ren, AV.rens, ofL, rens_scal _ _ (scals_dia _ _)], by simp [noTopB], ⟨⟨rfl, by simp only [AO.ren, rens_scal _ _ (scals_bls _)]; exact hb⟩, trivial⟩, rfl, ⟨unders_scal _ _ (scals_bls _), trivial⟩, ⟨unders_scal _ _ (scals_dia _ _), unders_scal _ _ (scals_dia _ _), trivial, trivial, by simp [AV.under], trivial⟩, by simp [AV.ren, AV.rens], ?_⟩
        simp [after, upd, AO.wr, AO.ren, rens_scal _ _ (scals_bls _), hfo]
      · cases he
    · cases he
  · cases he
noncomputable def B80 : Book := (B79.put 143 (g_follow))

theorem B80_ok : BookOk Try.prog B80 := (B79_ok.put (k_follow))

end Go.Proofs.Ytkgoadglalpbfaa
