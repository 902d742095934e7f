/- Contracts: along the lines of two diagrams, the implementation. -/
import Derived.Test.YtkgoadglalpbfaaL3
namespace Go.Proofs.Ytkgoadglalpbfaa
open Go.Am Go.Dia
set_option linter.unusedSimpArgs false
set_option linter.unusedVariables false
set_option maxRecDepth 4000
set_option maxHeartbeats 1000000

/-- The two diagrams, the points met, and what is told of each. -/
def stk (a b : Nat) (met : List Bool) : List AV := .ptr a 0 :: .ptr b 0 :: (bls met ++ [.fn 145 [] []])
theorem stk_length {a b : Nat} {met : List Bool} : (stk a b met).length = met.length + 3 := by simp [stk, bls_length]
theorem stk_get0 {a b : Nat} {met : List Bool} : (stk a b met)[0]? = some (.ptr a 0) := rfl
theorem stk_get1 {a b : Nat} {met : List Bool} : (stk a b met)[1]? = some (.ptr b 0) := rfl
theorem stk_get10 {a b : Nat} {met : List Bool} (h : met.length = 8) : (stk a b met)[10]? = some (.fn 145 [] []) := by
  simp [stk, List.getElem?_append, bls_length, h]
theorem stk_set {a b : Nat} {met : List Bool} {i : Nat} {v : Bool} (h : met.length = 8) (hi : i < 8) : (stk a b met).set (2 + i) (.bool v) = stk a b (met.set i v) := by
  rw [Nat.add_comm]
  simp [stk, List.set_append, bls_length, h, hi, bls_set]
theorem stk_get {a b : Nat} {met : List Bool} {i : Nat} (h : met.length = 8) (hi : i < 8) : (stk a b met)[2 + i]? = some (.bool (met.getD i false)) := by
  rw [Nat.add_comm]
  simp [stk, List.getElem?_append, bls_length, h, hi, bls]
theorem unders_bls {n : Nat} (met : List Bool) : AV.unders n (bls met) := unders_scal _ _ (scals_bls _)
theorem rens_app {ρ : Ren} : ∀ (l l' : List AV), AV.rens ρ (l ++ l') = AV.rens ρ l ++ AV.rens ρ l'
  | [], _ => rfl
  | a :: l, l' => by simp [AV.rens, rens_app l l']
theorem unders_app' {n : Nat} : ∀ (l l' : List AV), AV.unders n l → AV.unders n l' → AV.unders n (l ++ l')
  | [], _, _, h => h
  | a :: l, l', h, h' => ⟨h.1, unders_app' l l' h.2 h'⟩
theorem withins_app' {ids : List Nat} : ∀ (l l' : List AV), AV.withins ids l = true → AV.withins ids l' = true → AV.withins ids (l ++ l') = true
  | [], _, _, h => h
  | a :: l, l', h, h' => by
    simp only [AV.withins, List.cons_append, Bool.and_eq_true] at h ⊢
    exact ⟨h.1, withins_app' l l' h.2 h'⟩
theorem stk_rens {ρ : Ren} {a b : Nat} {met : List Bool} : AV.rens ρ (stk a b met) = (AV.ptr a 0).ren ρ :: (AV.ptr b 0).ren ρ :: (bls met ++ [.fn 145 [] []]) := by
  simp only [stk, AV.rens, rens_app, rens_scal _ _ (scals_bls met)]
  simp [AV.rens, AV.ren]
theorem stk_under {n a b : Nat} {met : List Bool} (h1 : a < n) (h2 : b < n) : AV.unders n (stk a b met) := ⟨h1, h2, unders_app' _ _ (unders_bls _) ⟨⟨trivial, trivial⟩, trivial⟩⟩
theorem tmod_ge {x N : Nat} (h1 : N ≤ x) (h2 : x < 2 * N) : Int.tmod (x : Int) (N : Int) = ((x - N : Nat) : Int) := by
  show ((x % N : Nat) : Int) = _
  rw [Nat.mod_eq_sub_mod h1, Nat.mod_eq_of_lt (by omega)]
theorem tmod_lt {x N : Nat} (h1 : x < N) : Int.tmod (x : Int) (N : Int) = (x : Int) := by
  show ((x % N : Nat) : Int) = _
  rw [Nat.mod_eq_of_lt h1]

theorem stk_within {met : List Bool} : AV.withins [0, 1, 2] (stk 1 2 met) = true := by
  have h : AV.withins [0, 1, 2] (bls met ++ [.fn 145 [] []]) = true := withins_app' _ _ (withins_scal _ _ (scals_bls _)) rfl
  simp [stk, AV.withins, AV.within, h]
theorem ro3 {m m' l1 l2 : List AV} {hp : List AO} : ∀ (j : Nat) (l : List AV), (kepts [0, 1, 2] (.cells m :: .ro l1 :: .ro l2 :: hp))[j]? = some (AO.ro l) → ∃ l', ([.cells m', .ro l1, .ro l2] : List AO)[j]? = some (AO.ro l')
  | 0, l, h => by simp [kepts, AO.ren] at h
  | 1, l, h => ⟨_, rfl⟩
  | 2, l, h => ⟨_, rfl⟩
  | j + 3, l, h => by simp [kepts] at h
def H3 (N : Nat) (d e : List Nat) (met : List Bool) : List AO := [.cells (stk 1 2 met), .ro (dia N d), .ro (dia N e)]
theorem H3_under {N : Nat} {d e : List Nat} {met : List Bool} : ∀ (j : Nat) (o : AO), (H3 N d e met)[j]? = some o → o.under 3 := fun j o hj => by
  match j, hj with
  | 0, hj => cases hj; exact stk_under (by omega) (by omega)
  | 1, hj => cases hj; exact unders_scal _ _ (scals_dia _ _)
  | 2, hj => cases hj; exact unders_scal _ _ (scals_dia _ _)
  | j + 3, hj => simp [H3] at hj
theorem B82_i_Diagram_n_L4 : B82 115 = some (readE 1 g_n) := rfl
theorem B82_i_times_1_L4 : B82 145 = some (plainE g_each) := rfl
def a_i_stack_follow_l1 : AC := .block 1 (.seq (.region [⟨some 17, none, .op (.mov (.t 0))⟩,
        ⟨some 18, none, .op (.nilchk (.t 17))⟩,
        ⟨some 19, none, .op (.faddr 0 (.t 18))⟩,
        ⟨some 20, none, .op (.load1 (.t 19))⟩,
        ⟨some 10, none, .op (.mov (.t 20))⟩]) (.seq (.seq (.region [⟨some 21, none, .op (.mov (.t 1))⟩]) (.cond 21 (.region [⟨some 22, none, .op (.mov (.t 0))⟩,
          ⟨some 23, none, .op (.nilchk (.t 22))⟩,
          ⟨some 24, none, .op (.faddr 1 (.t 23))⟩,
          ⟨some 25, none, .op (.load1 (.t 24))⟩,
          ⟨some 10, none, .op (.mov (.t 25))⟩]) .skip)) (.seq (.region [⟨some 26, none, .op (.mov (.t 0))⟩,
        ⟨some 27, none, .op (.nilchk (.t 26))⟩,
        ⟨some 28, none, .op (.faddr 10 (.t 27))⟩,
        ⟨some 29, none, .op (.load1 (.t 28))⟩,
        ⟨some 30, none, .op (.mov (.t 1))⟩,
        ⟨some 31, none, .op (.mov (.t 2))⟩,
        ⟨some 32, none, .call (.t 29) [(.t 30), (.t 31)]⟩]) (.seq (.region [⟨some 33, none, .op (.mov (.t 10))⟩,
        ⟨some 34, none, .op (.mov (.t 2))⟩,
        ⟨some 35, none, .op (.nilchk (.t 33))⟩,
        ⟨some 36, none, .op (.faddr 1 (.t 35))⟩,
        ⟨some 37, none, .op (.iaddrA 16 1 (.t 36) (.t 34))⟩,
        ⟨some 38, none, .op (.load1 (.t 37))⟩,
        ⟨some 39, none, .op (.conv .i64 (.t 38))⟩,
        ⟨some 2, none, .op (.mov (.t 39))⟩]) (.seq (.seq (.region [⟨some 40, none, .op (.mov (.t 1))⟩,
         ⟨some 41, none, .op (.mov (.t 2))⟩,
         ⟨some 42, none, .op (.mov (.t 9))⟩,
         ⟨some 43, none, .op (.bin .geq (.t 41) (.t 42))⟩,
         ⟨some 44, none, .op (.eqb false (.t 40) (.t 43))⟩]) (.cond 44 (.seq (.region [⟨some 45, none, .op (.mov (.t 2))⟩,
           ⟨some 8, none, .op (.mov (.t 45))⟩]) .ret) .skip)) (.seq (.region [⟨some 46, none, .op (.mov (.t 2))⟩,
        ⟨some 47, none, .op (.mov (.t 9))⟩,
        ⟨some 48, none, .op (.bin .rem (.t 46) (.t 47))⟩,
        ⟨some 11, none, .op (.mov (.t 48))⟩]) (.seq (.region [⟨some 49, none, .op (.mov (.t 0))⟩,
        ⟨some 50, none, .op (.mov (.t 11))⟩,
        ⟨some 51, none, .op (.nilchk (.t 49))⟩,
        ⟨some 52, none, .op (.faddr 2 (.t 51))⟩,
        ⟨some 53, none, .op (.iaddrA 8 1 (.t 52) (.t 50))⟩,
        ⟨none, none, .op (.store1 (.t 53) (.c (.bool true)))⟩]) (.seq (.seq (.region [⟨some 54, none, .op (.mov (.t 1))⟩,
         ⟨some 55, none, .op (.un .not (.t 54))⟩,
         ⟨some 1, none, .op (.mov (.t 55))⟩]) (.seq (.region [⟨some 56, none, .op (.mov (.t 1))⟩]) (.cond 56 (.region [⟨some 57, none, .op (.mov (.t 11))⟩,
          ⟨some 2, none, .op (.mov (.t 57))⟩]) (.region [⟨some 58, none, .op (.mov (.t 9))⟩,
          ⟨some 59, none, .op (.mov (.t 11))⟩,
          ⟨some 60, none, .op (.bin .add (.t 58) (.t 59))⟩,
          ⟨some 2, none, .op (.mov (.t 60))⟩])))) (.seq (.region [⟨some 61, none, .op (.mov (.t 11))⟩,
        ⟨some 62, none, .op (.mov (.t 3))⟩,
        ⟨some 63, none, .op (.bin .eql (.t 61) (.t 62))⟩]) (.cond 63 (.seq (.region [⟨some 8, none, .op (.mov (.c (.int .i64 (-1))))⟩]) .ret) .skip))))))))))
def a_i_stack_follow : AC := .seq (.region [⟨some 8, none, .op (.mov (.c (.int .i64 0)))⟩]) (.seq (.region [⟨some 12, none, .op (.mov (.t 0))⟩,
     ⟨some 13, none, .op (.nilchk (.t 12))⟩,
     ⟨some 14, none, .op (.faddr 0 (.t 13))⟩,
     ⟨some 15, none, .op (.load1 (.t 14))⟩,
     ⟨some 16, none, .call (.c (.fn 115 [] [])) [(.t 15)]⟩,
     ⟨some 9, none, .op (.mov (.t 16))⟩]) (.block 0 (.loop a_i_stack_follow_l1)))
theorem r_i_stack_follow : readF Try.prog 155 = some ⟨64, a_i_stack_follow, [.slot 8]⟩ := by kernel_rfl
theorem c_sfollow1 (N : Nat) (d e : List Nat) (hd : okD d) (he : okD e) (hds : isS N d = true) (hes : isS N e = true) {f : Nat} {u : Bool} {i : Nat} {met : List Bool} {r : Nat} {s : Bool} {met' : List Bool} (hf : followF N d e f u i met = some (r, s, met')) (hi : i < 2 * N) (hm : met.length = 8) :
    Am.Fn Try.prog 155 [.ptr 0 0, .bool (!u), .int .i64 i, .int .i64 (-1)] (H3 N d e met) (fun v H' => v = .int .i64 r ∧ H' = H3 N d e met') := by
  refine Am.Fn.ofB B82_ok mixed r_i_stack_follow (by simp [AV.unders, AV.under, H3]) H3_under ?_
  obtain ⟨hN, hpd, _⟩ := isS_mate hds
  obtain ⟨_, hpe, _⟩ := isS_mate hes
  have hdl := hd.1
  have hel := he.1
  unfold H3
  simp (maxSteps := 3000000) only [over4E, heapL, fillA, rd, wrt, wrl, AO.withl, a_i_stack_follow, B82_i_Diagram_n_L4, B82_i_times_1_L4, g_each, g_n, stk_length, stk_get0, stk_get1, hm, dia_length, hdl, hel, dia_get0, dia_take1', Int.reduceEq, Int.reduceNe, Int.reduceBEq, Int.reduceBNe, Int.reduceLT, Int.reduceLE, Int.reduceAdd, Int.reduceSub, Int.reduceMul, idX_eq, wbE, ↓symP, symE, listE, AK.isCall, enumE, ev, putE, abin, aun, AV.cells, ↓reduceIte, reduceCtorEq, Nat.reduceAdd, Nat.reduceMul, Nat.reduceSub, Nat.reduceEqDiff, Nat.reduceLT, Nat.reduceLeDiff, implies_true, Back, retv, retV, AV.scal, AV.scals]; try simp only [idX_eq, ite_both, pickP_both, not_not_eq, Bool.not_eq_false, Bool.not_eq_true]
  refine loopN B82_ok (fun f st => ∃ (u : Bool) (i : Nat) (met : List Bool), followF N d e f u i met = some (r, s, met') ∧ i < 2 * N ∧ met.length = 8 ∧
      st = ⟨[(9, .int .i64 N), (0, .ptr 0 0), (1, .bool (!u)), (2, .int .i64 i), (3, .int .i64 (-1))], [.cells (stk 1 2 met), .ro (dia N d), .ro (dia N e)]⟩) ⟨_, Weak.slots [9, 0, 1, 2, 3], f, u, i, met, hf, hi, hm, rfl⟩ ?_
  clear hf hi hm
  rintro k st ⟨u, i, met, hf, hi, hm, rfl⟩ post hpost
  obtain ⟨hi16, hi16'⟩ := small16 (show i < 16 by omega)
  have hi17 : i < 16 := by omega
  have hN0 : (N : Int) ≠ 0 := by omega
  match k, u, hf with
  | 0, _, hf => simp [followF] at hf
  | f + 1, true, hf =>
    have hx := (hpd i hi).1
    have hcx : wrapK .i64 ((d.getD i 0 : Nat) : Int) = ((d.getD i 0 : Nat) : Int) := wrap64N (by omega)
    have hdx := dia_get (n := (N : Int)) (m := d) (i := i) (by omega)
    rw [followF] at hf
    by_cases hlt : d.getD i 0 < N
    · rw [if_pos hlt] at hf
      simp only [Option.some.injEq, Prod.mk.injEq] at hf
      obtain ⟨rfl, rfl, rfl⟩ := hf
      have hli : ((N : Int) ≤ ((d.getD i 0 : Nat) : Int)) ↔ False := iff_false_intro (by omega)
      simp (maxSteps := 3000000) only [over4E, heapL, fillA, rd, wrt, wrl, AO.withl, a_i_stack_follow_l1, B82_i_Diagram_n_L4, B82_i_times_1_L4, g_each, g_n, Bool.not_true, Bool.not_false, stk_length, stk_get0, stk_get1, stk_get10 hm, hm, dia_length, hdl, hel, hi16, hi16', hi17, hcx, hdx, hli, decide_false, decide_true, beq_self_eq_true, bne_self_eq_false, Bool.true_beq, Bool.false_beq, AV.one, Int.reduceEq, Int.reduceNe, Int.reduceBEq, Int.reduceBNe, Int.reduceLT, Int.reduceLE, Int.reduceAdd, Int.reduceSub, Int.reduceMul, idX_eq, wbE, ↓symP, symE, listE, AK.isCall, enumE, ev, putE, abin, aun, AV.cells, ↓reduceIte, reduceCtorEq, Nat.reduceAdd, Nat.reduceMul, Nat.reduceSub, Nat.reduceEqDiff, Nat.reduceLT, Nat.reduceLeDiff, implies_true, Back, retv, retV, AV.scal, AV.scals]; try simp only [idX_eq, ite_both, pickP_both, not_not_eq, Bool.not_eq_false, Bool.not_eq_true]
      refine Ret.keep [0, 1, 2] ⟨⟨by simp, rfl, by decide⟩, ?_⟩ (rs := [.int .i64 (d.getD i 0 : Nat)]) rfl rfl (by simp [retV]) ?_ ⟨?_, ?_⟩
      · simp only [withins_scal _ _ (scals_dia _ _), stk_within, keepW, keepL, AV.within, AV.withins, ↓reduceIte, reduceCtorEq, Nat.reduceEqDiff, Nat.reduceBEq, implies_true, Nat.reduceAdd]
      · exact ro3
      · rfl
      · simp only [rens_scal _ _ (scals_dia _ _), stk_rens, keptL, keptW, keptE, kepts, slots, ↓reduceIte, reduceCtorEq, Nat.reduceEqDiff, AV.ren, AV.rens, pos, Nat.reduceAdd]
        rfl
    · rw [if_neg hlt] at hf
      have hli : ((N : Int) ≤ ((d.getD i 0 : Nat) : Int)) ↔ True := iff_true_intro (by omega)
      have hrem := tmod_ge (N := N) (x := d.getD i 0) (by omega) hx
      have h8 := small8 (show d.getD i 0 - N < 8 by omega)
      have h8' : d.getD i 0 - N < 8 := by omega
      have h10 : 2 + (d.getD i 0 - N) < 8 + 3 := by omega
      have hst : ((((d.getD i 0 - N : Nat) : Int)) == (-1 : Int)) = false := by rw [beq_eq_false_iff_ne]; omega
      simp (maxSteps := 3000000) only [over4E, heapL, fillA, rd, wrt, wrl, AO.withl, a_i_stack_follow_l1, B82_i_Diagram_n_L4, B82_i_times_1_L4, g_each, g_n, Bool.not_true, Bool.not_false, stk_length, stk_get0, stk_get1, stk_get10 hm, stk_set hm h8', hm, dia_length, hdl, hel, hi16, hi16', hi17, hcx, hdx, hli, decide_false, decide_true, beq_self_eq_true, bne_self_eq_false, Bool.true_beq, Bool.false_beq, hrem, h8, h8', h10, hN0, hst, AV.one, Int.reduceEq, Int.reduceNe, Int.reduceBEq, Int.reduceBNe, Int.reduceLT, Int.reduceLE, Int.reduceAdd, Int.reduceSub, Int.reduceMul, idX_eq, wbE, ↓symP, symE, listE, AK.isCall, enumE, ev, putE, abin, aun, AV.cells, ↓reduceIte, reduceCtorEq, Nat.reduceAdd, Nat.reduceMul, Nat.reduceSub, Nat.reduceEqDiff, Nat.reduceLT, Nat.reduceLeDiff, implies_true, Back, retv, retV, AV.scal, AV.scals]; try simp only [idX_eq, ite_both, pickP_both, not_not_eq, Bool.not_eq_false, Bool.not_eq_true]
      exact hpost _ _ f (Weak.slots [9, 0, 1, 2, 3]) ⟨false, d.getD i 0 - N, _, hf, by omega, by simp [hm], rfl⟩ (Nat.lt_succ_self _)
  | f + 1, false, hf =>
    have hx := (hpe i hi).1
    have hcx : wrapK .i64 ((e.getD i 0 : Nat) : Int) = ((e.getD i 0 : Nat) : Int) := wrap64N (by omega)
    have hdx := dia_get (n := (N : Int)) (m := e) (i := i) (by omega)
    rw [followF] at hf
    by_cases hlt : N ≤ e.getD i 0
    · rw [if_pos hlt] at hf
      simp only [Option.some.injEq, Prod.mk.injEq] at hf
      obtain ⟨rfl, rfl, rfl⟩ := hf
      have hli : ((N : Int) ≤ ((e.getD i 0 : Nat) : Int)) ↔ True := iff_true_intro (by omega)
      simp (maxSteps := 3000000) only [over4E, heapL, fillA, rd, wrt, wrl, AO.withl, a_i_stack_follow_l1, B82_i_Diagram_n_L4, B82_i_times_1_L4, g_each, g_n, Bool.not_true, Bool.not_false, stk_length, stk_get0, stk_get1, stk_get10 hm, hm, dia_length, hdl, hel, hi16, hi16', hi17, hcx, hdx, hli, decide_false, decide_true, beq_self_eq_true, bne_self_eq_false, Bool.true_beq, Bool.false_beq, AV.one, Int.reduceEq, Int.reduceNe, Int.reduceBEq, Int.reduceBNe, Int.reduceLT, Int.reduceLE, Int.reduceAdd, Int.reduceSub, Int.reduceMul, idX_eq, wbE, ↓symP, symE, listE, AK.isCall, enumE, ev, putE, abin, aun, AV.cells, ↓reduceIte, reduceCtorEq, Nat.reduceAdd, Nat.reduceMul, Nat.reduceSub, Nat.reduceEqDiff, Nat.reduceLT, Nat.reduceLeDiff, implies_true, Back, retv, retV, AV.scal, AV.scals]; try simp only [idX_eq, ite_both, pickP_both, not_not_eq, Bool.not_eq_false, Bool.not_eq_true]
      refine Ret.keep [0, 1, 2] ⟨⟨by simp, rfl, by decide⟩, ?_⟩ (rs := [.int .i64 (e.getD i 0 : Nat)]) rfl rfl (by simp [retV]) ?_ ⟨?_, ?_⟩
      · simp only [withins_scal _ _ (scals_dia _ _), stk_within, keepW, keepL, AV.within, AV.withins, ↓reduceIte, reduceCtorEq, Nat.reduceEqDiff, Nat.reduceBEq, implies_true, Nat.reduceAdd]
      · exact ro3
      · rfl
      · simp only [rens_scal _ _ (scals_dia _ _), stk_rens, keptL, keptW, keptE, kepts, slots, ↓reduceIte, reduceCtorEq, Nat.reduceEqDiff, AV.ren, AV.rens, pos, Nat.reduceAdd]
        rfl
    · rw [if_neg hlt] at hf
      have hli : ((N : Int) ≤ ((e.getD i 0 : Nat) : Int)) ↔ False := iff_false_intro (by omega)
      have hrem := tmod_lt (N := N) (x := e.getD i 0) (by omega)
      have hadd : wrapK .i64 ((N : Int) + ((e.getD i 0 : Nat) : Int)) = ((N + e.getD i 0 : Nat) : Int) := by rw [wrap64 (by omega) (by omega)]; rfl
      have h8 := small8 (show e.getD i 0 < 8 by omega)
      have h8' : e.getD i 0 < 8 := by omega
      have h10 : 2 + e.getD i 0 < 8 + 3 := by omega
      have hst : (((e.getD i 0 : Nat) : Int) == (-1 : Int)) = false := by rw [beq_eq_false_iff_ne]; omega
      simp (maxSteps := 3000000) only [over4E, heapL, fillA, rd, wrt, wrl, AO.withl, a_i_stack_follow_l1, B82_i_Diagram_n_L4, B82_i_times_1_L4, g_each, g_n, Bool.not_true, Bool.not_false, stk_length, stk_get0, stk_get1, stk_get10 hm, stk_set hm h8', hm, dia_length, hdl, hel, hi16, hi16', hi17, hcx, hdx, hli, decide_false, decide_true, beq_self_eq_true, bne_self_eq_false, Bool.true_beq, Bool.false_beq, hrem, hadd, h8, h8', h10, hN0, hst, AV.one, Int.reduceEq, Int.reduceNe, Int.reduceBEq, Int.reduceBNe, Int.reduceLT, Int.reduceLE, Int.reduceAdd, Int.reduceSub, Int.reduceMul, idX_eq, wbE, ↓symP, symE, listE, AK.isCall, enumE, ev, putE, abin, aun, AV.cells, ↓reduceIte, reduceCtorEq, Nat.reduceAdd, Nat.reduceMul, Nat.reduceSub, Nat.reduceEqDiff, Nat.reduceLT, Nat.reduceLeDiff, implies_true, Back, retv, retV, AV.scal, AV.scals]; try simp only [idX_eq, ite_both, pickP_both, not_not_eq, Bool.not_eq_false, Bool.not_eq_true]
      exact hpost _ _ f (Weak.slots [9, 0, 1, 2, 3]) ⟨true, N + e.getD i 0, _, hf, by omega, by simp [hm], rfl⟩ (Nat.lt_succ_self _)
end Go.Proofs.Ytkgoadglalpbfaa
