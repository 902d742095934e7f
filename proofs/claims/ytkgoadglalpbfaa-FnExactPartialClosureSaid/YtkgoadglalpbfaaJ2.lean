/- Contracts: the program's partial closure of a diagram. -/
import Derived.Test.YtkgoadglalpbfaaJ1
namespace Go.Proofs.Ytkgoadglalpbfaa
open Go.Am Go.Dia
set_option linter.unusedSimpArgs false
set_option linter.unusedVariables false
set_option maxRecDepth 4000
set_option maxHeartbeats 1000000

theorem B54_i_Diagram_n_J2 : B54 115 = some (readE 1 g_n) := rfl
theorem B54_i_closed_1_J2 : B54 122 = some (g_clat) := rfl
def a_i_closed_t1 : AT := (.one ⟨some 13, none, .op (.faddr 0 (.t 1))⟩
     (.one ⟨some 14, none, .op (.load1 (.t 13))⟩
     (.one ⟨some 15, none, .op (.bin .sub (.t 14) (.c (.int .i64 1)))⟩
     (.one ⟨some 16, none, .op (.build [(.int .i64 0), (.int .u8 0), (.int .u8 0), (.int .u8 0), (.int .u8 0), (.int .u8 0), (.int .u8 0), (.int .u8 0), (.int .u8 0), (.int .u8 0), (.int .u8 0), (.int .u8 0), (.int .u8 0), (.int .u8 0), (.int .u8 0), (.int .u8 0), (.int .u8 0)] [(0, 1, (.t 15))])⟩
     (.alt ⟨some 17, none, .op (.load1 (.t 4))⟩
     (.one ⟨some 18, none, .op (.bin .mul (.c (.int .i64 2)) (.t 17))⟩
      (.one ⟨some 19, none, .op (.bin .sub (.t 18) (.c (.int .i64 1)))⟩
      (.one ⟨some 5, none, .op (.alloc [(.int .i64 0), (.int .u8 0), (.int .u8 0), (.int .u8 0), (.int .u8 0), (.int .u8 0), (.int .u8 0), (.int .u8 0), (.int .u8 0), (.int .u8 0), (.int .u8 0), (.int .u8 0), (.int .u8 0), (.int .u8 0), (.int .u8 0), (.int .u8 0), (.int .u8 0)])⟩
      (.one ⟨none, none, .op (.storeN 17 (.t 5) (.t 16))⟩
      (.one ⟨some 6, none, .op (.mov (.t 19))⟩
      (.nil))))))
     (.alt ⟨some 5, none, .op (.alloc [(.int .i64 0), (.int .u8 0), (.int .u8 0), (.int .u8 0), (.int .u8 0), (.int .u8 0), (.int .u8 0), (.int .u8 0), (.int .u8 0), (.int .u8 0), (.int .u8 0), (.int .u8 0), (.int .u8 0), (.int .u8 0), (.int .u8 0), (.int .u8 0), (.int .u8 0)])⟩
     (.alt ⟨some 17, none, .op (.load1 (.t 4))⟩
      (.one ⟨some 18, none, .op (.bin .mul (.c (.int .i64 2)) (.t 17))⟩
       (.one ⟨some 19, none, .op (.bin .sub (.t 18) (.c (.int .i64 1)))⟩
       (.one ⟨none, none, .op (.storeN 17 (.t 5) (.t 16))⟩
       (.one ⟨some 6, none, .op (.mov (.t 19))⟩
       (.nil)))))
      (.alt ⟨none, none, .op (.storeN 17 (.t 5) (.t 16))⟩
      (.one ⟨some 17, none, .op (.load1 (.t 4))⟩
       (.one ⟨some 18, none, .op (.bin .mul (.c (.int .i64 2)) (.t 17))⟩
       (.one ⟨some 19, none, .op (.bin .sub (.t 18) (.c (.int .i64 1)))⟩
       (.one ⟨some 6, none, .op (.mov (.t 19))⟩
       (.nil)))))
      (.none)))
     (.none)))))))
def a_i_closed_c1 : AC := .seq (.region [⟨some 53, none, .op (.mov (.t 10))⟩,
              ⟨some 54, none, .op (.mov (.t 7))⟩,
              ⟨some 55, none, .op (.bin .eql (.t 53) (.t 54))⟩,
              ⟨some 52, none, .op (.mov (.t 55))⟩]) (.cond 52 (.region [⟨some 56, none, .op (.mov (.t 8))⟩,
               ⟨some 11, none, .op (.mov (.t 56))⟩]) (.seq (.region [⟨some 58, none, .op (.mov (.t 10))⟩,
                ⟨some 59, none, .op (.mov (.t 8))⟩,
                ⟨some 60, none, .op (.bin .eql (.t 58) (.t 59))⟩,
                ⟨some 57, none, .op (.mov (.t 60))⟩]) (.cond 57 (.region [⟨some 61, none, .op (.mov (.t 7))⟩,
                 ⟨some 11, none, .op (.mov (.t 61))⟩]) .skip)))
def a_i_closed_l1 : AC := .seq (.region [⟨some 35, none, .op (.bin .lss (.t 34) (.t 33))⟩]) (.seq (.cond 35 .skip (.exit 0)) (.seq (.block 1 (.seq (.region [⟨some 36, none, .op (.mov (.t 34))⟩,
          ⟨some 10, none, .op (.mov (.t 36))⟩]) (.seq (.region [⟨some 37, none, .op (.mov (.t 10))⟩,
          ⟨some 38, none, .op (.faddr 1 (.t 1))⟩,
          ⟨some 39, none, .op (.iaddrA 16 1 (.t 38) (.t 37))⟩,
          ⟨some 40, none, .op (.load1 (.t 39))⟩,
          ⟨some 41, none, .op (.conv .i64 (.t 40))⟩,
          ⟨some 11, none, .op (.mov (.t 41))⟩]) (.seq (.block 2 (.seq (.region [⟨some 43, none, .op (.mov (.t 10))⟩,
            ⟨some 44, none, .op (.load1 (.t 4))⟩,
            ⟨some 45, none, .op (.bin .sub (.t 44) (.c (.int .i64 1)))⟩,
            ⟨some 46, none, .op (.bin .eql (.t 43) (.t 45))⟩,
            ⟨some 47, none, .op (.mov (.t 46))⟩,
            ⟨some 48, some (47, false), .op (.mov (.t 10))⟩,
            ⟨some 49, some (47, false), .op (.mov (.t 6))⟩,
            ⟨some 50, some (47, false), .op (.bin .eql (.t 48) (.t 49))⟩,
            ⟨some 51, none, .op (.pick (.t 47) (.c (.bool true)) (.t 50))⟩,
            ⟨some 42, none, .op (.mov (.t 51))⟩]) (.cond 42 (.exit 1) a_i_closed_c1))) (.region [⟨some 62, none, .op (.mov (.t 9))⟩,
         ⟨some 63, none, .op (.mov (.t 10))⟩,
         ⟨some 64, none, .call (.t 62) [(.t 63)]⟩,
         ⟨some 65, none, .op (.mov (.t 9))⟩,
         ⟨some 66, none, .op (.mov (.t 11))⟩,
         ⟨some 67, none, .call (.t 65) [(.t 66)]⟩,
         ⟨some 68, none, .op (.conv .u8 (.t 67))⟩,
         ⟨some 69, none, .op (.faddr 1 (.t 5))⟩,
         ⟨some 70, none, .op (.iaddrA 16 1 (.t 69) (.t 64))⟩,
         ⟨none, none, .op (.store1 (.t 70) (.t 68))⟩]))))) (.region [⟨some 71, none, .op (.bin .add (.t 34) (.c (.int .i64 1)))⟩,
       ⟨some 34, none, .op (.mov (.t 71))⟩])))
def a_i_closed_k1 : AC := .seq (.region [⟨some 72, none, .op (.loadN 17 (.t 5))⟩,
     ⟨some 73, none, .op (.mov (.t 7))⟩,
     ⟨some 74, none, .op (.mov (.t 6))⟩,
     ⟨some 75, none, .op (.bin .eql (.t 73) (.t 74))⟩,
     ⟨none, none, .op (.storeN 17 (.t 2) (.t 72))⟩,
     ⟨some 3, none, .op (.mov (.t 75))⟩]) .ret
def a_i_closed_k2 : AC := .seq (.draw false [⟨some 20, none, .op (.load1 (.t 4))⟩,
     ⟨some 21, none, .op (.bin .sub (.t 20) (.c (.int .i64 1)))⟩,
     ⟨some 22, none, .op (.faddr 1 (.t 1))⟩,
     ⟨some 23, none, .op (.iaddrA 16 1 (.t 22) (.t 21))⟩,
     ⟨some 24, none, .op (.load1 (.t 23))⟩,
     ⟨some 25, none, .op (.conv .i64 (.t 24))⟩,
     ⟨some 26, none, .op (.mov (.t 6))⟩,
     ⟨some 27, none, .op (.faddr 1 (.t 1))⟩,
     ⟨some 28, none, .op (.iaddrA 16 1 (.t 27) (.t 26))⟩,
     ⟨some 29, none, .op (.load1 (.t 28))⟩,
     ⟨some 30, none, .op (.conv .i64 (.t 29))⟩,
     ⟨some 7, none, .op (.mov (.t 25))⟩,
     ⟨some 8, none, .op (.mov (.t 30))⟩]) (.seq (.region [⟨some 31, none, .op (.mkfn 122 [] [(.t 4)])⟩,
     ⟨some 9, none, .op (.mov (.t 31))⟩]) (.seq (.seq (.region [⟨some 32, none, .op (.load1 (.t 4))⟩,
      ⟨some 33, none, .op (.bin .mul (.c (.int .i64 2)) (.t 32))⟩,
      ⟨some 34, none, .op (.mov (.c (.int .i64 0)))⟩]) (.block 0 (.loop a_i_closed_l1))) a_i_closed_k1))
def a_i_closed : AC := .seq (.region [⟨some 1, none, .op (.box (.t 0))⟩,
     ⟨some 2, none, .op (.alloc [(.int .i64 0), (.int .u8 0), (.int .u8 0), (.int .u8 0), (.int .u8 0), (.int .u8 0), (.int .u8 0), (.int .u8 0), (.int .u8 0), (.int .u8 0), (.int .u8 0), (.int .u8 0), (.int .u8 0), (.int .u8 0), (.int .u8 0), (.int .u8 0), (.int .u8 0)])⟩,
     ⟨some 3, none, .op (.mov (.c (.bool false)))⟩]) (.seq (.region [⟨some 12, none, .call (.c (.fn 115 [] [])) [(.t 1)]⟩,
     ⟨some 4, none, .op (.alloc [(.int .i64 0)])⟩,
     ⟨none, none, .op (.store1 (.t 4) (.t 12))⟩]) (.seq (.tree false a_i_closed_t1) a_i_closed_k2))
theorem r_i_closed : readF Try.prog 85 = some ⟨76, a_i_closed, [.cellN 2 17, .slot 3]⟩ := by kernel_rfl
theorem c_i_closed (N : Nat) (m : List Nat) (hm : okD m) (hs : isS N m = true) (hN1 : 1 < N) : Am.Fn Try.prog 85 [.agg (dia N m)] [] (fun v H' => v = .tup [.agg (dia ((N : Int) - 1) (closeL N m)), .bool (lpC N m == 1)] ∧ H' = []) := by
  refine Am.Fn.sameB (R := fun v => v = _) B54_ok mixed r_i_closed (by simp) (by simp) ?_
  obtain ⟨hN, hp, hz⟩ := isS_mate hs
  have hml := hm.1
  have ha := hp (N - 1) (by omega)
  have hb := hp (2 * N - 1) (by omega)
  have h1 : wrapK .i64 ((N : Int) - 1) = (N : Int) - 1 := wrap64 (by omega) (by omega)
  have h2 : wrapK .i64 (2 * (N : Int)) = ((2 * N : Nat) : Int) := by rw [wrap64 (by omega) (by omega)]; rfl
  have h3 : wrapK .i64 (((2 * N : Nat) : Int) - 1) = ((2 * N - 1 : Nat) : Int) := by rw [wrap64 (by omega) (by omega)]; omega
  simp (maxSteps := 3000000) only [over4E, heapL, fillA, rd, wrt, wrl, AO.withl, a_i_closed, B54_i_Diagram_n_J2, B54_i_closed_1_J2, g_clat, g_n, dia_zero, dia_zero_len, dia_sized', dia_length, hml, dia_get0, dia_take1', ones_dia, over_dia okD_zero okD_zero, List.length_replicate, h1, h2, h3, Int.reduceEq, Int.reduceNe, Int.reduceBEq, Int.reduceBNe, Int.reduceLT, Int.reduceLE, Int.reduceAdd, Int.reduceSub, Int.reduceMul, idX_eq, wbE, ↓symP, symE, listE, AK.isCall, enumE, ev, putE, abin, aun, AV.cells, ↓reduceIte, reduceCtorEq, Nat.reduceAdd, Nat.reduceMul, Nat.reduceSub, Nat.reduceEqDiff, Nat.reduceLT, Nat.reduceLeDiff, implies_true, Back, retv, retV, AV.scal, AV.scals]; try simp only [idX_eq, ite_both, pickP_both, not_not_eq, Bool.not_eq_false, Bool.not_eq_true]
  refine ⟨rfl, WA.treeB B54_ok (fun s => s = ⟨[(6, .int .i64 (2 * N - 1 : Nat)), (5, .ptr 3 0), (4, .ptr 2 0), (2, .ptr 1 0), (1, .ptr 0 0)], [.cells (dia N m), .cells (dia 0 (List.replicate 16 0)), .cells [.int .i64 N], .cells (dia ((N : Int) - 1) (List.replicate 16 0))]⟩) ?_ ?_⟩
  · unfold a_i_closed_t1
    simp (maxSteps := 3000000) only [over4E, heapL, fillA, rd, wrt, wrl, AO.withl, wbTT_alt, wbTT_no, dia_zero, dia_zero_len, dia_cons0, dia_sized', dia_length, hml, dia_get0, ones_dia, over_dia okD_zero okD_zero, List.length_replicate, h1, h2, h3, Int.reduceEq, Int.reduceNe, Int.reduceBEq, Int.reduceBNe, Int.reduceLT, Int.reduceLE, Int.reduceAdd, Int.reduceSub, Int.reduceMul, idX_eq, wbE, ↓symP, symE, listE, AK.isCall, enumE, ev, putE, abin, aun, AV.cells, ↓reduceIte, reduceCtorEq, Nat.reduceAdd, Nat.reduceMul, Nat.reduceSub, Nat.reduceEqDiff, Nat.reduceLT, Nat.reduceLeDiff, implies_true, Back, retv, retV, AV.scal, AV.scals]; try simp only [idX_eq, ite_both, pickP_both, not_not_eq, Bool.not_eq_false, Bool.not_eq_true]
    exact ⟨⟨_, Weak.slots [6, 5, 4, 2, 1], rfl⟩, ⟨_, Weak.slots [6, 5, 4, 2, 1], rfl⟩, ⟨_, Weak.slots [6, 5, 4, 2, 1], rfl⟩⟩
  rintro s rfl
  have h1' : wrapK .i64 ((N : Int) - 1) = ((N - 1 : Nat) : Int) := by rw [h1]; omega
  obtain ⟨c1, c2⟩ := small16 (show N - 1 < 16 by omega)
  obtain ⟨c3, c4⟩ := small16 (show 2 * N - 1 < 16 by omega)
  have e1 : N - 1 < 16 := by omega
  have e2 : 2 * N - 1 < 16 := by omega
  have hcv1 : wrapK .i64 ((m.getD (N - 1) 0 : Nat) : Int) = ((m.getD (N - 1) 0 : Nat) : Int) := wrap64N (by omega)
  have hcv2 : wrapK .i64 ((m.getD (2 * N - 1) 0 : Nat) : Int) = ((m.getD (2 * N - 1) 0 : Nat) : Int) := wrap64N (by omega)
  simp (maxSteps := 3000000) only [over4E, heapL, fillA, rd, wrt, wrl, AO.withl, a_i_closed_k2, dia_length, hml, h1', h2, h3, c1, c2, c3, c4, e1, e2, hcv1, hcv2, Int.reduceEq, Int.reduceNe, Int.reduceBEq, Int.reduceBNe, Int.reduceLT, Int.reduceLE, Int.reduceAdd, Int.reduceSub, Int.reduceMul, idX_eq, wbE, ↓symP, symE, listE, AK.isCall, enumE, ev, putE, abin, aun, AV.cells, ↓reduceIte, reduceCtorEq, Nat.reduceAdd, Nat.reduceMul, Nat.reduceSub, Nat.reduceEqDiff, Nat.reduceLT, Nat.reduceLeDiff, implies_true, Back, retv, retV, AV.scal, AV.scals]; try simp only [idX_eq, ite_both, pickP_both, not_not_eq, Bool.not_eq_false, Bool.not_eq_true]
  have hAB : m.getD (N - 1) 0 ≠ m.getD (2 * N - 1) 0 := fun e => by
    have h5 := ha.2.2
    rw [e, hb.2.2] at h5
    omega
  have hcm : ∀ i, cmate N m i = if m.getD (2 * N - 1) 0 = i then m.getD (N - 1) 0 else if m.getD (N - 1) 0 = i then m.getD (2 * N - 1) 0 else m.getD i 0 := fun i => rfl
  have hlp : (lpC N m == 1) = (((m.getD (N - 1) 0 : Nat) : Int) == ((2 * N - 1 : Nat) : Int)) := by
    unfold lpC
    by_cases h : m.getD (N - 1) 0 = 2 * N - 1
    · rw [if_pos h, h]; simp
    · have h' : ((m.getD (N - 1) 0 : Nat) : Int) ≠ ((2 * N - 1 : Nat) : Int) := by omega
      rw [if_neg h, beq_eq_false_iff_ne.2 h']; rfl
  generalize hAe : m.getD (N - 1) 0 = A at ha hAB hcm hcv1 hlp ⊢
  generalize hBe : m.getD (2 * N - 1) 0 = Bm at hb hAB hcm hcv2 ⊢
  refine ⟨⟨rfl, rfl⟩, ?_⟩
  refine WA.loopB B54_ok (fun s => ∃ i : Nat, i ≤ 2 * N ∧ s = ⟨[(34, .int .i64 i), (33, .int .i64 (2 * N : Nat)), (9, .fn 122 [] [.ptr 2 0]), (8, .int .i64 Bm), (7, .int .i64 A), (6, .int .i64 (2 * N - 1 : Nat)), (5, .ptr 3 0), (4, .ptr 2 0), (2, .ptr 1 0), (1, .ptr 0 0)],
      [.cells (dia N m), .cells (dia 0 (List.replicate 16 0)), .cells [.int .i64 N], .cells (dia ((N : Int) - 1) (closeK N m i))]⟩)
    (fun s => match get s.env 34 with | .int _ x => 2 * N - x.toNat | _ => 0) ⟨_, Weak.slots [34, 33, 9, 8, 7, 6, 5, 4, 2, 1], 0, by omega, rfl⟩ ?_
  rintro s ⟨i, hi, rfl⟩
  have hw : wrapK .i64 ((i : Int) + 1) = ((i + 1 : Nat) : Int) := by rw [wrap64 (by omega) (by omega)]; rfl
  have hk16 := closeK_length (n := N) (m := m) (i := i)
  have c5 : (1 : Int) ≤ N ∧ (N : Int) ≤ 8 := by omega
  by_cases hlt : i < 2 * N
  · have hli : (i : Int) < ((2 * N : Nat) : Int) := by omega
    obtain ⟨hi16, hi16'⟩ := small16 (show i < 16 by omega)
    have hi17 : i < 16 := by omega
    have hmi := (hp i hlt).1
    have hcx : wrapK .i64 ((m.getD i 0 : Nat) : Int) = ((m.getD i 0 : Nat) : Int) := wrap64N (by omega)
    have c6 : (0 : Int) ≤ i ∧ (i : Int) < 2 * N := by omega
    by_cases ho1 : i = N - 1
    · have hob1 : ((i : Int) == ((N - 1 : Nat) : Int)) = true := by simp [ho1]
      have hnext : closeK N m (i + 1) = closeK N m i := by
        have : clOk N i = false := by simp [clOk, ho1]
        unfold closeK; rw [putAll, this]; simp
      simp (maxSteps := 3000000) only [over4E, heapL, fillA, rd, wrt, wrl, AO.withl, a_i_closed_l1, B54_i_Diagram_n_J2, B54_i_closed_1_J2, g_clat, g_n, hw, h1', h2, hli, hob1, hi16, hi16', hi17, hcx, dia_length, hml, Int.reduceEq, Int.reduceNe, Int.reduceBEq, Int.reduceBNe, Int.reduceLT, Int.reduceLE, Int.reduceAdd, Int.reduceSub, Int.reduceMul, idX_eq, wbE, ↓symP, symE, listE, AK.isCall, enumE, ev, putE, abin, aun, AV.cells, ↓reduceIte, reduceCtorEq, Nat.reduceAdd, Nat.reduceMul, Nat.reduceSub, Nat.reduceEqDiff, Nat.reduceLT, Nat.reduceLeDiff, implies_true, Back, retv, retV, AV.scal, AV.scals]; try simp only [idX_eq, ite_both, pickP_both, not_not_eq, Bool.not_eq_false, Bool.not_eq_true]
      refine ⟨_, Weak.slots [34, 33, 9, 8, 7, 6, 5, 4, 2, 1], ⟨i + 1, by omega, ?_⟩, ?_⟩
      · simp only [keptL, keptW, keptE, kepts, slots, ↓reduceIte, reduceCtorEq, Nat.reduceEqDiff, AV.ren, AV.rens, pos, Nat.reduceAdd]; rw [hnext]
      · simp only [keptL, keptW, keptE, kepts, slots, ↓reduceIte, reduceCtorEq, Nat.reduceEqDiff, AV.ren, AV.rens, pos, Nat.reduceAdd]; omega
    by_cases ho2 : i = 2 * N - 1
    · have hob1 : ((i : Int) == ((N - 1 : Nat) : Int)) = false := by rw [beq_eq_false_iff_ne]; omega
      have hob2 : ((i : Int) == ((2 * N - 1 : Nat) : Int)) = true := by simp [ho2]
      have hnext : closeK N m (i + 1) = closeK N m i := by
        have : clOk N i = false := by simp [clOk, ho2]
        unfold closeK; rw [putAll, this]; simp
      simp (maxSteps := 3000000) only [over4E, heapL, fillA, rd, wrt, wrl, AO.withl, a_i_closed_l1, B54_i_Diagram_n_J2, B54_i_closed_1_J2, g_clat, g_n, hw, h1', h2, hli, hob1, hob2, hi16, hi16', hi17, hcx, dia_length, hml, Int.reduceEq, Int.reduceNe, Int.reduceBEq, Int.reduceBNe, Int.reduceLT, Int.reduceLE, Int.reduceAdd, Int.reduceSub, Int.reduceMul, idX_eq, wbE, ↓symP, symE, listE, AK.isCall, enumE, ev, putE, abin, aun, AV.cells, ↓reduceIte, reduceCtorEq, Nat.reduceAdd, Nat.reduceMul, Nat.reduceSub, Nat.reduceEqDiff, Nat.reduceLT, Nat.reduceLeDiff, implies_true, Back, retv, retV, AV.scal, AV.scals]; try simp only [idX_eq, ite_both, pickP_both, not_not_eq, Bool.not_eq_false, Bool.not_eq_true]
      refine ⟨_, Weak.slots [34, 33, 9, 8, 7, 6, 5, 4, 2, 1], ⟨i + 1, by omega, ?_⟩, ?_⟩
      · simp only [keptL, keptW, keptE, kepts, slots, ↓reduceIte, reduceCtorEq, Nat.reduceEqDiff, AV.ren, AV.rens, pos, Nat.reduceAdd]; rw [hnext]
      · simp only [keptL, keptW, keptE, kepts, slots, ↓reduceIte, reduceCtorEq, Nat.reduceEqDiff, AV.ren, AV.rens, pos, Nat.reduceAdd]; omega
    have hob1 : ((i : Int) == ((N - 1 : Nat) : Int)) = false := by rw [beq_eq_false_iff_ne]; omega
    have hob2 : ((i : Int) == ((2 * N - 1 : Nat) : Int)) = false := by rw [beq_eq_false_iff_ne]; omega
    have hok : clOk N i = true := by simp [clOk, ho1, ho2]
    have hnext : closeK N m (i + 1) = (closeK N m i).set (cl N i) (cl N (cmate N m i)) := by
      unfold closeK; rw [putAll, hok]; simp
    obtain ⟨f1, f2, f3⟩ := clOk_facts hN1 hs hlt hok
    obtain ⟨a2, a3⟩ := small16 f1
    have hcmi := hcm i
    have hu8 := wrapU8 (show _ < 256 from Nat.lt_trans f3 (by omega))
    have c7 : (0 : Int) ≤ (cmate N m i : Nat) ∧ ((cmate N m i : Nat) : Int) < 2 * N := by omega
    by_cases hA : i = A
    case' pos =>
      have qA : ((i : Int) == (A : Int)) = true := by simp [hA]
      have qB : (0 : Int) = 0 := rfl
      rw [if_neg (by omega), if_pos hA.symm] at hcmi
    case' neg =>
      have qA : ((i : Int) == (A : Int)) = false := by rw [beq_eq_false_iff_ne]; omega
      by_cases hB : i = Bm
      case' pos =>
        have qB : ((i : Int) == (Bm : Int)) = true := by simp [hB]
        rw [if_pos hB.symm] at hcmi
      case' neg =>
        have qB : ((i : Int) == (Bm : Int)) = false := by rw [beq_eq_false_iff_ne]; omega
        rw [if_neg (fun e => hB e.symm), if_neg (fun e => hA e.symm)] at hcmi
    all_goals
      rw [hcmi] at hnext f3 c7 hu8
      simp (maxSteps := 3000000) only [over4E, heapL, fillA, rd, wrt, wrl, AO.withl, a_i_closed_l1, a_i_closed_c1, B54_i_Diagram_n_J2, B54_i_closed_1_J2, g_clat, g_n, hw, h1', h2, hli, hob1, hob2, qA, qB, hi16, hi16', hi17, hcx, hu8, a2, a3, f1, c5, c6, c7, dia_length, hml, hk16, dia_set, AV.one, Int.reduceEq, Int.reduceNe, Int.reduceBEq, Int.reduceBNe, Int.reduceLT, Int.reduceLE, Int.reduceAdd, Int.reduceSub, Int.reduceMul, idX_eq, wbE, ↓symP, symE, listE, AK.isCall, enumE, ev, putE, abin, aun, AV.cells, ↓reduceIte, reduceCtorEq, Nat.reduceAdd, Nat.reduceMul, Nat.reduceSub, Nat.reduceEqDiff, Nat.reduceLT, Nat.reduceLeDiff, implies_true, Back, retv, retV, AV.scal, AV.scals]; try simp only [idX_eq, ite_both, pickP_both, not_not_eq, Bool.not_eq_false, Bool.not_eq_true]
      refine ⟨_, Weak.slots [34, 33, 9, 8, 7, 6, 5, 4, 2, 1], ⟨i + 1, by omega, ?_⟩, ?_⟩
      · simp only [keptL, keptW, keptE, kepts, slots, ↓reduceIte, reduceCtorEq, Nat.reduceEqDiff, AV.ren, AV.rens, pos, Nat.reduceAdd]; rw [hnext]
      · simp only [keptL, keptW, keptE, kepts, slots, ↓reduceIte, reduceCtorEq, Nat.reduceEqDiff, AV.ren, AV.rens, pos, Nat.reduceAdd]; omega
  · have hli : ¬ (i : Int) < ((2 * N : Nat) : Int) := by omega
    obtain rfl : i = 2 * N := by omega
    have hcl : closeK N m (2 * N) = closeL N m := rfl
    rw [hcl] at hk16 ⊢
    simp (maxSteps := 3000000) only [over4E, heapL, fillA, rd, wrt, wrl, AO.withl, a_i_closed_l1, a_i_closed_k1, hli, dia_length, hk16, dia_take17 hk16, over_dia okD_zero hk16, ones_dia, scals_dia, List.length_replicate, Int.lt_irrefl, Int.reduceEq, Int.reduceNe, Int.reduceBEq, Int.reduceBNe, Int.reduceLT, Int.reduceLE, Int.reduceAdd, Int.reduceSub, Int.reduceMul, idX_eq, wbE, ↓symP, symE, listE, AK.isCall, enumE, ev, putE, abin, aun, AV.cells, ↓reduceIte, reduceCtorEq, Nat.reduceAdd, Nat.reduceMul, Nat.reduceSub, Nat.reduceEqDiff, Nat.reduceLT, Nat.reduceLeDiff, implies_true, Back, retv, retV, AV.scal, AV.scals]; try simp only [idX_eq, ite_both, pickP_both, not_not_eq, Bool.not_eq_false, Bool.not_eq_true]
    rw [hlp]
def g_iclosed : List AV → Option AV
  | [.agg l] => match diaOf l with
    | some (n, m) => chk (isS n.toNat m = true ∧ 2 ≤ n) (some (.tup [.agg (dia (n - 1) (closeL n.toNat m)), .bool (lpC n.toNat m == 1)]))
    | none => none
  | _ => none
theorem k_iclosed : Am.Callee Try.prog 85 (plainE g_iclosed) := Am.Callee.plain fun xs v he => by
  unfold g_iclosed at he
  split at he
  · rename_i l
    split at he
    · rename_i n m hd
      obtain ⟨⟨h1, h2⟩, he⟩ := chk_some he
      cases he
      obtain ⟨rfl, hm⟩ := diaOf_some hd
      obtain ⟨N, rfl⟩ : ∃ N : Nat, n = N := ⟨n.toNat, by omega⟩
      rw [Int.toNat_natCast] at h1 ⊢
      exact ⟨by simp only [AV.scals, AV.scal, scals_dia, Bool.and_self], by simp only [AV.scal, AV.scals, scals_dia, Bool.and_self], c_i_closed N m hm h1 (by omega)⟩
    · cases he
  · cases he
def B55 : Book := (B54.put 85 (plainE g_iclosed))
theorem B55_ok : BookOk Try.prog B55 := (B54_ok.put (k_iclosed))
theorem B55_i_Diagram_n_J2 : B55 115 = some (readE 1 g_n) := rfl
theorem B55_i_closed_1_J2 : B55 122 = some (g_clat) := rfl
theorem B55_i_closed_J2 : B55 85 = some (plainE g_iclosed) := rfl

theorem powP_one {p c : Int} (hc : 0 ≤ c ∧ c ≤ p - 1) : powP p c 1 = c := by
  show (1 * c).emod p = c
  rw [Int.one_mul]
  exact Int.emod_eq_of_lt hc.1 (by omega)
def a_i_PartialClosure_1_t1 : AT := (.one ⟨some 13, none, .op (.loadN 17 (.t 5))⟩
        (.one ⟨some 14, none, .op (.faddr 1 (.t 1))⟩
        (.alt ⟨some 15, none, .op (.load1 (.t 14))⟩
        (.one ⟨none, none, .op (.storeN 17 (.t 3) (.t 13))⟩
         (.one ⟨some 4, none, .op (.mov (.t 15))⟩
         (.nil)))
        (.alt ⟨none, none, .op (.storeN 17 (.t 3) (.t 13))⟩
        (.one ⟨some 15, none, .op (.load1 (.t 14))⟩
         (.one ⟨some 4, none, .op (.mov (.t 15))⟩
         (.nil)))
        (.none)))))
def a_i_PartialClosure_1_k1 : AC := .seq (.region [⟨some 16, none, .op (.loadN 17 (.t 5))⟩,
     ⟨none, none, .op (.storeN 17 (.t 3) (.t 16))⟩,
     ⟨some 4, none, .op (.mov (.c (.int .i64 1)))⟩]) .ret
def a_i_PartialClosure_1 : AC := .seq (.region [⟨some 2, none, .op (.box (.t 0))⟩,
     ⟨some 3, none, .op (.alloc [(.int .i64 0), (.int .u8 0), (.int .u8 0), (.int .u8 0), (.int .u8 0), (.int .u8 0), (.int .u8 0), (.int .u8 0), (.int .u8 0), (.int .u8 0), (.int .u8 0), (.int .u8 0), (.int .u8 0), (.int .u8 0), (.int .u8 0), (.int .u8 0), (.int .u8 0)])⟩,
     ⟨some 4, none, .op (.mov (.c (.int .i64 0)))⟩]) (.seq (.region [⟨some 8, none, .op (.loadN 17 (.t 2))⟩,
     ⟨some 9, none, .call (.c (.fn 85 [] [])) [(.t 8)]⟩,
     ⟨some 7, none, .op (.mov (.t 9))⟩,
     ⟨some 10, none, .op (.ext 0 (.t 7))⟩,
     ⟨some 11, none, .op (.ext 1 (.t 7))⟩,
     ⟨some 5, none, .op (.alloc [(.int .i64 0), (.int .u8 0), (.int .u8 0), (.int .u8 0), (.int .u8 0), (.int .u8 0), (.int .u8 0), (.int .u8 0), (.int .u8 0), (.int .u8 0), (.int .u8 0), (.int .u8 0), (.int .u8 0), (.int .u8 0), (.int .u8 0), (.int .u8 0), (.int .u8 0)])⟩,
     ⟨none, none, .op (.storeN 17 (.t 5) (.t 10))⟩,
     ⟨some 6, none, .op (.mov (.t 11))⟩]) (.seq (.seq (.region [⟨some 12, none, .op (.mov (.t 6))⟩]) (.cond 12 (.seq (.tree false a_i_PartialClosure_1_t1) .ret) .skip)) a_i_PartialClosure_1_k1))
theorem r_i_PartialClosure_1 : readF Try.prog 84 = some ⟨17, a_i_PartialClosure_1, [.cellN 3 17, .slot 4]⟩ := by kernel_rfl
theorem c_PartialClosure_1 (p c : Int) (N : Nat) (m : List Nat) (hc : 0 ≤ c ∧ c ≤ p - 1) (hm : okD m) (hs : isS N m = true) (hN1 : 1 < N) : Am.Fn Try.prog 84 [.agg (dia N m), .ptr 0 0] [.ro [.int .i64 p, .int .i64 c]] (fun v H' => v = .tup [.agg (dia ((N : Int) - 1) (closeL N m)), .int .i64 (powP p c (lpC N m))] ∧ H' = [.ro [.int .i64 p, .int .i64 c]]) := by
  refine Am.Fn.sameB (R := fun v => v = _) B55_ok mixed r_i_PartialClosure_1 (by simp [AV.unders, AV.under, unders_scal _ _ (scals_dia _ _)]) (ro_under rfl) ?_
  have hml := hm.1
  have hcl : (closeL N m).length = 16 := (close_isS hN1 hs).2.1
  have h0 : (2 : Int) ≤ N := by omega
  cases hlp : (lpC N m == 1) with
  | true =>
    have hl : lpC N m = 1 := by simpa using hlp
    have hpw := powP_one hc
    simp (maxSteps := 3000000) only [over4E, heapL, fillA, rd, wrt, wrl, AO.withl, a_i_PartialClosure_1, B55_i_Diagram_n_J2, B55_i_closed_1_J2, B55_i_closed_J2, g_clat, g_iclosed, g_n, dia_zero, dia_zero_len, dia_length, hml, hcl, dia_take17 hml, dia_take17 hcl, diaOf_dia hm, hs, h0, hlp, ones_dia, over_dia0 hcl, scals_dia, List.length_replicate, Nat.le_refl, Int.reduceEq, Int.reduceNe, Int.reduceBEq, Int.reduceBNe, Int.reduceLT, Int.reduceLE, Int.reduceAdd, Int.reduceSub, Int.reduceMul, idX_eq, wbE, ↓symP, symE, listE, AK.isCall, enumE, ev, putE, abin, aun, AV.cells, ↓reduceIte, reduceCtorEq, Nat.reduceAdd, Nat.reduceMul, Nat.reduceSub, Nat.reduceEqDiff, Nat.reduceLT, Nat.reduceLeDiff, implies_true, Back, retv, retV, AV.scal, AV.scals]; try simp only [idX_eq, ite_both, pickP_both, not_not_eq, Bool.not_eq_false, Bool.not_eq_true]
    refine WA.treeB B55_ok (fun s => s = ⟨[(4, .int .i64 c), (3, .ptr 2 0)], [.ro [.int .i64 p, .int .i64 c], .cells (dia N m), .cells (dia ((N : Int) - 1) (closeL N m)), .cells (dia ((N : Int) - 1) (closeL N m))]⟩) ?_ ?_
    · unfold a_i_PartialClosure_1_t1
      simp (maxSteps := 3000000) only [over4E, heapL, fillA, rd, wrt, wrl, AO.withl, wbTT_alt, wbTT_no, dia_length, hcl, dia_take17 hcl, ones_dia, over_dia0 hcl, List.length_replicate, Nat.le_refl, Int.reduceEq, Int.reduceNe, Int.reduceBEq, Int.reduceBNe, Int.reduceLT, Int.reduceLE, Int.reduceAdd, Int.reduceSub, Int.reduceMul, idX_eq, wbE, ↓symP, symE, listE, AK.isCall, enumE, ev, putE, abin, aun, AV.cells, ↓reduceIte, reduceCtorEq, Nat.reduceAdd, Nat.reduceMul, Nat.reduceSub, Nat.reduceEqDiff, Nat.reduceLT, Nat.reduceLeDiff, implies_true, Back, retv, retV, AV.scal, AV.scals]; try simp only [idX_eq, ite_both, pickP_both, not_not_eq, Bool.not_eq_false, Bool.not_eq_true]
      exact ⟨⟨_, Weak.slots [4, 3], rfl⟩, ⟨_, Weak.slots [4, 3], rfl⟩⟩
    · rintro s rfl
      simp (maxSteps := 3000000) only [over4E, heapL, fillA, rd, wrt, wrl, AO.withl, dia_length, hcl, dia_take17 hcl, scals_dia, hl, hpw, Int.reduceEq, Int.reduceNe, Int.reduceBEq, Int.reduceBNe, Int.reduceLT, Int.reduceLE, Int.reduceAdd, Int.reduceSub, Int.reduceMul, idX_eq, wbE, ↓symP, symE, listE, AK.isCall, enumE, ev, putE, abin, aun, AV.cells, ↓reduceIte, reduceCtorEq, Nat.reduceAdd, Nat.reduceMul, Nat.reduceSub, Nat.reduceEqDiff, Nat.reduceLT, Nat.reduceLeDiff, implies_true, Back, retv, retV, AV.scal, AV.scals]; try simp only [idX_eq, ite_both, pickP_both, not_not_eq, Bool.not_eq_false, Bool.not_eq_true]
      exact ⟨_, rfl⟩
  | false =>
    have hl : lpC N m = 0 := by unfold lpC at hlp ⊢; split at hlp <;> simp_all
    have hpw : powP p c 0 = 1 := rfl
    simp (maxSteps := 3000000) only [over4E, heapL, fillA, rd, wrt, wrl, AO.withl, a_i_PartialClosure_1, a_i_PartialClosure_1_k1, B55_i_Diagram_n_J2, B55_i_closed_1_J2, B55_i_closed_J2, g_clat, g_iclosed, g_n, dia_zero, dia_zero_len, dia_length, hml, hcl, dia_take17 hml, dia_take17 hcl, diaOf_dia hm, hs, h0, hlp, ones_dia, over_dia0 hcl, scals_dia, List.length_replicate, Nat.le_refl, Int.reduceEq, Int.reduceNe, Int.reduceBEq, Int.reduceBNe, Int.reduceLT, Int.reduceLE, Int.reduceAdd, Int.reduceSub, Int.reduceMul, idX_eq, wbE, ↓symP, symE, listE, AK.isCall, enumE, ev, putE, abin, aun, AV.cells, ↓reduceIte, reduceCtorEq, Nat.reduceAdd, Nat.reduceMul, Nat.reduceSub, Nat.reduceEqDiff, Nat.reduceLT, Nat.reduceLeDiff, implies_true, Back, retv, retV, AV.scal, AV.scals]; try simp only [idX_eq, ite_both, pickP_both, not_not_eq, Bool.not_eq_false, Bool.not_eq_true]
    exact ⟨⟨_, rfl⟩, by rw [hl, hpw]⟩
def g_pc1 : BE := fun hp xs => match xs with
  | [.agg l, .ptr b 0] => match rd hp b with
    | some (.int .i64 p :: .int .i64 c :: _) => match diaOf l with
      | some (n, m) => chk ((isS n.toNat m = true ∧ 2 ≤ n) ∧ 0 ≤ c ∧ c ≤ p - 1) (some (.tup [.agg (dia (n - 1) (closeL n.toNat m)), .int .i64 (powP p c (lpC n.toNat m))], hp))
      | none => none
    | _ => none
  | _ => none
theorem k_pc1 : Am.Callee Try.prog 84 g_pc1 := Callee.fp fun hp xs v hp' he => by
  unfold g_pc1 at he
  split at he
  · rename_i l b
    split at he
    · rename_i p c L hL
      split at he
      · rename_i n m hd
        obtain ⟨⟨⟨h1, h2⟩, h3⟩, he⟩ := chk_some he
        simp only [Option.some.injEq, Prod.mk.injEq] at he
        obtain ⟨rfl, rfl⟩ := he
        obtain ⟨rfl, hm⟩ := diaOf_some hd
        obtain ⟨N, rfl⟩ : ∃ N : Nat, n = N := ⟨n.toNat, by omega⟩
        rw [Int.toNat_natCast] at h1 ⊢
        refine ⟨[(b, 0)], [.agg (dia N m), .ptr 0 0], _, _, _, c_PartialClosure_1 p c N m h3 hm h1 (by omega), by simp [AV.ren, AV.rens, ofL, rens_scal _ _ (scals_dia _ _)], ?_, ⟨⟨_, hL, by simp, by simp [AV.rens, AV.ren]⟩, trivial⟩, rfl, ⟨⟨trivial, trivial, trivial⟩, trivial⟩, ⟨unders_scal _ _ (scals_dia _ _), by simp [AV.under], trivial⟩, by simp [AV.ren, AV.rens, rens_scal _ _ (scals_dia _ _)], ?_⟩
        · simp [noTopB]
        · simp [after, upd, AO.wr, AO.ren, AV.rens, AV.ren]
      · cases he
    · cases he
  · cases he
def B56 : Book := (B55.put 84 (g_pc1))
theorem B56_ok : BookOk Try.prog B56 := (B55_ok.put (k_pc1))

end Go.Proofs.Ytkgoadglalpbfaa
