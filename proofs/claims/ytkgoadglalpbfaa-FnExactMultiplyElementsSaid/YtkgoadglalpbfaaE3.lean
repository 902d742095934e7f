/- Contracts: the reference's test of a diagram. -/
import Derived.Test.YtkgoadglalpbfaaE2
namespace Go.Proofs.Ytkgoadglalpbfaa
open Go.Am Go.Dia
set_option linter.unusedSimpArgs false
set_option linter.unusedVariables false
set_option maxRecDepth 4000
set_option maxHeartbeats 4000000


def a_s_l01Ends : AC := .seq (.region [⟨some 2, none, .op (.box (.t 0))⟩,
     ⟨some 4, none, .op (.mov (.c (.int .i64 0)))⟩,
     ⟨some 5, none, .op (.mov (.c (.int .i64 0)))⟩]) (.seq (.draw true [⟨some 8, none, .op (.faddr 0 (.t 2))⟩,
     ⟨some 9, none, .op (.load1 (.t 8))⟩,
     ⟨some 10, none, .op (.mov (.t 1))⟩,
     ⟨some 12, none, .op (.faddr 0 (.t 2))⟩,
     ⟨some 13, none, .op (.load1 (.t 12))⟩,
     ⟨some 14, none, .op (.mov (.t 1))⟩,
     ⟨some 15, none, .op (.faddr 1 (.t 2))⟩,
     ⟨some 16, none, .op (.iaddrA 16 1 (.t 15) (.t 14))⟩,
     ⟨some 17, none, .op (.load1 (.t 16))⟩,
     ⟨some 18, none, .op (.conv .i64 (.t 17))⟩,
     ⟨some 11, none, .call (.c (.fn 135 [] [])) [(.t 9), (.t 10)]⟩,
     ⟨some 19, none, .call (.c (.fn 135 [] [])) [(.t 13), (.t 18)]⟩,
     ⟨some 6, none, .op (.mov (.t 11))⟩,
     ⟨some 7, none, .op (.mov (.t 19))⟩]) (.seq (.region [⟨some 20, none, .op (.mov (.t 6))⟩,
     ⟨some 21, none, .op (.mov (.t 7))⟩,
     ⟨some 22, none, .op (.minmax true (.t 20) (.t 21))⟩,
     ⟨some 23, none, .op (.mov (.t 6))⟩,
     ⟨some 24, none, .op (.mov (.t 7))⟩,
     ⟨some 25, none, .op (.minmax false (.t 23) (.t 24))⟩,
     ⟨some 4, none, .op (.mov (.t 22))⟩,
     ⟨some 5, none, .op (.mov (.t 25))⟩]) .ret))
theorem r_s_l01Ends : readF Try.prog 107 = some ⟨26, a_s_l01Ends, [.slot 4, .slot 5]⟩ := by kernel_rfl
def a_s_l01Is_l1 : AC := .seq (.seq (.region [⟨some 17, none, .op (.mov (.t 4))⟩,
         ⟨some 18, none, .op (.bin .lss (.t 17) (.c (.int .i64 16)))⟩]) (.cond 18 .skip (.exit 0))) (.seq (.block 1 (.seq (.region [⟨some 21, none, .op (.mov (.t 4))⟩,
          ⟨some 22, none, .op (.faddr 1 (.t 1))⟩,
          ⟨some 23, none, .op (.iaddrA 16 1 (.t 22) (.t 21))⟩,
          ⟨some 24, none, .op (.load1 (.t 23))⟩,
          ⟨some 25, none, .op (.conv .i64 (.t 24))⟩,
          ⟨some 5, none, .op (.mov (.t 25))⟩]) (.seq (.seq (.region [⟨some 26, none, .op (.mov (.t 4))⟩,
           ⟨some 27, none, .op (.mov (.t 3))⟩,
           ⟨some 28, none, .op (.bin .mul (.c (.int .i64 2)) (.t 27))⟩,
           ⟨some 29, none, .op (.bin .geq (.t 26) (.t 28))⟩]) (.cond 29 (.seq (.seq (.region [⟨some 30, none, .op (.mov (.t 5))⟩,
              ⟨some 31, none, .op (.bin .neq (.t 30) (.c (.int .i64 0)))⟩]) (.cond 31 (.seq (.region [⟨some 2, none, .op (.mov (.c (.bool false)))⟩]) .ret) .skip)) (.exit 1)) .skip)) (.seq (.region [⟨some 32, none, .op (.mov (.t 5))⟩,
          ⟨some 33, none, .op (.mov (.t 3))⟩,
          ⟨some 34, none, .op (.bin .mul (.c (.int .i64 2)) (.t 33))⟩,
          ⟨some 35, none, .op (.bin .geq (.t 32) (.t 34))⟩,
          ⟨some 36, none, .op (.mov (.t 35))⟩,
          ⟨some 37, some (36, false), .op (.mov (.t 5))⟩,
          ⟨some 38, some (36, false), .op (.mov (.t 4))⟩,
          ⟨some 39, some (36, false), .op (.bin .eql (.t 37) (.t 38))⟩,
          ⟨some 40, none, .op (.pick (.t 36) (.c (.bool true)) (.t 39))⟩,
          ⟨some 41, none, .op (.mov (.t 40))⟩,
          ⟨some 42, some (41, false), .op (.mov (.t 5))⟩,
          ⟨some 43, some (41, false), .op (.faddr 1 (.t 1))⟩,
          ⟨some 44, some (41, false), .op (.iaddrA 16 1 (.t 43) (.t 42))⟩,
          ⟨some 45, some (41, false), .op (.load1 (.t 44))⟩,
          ⟨some 46, some (41, false), .op (.conv .i64 (.t 45))⟩,
          ⟨some 47, some (41, false), .op (.mov (.t 4))⟩,
          ⟨some 48, some (41, false), .op (.bin .neq (.t 46) (.t 47))⟩,
          ⟨some 49, none, .op (.pick (.t 41) (.c (.bool true)) (.t 48))⟩]) (.cond 49 (.seq (.region [⟨some 2, none, .op (.mov (.c (.bool false)))⟩]) .ret) .skip))))) (.region [⟨some 19, none, .op (.mov (.t 4))⟩,
       ⟨some 20, none, .op (.bin .add (.t 19) (.c (.int .i64 1)))⟩,
       ⟨some 4, none, .op (.mov (.t 20))⟩]))
def a_s_l01Is_l2 : AC := .seq (.seq (.region [⟨some 62, none, .op (.mov (.t 9))⟩,
             ⟨some 63, none, .op (.mov (.t 3))⟩,
             ⟨some 64, none, .op (.bin .mul (.c (.int .i64 2)) (.t 63))⟩,
             ⟨some 65, none, .op (.bin .lss (.t 62) (.t 64))⟩]) (.cond 65 .skip (.exit 4))) (.seq (.block 5 (.seq (.region [⟨some 69, none, .op (.loadN 17 (.t 1))⟩,
              ⟨some 70, none, .op (.mov (.t 9))⟩,
              ⟨some 71, none, .call (.c (.fn 107 [] [])) [(.t 69), (.t 70)]⟩,
              ⟨some 68, none, .op (.mov (.t 71))⟩,
              ⟨some 72, none, .op (.ext 0 (.t 68))⟩,
              ⟨some 73, none, .op (.ext 1 (.t 68))⟩,
              ⟨some 10, none, .op (.mov (.t 72))⟩,
              ⟨some 11, none, .op (.mov (.t 73))⟩]) (.seq (.region [⟨some 74, none, .op (.mov (.t 7))⟩,
              ⟨some 75, none, .op (.mov (.t 10))⟩,
              ⟨some 76, none, .op (.bin .lss (.t 74) (.t 75))⟩,
              ⟨some 77, none, .op (.mov (.t 76))⟩,
              ⟨some 78, some (77, true), .op (.mov (.t 10))⟩,
              ⟨some 79, some (77, true), .op (.mov (.t 8))⟩,
              ⟨some 80, some (77, true), .op (.bin .lss (.t 78) (.t 79))⟩,
              ⟨some 81, none, .op (.pick (.t 77) (.t 80) (.c (.bool false)))⟩,
              ⟨some 82, none, .op (.mov (.t 81))⟩,
              ⟨some 83, some (82, true), .op (.mov (.t 8))⟩,
              ⟨some 84, some (82, true), .op (.mov (.t 11))⟩,
              ⟨some 85, some (82, true), .op (.bin .lss (.t 83) (.t 84))⟩,
              ⟨some 86, none, .op (.pick (.t 82) (.t 85) (.c (.bool false)))⟩]) (.cond 86 (.seq (.region [⟨some 2, none, .op (.mov (.c (.bool false)))⟩]) .ret) .skip)))) (.region [⟨some 66, none, .op (.mov (.t 9))⟩,
           ⟨some 67, none, .op (.bin .add (.t 66) (.c (.int .i64 1)))⟩,
           ⟨some 9, none, .op (.mov (.t 67))⟩]))
def a_s_l01Is_k1 : AC := .region [⟨some 54, none, .op (.mov (.t 6))⟩,
       ⟨some 55, none, .op (.bin .add (.t 54) (.c (.int .i64 1)))⟩,
       ⟨some 6, none, .op (.mov (.t 55))⟩]
def a_s_l01Is_l3 : AC := .seq (.seq (.region [⟨some 50, none, .op (.mov (.t 6))⟩,
         ⟨some 51, none, .op (.mov (.t 3))⟩,
         ⟨some 52, none, .op (.bin .mul (.c (.int .i64 2)) (.t 51))⟩,
         ⟨some 53, none, .op (.bin .lss (.t 50) (.t 52))⟩]) (.cond 53 .skip (.exit 2))) (.seq (.block 3 (.seq (.region [⟨some 57, none, .op (.loadN 17 (.t 1))⟩,
          ⟨some 58, none, .op (.mov (.t 6))⟩,
          ⟨some 59, none, .call (.c (.fn 107 [] [])) [(.t 57), (.t 58)]⟩,
          ⟨some 56, none, .op (.mov (.t 59))⟩,
          ⟨some 60, none, .op (.ext 0 (.t 56))⟩,
          ⟨some 61, none, .op (.ext 1 (.t 56))⟩,
          ⟨some 7, none, .op (.mov (.t 60))⟩,
          ⟨some 8, none, .op (.mov (.t 61))⟩]) (.seq (.region [⟨some 9, none, .op (.mov (.c (.int .i64 0)))⟩]) (.block 4 (.loop a_s_l01Is_l2))))) a_s_l01Is_k1)
def a_s_l01Is_k2 : AC := .seq (.region [⟨some 2, none, .op (.mov (.c (.bool true)))⟩]) .ret
def a_s_l01Is_k3 : AC := .seq (.seq (.region [⟨some 6, none, .op (.mov (.c (.int .i64 0)))⟩]) (.block 2 (.loop a_s_l01Is_l3))) a_s_l01Is_k2
def a_s_l01Is : AC := .seq (.region [⟨some 1, none, .op (.box (.t 0))⟩,
     ⟨some 2, none, .op (.mov (.c (.bool false)))⟩]) (.seq (.region [⟨some 12, none, .op (.faddr 0 (.t 1))⟩,
     ⟨some 13, none, .op (.load1 (.t 12))⟩,
     ⟨some 3, none, .op (.mov (.t 13))⟩]) (.seq (.seq (.region [⟨some 14, none, .op (.mov (.t 3))⟩,
      ⟨some 15, none, .call (.c (.fn 60 [] [])) [(.t 14), (.c (.int .i64 1)), (.c (.int .i64 8))]⟩,
      ⟨some 16, none, .op (.un .not (.t 15))⟩]) (.cond 16 (.seq (.region [⟨some 2, none, .op (.mov (.c (.bool false)))⟩]) .ret) .skip)) (.seq (.seq (.region [⟨some 4, none, .op (.mov (.c (.int .i64 0)))⟩]) (.block 0 (.loop a_s_l01Is_l1))) a_s_l01Is_k3)))
theorem r_s_l01Is : readF Try.prog 58 = some ⟨87, a_s_l01Is, [.slot 2]⟩ := by kernel_rfl

def g_text : List AV → List AV → Option AV := fun l xs => match diaOf l, xs with
  | some (n, m), [] => chk (0 ≤ n ∧ n ≤ 8) (some (.str (textOf n.toNat m)))
  | _, _ => none
theorem k_i_text : Am.Callee Try.prog 100 (readE 17 g_text) :=
  Am.Callee.read fun l xs v hl he => by
    unfold g_text at he
    split at he
    · rename_i n m hd
      obtain ⟨h1, he⟩ := chk_some he
      cases he
      obtain ⟨rfl, hm⟩ := diaOf_some hd
      obtain ⟨k, rfl⟩ : ∃ k : Nat, n = k := ⟨n.toNat, by omega⟩
      exact ⟨scals_dia _ _, rfl, rfl, by rw [Int.toNat_natCast]; exact c_i_text k m (by omega) hm⟩
    · cases he
def g_textS : List AV → Option AV
  | [.agg l] => match diaOf l with
    | some (n, m) => chk (0 ≤ n ∧ n ≤ 8) (some (.str (textOf n.toNat m)))
    | none => none
  | _ => none
theorem k_s_l01Text : Am.Callee Try.prog 109 (plainE g_textS) :=
  Am.Callee.plain fun xs v he => by
    unfold g_textS at he
    split at he
    · split at he
      · rename_i n m hd
        obtain ⟨h1, he⟩ := chk_some he
        cases he
        obtain ⟨rfl, hm⟩ := diaOf_some hd
        obtain ⟨k, rfl⟩ : ∃ k : Nat, n = k := ⟨n.toNat, by omega⟩
        exact ⟨by simp only [AV.scals, AV.scal, scals_dia, Bool.and_self], rfl, by rw [Int.toNat_natCast]; exact c_s_l01Text k m (by omega) hm⟩
      · cases he
    · cases he
def B5 : Book := ((B4.put 100 (readE 17 g_text)).put 109 (plainE g_textS))

theorem B5_ok : BookOk Try.prog B5 := ((B4_ok.put (k_i_text)).put (k_s_l01Text))

theorem B5_s_l01In_E3 : B5 60 = some (plainE g_in) := rfl
theorem B5_s_l01Place_E3 : B5 135 = some (plainE g_place) := rfl


theorem c_s_l01Ends (n i : Nat) (m : List Nat) (hn : n ≤ 8) (hm : okD m) (hi : i < 2 * n) (ht : m.getD i 0 < 2 * n) :
    Am.Fn Try.prog 107 [.agg (dia n m), .int .i64 i] [] (fun v H' => v = .tup [.int .i64 (ends1 n m i : Nat), .int .i64 (ends2 n m i : Nat)] ∧ H' = []) := by
  refine Am.Fn.sameB (R := fun v => v = _) B5_ok mixed r_s_l01Ends (by simp) (by simp) ?_
  have hg := hm.get i
  have h1 : wrapK .i64 ((m.getD i 0 : Nat) : Int) = (m.getD i 0 : Nat) := wrap64N (by omega)
  have hl : i < m.length := by rw [hm.1]; omega
  simp (maxSteps := 3000000) only [a_s_l01Ends, B5_s_l01In_E3, B5_s_l01Place_E3, g_in, g_place, rd, List.getElem?_cons_zero, List.getElem?_cons_succ, dia_get0, dia_get hl, Int.toNat_natCast, Nat.mul_one, h1, placeZ_nat hi, placeZ_nat ht, and_self, List.append_cancel_left_eq, List.self_eq_append_right, exists_eq, AV.tup.injEq, List.cons.injEq, AV.int.injEq, idX_eq, wbE, ↓symP, symE, listE, AK.isCall, enumE, ev, putE, abin, aun, AV.cells, ↓reduceIte, reduceCtorEq, Nat.reduceAdd, Nat.reduceMul, Nat.reduceSub, Nat.reduceEqDiff, Nat.reduceLT, Nat.reduceLeDiff, implies_true, Back, retv, retV, AV.scal, AV.scals]; try simp only [idX_eq, ite_both, pickP_both, not_not_eq, Bool.not_eq_false, Bool.not_eq_true]
  refine ⟨⟨by omega, by omega⟩, hl, ⟨small_nat (by omega), small_nat (by omega)⟩, ⟨small_nat (by omega), small_nat (by omega)⟩, ?_, ?_⟩
  · unfold ends1; split <;> omega
  · unfold ends2; split <;> omega
def g_ends : List AV → Option AV
  | [.agg l, .int .i64 i] => match diaOf l with
    | some (n, m) => chk ((0 ≤ n ∧ n ≤ 8) ∧ (0 ≤ i ∧ i < 2 * n) ∧ m.getD i.toNat 0 < 2 * n.toNat) (some (.tup [.int .i64 (ends1 n.toNat m i.toNat : Nat), .int .i64 (ends2 n.toNat m i.toNat : Nat)]))
    | none => none
  | _ => none
theorem k_s_l01Ends : Am.Callee Try.prog 107 (plainE g_ends) :=
  Am.Callee.plain fun xs v he => by
    unfold g_ends at he
    split at he
    · split at he
      · rename_i i _ n m hd
        obtain ⟨h1, he⟩ := chk_some he
        cases he
        obtain ⟨rfl, hm⟩ := diaOf_some hd
        obtain ⟨k, rfl⟩ : ∃ k : Nat, n = k := ⟨n.toNat, by omega⟩
        obtain ⟨j, rfl⟩ : ∃ j : Nat, i = j := ⟨i.toNat, by omega⟩
        simp only [Int.toNat_natCast] at h1 ⊢
        exact ⟨by simp only [AV.scals, AV.scal, scals_dia, Bool.and_self], rfl, c_s_l01Ends k j m (by omega) hm (by omega) h1.2.2⟩
      · cases he
    · cases he
def B6 : Book := (B5.put 107 (plainE g_ends))

theorem B6_ok : BookOk Try.prog B6 := (B5_ok.put (k_s_l01Ends))

theorem B6_s_l01In_E3 : B6 60 = some (plainE g_in) := rfl
theorem B6_s_l01Place_E3 : B6 135 = some (plainE g_place) := rfl
theorem B6_s_l01Ends_E3 : B6 107 = some (plainE g_ends) := rfl


theorem isS_out {n : Int} {m : List Nat} (h : ¬(1 ≤ n ∧ n ≤ 8)) : isS n.toNat m = false := by
  unfold isS; rw [decide_eq_false (by omega)]; rfl
def cond1 (n : Nat) (m : List Nat) (i : Nat) : Bool := if 2 * n ≤ i then m.getD i 0 == 0 else decide (m.getD i 0 < 2 * n ∧ m.getD i 0 ≠ i ∧ m.getD (m.getD i 0) 0 = i)
theorem cond1_hi {n i : Nat} {m : List Nat} (h : 2 * n ≤ i) : cond1 n m i = (m.getD i 0 == 0) := if_pos h
theorem cond1_lo {n i : Nat} {m : List Nat} (h : ¬2 * n ≤ i) : cond1 n m i = decide (m.getD i 0 < 2 * n ∧ m.getD i 0 ≠ i ∧ m.getD (m.getD i 0) 0 = i) := if_neg h
def cross (n : Nat) (m : List Nat) (i k : Nat) : Bool := decide (ends1 n m i < ends1 n m k ∧ ends1 n m k < ends2 n m i ∧ ends2 n m i < ends2 n m k)
theorem isS_no1 {n : Nat} {m : List Nat} {i : Nat} (hi : i < 16) (h : cond1 n m i = false) : isS n m = false := by
  unfold isS
  rw [Bool.and_eq_false_iff]; right
  rw [Bool.and_eq_false_iff]; left
  unfold pairOk
  rw [List.all_eq_false]
  exact ⟨i, List.mem_range.2 hi, by unfold cond1 at h; rw [h]; simp⟩
theorem isS_no2 {n : Nat} {m : List Nat} {i k : Nat} (hi : i < 2 * n) (hk : k < 2 * n) (h : cross n m i k = true) : isS n m = false := by
  unfold isS
  rw [Bool.and_eq_false_iff]; right
  rw [Bool.and_eq_false_iff]; right
  unfold noCross
  rw [List.all_eq_false]
  refine ⟨i, List.mem_range.2 hi, ?_⟩
  rw [Bool.not_eq_true, List.all_eq_false]
  exact ⟨k, List.mem_range.2 hk, by unfold cross at h; rw [h]; simp⟩
theorem isS_yes {n : Nat} {m : List Nat} (hn : 1 ≤ n ∧ n ≤ 8) (h1 : ∀ i, i < 16 → cond1 n m i = true) (h2 : ∀ i, i < 2 * n → ∀ k, k < 2 * n → cross n m i k = false) : isS n m = true := by
  unfold isS
  rw [decide_eq_true hn, Bool.true_and, Bool.and_eq_true]
  refine ⟨List.all_eq_true.2 fun i hi => ?_, List.all_eq_true.2 fun i hi => List.all_eq_true.2 fun k hk => ?_⟩
  · exact h1 i (List.mem_range.1 hi)
  · have := h2 i (List.mem_range.1 hi) k (List.mem_range.1 hk)
    unfold cross at this; rw [this]; rfl

theorem c_s_l01Is (n : Int) (m : List Nat) (hm : okD m) : Am.Fn Try.prog 58 [.agg (dia n m)] [] (fun v H' => v = .bool (isS n.toNat m) ∧ H' = []) := by
  refine Am.Fn.sameB (R := fun v => v = _) B6_ok mixed r_s_l01Is (by simp) (by simp) ?_
  simp (maxSteps := 3000000) only [a_s_l01Is, B6_s_l01In_E3, B6_s_l01Place_E3, B6_s_l01Ends_E3, g_ends, g_in, g_place, rd, List.getElem?_cons_zero, List.getElem?_cons_succ, dia_get0, idX_eq, wbE, ↓symP, symE, listE, AK.isCall, enumE, ev, putE, abin, aun, AV.cells, ↓reduceIte, reduceCtorEq, Nat.reduceAdd, Nat.reduceMul, Nat.reduceSub, Nat.reduceEqDiff, Nat.reduceLT, Nat.reduceLeDiff, implies_true, Back, retv, retV, AV.scal, AV.scals]; try simp only [idX_eq, ite_both, pickP_both, not_not_eq, Bool.not_eq_false, Bool.not_eq_true]
  refine ⟨fun h => (isS_out h).symm, fun h => ?_⟩
  obtain ⟨n, rfl⟩ : ∃ k : Nat, n = k := ⟨n.toNat, by omega⟩
  simp only [Int.toNat_natCast]
  have hn : 1 ≤ n ∧ n ≤ 8 := by omega
  have h2n : wrapK .i64 (2 * (n : Int)) = ((2 * n : Nat) : Int) := by rw [wrap64 (by omega) (by omega)]; simp
  refine WA.loopB B6_ok (fun s => ∃ k : Nat, s = ⟨[(4, .int .i64 k), (3, .int .i64 n), (1, .ptr 0 0)], [.cells (dia n m)]⟩ ∧ k ≤ 16 ∧ ∀ i, i < k → cond1 n m i = true)
    (fun s => match get s.env 4 with | .int _ k => (100 - k).toNat | _ => 0) ⟨_, Weak.slots [4, 3, 1], 0, rfl, by omega, by intros; omega⟩ ?_
  rintro s ⟨k, rfl, hk, hc⟩
  have hw : wrapK .i64 ((k : Int) + 1) = ((k + 1 : Nat) : Int) := by rw [wrap64 (by omega) (by omega)]; rfl
  have hg := hm.get k
  have h1 : wrapK .i64 ((m.getD k 0 : Nat) : Int) = (m.getD k 0 : Nat) := wrap64N (by omega)
  have hml := hm.1
  simp (maxSteps := 3000000) only [a_s_l01Is_l1, hw, h2n, h1, hml, rd, List.getElem?_cons_zero, List.getElem?_cons_succ, idX_eq, wbE, ↓symP, symE, listE, AK.isCall, enumE, ev, putE, abin, aun, AV.cells, ↓reduceIte, reduceCtorEq, Nat.reduceAdd, Nat.reduceMul, Nat.reduceSub, Nat.reduceEqDiff, Nat.reduceLT, Nat.reduceLeDiff, implies_true, Back, retv, retV, AV.scal, AV.scals]; try simp only [idX_eq, ite_both, pickP_both, not_not_eq, Bool.not_eq_false, Bool.not_eq_true]
  have hnext : cond1 n m k = true → ∀ i, i < k + 1 → cond1 n m i = true := fun hk1 i hi => by
    by_cases e : i = k
    · subst e; exact hk1
    · exact hc i (by omega)
  have htt := hm.get (m.getD k 0)
  refine ⟨fun h3 => ⟨⟨by omega, by omega⟩, by omega, fun h4 => ⟨fun h5 => ?_, fun h5 => ⟨_, Weak.slots [4, 3, 1], ⟨k + 1, rfl, by omega, hnext ?_⟩, ?_⟩⟩,
    fun h4 => ⟨fun h5 => ⟨fun h6 => ⟨⟨by omega, by omega⟩, by omega, fun h7 => ?_, fun h7 => ⟨_, Weak.slots [4, 3, 1], ⟨k + 1, rfl, by omega, hnext ?_⟩, ?_⟩⟩, fun h6 => ?_⟩, fun h5 => ?_⟩⟩, fun h3 => ?_⟩
  · refine (isS_no1 (i := k) (by omega) ?_).symm
    rw [cond1_hi (by omega)]; exact beq_eq_false_iff_ne.2 (by omega)
  · rw [cond1_hi (by omega)]; exact beq_iff_eq.2 (by omega)
  · simp only [keptL, keptW, keptE, kepts, slots, ↓reduceIte, reduceCtorEq, Nat.reduceEqDiff, AV.ren, AV.rens, pos, Nat.reduceAdd]; omega
  · refine (isS_no1 (i := k) (by omega) ?_).symm
    rw [wrap64N (by omega)] at h7
    rw [cond1_lo (by omega)]; exact decide_eq_false (by omega)
  · rw [wrap64N (by omega)] at h7
    rw [cond1_lo (by omega)]; exact decide_eq_true (by omega)
  · simp only [keptL, keptW, keptE, kepts, slots, ↓reduceIte, reduceCtorEq, Nat.reduceEqDiff, AV.ren, AV.rens, pos, Nat.reduceAdd]; omega
  · refine (isS_no1 (i := k) (by omega) ?_).symm
    rw [cond1_lo (by omega)]; exact decide_eq_false (by omega)
  · refine (isS_no1 (i := k) (by omega) ?_).symm
    rw [cond1_lo (by omega)]; exact decide_eq_false (by omega)
  have hc' : ∀ i, i < 16 → cond1 n m i = true := fun i hi => hc i (by omega)
  have hto : ∀ i, i < 2 * n → m.getD i 0 < 2 * n := fun i hi => by
    have := hc' i (by omega)
    unfold cond1 at this; rw [if_neg (by omega)] at this
    exact (of_decide_eq_true this).1
  clear hc hnext hw
  simp (maxSteps := 3000000) only [a_s_l01Is_k3, idX_eq, wbE, ↓symP, symE, listE, AK.isCall, enumE, ev, putE, abin, aun, AV.cells, ↓reduceIte, reduceCtorEq, Nat.reduceAdd, Nat.reduceMul, Nat.reduceSub, Nat.reduceEqDiff, Nat.reduceLT, Nat.reduceLeDiff, implies_true, Back, retv, retV, AV.scal, AV.scals]; try simp only [idX_eq, ite_both, pickP_both, not_not_eq, Bool.not_eq_false, Bool.not_eq_true]
  refine WA.loopB B6_ok (fun s => ∃ i : Nat, s = ⟨[(6, .int .i64 i), (3, .int .i64 n), (1, .ptr 0 0)], [.cells (dia n m)]⟩ ∧ i ≤ 2 * n ∧ ∀ i', i' < i → ∀ k, k < 2 * n → cross n m i' k = false)
    (fun s => match get s.env 6 with | .int _ k => (100 - k).toNat | _ => 0) ⟨_, Weak.slots [6, 3, 1], 0, rfl, by omega, by intros; omega⟩ ?_
  rintro s ⟨i, rfl, hi, hx⟩
  have hw : wrapK .i64 ((i : Int) + 1) = ((i + 1 : Nat) : Int) := by rw [wrap64 (by omega) (by omega)]; rfl
  simp (maxSteps := 3000000) only [a_s_l01Is_l3, B6_s_l01In_E3, B6_s_l01Place_E3, B6_s_l01Ends_E3, g_ends, g_in, g_place, hw, h2n, diaOf_dia hm, dia_all hml, dia_length, hml, rd, List.getElem?_cons_zero, List.getElem?_cons_succ, idX_eq, wbE, ↓symP, symE, listE, AK.isCall, enumE, ev, putE, abin, aun, AV.cells, ↓reduceIte, reduceCtorEq, Nat.reduceAdd, Nat.reduceMul, Nat.reduceSub, Nat.reduceEqDiff, Nat.reduceLT, Nat.reduceLeDiff, implies_true, Back, retv, retV, AV.scal, AV.scals]; try simp only [idX_eq, ite_both, pickP_both, not_not_eq, Bool.not_eq_false, Bool.not_eq_true]
  refine ⟨fun h3 => ⟨⟨⟨by omega, by omega⟩, ⟨by omega, by omega⟩, hto i (by omega)⟩, ?_⟩, fun h3 => ?_⟩
  · have hi2 : i < 2 * n := by omega
    refine WA.loopB B6_ok (fun s => ∃ j : Nat, s = ⟨[(9, .int .i64 j), (8, .int .i64 (ends2 n m i : Nat)), (7, .int .i64 (ends1 n m i : Nat)), (6, .int .i64 i), (3, .int .i64 n), (1, .ptr 0 0)], [.cells (dia n m)]⟩ ∧ j ≤ 2 * n ∧ ∀ j', j' < j → cross n m i j' = false)
      (fun s => match get s.env 9 with | .int _ k => (100 - k).toNat | _ => 0) ⟨_, Weak.slots [9, 8, 7, 6, 3, 1], 0, rfl, by omega, by intros; omega⟩ ?_
    rintro s ⟨j, rfl, hj, hy⟩
    have hw' : wrapK .i64 ((j : Int) + 1) = ((j + 1 : Nat) : Int) := by rw [wrap64 (by omega) (by omega)]; rfl
    simp (maxSteps := 3000000) only [a_s_l01Is_l2, a_s_l01Is_k1, B6_s_l01In_E3, B6_s_l01Place_E3, B6_s_l01Ends_E3, g_ends, g_in, g_place, hw, hw', h2n, diaOf_dia hm, dia_all hml, dia_length, hml, rd, List.getElem?_cons_zero, List.getElem?_cons_succ, idX_eq, wbE, ↓symP, symE, listE, AK.isCall, enumE, ev, putE, abin, aun, AV.cells, ↓reduceIte, reduceCtorEq, Nat.reduceAdd, Nat.reduceMul, Nat.reduceSub, Nat.reduceEqDiff, Nat.reduceLT, Nat.reduceLeDiff, implies_true, Back, retv, retV, AV.scal, AV.scals]; try simp only [idX_eq, ite_both, pickP_both, not_not_eq, Bool.not_eq_false, Bool.not_eq_true]
    have hny : cross n m i j = false → ∀ j', j' < j + 1 → cross n m i j' = false := fun hk1 j' hi => by
      by_cases e : j' = j
      · subst e; exact hk1
      · exact hy j' (by omega)
    refine ⟨fun h4 => ⟨⟨⟨by omega, by omega⟩, ⟨by omega, by omega⟩, hto j (by omega)⟩, fun h5 => ⟨fun h6 => ⟨fun h7 => (isS_no2 hi2 (by omega : j < 2 * n) (decide_eq_true (by omega))).symm, fun h7 => ?_⟩, fun h6 => ?_⟩, fun h5 => ?_⟩, fun h4 => ⟨_, Weak.slots [6, 3, 1], ⟨i + 1, rfl, by omega, ?_⟩, ?_⟩⟩
    · refine ⟨_, Weak.slots [9, 8, 7, 6, 3, 1], ⟨j + 1, rfl, by omega, hny (decide_eq_false (by omega))⟩, ?_⟩
      simp only [keptL, keptW, keptE, kepts, slots, ↓reduceIte, reduceCtorEq, Nat.reduceEqDiff, AV.ren, AV.rens, pos, Nat.reduceAdd]; omega
    · refine ⟨_, Weak.slots [9, 8, 7, 6, 3, 1], ⟨j + 1, rfl, by omega, hny (decide_eq_false (by omega))⟩, ?_⟩
      simp only [keptL, keptW, keptE, kepts, slots, ↓reduceIte, reduceCtorEq, Nat.reduceEqDiff, AV.ren, AV.rens, pos, Nat.reduceAdd]; omega
    · refine ⟨_, Weak.slots [9, 8, 7, 6, 3, 1], ⟨j + 1, rfl, by omega, hny (decide_eq_false (by omega))⟩, ?_⟩
      simp only [keptL, keptW, keptE, kepts, slots, ↓reduceIte, reduceCtorEq, Nat.reduceEqDiff, AV.ren, AV.rens, pos, Nat.reduceAdd]; omega
    · intro i' hi' k hk
      by_cases e : i' = i
      · subst e; exact hy k (by omega)
      · exact hx i' (by omega) k hk
    · simp only [keptL, keptW, keptE, kepts, slots, ↓reduceIte, reduceCtorEq, Nat.reduceEqDiff, AV.ren, AV.rens, pos, Nat.reduceAdd]; omega
  · simp (maxSteps := 3000000) only [a_s_l01Is_k2, idX_eq, wbE, ↓symP, symE, listE, AK.isCall, enumE, ev, putE, abin, aun, AV.cells, ↓reduceIte, reduceCtorEq, Nat.reduceAdd, Nat.reduceMul, Nat.reduceSub, Nat.reduceEqDiff, Nat.reduceLT, Nat.reduceLeDiff, implies_true, Back, retv, retV, AV.scal, AV.scals]; try simp only [idX_eq, ite_both, pickP_both, not_not_eq, Bool.not_eq_false, Bool.not_eq_true]
    exact (isS_yes hn hc' fun i' hi' => hx i' (by omega)).symm

def g_isS : List AV → Option AV
  | [.agg l] => match diaOf l with
    | some (n, m) => some (.bool (isS n.toNat m))
    | none => none
  | _ => none
theorem k_s_l01Is : Am.Callee Try.prog 58 (plainE g_isS) :=
  Am.Callee.plain fun xs v he => by
    unfold g_isS at he
    split at he
    · split at he
      · rename_i n m hd
        cases he
        obtain ⟨rfl, hm⟩ := diaOf_some hd
        exact ⟨by simp only [AV.scals, AV.scal, scals_dia, Bool.and_self], rfl, c_s_l01Is n m hm⟩
      · cases he
    · cases he
def B7 : Book := (B6.put 58 (plainE g_isS))

theorem B7_ok : BookOk Try.prog B7 := (B6_ok.put (k_s_l01Is))

end Go.Proofs.Ytkgoadglalpbfaa
