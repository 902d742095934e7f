/- Contracts: plain numbers. -/
import Derived.Test.YtkgoadglalpbfaaAmC
import Derived.Test.YtkgoadglalpbfaaProg
import Derived.KernelRfl
namespace Go.Proofs.Ytkgoadglalpbfaa
open Go.Am
set_option linter.unusedSimpArgs false
set_option linter.unusedVariables false
set_option maxRecDepth 4000

theorem mixed : Try.prog.follows .mixedOrders = true := by kernel_rfl

def placeZ (n i : Int) : Int := if i < n then i else 3 * n - 1 - i
def smallZ (x : Int) : Prop := -1000000 ≤ x ∧ x ≤ 1000000
instance (x : Int) : Decidable (smallZ x) := by unfold smallZ; infer_instance
def primeB (p : Int) : Bool := decide (2 ≤ p ∧ p ≤ 97) && (List.range 100).all fun k => !(decide (2 ≤ k) && decide ((k : Int) < p) && decide (p.tmod k = 0))


def a_i_in : AC := .seq (.region [⟨some 6, none, .op (.mov (.c (.bool false)))⟩]) (.seq (.region [⟨some 7, none, .op (.mov (.t 0))⟩,
     ⟨some 8, none, .op (.mov (.t 1))⟩,
     ⟨some 9, none, .op (.bin .geq (.t 7) (.t 8))⟩,
     ⟨some 10, none, .op (.mov (.t 9))⟩,
     ⟨some 11, some (10, true), .op (.mov (.t 0))⟩,
     ⟨some 12, some (10, true), .op (.mov (.t 2))⟩,
     ⟨some 13, some (10, true), .op (.bin .leq (.t 11) (.t 12))⟩,
     ⟨some 14, none, .op (.pick (.t 10) (.t 13) (.c (.bool false)))⟩,
     ⟨some 6, none, .op (.mov (.t 14))⟩]) .ret)
theorem r_i_in : readF Try.prog 93 = some ⟨15, a_i_in, [.slot 6]⟩ := by kernel_rfl

def a_s_l01In : AC := .seq (.region [⟨some 6, none, .op (.mov (.c (.bool false)))⟩]) (.seq (.region [⟨some 7, none, .op (.mov (.t 0))⟩,
     ⟨some 8, none, .op (.mov (.t 1))⟩,
     ⟨some 9, none, .op (.bin .geq (.t 7) (.t 8))⟩,
     ⟨some 10, none, .op (.mov (.t 9))⟩,
     ⟨some 11, some (10, true), .op (.mov (.t 0))⟩,
     ⟨some 12, some (10, true), .op (.mov (.t 2))⟩,
     ⟨some 13, some (10, true), .op (.bin .leq (.t 11) (.t 12))⟩,
     ⟨some 14, none, .op (.pick (.t 10) (.t 13) (.c (.bool false)))⟩,
     ⟨some 6, none, .op (.mov (.t 14))⟩]) .ret)
theorem r_s_l01In : readF Try.prog 60 = some ⟨15, a_s_l01In, [.slot 6]⟩ := by kernel_rfl

def a_i_placeOf : AC := .seq (.region [⟨some 4, none, .op (.mov (.c (.int .i64 0)))⟩]) (.seq (.seq (.region [⟨some 5, none, .op (.mov (.t 1))⟩,
      ⟨some 6, none, .op (.mov (.t 0))⟩,
      ⟨some 7, none, .op (.bin .lss (.t 5) (.t 6))⟩]) (.cond 7 (.seq (.region [⟨some 8, none, .op (.mov (.t 1))⟩,
        ⟨some 4, none, .op (.mov (.t 8))⟩]) .ret) .skip)) (.seq (.region [⟨some 9, none, .op (.mov (.t 0))⟩,
     ⟨some 10, none, .op (.bin .mul (.c (.int .i64 3)) (.t 9))⟩,
     ⟨some 11, none, .op (.bin .sub (.t 10) (.c (.int .i64 1)))⟩,
     ⟨some 12, none, .op (.mov (.t 1))⟩,
     ⟨some 13, none, .op (.bin .sub (.t 11) (.t 12))⟩,
     ⟨some 4, none, .op (.mov (.t 13))⟩]) .ret))
theorem r_i_placeOf : readF Try.prog 132 = some ⟨14, a_i_placeOf, [.slot 4]⟩ := by kernel_rfl

def a_s_l01Place : AC := .seq (.region [⟨some 4, none, .op (.mov (.c (.int .i64 0)))⟩]) (.seq (.seq (.region [⟨some 5, none, .op (.mov (.t 1))⟩,
      ⟨some 6, none, .op (.mov (.t 0))⟩,
      ⟨some 7, none, .op (.bin .lss (.t 5) (.t 6))⟩]) (.cond 7 (.seq (.region [⟨some 8, none, .op (.mov (.t 1))⟩,
        ⟨some 4, none, .op (.mov (.t 8))⟩]) .ret) .skip)) (.seq (.region [⟨some 9, none, .op (.mov (.t 0))⟩,
     ⟨some 10, none, .op (.bin .mul (.c (.int .i64 3)) (.t 9))⟩,
     ⟨some 11, none, .op (.bin .sub (.t 10) (.c (.int .i64 1)))⟩,
     ⟨some 12, none, .op (.mov (.t 1))⟩,
     ⟨some 13, none, .op (.bin .sub (.t 11) (.t 12))⟩,
     ⟨some 4, none, .op (.mov (.t 13))⟩]) .ret))
theorem r_s_l01Place : readF Try.prog 135 = some ⟨14, a_s_l01Place, [.slot 4]⟩ := by kernel_rfl

def a_i_rest : AC := .seq (.region [⟨some 4, none, .op (.mov (.c (.int .i64 0)))⟩]) (.seq (.region [⟨some 5, none, .op (.mov (.t 0))⟩,
     ⟨some 6, none, .op (.mov (.t 1))⟩,
     ⟨some 7, none, .op (.bin .rem (.t 5) (.t 6))⟩,
     ⟨some 8, none, .op (.mov (.t 1))⟩,
     ⟨some 9, none, .op (.bin .add (.t 7) (.t 8))⟩,
     ⟨some 10, none, .op (.mov (.t 1))⟩,
     ⟨some 11, none, .op (.bin .rem (.t 9) (.t 10))⟩,
     ⟨some 4, none, .op (.mov (.t 11))⟩]) .ret)
theorem r_i_rest : readF Try.prog 103 = some ⟨12, a_i_rest, [.slot 4]⟩ := by kernel_rfl

def a_s_l01Mod : AC := .seq (.region [⟨some 4, none, .op (.mov (.c (.int .i64 0)))⟩]) (.seq (.region [⟨some 5, none, .op (.mov (.t 1))⟩,
     ⟨some 6, none, .op (.mov (.t 0))⟩,
     ⟨some 7, none, .op (.bin .rem (.t 5) (.t 6))⟩,
     ⟨some 8, none, .op (.mov (.t 0))⟩,
     ⟨some 9, none, .op (.bin .add (.t 7) (.t 8))⟩,
     ⟨some 10, none, .op (.mov (.t 0))⟩,
     ⟨some 11, none, .op (.bin .rem (.t 9) (.t 10))⟩,
     ⟨some 4, none, .op (.mov (.t 11))⟩]) .ret)
theorem r_s_l01Mod : readF Try.prog 108 = some ⟨12, a_s_l01Mod, [.slot 4]⟩ := by kernel_rfl
def a_s_l01Prime_l1 : AC := .seq (.seq (.region [⟨some 4, none, .op (.mov (.t 3))⟩,
         ⟨some 5, none, .op (.mov (.t 0))⟩,
         ⟨some 6, none, .op (.bin .lss (.t 4) (.t 5))⟩,
         ⟨some 7, none, .op (.mov (.t 6))⟩,
         ⟨some 8, some (7, true), .op (.mov (.t 3))⟩,
         ⟨some 9, some (7, true), .op (.bin .lss (.t 8) (.c (.int .i64 100)))⟩,
         ⟨some 10, none, .op (.pick (.t 7) (.t 9) (.c (.bool false)))⟩]) (.cond 10 .skip (.exit 0))) (.seq (.block 1 (.seq (.region [⟨some 13, none, .op (.mov (.t 0))⟩,
          ⟨some 14, none, .op (.mov (.t 3))⟩,
          ⟨some 15, none, .op (.bin .rem (.t 13) (.t 14))⟩,
          ⟨some 16, none, .op (.bin .eql (.t 15) (.c (.int .i64 0)))⟩]) (.cond 16 (.seq (.region [⟨some 2, none, .op (.mov (.c (.bool false)))⟩]) .ret) .skip))) (.region [⟨some 11, none, .op (.mov (.t 3))⟩,
       ⟨some 12, none, .op (.bin .add (.t 11) (.c (.int .i64 1)))⟩,
       ⟨some 3, none, .op (.mov (.t 12))⟩]))
def a_s_l01Prime_k1 : AC := .seq (.region [⟨some 17, none, .op (.mov (.t 0))⟩,
     ⟨some 18, none, .call (.c (.fn 60 [] [])) [(.t 17), (.c (.int .i64 2)), (.c (.int .i64 97))]⟩,
     ⟨some 2, none, .op (.mov (.t 18))⟩]) .ret
def a_s_l01Prime : AC := .seq (.region [⟨some 2, none, .op (.mov (.c (.bool false)))⟩]) (.seq (.seq (.region [⟨some 3, none, .op (.mov (.c (.int .i64 2)))⟩]) (.block 0 (.loop a_s_l01Prime_l1))) a_s_l01Prime_k1)
theorem r_s_l01Prime : readF Try.prog 59 = some ⟨19, a_s_l01Prime, [.slot 2]⟩ := by kernel_rfl
def a_i_isPrime_l1 : AC := .seq (.seq (.region [⟨some 7, none, .op (.mov (.t 3))⟩,
         ⟨some 8, none, .op (.mov (.t 3))⟩,
         ⟨some 9, none, .op (.bin .mul (.t 7) (.t 8))⟩,
         ⟨some 10, none, .op (.mov (.t 0))⟩,
         ⟨some 11, none, .op (.bin .leq (.t 9) (.t 10))⟩]) (.cond 11 .skip (.exit 0))) (.seq (.block 1 (.seq (.region [⟨some 14, none, .op (.mov (.t 0))⟩,
          ⟨some 15, none, .op (.mov (.t 3))⟩,
          ⟨some 16, none, .op (.bin .rem (.t 14) (.t 15))⟩,
          ⟨some 17, none, .op (.bin .eql (.t 16) (.c (.int .i64 0)))⟩]) (.cond 17 (.seq (.region [⟨some 2, none, .op (.mov (.c (.bool false)))⟩]) .ret) .skip))) (.region [⟨some 12, none, .op (.mov (.t 3))⟩,
       ⟨some 13, none, .op (.bin .add (.t 12) (.c (.int .i64 1)))⟩,
       ⟨some 3, none, .op (.mov (.t 13))⟩]))
def a_i_isPrime_k1 : AC := .seq (.region [⟨some 2, none, .op (.mov (.c (.bool true)))⟩]) .ret
def a_i_isPrime : AC := .seq (.region [⟨some 2, none, .op (.mov (.c (.bool false)))⟩]) (.seq (.seq (.region [⟨some 4, none, .op (.mov (.t 0))⟩,
      ⟨some 5, none, .call (.c (.fn 93 [] [])) [(.t 4), (.c (.int .i64 2)), (.c (.int .i64 97))]⟩,
      ⟨some 6, none, .op (.un .not (.t 5))⟩]) (.cond 6 (.seq (.region [⟨some 2, none, .op (.mov (.c (.bool false)))⟩]) .ret) .skip)) (.seq (.seq (.region [⟨some 3, none, .op (.mov (.c (.int .i64 2)))⟩]) (.block 0 (.loop a_i_isPrime_l1))) a_i_isPrime_k1))
theorem r_i_isPrime : readF Try.prog 112 = some ⟨18, a_i_isPrime, [.slot 2]⟩ := by kernel_rfl

def a_i_fieldOk : AC := .seq (.region [⟨some 4, none, .op (.mov (.c (.bool false)))⟩]) (.seq (.region [⟨some 5, none, .op (.mov (.t 0))⟩,
     ⟨some 6, none, .call (.c (.fn 112 [] [])) [(.t 5)]⟩,
     ⟨some 7, none, .op (.mov (.t 6))⟩,
     ⟨some 8, some (7, true), .op (.mov (.t 1))⟩,
     ⟨some 9, some (7, true), .op (.mov (.t 0))⟩,
     ⟨some 10, some (7, true), .op (.bin .sub (.t 9) (.c (.int .i64 1)))⟩,
     ⟨some 11, some (7, true), .call (.c (.fn 93 [] [])) [(.t 8), (.c (.int .i64 0)), (.t 10)]⟩,
     ⟨some 12, none, .op (.pick (.t 7) (.t 11) (.c (.bool false)))⟩,
     ⟨some 4, none, .op (.mov (.t 12))⟩]) .ret)
theorem r_i_fieldOk : readF Try.prog 64 = some ⟨13, a_i_fieldOk, [.slot 4]⟩ := by kernel_rfl

def g_in : List AV → Option AV
  | [.int .i64 a, .int .i64 b, .int .i64 c] => some (.bool (decide (b ≤ a ∧ a ≤ c)))
  | _ => none
def g_place : List AV → Option AV
  | [.int .i64 n, .int .i64 i] => chk (smallZ n ∧ smallZ i) (some (.int .i64 (placeZ n i)))
  | _ => none
def g_rest : List AV → Option AV
  | [.int .i64 n, .int .i64 p] => chk (0 < p ∧ p ≤ 1000000) (some (.int .i64 (n.emod p)))
  | _ => none
def g_mod : List AV → Option AV
  | [.int .i64 p, .int .i64 n] => chk (0 < p ∧ p ≤ 1000000) (some (.int .i64 (n.emod p)))
  | _ => none
def g_prime : List AV → Option AV
  | [.int .i64 p] => some (.bool (primeB p))
  | _ => none
def g_fieldOk : List AV → Option AV
  | [.int .i64 p, .int .i64 c] => some (.bool (primeB p && decide (0 ≤ c ∧ c ≤ p - 1)))
  | _ => none
theorem in_shape {a b c : Int} : (b ≤ a → decide (a ≤ c) = decide (b ≤ a ∧ a ≤ c)) ∧ (¬b ≤ a → false = decide (b ≤ a ∧ a ≤ c)) :=
  ⟨fun h => by simp [h], fun h => by simp [h]⟩

theorem c_i_in (a b c : Int) : Am.Fn Try.prog 93 [.int .i64 a, .int .i64 b, .int .i64 c] [] (fun v H' => v = .bool (decide (b ≤ a ∧ a ≤ c)) ∧ H' = []) := by
  refine Am.Fn.sameB (R := fun v => v = _) BookOk.none mixed r_i_in (by simp) (by simp) ?_
  simp (maxSteps := 3000000) only [a_i_in, idX_eq, wbE, ↓symP, symE, listE, AK.isCall, enumE, ev, putE, abin, aun, AV.cells, ↓reduceIte, reduceCtorEq, Nat.reduceAdd, Nat.reduceMul, Nat.reduceSub, Nat.reduceEqDiff, Nat.reduceLT, Nat.reduceLeDiff, implies_true, Back, retv, retV, AV.scal, AV.scals]; try simp only [idX_eq, ite_both, pickP_both, not_not_eq, Bool.not_eq_false, Bool.not_eq_true]
  exact in_shape
theorem c_s_l01In (a b c : Int) : Am.Fn Try.prog 60 [.int .i64 a, .int .i64 b, .int .i64 c] [] (fun v H' => v = .bool (decide (b ≤ a ∧ a ≤ c)) ∧ H' = []) := by
  refine Am.Fn.sameB (R := fun v => v = _) BookOk.none mixed r_s_l01In (by simp) (by simp) ?_
  simp (maxSteps := 3000000) only [a_s_l01In, idX_eq, wbE, ↓symP, symE, listE, AK.isCall, enumE, ev, putE, abin, aun, AV.cells, ↓reduceIte, reduceCtorEq, Nat.reduceAdd, Nat.reduceMul, Nat.reduceSub, Nat.reduceEqDiff, Nat.reduceLT, Nat.reduceLeDiff, implies_true, Back, retv, retV, AV.scal, AV.scals]; try simp only [idX_eq, ite_both, pickP_both, not_not_eq, Bool.not_eq_false, Bool.not_eq_true]
  exact in_shape

theorem place_shape {n i : Int} (hn : smallZ n) (hi : smallZ i) : (i < n → AV.int .i64 i = AV.int .i64 (placeZ n i)) ∧
    (¬i < n → AV.int .i64 (wrapK .i64 (wrapK .i64 (wrapK .i64 (3 * n) - 1) - i)) = AV.int .i64 (placeZ n i)) := by
  unfold smallZ at hn hi
  refine ⟨fun h => by simp [placeZ, h], fun h => ?_⟩
  rw [wrap64 (n := 3 * n) (by omega) (by omega), wrap64 (n := 3 * n - 1) (by omega) (by omega), wrap64 (by omega) (by omega)]
  simp [placeZ, h]
theorem c_i_placeOf (n i : Int) (hn : smallZ n) (hi : smallZ i) : Am.Fn Try.prog 132 [.int .i64 n, .int .i64 i] [] (fun v H' => v = .int .i64 (placeZ n i) ∧ H' = []) := by
  refine Am.Fn.sameB (R := fun v => v = _) BookOk.none mixed r_i_placeOf (by simp) (by simp) ?_
  simp (maxSteps := 3000000) only [a_i_placeOf, idX_eq, wbE, ↓symP, symE, listE, AK.isCall, enumE, ev, putE, abin, aun, AV.cells, ↓reduceIte, reduceCtorEq, Nat.reduceAdd, Nat.reduceMul, Nat.reduceSub, Nat.reduceEqDiff, Nat.reduceLT, Nat.reduceLeDiff, implies_true, Back, retv, retV, AV.scal, AV.scals]; try simp only [idX_eq, ite_both, pickP_both, not_not_eq, Bool.not_eq_false, Bool.not_eq_true]
  exact place_shape hn hi
theorem c_s_l01Place (n i : Int) (hn : smallZ n) (hi : smallZ i) : Am.Fn Try.prog 135 [.int .i64 n, .int .i64 i] [] (fun v H' => v = .int .i64 (placeZ n i) ∧ H' = []) := by
  refine Am.Fn.sameB (R := fun v => v = _) BookOk.none mixed r_s_l01Place (by simp) (by simp) ?_
  simp (maxSteps := 3000000) only [a_s_l01Place, idX_eq, wbE, ↓symP, symE, listE, AK.isCall, enumE, ev, putE, abin, aun, AV.cells, ↓reduceIte, reduceCtorEq, Nat.reduceAdd, Nat.reduceMul, Nat.reduceSub, Nat.reduceEqDiff, Nat.reduceLT, Nat.reduceLeDiff, implies_true, Back, retv, retV, AV.scal, AV.scals]; try simp only [idX_eq, ite_both, pickP_both, not_not_eq, Bool.not_eq_false, Bool.not_eq_true]
  exact place_shape hn hi

theorem rest_shape {n p : Int} (h : 0 < p ∧ p ≤ 1000000) : ¬p = 0 ∧ ¬p = 0 ∧ AV.int .i64 ((wrapK .i64 (n.tmod p + p)).tmod p) = AV.int .i64 (n.emod p) := by
  refine ⟨by omega, by omega, ?_⟩
  have h1 : n.tmod p < p := Int.tmod_lt_of_pos n h.1
  have h2 : -p < n.tmod p := by
    have := Int.lt_tmod_of_pos n h.1
    omega
  rw [wrap64 (by omega) (by omega), Int.tmod_eq_emod_of_nonneg (by omega), Int.add_emod_right]
  congr 1
  rw [Int.tmod_eq_emod]
  split
  · rw [show ((0 : Nat) : Int) = 0 from rfl, Int.sub_zero]; exact Int.emod_emod_of_dvd n (Int.dvd_refl p)
  · rw [show (p.natAbs : Int) = p from by omega, Int.sub_emod_right]
    exact Int.emod_emod_of_dvd n (Int.dvd_refl p)
theorem c_i_rest (n p : Int) (h : 0 < p ∧ p ≤ 1000000) : Am.Fn Try.prog 103 [.int .i64 n, .int .i64 p] [] (fun v H' => v = .int .i64 (n.emod p) ∧ H' = []) := by
  refine Am.Fn.sameB (R := fun v => v = _) BookOk.none mixed r_i_rest (by simp) (by simp) ?_
  simp (maxSteps := 3000000) only [a_i_rest, idX_eq, wbE, ↓symP, symE, listE, AK.isCall, enumE, ev, putE, abin, aun, AV.cells, ↓reduceIte, reduceCtorEq, Nat.reduceAdd, Nat.reduceMul, Nat.reduceSub, Nat.reduceEqDiff, Nat.reduceLT, Nat.reduceLeDiff, implies_true, Back, retv, retV, AV.scal, AV.scals]; try simp only [idX_eq, ite_both, pickP_both, not_not_eq, Bool.not_eq_false, Bool.not_eq_true]
  exact rest_shape h
theorem c_s_l01Mod (n p : Int) (h : 0 < p ∧ p ≤ 1000000) : Am.Fn Try.prog 108 [.int .i64 p, .int .i64 n] [] (fun v H' => v = .int .i64 (n.emod p) ∧ H' = []) := by
  refine Am.Fn.sameB (R := fun v => v = _) BookOk.none mixed r_s_l01Mod (by simp) (by simp) ?_
  simp (maxSteps := 3000000) only [a_s_l01Mod, idX_eq, wbE, ↓symP, symE, listE, AK.isCall, enumE, ev, putE, abin, aun, AV.cells, ↓reduceIte, reduceCtorEq, Nat.reduceAdd, Nat.reduceMul, Nat.reduceSub, Nat.reduceEqDiff, Nat.reduceLT, Nat.reduceLeDiff, implies_true, Back, retv, retV, AV.scal, AV.scals]; try simp only [idX_eq, ite_both, pickP_both, not_not_eq, Bool.not_eq_false, Bool.not_eq_true]
  exact rest_shape h

theorem k_in_of {f : FuncId} (h : ∀ a b c, Am.Fn Try.prog f [.int .i64 a, .int .i64 b, .int .i64 c] [] (fun v H' => v = .bool (decide (b ≤ a ∧ a ≤ c)) ∧ H' = [])) : Am.Callee Try.prog f (plainE g_in) :=
  Am.Callee.plain fun xs v he => by
    unfold g_in at he
    split at he
    · cases he; exact ⟨rfl, rfl, h _ _ _⟩
    · cases he
theorem k_place_of {f : FuncId} (h : ∀ n i, smallZ n → smallZ i → Am.Fn Try.prog f [.int .i64 n, .int .i64 i] [] (fun v H' => v = .int .i64 (placeZ n i) ∧ H' = [])) : Am.Callee Try.prog f (plainE g_place) :=
  Am.Callee.plain fun xs v he => by
    unfold g_place at he
    split at he
    · obtain ⟨h1, he⟩ := chk_some he
      cases he; exact ⟨rfl, rfl, h _ _ h1.1 h1.2⟩
    · cases he

def B1 : Book := ((((Book.none.put 93 (plainE g_in)).put 60 (plainE g_in)).put 132 (plainE g_place)).put 135 (plainE g_place))

theorem B1_ok : BookOk Try.prog B1 := ((((BookOk.none.put (k_in_of c_i_in)).put (k_in_of c_s_l01In)).put (k_place_of c_i_placeOf)).put (k_place_of c_s_l01Place))

theorem B1_i_in_E1 : B1 93 = some (plainE g_in) := rfl
theorem B1_s_l01In_E1 : B1 60 = some (plainE g_in) := rfl


theorem prime_false {p : Int} {k : Nat} (h1 : 2 ≤ k) (hk : k < 100) (h2 : (k : Int) < p) (h3 : p.tmod k = 0) : primeB p = false := by
  unfold primeB
  rw [Bool.and_eq_false_iff]
  right
  rw [List.all_eq_false]
  exact ⟨k, List.mem_range.2 hk, by simp [h1, h2, h3]⟩
theorem prime_true {p : Int} (h : 2 ≤ p ∧ p ≤ 97) (h3 : ∀ j : Nat, 2 ≤ j → (j : Int) < p → p.tmod j ≠ 0) : primeB p = true := by
  unfold primeB
  rw [Bool.and_eq_true]
  refine ⟨decide_eq_true h, List.all_eq_true.2 fun j hj => ?_⟩
  by_cases h5 : 2 ≤ j
  · by_cases h6 : (j : Int) < p
    · have := h3 j h5 h6; simp [h5, h6, this]
    · simp [h6]
  · simp [h5]
theorem prime_out {p : Int} (h : ¬(2 ≤ p ∧ p ≤ 97)) : primeB p = false := by
  unfold primeB; rw [decide_eq_false h, Bool.false_and]

theorem c_s_l01Prime (p : Int) : Am.Fn Try.prog 59 [.int .i64 p] [] (fun v H' => v = .bool (primeB p) ∧ H' = []) := by
  refine Am.Fn.sameB (R := fun v => v = _) B1_ok mixed r_s_l01Prime (by simp) (by simp) ?_
  simp (maxSteps := 3000000) only [a_s_l01Prime, idX_eq, wbE, ↓symP, symE, listE, AK.isCall, enumE, ev, putE, abin, aun, AV.cells, ↓reduceIte, reduceCtorEq, Nat.reduceAdd, Nat.reduceMul, Nat.reduceSub, Nat.reduceEqDiff, Nat.reduceLT, Nat.reduceLeDiff, implies_true, Back, retv, retV, AV.scal, AV.scals]; try simp only [idX_eq, ite_both, pickP_both, not_not_eq, Bool.not_eq_false, Bool.not_eq_true]
  refine WA.loopB B1_ok (fun s => ∃ k : Nat, s = ⟨[(3, .int .i64 k), (0, .int .i64 p)], []⟩ ∧ 2 ≤ k ∧ k ≤ 100 ∧ ∀ j : Nat, 2 ≤ j → j < k → (j : Int) < p → p.tmod j ≠ 0) (fun s => match get s.env 3 with | .int _ k => (100 - k).toNat | _ => 0) ⟨_, Weak.slots [3, 0], 2, rfl, by omega, by omega, by intros; omega⟩ ?_
  rintro s ⟨k, rfl, h1, h2, h3⟩
  simp (maxSteps := 3000000) only [a_s_l01Prime_l1, a_s_l01Prime_k1, B1_i_in_E1, B1_s_l01In_E1, g_in, idX_eq, wbE, ↓symP, symE, listE, AK.isCall, enumE, ev, putE, abin, aun, AV.cells, ↓reduceIte, reduceCtorEq, Nat.reduceAdd, Nat.reduceMul, Nat.reduceSub, Nat.reduceEqDiff, Nat.reduceLT, Nat.reduceLeDiff, implies_true, Back, retv, retV, AV.scal, AV.scals]; try simp only [idX_eq, ite_both, pickP_both, not_not_eq, Bool.not_eq_false, Bool.not_eq_true]
  refine ⟨fun h4 => ⟨fun h5 => ⟨by omega, fun h6 => ?_, fun h6 => ⟨_, Weak.slots [3, 0], ⟨k + 1, ?_, by omega, by omega, ?_⟩, ?_⟩⟩, fun h5 => ?_⟩, fun h4 => ?_⟩
  · exact (prime_false h1 (by omega) h4 h6).symm
  · simp only [slots, get_put, reduceIte, reduceCtorEq, Nat.reduceEqDiff]
    have : wrapK .i64 ((k : Int) + 1) = ((k + 1 : Nat) : Int) := by rw [wrap64 (by omega) (by omega)]; rfl
    rw [this]
  · intro j h7 h8 h9
    by_cases h10 : j = k
    · subst h10; exact h6
    · exact h3 j h7 (by omega) h9
  · simp only [slots, get_put, reduceIte, reduceCtorEq, Nat.reduceEqDiff]
    have : wrapK .i64 ((k : Int) + 1) = ((k + 1 : Nat) : Int) := by rw [wrap64 (by omega) (by omega)]; rfl
    rw [this]; omega
  · rw [prime_out (by omega)]; simp; omega
  · by_cases h : 2 ≤ p ∧ p ≤ 97
    · rw [prime_true h fun j a b => h3 j a (by omega) b]; simp [h]
    · rw [prime_out h]; simp [h]

theorem prime_small : ((List.range 98).all fun p => (List.range 11).all fun k => !decide (p < k * k ∧ 2 ≤ p) || !((List.range k).all fun j => !decide (2 ≤ j) || p % j != 0) || (List.range p).all fun j => !decide (2 ≤ j) || p % j != 0) = true := by decide +kernel
theorem prime_done {p : Int} {k : Nat} (h : 2 ≤ p ∧ p ≤ 97) (hk : k ≤ 10) (hkp : p < (k : Int) * k) (h3 : ∀ j : Nat, 2 ≤ j → j < k → p.tmod j ≠ 0) : primeB p = true := by
  obtain ⟨q, rfl⟩ : ∃ q : Nat, p = q := ⟨p.toNat, by omega⟩
  have e : ∀ j : Nat, ((q : Int).tmod j = 0) ↔ q % j = 0 := fun j => by
    rw [← Int.ofNat_tmod]; omega
  have h4 := List.all_eq_true.1 (List.all_eq_true.1 prime_small q (List.mem_range.2 (by omega))) k (List.mem_range.2 (by omega))
  have h5 : q < k * k := by
    have : ((k * k : Nat) : Int) = (k : Int) * k := by simp
    omega
  simp only [Bool.or_eq_true, Bool.not_eq_true', decide_eq_false_iff_not] at h4
  rcases h4 with (h4 | h4) | h4
  · exact absurd ⟨h5, by omega⟩ h4
  · exfalso
    rw [List.all_eq_false] at h4
    obtain ⟨j, hj, h6⟩ := h4
    have hj := List.mem_range.1 hj
    apply h6
    by_cases h7 : 2 ≤ j
    · have := h3 j h7 hj
      rw [Ne, e] at this
      simp [this]
    · simp [h7]
  · refine prime_true h fun j h6 h7 => ?_
    rw [Ne, e]
    have := List.all_eq_true.1 h4 j (List.mem_range.2 (by omega))
    simpa [h6] using this

theorem c_i_isPrime (p : Int) : Am.Fn Try.prog 112 [.int .i64 p] [] (fun v H' => v = .bool (primeB p) ∧ H' = []) := by
  refine Am.Fn.sameB (R := fun v => v = _) B1_ok mixed r_i_isPrime (by simp) (by simp) ?_
  simp (maxSteps := 3000000) only [a_i_isPrime, B1_i_in_E1, B1_s_l01In_E1, g_in, idX_eq, wbE, ↓symP, symE, listE, AK.isCall, enumE, ev, putE, abin, aun, AV.cells, ↓reduceIte, reduceCtorEq, Nat.reduceAdd, Nat.reduceMul, Nat.reduceSub, Nat.reduceEqDiff, Nat.reduceLT, Nat.reduceLeDiff, implies_true, Back, retv, retV, AV.scal, AV.scals]; try simp only [idX_eq, ite_both, pickP_both, not_not_eq, Bool.not_eq_false, Bool.not_eq_true]
  refine ⟨fun h => (prime_out h).symm, fun h => ?_⟩
  refine WA.loopB B1_ok (fun s => ∃ k : Nat, s = ⟨[(3, .int .i64 k), (0, .int .i64 p)], []⟩ ∧ 2 ≤ k ∧ k ≤ 10 ∧ ∀ j : Nat, 2 ≤ j → j < k → p.tmod j ≠ 0) (fun s => match get s.env 3 with | .int _ k => (100 - k).toNat | _ => 0) ⟨_, Weak.slots [3, 0], 2, rfl, by omega, by omega, by intros; omega⟩ ?_
  rintro s ⟨k, rfl, h1, h2, h3⟩
  have hw : wrapK .i64 ((k : Int) + 1) = ((k + 1 : Nat) : Int) := by rw [wrap64 (by omega) (by omega)]; rfl
  have hm : wrapK .i64 ((k : Int) * k) = ((k * k : Nat) : Int) := by
    have : k * k ≤ 10 * 10 := Nat.mul_le_mul h2 h2
    rw [← Int.natCast_mul]; exact wrap64N (by omega)
  simp (maxSteps := 3000000) only [a_i_isPrime_l1, a_i_isPrime_k1, hm, hw, slots, idX_eq, wbE, ↓symP, symE, listE, AK.isCall, enumE, ev, putE, abin, aun, AV.cells, ↓reduceIte, reduceCtorEq, Nat.reduceAdd, Nat.reduceMul, Nat.reduceSub, Nat.reduceEqDiff, Nat.reduceLT, Nat.reduceLeDiff, implies_true, Back, retv, retV, AV.scal, AV.scals]; try simp only [idX_eq, ite_both, pickP_both, not_not_eq, Bool.not_eq_false, Bool.not_eq_true]
  have hkk : k < 10 ∨ k = 10 := by omega
  refine ⟨fun h4 => ⟨by omega, fun h6 => ?_, fun h6 => ⟨_, Weak.slots [3, 0], ⟨k + 1, rfl, by omega, ?_, ?_⟩, ?_⟩⟩, fun h4 => ?_⟩
  · have : k * 2 ≤ k * k := Nat.mul_le_mul_left k h1
    exact (prime_false h1 (by omega) (by omega) h6).symm
  · rcases hkk with e | e
    · omega
    · subst e; omega
  · intro j h7 h8
    by_cases h10 : j = k
    · subst h10; exact h6
    · exact h3 j h7 (by omega)
  · simp only [slots, get_put, reduceIte, reduceCtorEq, Nat.reduceEqDiff]
    omega
  · rw [prime_done h h2 (by rw [← Int.natCast_mul]; omega) h3]

theorem k_prime_of {f : FuncId} (h : ∀ p, Am.Fn Try.prog f [.int .i64 p] [] (fun v H' => v = .bool (primeB p) ∧ H' = [])) : Am.Callee Try.prog f (plainE g_prime) :=
  Am.Callee.plain fun xs v he => by
    unfold g_prime at he
    split at he
    · cases he; exact ⟨rfl, rfl, h _⟩
    · cases he
theorem k_i_rest : Am.Callee Try.prog 103 (plainE g_rest) :=
  Am.Callee.plain fun xs v he => by
    unfold g_rest at he
    split at he
    · obtain ⟨h1, he⟩ := chk_some he
      cases he; exact ⟨rfl, rfl, c_i_rest _ _ h1⟩
    · cases he
theorem k_s_l01Mod : Am.Callee Try.prog 108 (plainE g_mod) :=
  Am.Callee.plain fun xs v he => by
    unfold g_mod at he
    split at he
    · obtain ⟨h1, he⟩ := chk_some he
      cases he; exact ⟨rfl, rfl, c_s_l01Mod _ _ h1⟩
    · cases he
def B2 : Book := ((((B1.put 112 (plainE g_prime)).put 59 (plainE g_prime)).put 103 (plainE g_rest)).put 108 (plainE g_mod))

theorem B2_ok : BookOk Try.prog B2 := ((((B1_ok.put (k_prime_of c_i_isPrime)).put (k_prime_of c_s_l01Prime)).put (k_i_rest)).put (k_s_l01Mod))

theorem B2_i_in_E1 : B2 93 = some (plainE g_in) := rfl
theorem B2_s_l01In_E1 : B2 60 = some (plainE g_in) := rfl
theorem B2_i_isPrime_E1 : B2 112 = some (plainE g_prime) := rfl


theorem prime_bd {p : Int} (h : primeB p = true) : 2 ≤ p ∧ p ≤ 97 := by
  unfold primeB at h
  rw [Bool.and_eq_true] at h
  exact of_decide_eq_true h.1

theorem c_i_fieldOk (p c : Int) : Am.Fn Try.prog 64 [.int .i64 p, .int .i64 c] [] (fun v H' => v = .bool (primeB p && decide (0 ≤ c ∧ c ≤ p - 1)) ∧ H' = []) := by
  refine Am.Fn.sameB (R := fun v => v = _) B2_ok mixed r_i_fieldOk (by simp) (by simp) ?_
  simp (maxSteps := 3000000) only [a_i_fieldOk, B2_i_in_E1, B2_s_l01In_E1, B2_i_isPrime_E1, g_in, g_prime, idX_eq, wbE, ↓symP, symE, listE, AK.isCall, enumE, ev, putE, abin, aun, AV.cells, ↓reduceIte, reduceCtorEq, Nat.reduceAdd, Nat.reduceMul, Nat.reduceSub, Nat.reduceEqDiff, Nat.reduceLT, Nat.reduceLeDiff, implies_true, Back, retv, retV, AV.scal, AV.scals]; try simp only [idX_eq, ite_both, pickP_both, not_not_eq, Bool.not_eq_false, Bool.not_eq_true]
  refine ⟨fun h => ?_, fun h => ?_⟩
  · have := prime_bd h
    rw [h, wrap64 (by omega) (by omega)]; rfl
  · rw [h]; rfl
theorem k_i_fieldOk : Am.Callee Try.prog 64 (plainE g_fieldOk) :=
  Am.Callee.plain fun xs v he => by
    unfold g_fieldOk at he
    split at he
    · cases he; exact ⟨rfl, rfl, c_i_fieldOk _ _⟩
    · cases he
def B3 : Book := (B2.put 64 (plainE g_fieldOk))

theorem B3_ok : BookOk Try.prog B3 := (B2_ok.put (k_i_fieldOk))

end Go.Proofs.Ytkgoadglalpbfaa
