/- Contracts: powers of numbers. -/
import Derived.Test.YtkgoadglalpbfaaC1
namespace Go.Proofs.Ytkgoadglalpbfaa
open Go.Am Go.Dia
set_option linter.unusedSimpArgs false
set_option linter.unusedVariables false
set_option maxRecDepth 4000
set_option maxHeartbeats 1000000

def powP (p c : Int) : Nat → Int
  | 0 => 1
  | k + 1 => (powP p c k * c).emod p
theorem powP_bd {p c : Int} (hp : 2 ≤ p) : ∀ k, 0 ≤ powP p c k ∧ powP p c k ≤ p - 1
  | 0 => by unfold powP; omega
  | k + 1 => by
    have h1 := Int.emod_nonneg (powP p c k * c) (show p ≠ 0 by omega)
    have h2 := Int.emod_lt_of_pos (powP p c k * c) (show 0 < p by omega)
    show 0 ≤ (powP p c k * c) % p ∧ (powP p c k * c) % p ≤ p - 1
    omega
theorem pow_mul {p c x : Int} (hp : 2 ≤ p ∧ p ≤ 97) (hc : 0 ≤ c ∧ c ≤ p - 1) (hx : 0 ≤ x ∧ x ≤ p - 1) : wrapK .i64 (x * c) = x * c ∧ Int.tmod (x * c) p = (x * c).emod p ∧ 0 ≤ x * c ∧ x * c ≤ 9216 := by
  have h0 : 0 ≤ x * c := Int.mul_nonneg hx.1 hc.1
  have h1 : x * c ≤ 96 * 96 := Int.mul_le_mul (by omega) (by omega) hc.1 (by omega)
  exact ⟨wrap64 (by omega) (by omega), Int.tmod_eq_emod_of_nonneg h0, h0, by omega⟩
def a_s_l02Power_l1 : AC := .seq (.seq (.region [⟨some 10, none, .op (.mov (.t 2))⟩,
         ⟨some 11, none, .op (.bin .gtr (.t 10) (.c (.int .i64 0)))⟩]) (.cond 11 .skip (.exit 0))) (.seq (.block 1 (.region [⟨some 14, none, .op (.mov (.t 7))⟩,
         ⟨some 15, none, .op (.mov (.t 1))⟩,
         ⟨some 16, none, .op (.bin .mul (.t 14) (.t 15))⟩,
         ⟨some 17, none, .op (.mov (.t 0))⟩,
         ⟨some 18, none, .op (.bin .rem (.t 16) (.t 17))⟩,
         ⟨some 7, none, .op (.mov (.t 18))⟩])) (.region [⟨some 12, none, .op (.mov (.t 2))⟩,
       ⟨some 13, none, .op (.bin .sub (.t 12) (.c (.int .i64 1)))⟩,
       ⟨some 2, none, .op (.mov (.t 13))⟩]))
def a_s_l02Power_k1 : AC := .seq (.region [⟨some 19, none, .op (.mov (.t 7))⟩,
     ⟨some 6, none, .op (.mov (.t 19))⟩]) .ret
def a_s_l02Power : AC := .seq (.region [⟨some 6, none, .op (.mov (.c (.int .i64 0)))⟩]) (.seq (.region [⟨some 8, none, .op (.mov (.t 0))⟩,
     ⟨some 9, none, .op (.bin .rem (.c (.int .i64 1)) (.t 8))⟩,
     ⟨some 7, none, .op (.mov (.t 9))⟩]) (.seq (.block 0 (.loop a_s_l02Power_l1)) a_s_l02Power_k1))
theorem r_s_l02Power : readF Try.prog 83 = some ⟨20, a_s_l02Power, [.slot 6]⟩ := by kernel_rfl
theorem c_s_l02Power (p c : Int) (K : Nat) (hp : 2 ≤ p ∧ p ≤ 97) (hc : 0 ≤ c ∧ c ≤ p - 1) (hK : K ≤ 1000000) : Am.Fn Try.prog 83 [.int .i64 p, .int .i64 c, .int .i64 K] [] (fun v H' => v = .int .i64 (powP p c K) ∧ H' = []) := by
  refine Am.Fn.sameB (R := fun v => v = _) B39_ok mixed r_s_l02Power (by simp) (by simp) ?_
  have hne : p ≠ 0 := by omega
  have h1 : Int.tmod 1 p = 1 := Int.tmod_eq_of_lt (by omega) (by omega)
  simp (maxSteps := 3000000) only [over4E, heapL, fillA, rd, wrt, wrl, AO.withl, a_s_l02Power, hne, h1, Int.reduceEq, Int.reduceNe, Int.reduceBEq, Int.reduceBNe, Int.reduceLT, Int.reduceLE, Int.reduceAdd, Int.reduceSub, Int.reduceMul, idX_eq, wbE, ↓symP, symE, listE, AK.isCall, enumE, ev, putE, abin, aun, AV.cells, ↓reduceIte, reduceCtorEq, Nat.reduceAdd, Nat.reduceMul, Nat.reduceSub, Nat.reduceEqDiff, Nat.reduceLT, Nat.reduceLeDiff, implies_true, Back, retv, retV, AV.scal, AV.scals]; try simp only [idX_eq, ite_both, pickP_both, not_not_eq, Bool.not_eq_false, Bool.not_eq_true]
  refine WA.loopB B39_ok (fun s => ∃ j : Nat, j ≤ K ∧ s = ⟨[(7, .int .i64 (powP p c j)), (2, .int .i64 ((K - j : Nat) : Int)), (1, .int .i64 c), (0, .int .i64 p)], []⟩)
    (fun s => match get s.env 2 with | .int _ x => x.toNat | _ => 0) ⟨_, Weak.slots [7, 2, 1, 0], 0, by omega, rfl⟩ ?_
  rintro s ⟨j, hj, rfl⟩
  by_cases hlt : j < K
  · have hli : (0 : Int) < ((K - j : Nat) : Int) := by omega
    obtain ⟨m1, m2, m3, m4⟩ := pow_mul hp hc (powP_bd (c := c) hp.1 j)
    have hw : wrapK .i64 (((K - j : Nat) : Int) - 1) = ((K - (j + 1) : Nat) : Int) := by rw [wrap64 (by omega) (by omega)]; omega
    have hnext : (powP p c j * c).emod p = powP p c (j + 1) := rfl
    simp (maxSteps := 3000000) only [over4E, heapL, fillA, rd, wrt, wrl, AO.withl, a_s_l02Power_l1, hli, m1, m2, hw, hne, hnext, Int.reduceEq, Int.reduceNe, Int.reduceBEq, Int.reduceBNe, Int.reduceLT, Int.reduceLE, Int.reduceAdd, Int.reduceSub, Int.reduceMul, idX_eq, wbE, ↓symP, symE, listE, AK.isCall, enumE, ev, putE, abin, aun, AV.cells, ↓reduceIte, reduceCtorEq, Nat.reduceAdd, Nat.reduceMul, Nat.reduceSub, Nat.reduceEqDiff, Nat.reduceLT, Nat.reduceLeDiff, implies_true, Back, retv, retV, AV.scal, AV.scals]; try simp only [idX_eq, ite_both, pickP_both, not_not_eq, Bool.not_eq_false, Bool.not_eq_true]
    refine ⟨_, Weak.slots [7, 2, 1, 0], ⟨j + 1, by omega, ?_⟩, ?_⟩
    · simp only [keptL, keptW, keptE, kepts, slots, ↓reduceIte, reduceCtorEq, Nat.reduceEqDiff, AV.ren, AV.rens, pos, Nat.reduceAdd]
    · simp only [keptL, keptW, keptE, kepts, slots, ↓reduceIte, reduceCtorEq, Nat.reduceEqDiff, AV.ren, AV.rens, pos, Nat.reduceAdd]; omega
  · have hli : ¬ (0 : Int) < ((K - j : Nat) : Int) := by omega
    obtain rfl : j = K := by omega
    simp (maxSteps := 3000000) only [over4E, heapL, fillA, rd, wrt, wrl, AO.withl, a_s_l02Power_l1, a_s_l02Power_k1, hli, Int.reduceEq, Int.reduceNe, Int.reduceBEq, Int.reduceBNe, Int.reduceLT, Int.reduceLE, Int.reduceAdd, Int.reduceSub, Int.reduceMul, idX_eq, wbE, ↓symP, symE, listE, AK.isCall, enumE, ev, putE, abin, aun, AV.cells, ↓reduceIte, reduceCtorEq, Nat.reduceAdd, Nat.reduceMul, Nat.reduceSub, Nat.reduceEqDiff, Nat.reduceLT, Nat.reduceLeDiff, implies_true, Back, retv, retV, AV.scal, AV.scals]; try simp only [idX_eq, ite_both, pickP_both, not_not_eq, Bool.not_eq_false, Bool.not_eq_true]
def g_pow : List AV → Option AV
  | [.int .i64 p, .int .i64 c, .int .i64 k] => chk (((2 ≤ p ∧ p ≤ 97) ∧ (0 ≤ c ∧ c ≤ p - 1)) ∧ 0 ≤ k ∧ k ≤ 1000000) (some (.int .i64 (powP p c k.toNat)))
  | _ => none
theorem k_s_pow : Am.Callee Try.prog 83 (plainE g_pow) := Am.Callee.plain fun xs v he => by
  unfold g_pow at he
  split at he
  · rename_i p c k
    obtain ⟨⟨⟨h1, h2⟩, h3⟩, he⟩ := chk_some he
    cases he
    obtain ⟨K, rfl⟩ : ∃ K : Nat, k = K := ⟨k.toNat, by omega⟩
    rw [Int.toNat_natCast]
    exact ⟨rfl, rfl, c_s_l02Power p c K h1 h2 (by omega)⟩
  · cases he
def B53 : Book := (B39.put 83 (plainE g_pow))

theorem B53_ok : BookOk Try.prog B53 := (B39_ok.put (k_s_pow))

end Go.Proofs.Ytkgoadglalpbfaa
