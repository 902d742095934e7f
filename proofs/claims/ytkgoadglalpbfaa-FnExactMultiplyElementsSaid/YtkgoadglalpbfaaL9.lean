/- Contracts: powers of a number, the implementation. -/
import Derived.Test.YtkgoadglalpbfaaL8
namespace Go.Proofs.Ytkgoadglalpbfaa
open Go.Am Go.Dia
set_option linter.unusedSimpArgs false
set_option linter.unusedVariables false
set_option maxRecDepth 4000
set_option maxHeartbeats 1000000

def a_i_power_l1 : AC := .seq (.region [⟨some 10, none, .op (.bin .lss (.t 9) (.t 8))⟩]) (.seq (.cond 10 .skip (.exit 0)) (.seq (.block 1 (.region [⟨some 11, none, .op (.mov (.t 7))⟩,
         ⟨some 12, none, .op (.mov (.t 0))⟩,
         ⟨some 13, none, .op (.bin .mul (.t 11) (.t 12))⟩,
         ⟨some 14, none, .op (.mov (.t 2))⟩,
         ⟨some 15, none, .op (.bin .rem (.t 13) (.t 14))⟩,
         ⟨some 7, none, .op (.mov (.t 15))⟩])) (.region [⟨some 16, none, .op (.bin .add (.t 9) (.c (.int .i64 1)))⟩,
       ⟨some 9, none, .op (.mov (.t 16))⟩])))
def a_i_power_k1 : AC := .seq (.region [⟨some 17, none, .op (.mov (.t 7))⟩,
     ⟨some 6, none, .op (.mov (.t 17))⟩]) .ret
def a_i_power : AC := .seq (.region [⟨some 6, none, .op (.mov (.c (.int .i64 0)))⟩]) (.seq (.region [⟨some 7, none, .op (.mov (.c (.int .i64 1)))⟩]) (.seq (.seq (.region [⟨some 8, none, .op (.mov (.t 1))⟩,
      ⟨some 9, none, .op (.mov (.c (.int .i64 0)))⟩]) (.block 0 (.loop a_i_power_l1))) a_i_power_k1))
theorem r_i_power : readF Try.prog 128 = some ⟨18, a_i_power, [.slot 6]⟩ := by kernel_rfl
theorem c_i_power (p c : Int) (K : Nat) (hp : 2 ≤ p ∧ p ≤ 97) (hc : 0 ≤ c ∧ c ≤ p - 1) (hK : K ≤ 1000000) : Am.Fn Try.prog 128 [.int .i64 c, .int .i64 K, .int .i64 p] [] (fun v H' => v = .int .i64 (powP p c K) ∧ H' = []) := by
  refine Am.Fn.sameB (R := fun v => v = _) B85_ok mixed r_i_power (by simp) (by simp) ?_
  have hne : p ≠ 0 := by omega
  simp (maxSteps := 3000000) only [over4E, heapL, fillA, rd, wrt, wrl, AO.withl, a_i_power, hne, Int.reduceEq, Int.reduceNe, Int.reduceBEq, Int.reduceBNe, Int.reduceLT, Int.reduceLE, Int.reduceAdd, Int.reduceSub, Int.reduceMul, idX_eq, wbE, ↓symP, symE, listE, AK.isCall, enumE, ev, putE, abin, aun, AV.cells, ↓reduceIte, reduceCtorEq, Nat.reduceAdd, Nat.reduceMul, Nat.reduceSub, Nat.reduceEqDiff, Nat.reduceLT, Nat.reduceLeDiff, implies_true, Back, retv, retV, AV.scal, AV.scals]; try simp only [idX_eq, ite_both, pickP_both, not_not_eq, Bool.not_eq_false, Bool.not_eq_true]
  refine WA.loopB B85_ok (fun s => ∃ j : Nat, j ≤ K ∧ s = ⟨[(9, .int .i64 j), (8, .int .i64 K), (7, .int .i64 (powP p c j)), (0, .int .i64 c), (2, .int .i64 p)], []⟩)
    (fun s => match get s.env 9 with | .int _ x => K - x.toNat | _ => 0) ⟨_, Weak.slots [9, 8, 7, 0, 2], 0, by omega, rfl⟩ ?_
  rintro s ⟨j, hj, rfl⟩
  by_cases hlt : j < K
  · have hli : (j : Int) < (K : Int) := by omega
    obtain ⟨m1, m2, m3, m4⟩ := pow_mul hp hc (powP_bd (c := c) hp.1 j)
    have hw : wrapK .i64 ((j : Int) + 1) = ((j + 1 : Nat) : Int) := by rw [wrap64 (by omega) (by omega)]; rfl
    have hnext : (powP p c j * c).emod p = powP p c (j + 1) := rfl
    simp (maxSteps := 3000000) only [over4E, heapL, fillA, rd, wrt, wrl, AO.withl, a_i_power_l1, hli, m1, m2, hw, hne, hnext, Int.reduceEq, Int.reduceNe, Int.reduceBEq, Int.reduceBNe, Int.reduceLT, Int.reduceLE, Int.reduceAdd, Int.reduceSub, Int.reduceMul, idX_eq, wbE, ↓symP, symE, listE, AK.isCall, enumE, ev, putE, abin, aun, AV.cells, ↓reduceIte, reduceCtorEq, Nat.reduceAdd, Nat.reduceMul, Nat.reduceSub, Nat.reduceEqDiff, Nat.reduceLT, Nat.reduceLeDiff, implies_true, Back, retv, retV, AV.scal, AV.scals]; try simp only [idX_eq, ite_both, pickP_both, not_not_eq, Bool.not_eq_false, Bool.not_eq_true]
    refine ⟨_, Weak.slots [9, 8, 7, 0, 2], ⟨j + 1, by omega, ?_⟩, ?_⟩
    · simp only [keptL, keptW, keptE, kepts, slots, ↓reduceIte, reduceCtorEq, Nat.reduceEqDiff, AV.ren, AV.rens, pos, Nat.reduceAdd]
    · simp only [keptL, keptW, keptE, kepts, slots, ↓reduceIte, reduceCtorEq, Nat.reduceEqDiff, AV.ren, AV.rens, pos, Nat.reduceAdd]; omega
  · have hli : ¬ (j : Int) < (K : Int) := by omega
    obtain rfl : j = K := by omega
    simp (maxSteps := 3000000) only [over4E, heapL, fillA, rd, wrt, wrl, AO.withl, a_i_power_l1, a_i_power_k1, hli, Int.lt_irrefl, Int.reduceEq, Int.reduceNe, Int.reduceBEq, Int.reduceBNe, Int.reduceLT, Int.reduceLE, Int.reduceAdd, Int.reduceSub, Int.reduceMul, idX_eq, wbE, ↓symP, symE, listE, AK.isCall, enumE, ev, putE, abin, aun, AV.cells, ↓reduceIte, reduceCtorEq, Nat.reduceAdd, Nat.reduceMul, Nat.reduceSub, Nat.reduceEqDiff, Nat.reduceLT, Nat.reduceLeDiff, implies_true, Back, retv, retV, AV.scal, AV.scals]; try simp only [idX_eq, ite_both, pickP_both, not_not_eq, Bool.not_eq_false, Bool.not_eq_true]
def g_ipow : List AV → Option AV
  | [.int .i64 c, .int .i64 k, .int .i64 p] => chk (((2 ≤ p ∧ p ≤ 97) ∧ (0 ≤ c ∧ c ≤ p - 1)) ∧ 0 ≤ k ∧ k ≤ 1000000) (some (.int .i64 (powP p c k.toNat)))
  | _ => none
theorem k_i_pow : Am.Callee Try.prog 128 (plainE g_ipow) := Am.Callee.plain fun xs v he => by
  unfold g_ipow at he
  split at he
  · rename_i c k p
    obtain ⟨⟨⟨h1, h2⟩, h3⟩, he⟩ := chk_some he
    cases he
    obtain ⟨K, rfl⟩ : ∃ K : Nat, k = K := ⟨k.toNat, by omega⟩
    rw [Int.toNat_natCast]
    exact ⟨rfl, rfl, c_i_power p c K h1 h2 (by omega)⟩
  · cases he
noncomputable def B86 : Book := (B85.put 128 (plainE g_ipow))

theorem B86_ok : BookOk Try.prog B86 := (B85_ok.put (k_i_pow))

end Go.Proofs.Ytkgoadglalpbfaa
