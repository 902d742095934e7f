/- Contracts: powers of a number, the implementation. -/
import Derived.Test.YtkgoadglalpbfaaL8
namespace Go.Proofs.Ytkgoadglalpbfaa
open Go.Am Go.Dia
open Nat renaming reduceAdd → nA, reduceMul → nM, reduceSub → nS, reduceEqDiff → nE, reduceLT → nL, reduceLeDiff → nD, reduceBEq → nB
open Int renaming reduceEq → iE, reduceNe → iN, reduceBEq → iB, reduceBNe → iC, reduceLT → iL, reduceLE → iD, reduceAdd → iA, reduceSub → iS, reduceMul → iM
set_option linter.unusedSimpArgs false
set_option linter.unusedVariables false
set_option maxRecDepth 4000
set_option maxHeartbeats 1000000
def Wo : AC := .seq (.region [oP 10 .lss 9 8]) (.seq (.cond 10 .skip (.exit 0)) (.seq (.block 1 (.region [oM 11 7,oM 12 0,oP 13 .mul 11 12,oM 14 2,oP 15 .rem 13 14,oM 7 15])) (.region [oK 16 .add 9 1,oM 9 16])))
def Gt : AC := .seq (.region [oM 17 7,oM 6 17]) .ret
def qf1 : AC := .seq (.region [oI 6 0]) (.seq (.region [oI 7 1]) (.seq (.seq (.region [oM 8 1,oI 9 0]) (.block 0 (.loop Wo))) Gt))
theorem qo3 : zy Try.prog 128 = some ⟨18, qf1, [.slot 6]⟩ := by kernel_rfl
theorem qpq (p c : Int) (K : Nat) (hp : 2 ≤ p ∧ p ≤ 97) (hc : 0 ≤ c ∧ c ≤ p - 1) (hK : K ≤ 1000000) : Am.Fn Try.prog 128 [.int .i64 c, .int .i64 K, .int .i64 p] [] (fun v H' => v = .int .i64 (uv p c K) ∧ H' = []) := by
  refine Am.Fn.jw (R := fun v => v = _) qmo mixed qo3 (by simp) (by simp) ?_
  have hne : p ≠ 0 := by omega
  simp (maxSteps := 3000000) only [qf, zH, qf1, hne, iE, iN, iB, iC, iL, iD, iA, iS, iM, qb, zZ, ↓qp, ↓reduceIte, reduceCtorEq, nA, nM, nS, nE, nL, nD]; try simp only [qb, zY]
  refine WA.j8 qmo (fun s => ∃ j : Nat, j ≤ K ∧ s = ⟨[(9, .int .i64 j), (8, .int .i64 K), (7, .int .i64 (uv p c j)), (0, .int .i64 c), (2, .int .i64 p)], []⟩)
    (fun s => match get s.env 9 with | .int _ x => K - x.toNat | _ => 0) ⟨_, qz.zc [9, 8, 7, 0, 2], 0, by omega, rfl⟩ ?_
  rintro s ⟨j, hj, rfl⟩
  by_cases hlt : j < K
  · have hli : (j : Int) < (K : Int) := by omega
    obtain ⟨m1, m2, m3, m4⟩ := pow_mul hp hc (qh1 (c := c) hp.1 j)
    have hw : q8 .i64 ((j : Int) + 1) = ((j + 1 : Nat) : Int) := by rw [wrap64 (by omega) (by omega)]; rfl
    have hnext : (uv p c j * c).emod p = uv p c (j + 1) := rfl
    simp (maxSteps := 3000000) only [qf, zH, Wo, hli, m1, m2, hw, hne, hnext, iE, iN, iB, iC, iL, iD, iA, iS, iM, qb, zZ, ↓qp, ↓reduceIte, reduceCtorEq, nA, nM, nS, nE, nL, nD]; try simp only [qb, zY]
    refine ⟨_, qz.zc [9, 8, 7, 0, 2], ⟨j + 1, by omega, ?_⟩, ?_⟩
    · simp only [zL, ↓reduceIte, reduceCtorEq, nE, nA]
    · simp only [zL, ↓reduceIte, reduceCtorEq, nE, nA]; omega
  · have hli : ¬ (j : Int) < (K : Int) := by omega
    obtain rfl : j = K := by omega
    simp (maxSteps := 3000000) only [qf, zH, Wo, Gt, hli, Int.lt_irrefl, iE, iN, iB, iC, iL, iD, iA, iS, iM, qb, zZ, ↓qp, ↓reduceIte, reduceCtorEq, nA, nM, nS, nE, nL, nD]; try simp only [qb, zY]
def J5 : List AV → Option AV
  | [.int .i64 c, .int .i64 k, .int .i64 p] => chk (((2 ≤ p ∧ p ≤ 97) ∧ (0 ≤ c ∧ c ≤ p - 1)) ∧ 0 ≤ k ∧ k ≤ 1000000) (some (.int .i64 (uv p c k.toNat)))
  | _ => none
theorem qvj : Am.Callee Try.prog 128 (qu J5) := Am.Callee.plain fun xs v he => by
  unfold J5 at he
  split at he
  · rename_i c k p
    obtain ⟨⟨⟨h1, h2⟩, h3⟩, he⟩ := qm he
    cases he
    obtain ⟨K, rfl⟩ : ∃ K : Nat, k = K := ⟨k.toNat, by omega⟩
    rw [Int.toNat_natCast]
    exact ⟨rfl, rfl, qpq p c K h1 h2 (by omega)⟩
  · cases he
noncomputable def B86 : z7 := (B85.put 128 (qu J5))
theorem qdc : ze Try.prog B86 := (qmo.put (qvj))
end Go.Proofs.Ytkgoadglalpbfaa
