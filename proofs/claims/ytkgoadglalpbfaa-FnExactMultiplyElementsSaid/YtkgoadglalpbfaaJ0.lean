/- Contracts: powers of numbers. -/
import Derived.Test.YtkgoadglalpbfaaC1
namespace Go.Proofs.Ytkgoadglalpbfaa
open Go.Am Go.Dia
open Nat renaming reduceAdd → nA, reduceMul → nM, reduceSub → nS, reduceEqDiff → nE, reduceLT → nL, reduceLeDiff → nD, reduceBEq → nB
open Int renaming reduceEq → iE, reduceNe → iN, reduceBEq → iB, reduceBNe → iC, reduceLT → iL, reduceLE → iD, reduceAdd → iA, reduceSub → iS, reduceMul → iM
set_option linter.unusedSimpArgs false
set_option linter.unusedVariables false
set_option maxRecDepth 4000
set_option maxHeartbeats 1000000
def uv (p c : Int) : Nat → Int
  | 0 => 1
  | k + 1 => (uv p c k * c).emod p
theorem qh1 {p c : Int} (hp : 2 ≤ p) : ∀ k, 0 ≤ uv p c k ∧ uv p c k ≤ p - 1
  | 0 => by unfold uv; omega
  | k + 1 => by
    have h1 := Int.emod_nonneg (uv p c k * c) (show p ≠ 0 by omega)
    have h2 := Int.emod_lt_of_pos (uv p c k * c) (show 0 < p by omega)
    show 0 ≤ (uv p c k * c) % p ∧ (uv p c k * c) % p ≤ p - 1
    omega
theorem pow_mul {p c x : Int} (hp : 2 ≤ p ∧ p ≤ 97) (hc : 0 ≤ c ∧ c ≤ p - 1) (hx : 0 ≤ x ∧ x ≤ p - 1) : q8 .i64 (x * c) = x * c ∧ Int.tmod (x * c) p = (x * c).emod p ∧ 0 ≤ x * c ∧ x * c ≤ 9216 := by
  have h0 : 0 ≤ x * c := Int.mul_nonneg hx.1 hc.1
  have h1 : x * c ≤ 96 * 96 := Int.mul_le_mul (by omega) (by omega) hc.1 (by omega)
  exact ⟨wrap64 (by omega) (by omega), Int.tmod_eq_emod_of_nonneg h0, h0, by omega⟩
def Zy : AC := .seq (.seq (.region [oM 10 2,oK 11 .gtr 10 0]) (.cond 11 .skip (.exit 0))) (.seq (.block 1 (.region [oM 14 7,oM 15 1,oP 16 .mul 14 15,oM 17 0,oP 18 .rem 16 17,oM 7 18])) (.region [oM 12 2,oK 13 .sub 12 1,oM 2 13]))
def Wz : AC := .seq (.region [oM 19 7,oM 6 19]) .ret
def Ki : AC := .seq (.region [oI 6 0]) (.seq (.region [oM 8 0,o0 9 (.bin .rem (.c (.int .i64 1)) (.t 8)),oM 7 9]) (.seq (.block 0 (.loop Zy)) Wz))
theorem qgq : zy Try.prog 83 = some ⟨20, Ki, [.slot 6]⟩ := by kernel_rfl
theorem qg6 (p c : Int) (K : Nat) (hp : 2 ≤ p ∧ p ≤ 97) (hc : 0 ≤ c ∧ c ≤ p - 1) (hK : K ≤ 1000000) : Am.Fn Try.prog 83 [.int .i64 p, .int .i64 c, .int .i64 K] [] (fun v H' => v = .int .i64 (uv p c K) ∧ H' = []) := by
  refine Am.Fn.jw (R := fun v => v = _) qlp mixed qgq (by simp) (by simp) ?_
  have hne : p ≠ 0 := by omega
  have h1 : Int.tmod 1 p = 1 := Int.tmod_eq_of_lt (by omega) (by omega)
  simp (maxSteps := 3000000) only [qf, zH, Ki, hne, h1, iE, iN, iB, iC, iL, iD, iA, iS, iM, qb, zZ, ↓qp, ↓reduceIte, reduceCtorEq, nA, nM, nS, nE, nL, nD]; try simp only [qb, zY]
  refine WA.j8 qlp (fun s => ∃ j : Nat, j ≤ K ∧ s = ⟨[(7, .int .i64 (uv p c j)), (2, .int .i64 ((K - j : Nat) : Int)), (1, .int .i64 c), (0, .int .i64 p)], []⟩)
    (fun s => match get s.env 2 with | .int _ x => x.toNat | _ => 0) ⟨_, qz.zc [7, 2, 1, 0], 0, by omega, rfl⟩ ?_
  rintro s ⟨j, hj, rfl⟩
  by_cases hlt : j < K
  · have hli : (0 : Int) < ((K - j : Nat) : Int) := by omega
    obtain ⟨m1, m2, m3, m4⟩ := pow_mul hp hc (qh1 (c := c) hp.1 j)
    have hw : q8 .i64 (((K - j : Nat) : Int) - 1) = ((K - (j + 1) : Nat) : Int) := by rw [wrap64 (by omega) (by omega)]; omega
    have hnext : (uv p c j * c).emod p = uv p c (j + 1) := rfl
    simp (maxSteps := 3000000) only [qf, zH, Zy, hli, m1, m2, hw, hne, hnext, iE, iN, iB, iC, iL, iD, iA, iS, iM, qb, zZ, ↓qp, ↓reduceIte, reduceCtorEq, nA, nM, nS, nE, nL, nD]; try simp only [qb, zY]
    refine ⟨_, qz.zc [7, 2, 1, 0], ⟨j + 1, by omega, ?_⟩, ?_⟩
    · simp only [zL, ↓reduceIte, reduceCtorEq, nE, nA]
    · simp only [zL, ↓reduceIte, reduceCtorEq, nE, nA]; omega
  · have hli : ¬ (0 : Int) < ((K - j : Nat) : Int) := by omega
    obtain rfl : j = K := by omega
    simp (maxSteps := 3000000) only [qf, zH, Zy, Wz, hli, iE, iN, iB, iC, iL, iD, iA, iS, iM, qb, zZ, ↓qp, ↓reduceIte, reduceCtorEq, nA, nM, nS, nE, nL, nD]; try simp only [qb, zY]
def Yc : List AV → Option AV
  | [.int .i64 p, .int .i64 c, .int .i64 k] => chk (((2 ≤ p ∧ p ≤ 97) ∧ (0 ≤ c ∧ c ≤ p - 1)) ∧ 0 ≤ k ∧ k ≤ 1000000) (some (.int .i64 (uv p c k.toNat)))
  | _ => none
theorem qum : Am.Callee Try.prog 83 (qu Yc) := Am.Callee.plain fun xs v he => by
  unfold Yc at he
  split at he
  · rename_i p c k
    obtain ⟨⟨⟨h1, h2⟩, h3⟩, he⟩ := qm he
    cases he
    obtain ⟨K, rfl⟩ : ∃ K : Nat, k = K := ⟨k.toNat, by omega⟩
    rw [Int.toNat_natCast]
    exact ⟨rfl, rfl, qg6 p c K h1 h2 (by omega)⟩
  · cases he
def B53 : z7 := (B39.put 83 (qu Yc))
theorem qcq : ze Try.prog B53 := (qlp.put (qum))
end Go.Proofs.Ytkgoadglalpbfaa
