/- Contracts: powers of numbers, and partial closures of diagrams. -/
import Derived.Test.YtkgoadglalpbfaaC1
import Derived.Test.YtkgoadglalpbfaaH2
namespace Go.Proofs.Ytkgoadglalpbfaa
open Go.Am Go.Dia
set_option linter.unusedSimpArgs false
set_option linter.unusedVariables false
set_option maxRecDepth 4000
set_option maxHeartbeats 1000000

def powP (p c : Int) : Nat → Int
  | 0 => 1
  | k + 1 => (powP p c k * c).emod p
theorem powP_bd {p c : Int} (hp : 2 ≤ p) : ∀ k, 0 ≤ powP p c k ∧ powP p c k ≤ p - 1
  | 0 => by unfold powP; omega
  | k + 1 => by
    have h1 := Int.emod_nonneg (powP p c k * c) (show p ≠ 0 by omega)
    have h2 := Int.emod_lt_of_pos (powP p c k * c) (show 0 < p by omega)
    show 0 ≤ (powP p c k * c) % p ∧ (powP p c k * c) % p ≤ p - 1
    omega
theorem pow_mul {p c x : Int} (hp : 2 ≤ p ∧ p ≤ 97) (hc : 0 ≤ c ∧ c ≤ p - 1) (hx : 0 ≤ x ∧ x ≤ p - 1) : wrapK .i64 (x * c) = x * c ∧ Int.tmod (x * c) p = (x * c).emod p ∧ 0 ≤ x * c ∧ x * c ≤ 9216 := by
  have h0 : 0 ≤ x * c := Int.mul_nonneg hx.1 hc.1
  have h1 : x * c ≤ 96 * 96 := Int.mul_le_mul (by omega) (by omega) hc.1 (by omega)
  exact ⟨wrap64 (by omega) (by omega), Int.tmod_eq_emod_of_nonneg h0, h0, by omega⟩
def a_s_l02Power_l1 : AC := .seq (.seq (.region [⟨some 10, none, .op (.mov (.t 2))⟩,
         ⟨some 11, none, .op (.bin .gtr (.t 10) (.c (.int .i64 0)))⟩]) (.cond 11 .skip (.exit 0))) (.seq (.block 1 (.region [⟨some 14, none, .op (.mov (.t 7))⟩,
         ⟨some 15, none, .op (.mov (.t 1))⟩,
         ⟨some 16, none, .op (.bin .mul (.t 14) (.t 15))⟩,
         ⟨some 17, none, .op (.mov (.t 0))⟩,
         ⟨some 18, none, .op (.bin .rem (.t 16) (.t 17))⟩,
         ⟨some 7, none, .op (.mov (.t 18))⟩])) (.region [⟨some 12, none, .op (.mov (.t 2))⟩,
       ⟨some 13, none, .op (.bin .sub (.t 12) (.c (.int .i64 1)))⟩,
       ⟨some 2, none, .op (.mov (.t 13))⟩]))
def a_s_l02Power_k1 : AC := .seq (.region [⟨some 19, none, .op (.mov (.t 7))⟩,
     ⟨some 6, none, .op (.mov (.t 19))⟩]) .ret
def a_s_l02Power : AC := .seq (.region [⟨some 6, none, .op (.mov (.c (.int .i64 0)))⟩]) (.seq (.region [⟨some 8, none, .op (.mov (.t 0))⟩,
     ⟨some 9, none, .op (.bin .rem (.c (.int .i64 1)) (.t 8))⟩,
     ⟨some 7, none, .op (.mov (.t 9))⟩]) (.seq (.block 0 (.loop a_s_l02Power_l1)) a_s_l02Power_k1))
theorem r_s_l02Power : readF Try.prog 83 = some ⟨20, a_s_l02Power, [.slot 6]⟩ := by kernel_rfl
theorem c_s_l02Power (p c : Int) (K : Nat) (hp : 2 ≤ p ∧ p ≤ 97) (hc : 0 ≤ c ∧ c ≤ p - 1) (hK : K ≤ 1000000) : Am.Fn Try.prog 83 [.int .i64 p, .int .i64 c, .int .i64 K] [] (fun v H' => v = .int .i64 (powP p c K) ∧ H' = []) := by
  refine Am.Fn.sameB (R := fun v => v = _) B39_ok mixed r_s_l02Power (by simp) (by simp) ?_
  have hne : p ≠ 0 := by omega
  have h1 : Int.tmod 1 p = 1 := Int.tmod_eq_of_lt (by omega) (by omega)
  simp (maxSteps := 3000000) only [over4E, heapL, fillA, rd, wrt, wrl, AO.withl, a_s_l02Power, hne, h1, Int.reduceEq, Int.reduceNe, Int.reduceBEq, Int.reduceBNe, Int.reduceLT, Int.reduceLE, Int.reduceAdd, Int.reduceSub, Int.reduceMul, idX_eq, wbE, ↓symP, symE, listE, AK.isCall, enumE, ev, putE, abin, aun, AV.cells, ↓reduceIte, reduceCtorEq, Nat.reduceAdd, Nat.reduceMul, Nat.reduceSub, Nat.reduceEqDiff, Nat.reduceLT, Nat.reduceLeDiff, implies_true, Back, retv, retV, AV.scal, AV.scals]; try simp only [idX_eq, ite_both, pickP_both, not_not_eq, Bool.not_eq_false, Bool.not_eq_true]
  refine WA.loopB B39_ok (fun s => ∃ j : Nat, j ≤ K ∧ s = ⟨[(7, .int .i64 (powP p c j)), (2, .int .i64 ((K - j : Nat) : Int)), (1, .int .i64 c), (0, .int .i64 p)], []⟩)
    (fun s => match get s.env 2 with | .int _ x => x.toNat | _ => 0) ⟨_, Weak.slots [7, 2, 1, 0], 0, by omega, rfl⟩ ?_
  rintro s ⟨j, hj, rfl⟩
  by_cases hlt : j < K
  · have hli : (0 : Int) < ((K - j : Nat) : Int) := by omega
    obtain ⟨m1, m2, m3, m4⟩ := pow_mul hp hc (powP_bd (c := c) hp.1 j)
    have hw : wrapK .i64 (((K - j : Nat) : Int) - 1) = ((K - (j + 1) : Nat) : Int) := by rw [wrap64 (by omega) (by omega)]; omega
    have hnext : (powP p c j * c).emod p = powP p c (j + 1) := rfl
    simp (maxSteps := 3000000) only [over4E, heapL, fillA, rd, wrt, wrl, AO.withl, a_s_l02Power_l1, hli, m1, m2, hw, hne, hnext, Int.reduceEq, Int.reduceNe, Int.reduceBEq, Int.reduceBNe, Int.reduceLT, Int.reduceLE, Int.reduceAdd, Int.reduceSub, Int.reduceMul, idX_eq, wbE, ↓symP, symE, listE, AK.isCall, enumE, ev, putE, abin, aun, AV.cells, ↓reduceIte, reduceCtorEq, Nat.reduceAdd, Nat.reduceMul, Nat.reduceSub, Nat.reduceEqDiff, Nat.reduceLT, Nat.reduceLeDiff, implies_true, Back, retv, retV, AV.scal, AV.scals]; try simp only [idX_eq, ite_both, pickP_both, not_not_eq, Bool.not_eq_false, Bool.not_eq_true]
    refine ⟨_, Weak.slots [7, 2, 1, 0], ⟨j + 1, by omega, ?_⟩, ?_⟩
    · simp only [keptL, keptW, keptE, kepts, slots, ↓reduceIte, reduceCtorEq, Nat.reduceEqDiff, AV.ren, AV.rens, pos, Nat.reduceAdd]
    · simp only [keptL, keptW, keptE, kepts, slots, ↓reduceIte, reduceCtorEq, Nat.reduceEqDiff, AV.ren, AV.rens, pos, Nat.reduceAdd]; omega
  · have hli : ¬ (0 : Int) < ((K - j : Nat) : Int) := by omega
    obtain rfl : j = K := by omega
    simp (maxSteps := 3000000) only [over4E, heapL, fillA, rd, wrt, wrl, AO.withl, a_s_l02Power_l1, a_s_l02Power_k1, hli, Int.reduceEq, Int.reduceNe, Int.reduceBEq, Int.reduceBNe, Int.reduceLT, Int.reduceLE, Int.reduceAdd, Int.reduceSub, Int.reduceMul, idX_eq, wbE, ↓symP, symE, listE, AK.isCall, enumE, ev, putE, abin, aun, AV.cells, ↓reduceIte, reduceCtorEq, Nat.reduceAdd, Nat.reduceMul, Nat.reduceSub, Nat.reduceEqDiff, Nat.reduceLT, Nat.reduceLeDiff, implies_true, Back, retv, retV, AV.scal, AV.scals]; try simp only [idX_eq, ite_both, pickP_both, not_not_eq, Bool.not_eq_false, Bool.not_eq_true]
def g_pow : List AV → Option AV
  | [.int .i64 p, .int .i64 c, .int .i64 k] => chk (((2 ≤ p ∧ p ≤ 97) ∧ (0 ≤ c ∧ c ≤ p - 1)) ∧ 0 ≤ k ∧ k ≤ 1000000) (some (.int .i64 (powP p c k.toNat)))
  | _ => none
theorem k_s_pow : Am.Callee Try.prog 83 (plainE g_pow) := Am.Callee.plain fun xs v he => by
  unfold g_pow at he
  split at he
  · rename_i p c k
    obtain ⟨⟨⟨h1, h2⟩, h3⟩, he⟩ := chk_some he
    cases he
    obtain ⟨K, rfl⟩ : ∃ K : Nat, k = K := ⟨k.toNat, by omega⟩
    rw [Int.toNat_natCast]
    exact ⟨rfl, rfl, c_s_l02Power p c K h1 h2 (by omega)⟩
  · cases he
def B53 : Book := (B39.put 83 (plainE g_pow))
theorem B53_ok : BookOk Try.prog B53 := (B39_ok.put (k_s_pow))


/-- The mates, the ends of the line that goes on joined. -/
def mates (n : Nat) (m : List Nat) : List Nat := if m.getD (n - 1) 0 = 2 * n - 1 then m else (m.set (m.getD (n - 1) 0) (m.getD (2 * n - 1) 0)).set (m.getD (2 * n - 1) 0) (m.getD (n - 1) 0)
def lpC (n : Nat) (m : List Nat) : Nat := if m.getD (n - 1) 0 = 2 * n - 1 then 1 else 0
theorem mates_len {n : Nat} {m : List Nat} : (mates n m).length = m.length := by unfold mates; split <;> simp
theorem mates_get {n : Nat} {m : List Nat} (hm : m.length = 16) (h : isS n m = true) {i : Nat} (hi : i < 2 * n) (ho : clOk n i = true) : (mates n m).getD i 0 = cmate n m i := by
  obtain ⟨hn, hp, hz⟩ := isS_mate h
  have ha := hp (n - 1) (by omega)
  have hb := hp (2 * n - 1) (by omega)
  simp only [clOk, Bool.and_eq_true, bne_iff_ne, ne_eq] at ho
  unfold mates cmate
  split
  · rename_i e
    rw [if_neg (fun e2 => ?_), if_neg (fun e2 => ?_)]
    · rw [e] at e2; omega
    · have h1 := ha.2.2
      rw [e, e2] at h1
      omega
  · rw [getD_set, List.length_set, hm]
    by_cases e1 : m.getD (2 * n - 1) 0 = i
    · rw [if_pos ⟨e1, by omega⟩, if_pos e1]
    · rw [if_neg (fun h => e1 h.1), if_neg e1, getD_set, hm]
      by_cases e2 : m.getD (n - 1) 0 = i
      · rw [if_pos ⟨e2, by omega⟩, if_pos e2]
      · rw [if_neg (fun h => e2 h.1), if_neg e2]
theorem clOk_facts {n : Nat} {m : List Nat} (hn1 : 1 < n) (h : isS n m = true) {i : Nat} (hi : i < 2 * n) (ho : clOk n i = true) : cl n i < 16 ∧ cmate n m i < 2 * n ∧ cl n (cmate n m i) < 16 := by
  obtain ⟨hn, hp, hz⟩ := isS_mate h
  have ha := hp (n - 1) (by omega)
  have hb := hp (2 * n - 1) (by omega)
  have h1 : cmate n m i < 2 * n := by
    unfold cmate
    split
    · exact ha.1
    · split
      · exact hb.1
      · exact (hp i hi).1
  simp only [clOk, Bool.and_eq_true, bne_iff_ne, ne_eq] at ho
  refine ⟨by unfold cl; split <;> omega, h1, by unfold cl; split <;> omega⟩
theorem closeK_length {n : Nat} {m : List Nat} {i : Nat} : (closeK n m i).length = 16 := putAll_length _ _ _ _
theorem closeL_eq {n : Nat} {m : List Nat} (hn : 1 ≤ n) : closeK n m (2 * n - 1) = closeL n m := by
  have e : 2 * n = (2 * n - 1) + 1 := by omega
  have ho : clOk n (2 * n - 1) = false := by simp [clOk]
  unfold closeL
  conv => rhs; rw [e]
  unfold closeK
  rw [putAll, ho]
  simp
theorem dia_cons0 : AV.int .i64 0 :: u8s (List.replicate 16 0) = dia 0 (List.replicate 16 0) := rfl
theorem over_u8z {m : List Nat} (h : m.length = 16) : over (u8s (List.replicate 16 0)) 0 (u8s m) = u8s m := over_all (by rw [u8s_length, u8s_length, h, List.length_replicate])
def a_s_l02Closed_l1 : AC := .seq (.seq (.region [⟨some 41, none, .op (.mov (.t 10))⟩,
         ⟨some 42, none, .op (.mov (.t 4))⟩,
         ⟨some 43, none, .op (.bin .mul (.c (.int .i64 2)) (.t 42))⟩,
         ⟨some 44, none, .op (.bin .sub (.t 43) (.c (.int .i64 1)))⟩,
         ⟨some 45, none, .op (.bin .lss (.t 41) (.t 44))⟩]) (.cond 45 .skip (.exit 0))) (.seq (.block 1 (.seq (.seq (.region [⟨some 48, none, .op (.mov (.t 10))⟩,
           ⟨some 49, none, .op (.mov (.t 4))⟩,
           ⟨some 50, none, .op (.bin .sub (.t 49) (.c (.int .i64 1)))⟩,
           ⟨some 51, none, .op (.bin .eql (.t 48) (.t 50))⟩]) (.cond 51 (.exit 1) .skip)) (.seq (.draw false [⟨some 52, none, .op (.mov (.t 10))⟩,
          ⟨some 53, none, .op (.mov (.t 10))⟩,
          ⟨some 54, none, .op (.iaddrA 16 1 (.t 6) (.t 53))⟩,
          ⟨some 55, none, .op (.load1 (.t 54))⟩,
          ⟨some 56, none, .op (.conv .i64 (.t 55))⟩,
          ⟨some 11, none, .op (.mov (.t 52))⟩,
          ⟨some 12, none, .op (.mov (.t 56))⟩]) (.seq (.seq (.region [⟨some 57, none, .op (.mov (.t 11))⟩,
           ⟨some 58, none, .op (.mov (.t 4))⟩,
           ⟨some 59, none, .op (.bin .geq (.t 57) (.t 58))⟩]) (.cond 59 (.region [⟨some 60, none, .op (.mov (.t 11))⟩,
            ⟨some 61, none, .op (.bin .sub (.t 60) (.c (.int .i64 1)))⟩,
            ⟨some 11, none, .op (.mov (.t 61))⟩]) .skip)) (.seq (.seq (.region [⟨some 62, none, .op (.mov (.t 12))⟩,
           ⟨some 63, none, .op (.mov (.t 4))⟩,
           ⟨some 64, none, .op (.bin .geq (.t 62) (.t 63))⟩]) (.cond 64 (.region [⟨some 65, none, .op (.mov (.t 12))⟩,
            ⟨some 66, none, .op (.bin .sub (.t 65) (.c (.int .i64 1)))⟩,
            ⟨some 12, none, .op (.mov (.t 66))⟩]) .skip)) (.region [⟨some 67, none, .op (.mov (.t 11))⟩,
         ⟨some 68, none, .op (.mov (.t 12))⟩,
         ⟨some 69, none, .op (.conv .u8 (.t 68))⟩,
         ⟨some 70, none, .op (.faddr 1 (.t 9))⟩,
         ⟨some 71, none, .op (.iaddrA 16 1 (.t 70) (.t 67))⟩,
         ⟨none, none, .op (.store1 (.t 71) (.t 69))⟩])))))) (.region [⟨some 46, none, .op (.mov (.t 10))⟩,
       ⟨some 47, none, .op (.bin .add (.t 46) (.c (.int .i64 1)))⟩,
       ⟨some 10, none, .op (.mov (.t 47))⟩]))
def a_s_l02Closed_k1 : AC := .seq (.region [⟨some 72, none, .op (.loadN 17 (.t 9))⟩,
     ⟨some 73, none, .op (.mov (.t 5))⟩,
     ⟨none, none, .op (.storeN 17 (.t 2) (.t 72))⟩,
     ⟨some 3, none, .op (.mov (.t 73))⟩]) .ret
def a_s_l02Closed : AC := .seq (.region [⟨some 1, none, .op (.box (.t 0))⟩,
     ⟨some 2, none, .op (.alloc [(.int .i64 0), (.int .u8 0), (.int .u8 0), (.int .u8 0), (.int .u8 0), (.int .u8 0), (.int .u8 0), (.int .u8 0), (.int .u8 0), (.int .u8 0), (.int .u8 0), (.int .u8 0), (.int .u8 0), (.int .u8 0), (.int .u8 0), (.int .u8 0), (.int .u8 0)])⟩,
     ⟨some 3, none, .op (.mov (.c (.int .i64 0)))⟩]) (.seq (.region [⟨some 13, none, .op (.faddr 0 (.t 1))⟩,
     ⟨some 14, none, .op (.load1 (.t 13))⟩,
     ⟨some 4, none, .op (.mov (.t 14))⟩,
     ⟨some 5, none, .op (.mov (.c (.int .i64 0)))⟩]) (.seq (.region [⟨some 15, none, .op (.faddr 1 (.t 1))⟩,
     ⟨some 16, none, .op (.loadN 16 (.t 15))⟩,
     ⟨some 6, none, .op (.alloc [(.int .u8 0), (.int .u8 0), (.int .u8 0), (.int .u8 0), (.int .u8 0), (.int .u8 0), (.int .u8 0), (.int .u8 0), (.int .u8 0), (.int .u8 0), (.int .u8 0), (.int .u8 0), (.int .u8 0), (.int .u8 0), (.int .u8 0), (.int .u8 0)])⟩,
     ⟨none, none, .op (.storeN 16 (.t 6) (.t 16))⟩]) (.seq (.draw false [⟨some 17, none, .op (.mov (.t 4))⟩,
     ⟨some 18, none, .op (.bin .sub (.t 17) (.c (.int .i64 1)))⟩,
     ⟨some 19, none, .op (.iaddrA 16 1 (.t 6) (.t 18))⟩,
     ⟨some 20, none, .op (.load1 (.t 19))⟩,
     ⟨some 21, none, .op (.mov (.t 4))⟩,
     ⟨some 22, none, .op (.bin .mul (.c (.int .i64 2)) (.t 21))⟩,
     ⟨some 23, none, .op (.bin .sub (.t 22) (.c (.int .i64 1)))⟩,
     ⟨some 24, none, .op (.iaddrA 16 1 (.t 6) (.t 23))⟩,
     ⟨some 25, none, .op (.load1 (.t 24))⟩,
     ⟨some 7, none, .op (.mov (.t 20))⟩,
     ⟨some 8, none, .op (.mov (.t 25))⟩]) (.seq (.seq (.region [⟨some 26, none, .op (.mov (.t 7))⟩,
      ⟨some 27, none, .op (.conv .i64 (.t 26))⟩,
      ⟨some 28, none, .op (.mov (.t 4))⟩,
      ⟨some 29, none, .op (.bin .mul (.c (.int .i64 2)) (.t 28))⟩,
      ⟨some 30, none, .op (.bin .sub (.t 29) (.c (.int .i64 1)))⟩,
      ⟨some 31, none, .op (.bin .eql (.t 27) (.t 30))⟩]) (.cond 31 (.region [⟨some 5, none, .op (.mov (.c (.int .i64 1)))⟩]) (.seq (.region [⟨some 32, none, .op (.mov (.t 7))⟩,
        ⟨some 33, none, .op (.mov (.t 8))⟩,
        ⟨some 34, none, .op (.iaddrA 16 1 (.t 6) (.t 32))⟩,
        ⟨none, none, .op (.store1 (.t 34) (.t 33))⟩]) (.region [⟨some 35, none, .op (.mov (.t 8))⟩,
       ⟨some 36, none, .op (.mov (.t 7))⟩,
       ⟨some 37, none, .op (.iaddrA 16 1 (.t 6) (.t 35))⟩,
       ⟨none, none, .op (.store1 (.t 37) (.t 36))⟩])))) (.seq (.region [⟨some 38, none, .op (.mov (.t 4))⟩,
     ⟨some 39, none, .op (.bin .sub (.t 38) (.c (.int .i64 1)))⟩,
     ⟨some 40, none, .op (.build [(.int .i64 0), (.int .u8 0), (.int .u8 0), (.int .u8 0), (.int .u8 0), (.int .u8 0), (.int .u8 0), (.int .u8 0), (.int .u8 0), (.int .u8 0), (.int .u8 0), (.int .u8 0), (.int .u8 0), (.int .u8 0), (.int .u8 0), (.int .u8 0), (.int .u8 0)] [(0, 1, (.t 39))])⟩,
     ⟨some 9, none, .op (.alloc [(.int .i64 0), (.int .u8 0), (.int .u8 0), (.int .u8 0), (.int .u8 0), (.int .u8 0), (.int .u8 0), (.int .u8 0), (.int .u8 0), (.int .u8 0), (.int .u8 0), (.int .u8 0), (.int .u8 0), (.int .u8 0), (.int .u8 0), (.int .u8 0), (.int .u8 0)])⟩,
     ⟨none, none, .op (.storeN 17 (.t 9) (.t 40))⟩]) (.seq (.seq (.region [⟨some 10, none, .op (.mov (.c (.int .i64 0)))⟩]) (.block 0 (.loop a_s_l02Closed_l1))) a_s_l02Closed_k1))))))
theorem r_s_l02Closed : readF Try.prog 82 = some ⟨74, a_s_l02Closed, [.cellN 2 17, .slot 3]⟩ := by kernel_rfl
theorem c_s_l02Closed (N : Nat) (m : List Nat) (hm : okD m) (hs : isS N m = true) (hN1 : 1 < N) : Am.Fn Try.prog 82 [.agg (dia N m)] [] (fun v H' => v = .tup [.agg (dia ((N : Int) - 1) (closeL N m)), .int .i64 (lpC N m : Nat)] ∧ H' = []) := by
  refine Am.Fn.sameB (R := fun v => v = _) B53_ok mixed r_s_l02Closed (by simp) (by simp) ?_
  obtain ⟨hN, hp, hz⟩ := isS_mate hs
  have hml := hm.1
  have ha := hp (N - 1) (by omega)
  have hb := hp (2 * N - 1) (by omega)
  have h1 : wrapK .i64 ((N : Int) - 1) = ((N - 1 : Nat) : Int) := by rw [wrap64 (by omega) (by omega)]; omega
  have h2 : wrapK .i64 (2 * (N : Int)) = ((2 * N : Nat) : Int) := by rw [wrap64 (by omega) (by omega)]; rfl
  have h3 : wrapK .i64 (((2 * N : Nat) : Int) - 1) = ((2 * N - 1 : Nat) : Int) := by rw [wrap64 (by omega) (by omega)]; omega
  have h4 : ((N - 1 : Nat) : Int) = (N : Int) - 1 := by omega
  obtain ⟨c1, c2⟩ := small16 (show N - 1 < 16 by omega)
  obtain ⟨c3, c4⟩ := small16 (show 2 * N - 1 < 16 by omega)
  obtain ⟨d1, d2⟩ := small16 (show m.getD (N - 1) 0 < 16 by omega)
  obtain ⟨d3, d4⟩ := small16 (show m.getD (2 * N - 1) 0 < 16 by omega)
  have e1 : N - 1 < 16 := by omega
  have e2 : 2 * N - 1 < 16 := by omega
  have hcv : wrapK .i64 ((m.getD (N - 1) 0 : Nat) : Int) = ((m.getD (N - 1) 0 : Nat) : Int) := wrap64N (by omega)
  have hmt : ∀ i, i < 2 * N → clOk N i = true → (mates N m).getD i 0 = cmate N m i := fun i hi ho => mates_get hml hs hi ho
  have hml' : (mates N m).length = 16 := by rw [mates_len]; exact hml
  have hd : (((m.getD (N - 1) 0 : Nat) : Int) = ((2 * N - 1 : Nat) : Int)) = (m.getD (N - 1) 0 = 2 * N - 1) := propext ⟨fun h => by omega, fun h => by omega⟩
  have e3 : m.getD (N - 1) 0 < 16 := by omega
  have e4 : m.getD (2 * N - 1) 0 < 16 := by omega
  by_cases hd' : m.getD (N - 1) 0 = 2 * N - 1
  case' pos => have hdT := eq_true hd'
  case' neg => have hdT := eq_false hd'
  all_goals
    simp (maxSteps := 3000000) only [over4E, heapL, fillA, rd, wrt, wrl, AO.withl, a_s_l02Closed, dia_zero, dia_zero_len, dia_cons0, dia_sized', dia_length, hml, dia_get0, dia_mates hml, u8s_length, ones_dia, over_dia okD_zero okD_zero, u8_zero, over_u8z hml, ones_u8s, List.length_replicate, List.length_set, u8s_set, h1, h2, h3, hd, hdT, c1, c2, c3, c4, d1, d2, d3, d4, e1, e2, e3, e4, hcv, AV.one, Int.reduceEq, Int.reduceNe, Int.reduceBEq, Int.reduceBNe, Int.reduceLT, Int.reduceLE, Int.reduceAdd, Int.reduceSub, Int.reduceMul, idX_eq, wbE, ↓symP, symE, listE, AK.isCall, enumE, ev, putE, abin, aun, AV.cells, ↓reduceIte, reduceCtorEq, Nat.reduceAdd, Nat.reduceMul, Nat.reduceSub, Nat.reduceEqDiff, Nat.reduceLT, Nat.reduceLeDiff, implies_true, Back, retv, retV, AV.scal, AV.scals]; try simp only [idX_eq, ite_both, pickP_both, not_not_eq, Bool.not_eq_false, Bool.not_eq_true]
    refine WA.loopB B53_ok (fun s => ∃ i : Nat, i ≤ 2 * N - 1 ∧ s = ⟨[(10, .int .i64 i), (9, .ptr 3 0), (6, .ptr 2 0), (5, .int .i64 (lpC N m : Nat)), (4, .int .i64 N), (2, .ptr 1 0)], [.cells (dia N m), .cells (dia 0 (List.replicate 16 0)), .cells (u8s (mates N m)), .cells (dia ((N : Int) - 1) (closeK N m i))]⟩)
      (fun s => match get s.env 10 with | .int _ x => 2 * N - 1 - x.toNat | _ => 0) ⟨_, Weak.slots [10, 9, 6, 5, 4, 2], 0, by omega, ?_⟩ ?_
    · simp only [keptL, keptW, keptE, kepts, slots, ↓reduceIte, reduceCtorEq, Nat.reduceEqDiff, AV.ren, AV.rens, pos, Nat.reduceAdd]
      unfold mates lpC
      simp only [hdT, if_true, if_false, h4]
      rfl
    rintro s ⟨i, hi, rfl⟩
    have hw : wrapK .i64 ((i : Int) + 1) = ((i + 1 : Nat) : Int) := by rw [wrap64 (by omega) (by omega)]; rfl
    have hk16 := closeK_length (n := N) (m := m) (i := i)
    by_cases hlt : i < 2 * N - 1
    · have hli : (i : Int) < ((2 * N - 1 : Nat) : Int) := by omega
      by_cases ho : i = N - 1
      · have hob : ((i : Int) == ((N - 1 : Nat) : Int)) = true := by simp [ho]
        have hnext : closeK N m (i + 1) = closeK N m i := by
          have : clOk N i = false := by simp [clOk, ho]
          unfold closeK; rw [putAll, this]; simp
        simp (maxSteps := 3000000) only [over4E, heapL, fillA, rd, wrt, wrl, AO.withl, a_s_l02Closed_l1, hw, h1, h2, h3, hli, hob, Int.reduceEq, Int.reduceNe, Int.reduceBEq, Int.reduceBNe, Int.reduceLT, Int.reduceLE, Int.reduceAdd, Int.reduceSub, Int.reduceMul, idX_eq, wbE, ↓symP, symE, listE, AK.isCall, enumE, ev, putE, abin, aun, AV.cells, ↓reduceIte, reduceCtorEq, Nat.reduceAdd, Nat.reduceMul, Nat.reduceSub, Nat.reduceEqDiff, Nat.reduceLT, Nat.reduceLeDiff, implies_true, Back, retv, retV, AV.scal, AV.scals]; try simp only [idX_eq, ite_both, pickP_both, not_not_eq, Bool.not_eq_false, Bool.not_eq_true]
        refine ⟨_, Weak.slots [10, 9, 6, 5, 4, 2], ⟨i + 1, by omega, ?_⟩, ?_⟩
        · simp only [keptL, keptW, keptE, kepts, slots, ↓reduceIte, reduceCtorEq, Nat.reduceEqDiff, AV.ren, AV.rens, pos, Nat.reduceAdd]; rw [hnext]
        · simp only [keptL, keptW, keptE, kepts, slots, ↓reduceIte, reduceCtorEq, Nat.reduceEqDiff, AV.ren, AV.rens, pos, Nat.reduceAdd]; omega
      · have hob : ((i : Int) == ((N - 1 : Nat) : Int)) = false := by rw [beq_eq_false_iff_ne]; omega
        have hok : clOk N i = true := by simp [clOk, ho]; omega
        have hnext : closeK N m (i + 1) = (closeK N m i).set (cl N i) (cl N (cmate N m i)) := by
          unfold closeK; rw [putAll, hok]; simp
        obtain ⟨f1, f2, f3⟩ := clOk_facts hN1 hs (by omega) hok
        have hx := hmt i (by omega) hok
        generalize hxe : cmate N m i = x at f2 f3 hx hnext
        have hcx : wrapK .i64 (x : Int) = (x : Int) := wrap64N (by omega)
        obtain ⟨hi16, hi16'⟩ := small16 (show i < 16 by omega)
        have hi17 : i < 16 := by omega
        by_cases hA : i < N
        case' pos =>
          have gA : ((N : Int) ≤ i) = False := eq_false (by omega)
          have eA : cl N i = i := if_pos hA
          have hwi : (0 : Int) = 0 := rfl
        case' neg =>
          have gA : ((N : Int) ≤ i) = True := eq_true (by omega)
          have eA : cl N i = i - 1 := if_neg hA
          have hwi : wrapK .i64 ((i : Int) - 1) = ((i - 1 : Nat) : Int) := by rw [wrap64 (by omega) (by omega)]; omega
        all_goals
          rw [eA] at f1 hnext
          obtain ⟨a2, a3⟩ := small16 f1
          by_cases hB : x < N
          case' pos =>
            have gB : ((N : Int) ≤ x) = False := eq_false (by omega)
            have eB : cl N x = x := if_pos hB
            have hwx : (0 : Int) = 0 := rfl
          case' neg =>
            have gB : ((N : Int) ≤ x) = True := eq_true (by omega)
            have eB : cl N x = x - 1 := if_neg hB
            have hwx : wrapK .i64 ((x : Int) - 1) = ((x - 1 : Nat) : Int) := by rw [wrap64 (by omega) (by omega)]; omega
          all_goals
            rw [eB] at f3 hnext
            have hu8 := wrapU8 (show _ < 256 from Nat.lt_trans f3 (by omega))
            simp (maxSteps := 3000000) only [over4E, heapL, fillA, rd, wrt, wrl, AO.withl, a_s_l02Closed_l1, hw, h1, h2, h3, hli, hob, gA, gB, hwi, hwx, hx, hcx, hu8, a2, a3, f1, hi16, hi16', hi17, u8s_length, hml', dia_length, hk16, dia_set, AV.one, Int.reduceEq, Int.reduceNe, Int.reduceBEq, Int.reduceBNe, Int.reduceLT, Int.reduceLE, Int.reduceAdd, Int.reduceSub, Int.reduceMul, idX_eq, wbE, ↓symP, symE, listE, AK.isCall, enumE, ev, putE, abin, aun, AV.cells, ↓reduceIte, reduceCtorEq, Nat.reduceAdd, Nat.reduceMul, Nat.reduceSub, Nat.reduceEqDiff, Nat.reduceLT, Nat.reduceLeDiff, implies_true, Back, retv, retV, AV.scal, AV.scals]; try simp only [idX_eq, ite_both, pickP_both, not_not_eq, Bool.not_eq_false, Bool.not_eq_true]
            refine ⟨_, Weak.slots [10, 9, 6, 5, 4, 2], ⟨i + 1, by omega, ?_⟩, ?_⟩
            · simp only [keptL, keptW, keptE, kepts, slots, ↓reduceIte, reduceCtorEq, Nat.reduceEqDiff, AV.ren, AV.rens, pos, Nat.reduceAdd]; rw [hnext]
            · simp only [keptL, keptW, keptE, kepts, slots, ↓reduceIte, reduceCtorEq, Nat.reduceEqDiff, AV.ren, AV.rens, pos, Nat.reduceAdd]; omega
    · have hli : ¬ (i : Int) < ((2 * N - 1 : Nat) : Int) := by omega
      obtain rfl : i = 2 * N - 1 := by omega
      rw [closeL_eq hN.1] at hk16
      simp (maxSteps := 3000000) only [over4E, heapL, fillA, rd, wrt, wrl, AO.withl, a_s_l02Closed_l1, a_s_l02Closed_k1, h2, h3, hli, closeL_eq hN.1, dia_length, hk16, dia_take17 hk16, over_dia okD_zero hk16, ones_dia, scals_dia, List.length_replicate, Int.lt_irrefl, Int.reduceEq, Int.reduceNe, Int.reduceBEq, Int.reduceBNe, Int.reduceLT, Int.reduceLE, Int.reduceAdd, Int.reduceSub, Int.reduceMul, idX_eq, wbE, ↓symP, symE, listE, AK.isCall, enumE, ev, putE, abin, aun, AV.cells, ↓reduceIte, reduceCtorEq, Nat.reduceAdd, Nat.reduceMul, Nat.reduceSub, Nat.reduceEqDiff, Nat.reduceLT, Nat.reduceLeDiff, implies_true, Back, retv, retV, AV.scal, AV.scals]; try simp only [idX_eq, ite_both, pickP_both, not_not_eq, Bool.not_eq_false, Bool.not_eq_true]
def g_sclosed : List AV → Option AV
  | [.agg l] => match diaOf l with
    | some (n, m) => chk (isS n.toNat m = true ∧ 2 ≤ n) (some (.tup [.agg (dia (n - 1) (closeL n.toNat m)), .int .i64 (lpC n.toNat m : Nat)]))
    | none => none
  | _ => none
theorem k_sclosed : Am.Callee Try.prog 82 (plainE g_sclosed) := Am.Callee.plain fun xs v he => by
  unfold g_sclosed at he
  split at he
  · rename_i l
    split at he
    · rename_i n m hd
      obtain ⟨⟨h1, h2⟩, he⟩ := chk_some he
      cases he
      obtain ⟨rfl, hm⟩ := diaOf_some hd
      obtain ⟨N, rfl⟩ : ∃ N : Nat, n = N := ⟨n.toNat, by omega⟩
      rw [Int.toNat_natCast] at h1 ⊢
      exact ⟨by simp only [AV.scals, AV.scal, scals_dia, Bool.and_self], by simp only [AV.scal, AV.scals, scals_dia, Bool.and_self], c_s_l02Closed N m hm h1 (by omega)⟩
    · cases he
  · cases he

def a_i_closed_1 : AC := .seq (.region [⟨some 3, none, .op (.mov (.c (.int .i64 0)))⟩]) (.seq (.region [⟨some 4, none, .op (.mov (.t 0))⟩,
     ⟨some 5, none, .op (.mov (.t 0))⟩,
     ⟨some 6, none, .op (.load1 (.t 1))⟩,
     ⟨some 7, none, .op (.bin .quo (.t 5) (.t 6))⟩,
     ⟨some 8, none, .op (.bin .sub (.t 4) (.t 7))⟩,
     ⟨some 3, none, .op (.mov (.t 8))⟩]) .ret)
theorem r_i_closed_1 : readF Try.prog 122 = some ⟨9, a_i_closed_1, [.slot 3]⟩ := by kernel_rfl
theorem c_closed_1 (N i : Nat) (hN : 1 ≤ N ∧ N ≤ 8) (hi : i < 2 * N) : Am.Fn Try.prog 122 [.int .i64 i, .ptr 0 0] [.ro [.int .i64 N]] (fun v H' => v = .int .i64 ((cl N i : Nat) : Int) ∧ H' = [.ro [.int .i64 N]]) := by
  refine Am.Fn.sameB (R := fun v => v = _) B53_ok mixed r_i_closed_1 (by simp) (ro_under rfl) ?_
  have hq : i / N = if i < N then 0 else 1 := by
    by_cases h : i < N
    · rw [if_pos h, Nat.div_eq_of_lt h]
    · rw [if_neg h]
      exact Nat.div_eq_of_lt_le (by omega) (by omega)
  have a1 : wrapK .i64 (Int.tdiv (i : Int) (N : Int)) = ((i / N : Nat) : Int) := by
    rw [tdivN]; exact wrap64N (by rw [hq]; split <;> omega)
  have a2 : wrapK .i64 ((i : Int) - ((i / N : Nat) : Int)) = ((cl N i : Nat) : Int) := by
    unfold cl
    rw [hq]
    split
    · rw [wrap64 (by omega) (by omega)]; omega
    · rw [wrap64 (by omega) (by omega)]; omega
  have hne : (N : Int) ≠ 0 := by omega
  simp (maxSteps := 3000000) only [over4E, heapL, fillA, rd, wrt, wrl, AO.withl, a_i_closed_1, a1, a2, hne, Int.reduceEq, Int.reduceNe, Int.reduceBEq, Int.reduceBNe, Int.reduceLT, Int.reduceLE, Int.reduceAdd, Int.reduceSub, Int.reduceMul, idX_eq, wbE, ↓symP, symE, listE, AK.isCall, enumE, ev, putE, abin, aun, AV.cells, ↓reduceIte, reduceCtorEq, Nat.reduceAdd, Nat.reduceMul, Nat.reduceSub, Nat.reduceEqDiff, Nat.reduceLT, Nat.reduceLeDiff, implies_true, Back, retv, retV, AV.scal, AV.scals]; try simp only [idX_eq, ite_both, pickP_both, not_not_eq, Bool.not_eq_false, Bool.not_eq_true]
  exact ⟨_, rfl⟩
def g_clat : BE := fun hp xs => match xs with
  | [.int .i64 i, .ptr b 0] => match rd hp b with
    | some (.int .i64 n :: _) => chk ((1 ≤ n ∧ n ≤ 8) ∧ 0 ≤ i ∧ i < 2 * n) (some (.int .i64 ((cl n.toNat i.toNat : Nat) : Int), hp))
    | _ => none
  | _ => none
theorem k_clat : Am.Callee Try.prog 122 g_clat := Callee.fp fun hp xs v hp' he => by
  unfold g_clat at he
  split at he
  · rename_i i b
    split at he
    · rename_i n L hL
      obtain ⟨⟨h1, h2, h3⟩, he⟩ := chk_some he
      simp only [Option.some.injEq, Prod.mk.injEq] at he
      obtain ⟨rfl, rfl⟩ := he
      obtain ⟨N, rfl⟩ : ∃ N : Nat, n = N := ⟨n.toNat, by omega⟩
      obtain ⟨k, rfl⟩ : ∃ k : Nat, i = k := ⟨i.toNat, by omega⟩
      simp only [Int.toNat_natCast]
      refine ⟨[(b, 0)], [.int .i64 k, .ptr 0 0], _, _, _, c_closed_1 N k (by omega) (by omega), by simp [AV.ren, AV.rens, ofL], rfl, ⟨⟨_, hL, by simp, by simp [AV.rens, AV.ren]⟩, trivial⟩, rfl, ⟨⟨trivial, trivial⟩, trivial⟩, ⟨trivial, by simp [AV.under], trivial⟩, by simp [AV.ren], ?_⟩
      simp [after, upd, AO.wr, AO.ren, AV.rens, AV.ren]
    · cases he
  · cases he
def B54 : Book := ((B53.put 82 (plainE g_sclosed)).put 122 (g_clat))
theorem B54_ok : BookOk Try.prog B54 := ((B53_ok.put (k_sclosed)).put (k_clat))

end Go.Proofs.Ytkgoadglalpbfaa
