/- Contracts: diagrams with a line more at the right. -/
import Derived.Test.YtkgoadglalpbfaaI4
namespace Go.Proofs.Ytkgoadglalpbfaa
open Go.Am Go.Dia
set_option linter.unusedSimpArgs false
set_option linter.unusedVariables false
set_option maxRecDepth 4000
set_option maxHeartbeats 1000000

theorem tdivN (a b : Nat) : Int.tdiv (a : Int) (b : Int) = ((a / b : Nat) : Int) := rfl
theorem wd_facts {N i : Nat} (hN : N ≤ 8) (h0 : 1 ≤ N) (hi : i < 2 * N) : wrapK .i64 (Int.tdiv (i : Int) (N : Int)) = ((i / N : Nat) : Int) ∧ wrapK .i64 (((i / N : Nat) : Int) * 1) = ((i / N : Nat) : Int) ∧ wrapK .i64 ((i : Int) + ((i / N : Nat) : Int)) = ((wd N i : Nat) : Int) ∧ wd N i < 17 := by
  have hq : i / N = if i < N then 0 else 1 := by
    by_cases h : i < N
    · rw [if_pos h, Nat.div_eq_of_lt h]
    · rw [if_neg h]
      exact Nat.div_eq_of_lt_le (by omega) (by omega)
  have hw : i + i / N = wd N i := by rw [hq]; unfold wd; split <;> omega
  have hb : i / N ≤ 1 := by rw [hq]; split <;> omega
  refine ⟨by rw [tdivN]; exact wrap64N (by omega), by rw [Int.mul_one]; exact wrap64N (by omega), ?_, by omega⟩
  rw [← hw]
  exact wrap64 (by omega) (by omega)

def a_i_union_1 : AC := .seq (.region [⟨some 4, none, .op (.mov (.c (.int .i64 0)))⟩]) (.seq (.draw false [⟨some 5, none, .op (.mov (.t 0))⟩,
     ⟨some 6, none, .op (.mov (.t 0))⟩,
     ⟨some 7, none, .op (.load1 (.t 1))⟩,
     ⟨some 8, none, .op (.bin .quo (.t 6) (.t 7))⟩,
     ⟨some 9, none, .op (.load1 (.t 2))⟩,
     ⟨some 10, none, .op (.bin .mul (.t 8) (.t 9))⟩,
     ⟨some 11, none, .op (.bin .add (.t 5) (.t 10))⟩,
     ⟨some 4, none, .op (.mov (.t 11))⟩]) .ret)
theorem r_i_union_1 : readF Try.prog 140 = some ⟨12, a_i_union_1, [.slot 4]⟩ := by kernel_rfl
theorem c_union_1 (N i : Nat) (hN : 1 ≤ N ∧ N ≤ 8) (hi : i < 2 * N) : Am.Fn Try.prog 140 [.int .i64 i, .ptr 0 0, .ptr 1 0] [.ro [.int .i64 N], .ro [.int .i64 1]] (fun v H' => v = .int .i64 ((wd N i : Nat) : Int) ∧ H' = [.ro [.int .i64 N], .ro [.int .i64 1]]) := by
  refine Am.Fn.sameB (R := fun v => v = _) B46u_ok mixed r_i_union_1 (by simp [AV.unders, AV.under]) (ro_under2 rfl rfl) ?_
  obtain ⟨a1, a2, a3, a4⟩ := wd_facts hN.2 hN.1 hi
  have hne : (N : Int) ≠ 0 := by omega
  simp (maxSteps := 3000000) only [over4E, heapL, fillA, rd, wrt, wrl, AO.withl, a_i_union_1, a1, a2, a3, hne, Int.reduceEq, Int.reduceNe, Int.reduceBEq, Int.reduceBNe, Int.reduceLT, Int.reduceLE, Int.reduceAdd, Int.reduceSub, Int.reduceMul, idX_eq, wbE, ↓symP, symE, listE, AK.isCall, enumE, ev, putE, abin, aun, AV.cells, ↓reduceIte, reduceCtorEq, Nat.reduceAdd, Nat.reduceMul, Nat.reduceSub, Nat.reduceEqDiff, Nat.reduceLT, Nat.reduceLeDiff, implies_true, Back, retv, retV, AV.scal, AV.scals]; try simp only [idX_eq, ite_both, pickP_both, not_not_eq, Bool.not_eq_false, Bool.not_eq_true]
  exact ⟨_, rfl⟩
def rt (N i : Nat) : Nat := if i = 0 then N else 2 * N + 1

def a_i_union_2 : AC := .seq (.region [⟨some 4, none, .op (.mov (.c (.int .i64 0)))⟩]) (.seq (.draw false [⟨some 5, none, .op (.load1 (.t 1))⟩,
     ⟨some 6, none, .op (.mov (.t 0))⟩,
     ⟨some 7, none, .op (.bin .add (.t 5) (.t 6))⟩,
     ⟨some 8, none, .op (.mov (.t 0))⟩,
     ⟨some 9, none, .op (.load1 (.t 2))⟩,
     ⟨some 10, none, .op (.bin .quo (.t 8) (.t 9))⟩,
     ⟨some 11, none, .op (.load1 (.t 1))⟩,
     ⟨some 12, none, .op (.bin .mul (.t 10) (.t 11))⟩,
     ⟨some 13, none, .op (.bin .add (.t 7) (.t 12))⟩,
     ⟨some 4, none, .op (.mov (.t 13))⟩]) .ret)
theorem r_i_union_2 : readF Try.prog 141 = some ⟨14, a_i_union_2, [.slot 4]⟩ := by kernel_rfl
theorem c_union_2 (N i : Nat) (hN : 1 ≤ N ∧ N ≤ 8) (hi : i < 2) : Am.Fn Try.prog 141 [.int .i64 i, .ptr 0 0, .ptr 1 0] [.ro [.int .i64 N], .ro [.int .i64 1]] (fun v H' => v = .int .i64 ((rt N i : Nat) : Int) ∧ H' = [.ro [.int .i64 N], .ro [.int .i64 1]]) := by
  refine Am.Fn.sameB (R := fun v => v = _) B46u_ok mixed r_i_union_2 (by simp [AV.unders, AV.under]) (ro_under2 rfl rfl) ?_
  have hne : (1 : Int) ≠ 0 := by omega
  have a1 : wrapK .i64 ((N : Int) + i) = ((N + i : Nat) : Int) := wrap64 (by omega) (by omega)
  have a2 : wrapK .i64 (Int.tdiv (i : Int) 1) = (i : Int) := by rw [Int.tdiv_one]; exact wrap64N (by omega)
  have a3 : wrapK .i64 ((i : Int) * N) = ((i * N : Nat) : Int) := by
    have : i = 0 ∨ i = 1 := by omega
    rcases this with rfl | rfl
    · rw [wrap64 (by omega) (by omega)]; rfl
    · rw [wrap64 (by omega) (by omega)]; simp
  have a4 : wrapK .i64 (((N + i : Nat) : Int) + ((i * N : Nat) : Int)) = ((rt N i : Nat) : Int) := by
    have : i = 0 ∨ i = 1 := by omega
    unfold rt
    rcases this with rfl | rfl
    · rw [wrap64 (by omega) (by omega)]; simp
    · rw [wrap64 (by omega) (by omega)]; simp; omega
  simp (maxSteps := 3000000) only [over4E, heapL, fillA, rd, wrt, wrl, AO.withl, a_i_union_2, a1, a2, a3, a4, hne, Int.reduceEq, Int.reduceNe, Int.reduceBEq, Int.reduceBNe, Int.reduceLT, Int.reduceLE, Int.reduceAdd, Int.reduceSub, Int.reduceMul, idX_eq, wbE, ↓symP, symE, listE, AK.isCall, enumE, ev, putE, abin, aun, AV.cells, ↓reduceIte, reduceCtorEq, Nat.reduceAdd, Nat.reduceMul, Nat.reduceSub, Nat.reduceEqDiff, Nat.reduceLT, Nat.reduceLeDiff, implies_true, Back, retv, retV, AV.scal, AV.scals]; try simp only [idX_eq, ite_both, pickP_both, not_not_eq, Bool.not_eq_false, Bool.not_eq_true]
  exact ⟨_, rfl⟩
def g_left : BE := fun hp xs => match xs with
  | [.int .i64 i, .ptr b 0, .ptr b' 0] => match rd hp b, rd hp b' with
    | some (.int .i64 n :: _), some (.int .i64 m :: _) => chk ((m = 1 ∧ 1 ≤ n ∧ n ≤ 8) ∧ 0 ≤ i ∧ i < 2 * n) (some (.int .i64 ((wd n.toNat i.toNat : Nat) : Int), hp))
    | _, _ => none
  | _ => none
theorem k_left : Am.Callee Try.prog 140 g_left := Callee.fp fun hp xs v hp' he => by
  unfold g_left at he
  split at he
  · rename_i i b b'
    split at he
    · rename_i n L m L' hL hL'
      obtain ⟨⟨⟨h0, h1⟩, h2, h3⟩, he⟩ := chk_some he
      simp only [Option.some.injEq, Prod.mk.injEq] at he
      obtain ⟨rfl, rfl⟩ := he
      subst h0
      obtain ⟨N, rfl⟩ : ∃ N : Nat, n = N := ⟨n.toNat, by omega⟩
      obtain ⟨k, rfl⟩ : ∃ k : Nat, i = k := ⟨i.toNat, by omega⟩
      simp only [Int.toNat_natCast]
      refine ⟨[(b, 0), (b', 0)], [.int .i64 k, .ptr 0 0, .ptr 1 0], _, _, _, c_union_1 N k (by omega) (by omega), by simp [AV.ren, AV.rens, ofL], rfl, ⟨⟨_, hL, by simp, by simp [AV.rens, AV.ren]⟩, ⟨_, hL', by simp, by simp [AV.rens, AV.ren]⟩, trivial⟩, rfl, ⟨⟨trivial, trivial⟩, ⟨trivial, trivial⟩, trivial⟩, ⟨trivial, by simp [AV.under], by simp [AV.under], trivial⟩, by simp [AV.ren], ?_⟩
      simp [after, upd, AO.wr, AO.ren, AV.rens, AV.ren]
    · cases he
  · cases he
def g_right : BE := fun hp xs => match xs with
  | [.int .i64 i, .ptr b 0, .ptr b' 0] => match rd hp b, rd hp b' with
    | some (.int .i64 n :: _), some (.int .i64 m :: _) => chk ((m = 1 ∧ 1 ≤ n ∧ n ≤ 8) ∧ 0 ≤ i ∧ i < 2) (some (.int .i64 ((rt n.toNat i.toNat : Nat) : Int), hp))
    | _, _ => none
  | _ => none
theorem k_right : Am.Callee Try.prog 141 g_right := Callee.fp fun hp xs v hp' he => by
  unfold g_right at he
  split at he
  · rename_i i b b'
    split at he
    · rename_i n L m L' hL hL'
      obtain ⟨⟨⟨h0, h1⟩, h2, h3⟩, he⟩ := chk_some he
      simp only [Option.some.injEq, Prod.mk.injEq] at he
      obtain ⟨rfl, rfl⟩ := he
      subst h0
      obtain ⟨N, rfl⟩ : ∃ N : Nat, n = N := ⟨n.toNat, by omega⟩
      obtain ⟨k, rfl⟩ : ∃ k : Nat, i = k := ⟨i.toNat, by omega⟩
      simp only [Int.toNat_natCast]
      refine ⟨[(b, 0), (b', 0)], [.int .i64 k, .ptr 0 0, .ptr 1 0], _, _, _, c_union_2 N k (by omega) (by omega), by simp [AV.ren, AV.rens, ofL], rfl, ⟨⟨_, hL, by simp, by simp [AV.rens, AV.ren]⟩, ⟨_, hL', by simp, by simp [AV.rens, AV.ren]⟩, trivial⟩, rfl, ⟨⟨trivial, trivial⟩, ⟨trivial, trivial⟩, trivial⟩, ⟨trivial, by simp [AV.under], by simp [AV.under], trivial⟩, by simp [AV.ren], ?_⟩
      simp [after, upd, AO.wr, AO.ren, AV.rens, AV.ren]
    · cases he
  · cases he
def B47 : Book := ((B46u.put 140 (g_left)).put 141 (g_right))
theorem B47_ok : BookOk Try.prog B47 := ((B46u_ok.put (k_left)).put (k_right))
theorem B47_i_Diagram_n_I5 : B47 115 = some (readE 1 g_n) := rfl
theorem B47_i_unit_I5 : B47 121 = some (plainE g_unit) := rfl
theorem B47_i_union_1_I5 : B47 140 = some (g_left) := rfl
theorem B47_i_union_2_I5 : B47 141 = some (g_right) := rfl

def wide2 (N : Nat) (m : List Nat) : Nat → List Nat
  | 0 => wideK N m (2 * N)
  | 1 => (wideK N m (2 * N)).set N (2 * N + 1)
  | _ => wideL N m
theorem wideK_length {N : Nat} {m : List Nat} {i : Nat} : (wideK N m i).length = 16 := putAll_length _ _ _ _
theorem wide2_length {N : Nat} {m : List Nat} : ∀ i, (wide2 N m i).length = 16
  | 0 => wideK_length
  | 1 => by simp [wide2, wideK_length]
  | i + 2 => by simp [wide2, wideL, wideK_length]
def a_i_union_l1 : AC := .seq (.region [⟨some 23, none, .op (.bin .lss (.t 22) (.t 21))⟩]) (.seq (.cond 23 .skip (.exit 0)) (.seq (.block 1 (.seq (.region [⟨some 24, none, .op (.mov (.t 22))⟩,
          ⟨some 10, none, .op (.mov (.t 24))⟩]) (.draw true [⟨some 25, none, .op (.mov (.t 8))⟩,
         ⟨some 26, none, .op (.mov (.t 10))⟩,
         ⟨some 28, none, .op (.mov (.t 8))⟩,
         ⟨some 29, none, .op (.mov (.t 10))⟩,
         ⟨some 30, none, .op (.faddr 1 (.t 2))⟩,
         ⟨some 31, none, .op (.iaddrA 16 1 (.t 30) (.t 29))⟩,
         ⟨some 32, none, .op (.load1 (.t 31))⟩,
         ⟨some 33, none, .op (.conv .i64 (.t 32))⟩,
         ⟨some 36, none, .op (.faddr 1 (.t 7))⟩,
         ⟨some 27, none, .call (.t 25) [(.t 26)]⟩,
         ⟨some 34, none, .call (.t 28) [(.t 33)]⟩,
         ⟨some 35, none, .op (.conv .u8 (.t 34))⟩,
         ⟨some 37, none, .op (.iaddrA 16 1 (.t 36) (.t 27))⟩,
         ⟨none, none, .op (.store1 (.t 37) (.t 35))⟩]))) (.region [⟨some 38, none, .op (.bin .add (.t 22) (.c (.int .i64 1)))⟩,
       ⟨some 22, none, .op (.mov (.t 38))⟩])))
def a_i_union_l2 : AC := .seq (.region [⟨some 42, none, .op (.bin .lss (.t 41) (.t 40))⟩]) (.seq (.cond 42 .skip (.exit 2)) (.seq (.block 3 (.seq (.region [⟨some 43, none, .op (.mov (.t 41))⟩,
          ⟨some 11, none, .op (.mov (.t 43))⟩]) (.draw true [⟨some 44, none, .op (.mov (.t 9))⟩,
         ⟨some 45, none, .op (.mov (.t 11))⟩,
         ⟨some 47, none, .op (.mov (.t 9))⟩,
         ⟨some 48, none, .op (.mov (.t 11))⟩,
         ⟨some 49, none, .op (.faddr 1 (.t 3))⟩,
         ⟨some 50, none, .op (.iaddrA 16 1 (.t 49) (.t 48))⟩,
         ⟨some 51, none, .op (.load1 (.t 50))⟩,
         ⟨some 52, none, .op (.conv .i64 (.t 51))⟩,
         ⟨some 55, none, .op (.faddr 1 (.t 7))⟩,
         ⟨some 46, none, .call (.t 44) [(.t 45)]⟩,
         ⟨some 53, none, .call (.t 47) [(.t 52)]⟩,
         ⟨some 54, none, .op (.conv .u8 (.t 53))⟩,
         ⟨some 56, none, .op (.iaddrA 16 1 (.t 55) (.t 46))⟩,
         ⟨none, none, .op (.store1 (.t 56) (.t 54))⟩]))) (.region [⟨some 57, none, .op (.bin .add (.t 41) (.c (.int .i64 1)))⟩,
       ⟨some 41, none, .op (.mov (.t 57))⟩])))
def a_i_union_k1 : AC := .seq (.region [⟨some 58, none, .op (.loadN 17 (.t 7))⟩,
     ⟨none, none, .op (.storeN 17 (.t 4) (.t 58))⟩]) .ret
def a_i_union_k2 : AC := .seq (.seq (.region [⟨some 39, none, .op (.load1 (.t 6))⟩,
      ⟨some 40, none, .op (.bin .mul (.c (.int .i64 2)) (.t 39))⟩,
      ⟨some 41, none, .op (.mov (.c (.int .i64 0)))⟩]) (.block 2 (.loop a_i_union_l2))) a_i_union_k1
def a_i_union : AC := .seq (.region [⟨some 2, none, .op (.box (.t 0))⟩,
     ⟨some 3, none, .op (.box (.t 1))⟩,
     ⟨some 4, none, .op (.alloc [(.int .i64 0), (.int .u8 0), (.int .u8 0), (.int .u8 0), (.int .u8 0), (.int .u8 0), (.int .u8 0), (.int .u8 0), (.int .u8 0), (.int .u8 0), (.int .u8 0), (.int .u8 0), (.int .u8 0), (.int .u8 0), (.int .u8 0), (.int .u8 0), (.int .u8 0)])⟩]) (.seq (.region [⟨some 12, none, .call (.c (.fn 115 [] [])) [(.t 2)]⟩,
     ⟨some 13, none, .call (.c (.fn 115 [] [])) [(.t 3)]⟩,
     ⟨some 5, none, .op (.alloc [(.int .i64 0)])⟩,
     ⟨some 6, none, .op (.alloc [(.int .i64 0)])⟩,
     ⟨none, none, .op (.store1 (.t 5) (.t 12))⟩,
     ⟨none, none, .op (.store1 (.t 6) (.t 13))⟩]) (.seq (.region [⟨some 14, none, .op (.load1 (.t 5))⟩,
     ⟨some 15, none, .op (.load1 (.t 6))⟩,
     ⟨some 16, none, .op (.bin .add (.t 14) (.t 15))⟩,
     ⟨some 17, none, .op (.build [(.int .i64 0), (.int .u8 0), (.int .u8 0), (.int .u8 0), (.int .u8 0), (.int .u8 0), (.int .u8 0), (.int .u8 0), (.int .u8 0), (.int .u8 0), (.int .u8 0), (.int .u8 0), (.int .u8 0), (.int .u8 0), (.int .u8 0), (.int .u8 0), (.int .u8 0)] [(0, 1, (.t 16))])⟩,
     ⟨some 7, none, .op (.alloc [(.int .i64 0), (.int .u8 0), (.int .u8 0), (.int .u8 0), (.int .u8 0), (.int .u8 0), (.int .u8 0), (.int .u8 0), (.int .u8 0), (.int .u8 0), (.int .u8 0), (.int .u8 0), (.int .u8 0), (.int .u8 0), (.int .u8 0), (.int .u8 0), (.int .u8 0)])⟩,
     ⟨none, none, .op (.storeN 17 (.t 7) (.t 17))⟩]) (.seq (.region [⟨some 18, none, .op (.mkfn 140 [] [(.t 5), (.t 6)])⟩,
     ⟨some 8, none, .op (.mov (.t 18))⟩]) (.seq (.region [⟨some 19, none, .op (.mkfn 141 [] [(.t 5), (.t 6)])⟩,
     ⟨some 9, none, .op (.mov (.t 19))⟩]) (.seq (.seq (.region [⟨some 20, none, .op (.load1 (.t 5))⟩,
      ⟨some 21, none, .op (.bin .mul (.c (.int .i64 2)) (.t 20))⟩,
      ⟨some 22, none, .op (.mov (.c (.int .i64 0)))⟩]) (.block 0 (.loop a_i_union_l1))) a_i_union_k2)))))
theorem r_i_union : readF Try.prog 120 = some ⟨59, a_i_union, [.cellN 4 17]⟩ := by kernel_rfl
theorem c_union1 (N : Nat) (m : List Nat) (hm : okD m) (hs : isS N m = true) (hN8 : N < 8) : Am.Fn Try.prog 120 [.agg (dia N m), .agg (dia 1 (unitL 1))] [] (fun v H' => v = .agg (dia (N + 1 : Nat) (wideL N m)) ∧ H' = []) := by
  refine Am.Fn.sameB (R := fun v => v = _) B47_ok mixed r_i_union (by simp) (by simp) ?_
  obtain ⟨hN, hp, hz⟩ := isS_mate hs
  have hml := hm.1
  have hu : okD (unitL 1) := unitK_ok (by omega) (by omega)
  have hul := hu.1
  have h2 : wrapK .i64 (2 * (N : Int)) = ((2 * N : Nat) : Int) := by rw [wrap64 (by omega) (by omega)]; rfl
  have h1 : wrapK .i64 ((N : Int) + 1) = ((N + 1 : Nat) : Int) := by rw [wrap64 (by omega) (by omega)]; rfl
  simp (maxSteps := 3000000) only [over4E, heapL, fillA, rd, wrt, wrl, AO.withl, a_i_union, B47_i_Diagram_n_I5, B47_i_unit_I5, B47_i_union_1_I5, B47_i_union_2_I5, g_left, g_n, g_right, g_unit, dia_zero, dia_zero_len, dia_sized', dia_length, hml, hul, dia_get0, dia_take1', ones_dia, over_dia okD_zero okD_zero, List.length_replicate, h1, h2, AV.one, Int.reduceEq, Int.reduceNe, Int.reduceBEq, Int.reduceBNe, Int.reduceLT, Int.reduceLE, Int.reduceAdd, Int.reduceSub, Int.reduceMul, idX_eq, wbE, ↓symP, symE, listE, AK.isCall, enumE, ev, putE, abin, aun, AV.cells, ↓reduceIte, reduceCtorEq, Nat.reduceAdd, Nat.reduceMul, Nat.reduceSub, Nat.reduceEqDiff, Nat.reduceLT, Nat.reduceLeDiff, implies_true, Back, retv, retV, AV.scal, AV.scals]; try simp only [idX_eq, ite_both, pickP_both, not_not_eq, Bool.not_eq_false, Bool.not_eq_true]
  refine ⟨⟨rfl, rfl⟩, ⟨rfl, rfl⟩, ?_⟩
  refine WA.loopB B47_ok (fun s => ∃ i : Nat, i ≤ 2 * N ∧ s = ⟨[(22, .int .i64 i), (21, .int .i64 (2 * N : Nat)), (9, .fn 141 [] [.ptr 3 0, .ptr 4 0]), (8, .fn 140 [] [.ptr 3 0, .ptr 4 0]), (7, .ptr 5 0), (6, .ptr 4 0), (5, .ptr 3 0), (4, .ptr 2 0), (3, .ptr 1 0), (2, .ptr 0 0)], [.cells (dia N m), .cells (dia 1 (unitL 1)), .cells (dia 0 (List.replicate 16 0)), .cells [.int .i64 N], .cells [.int .i64 1], .cells (dia (N + 1 : Nat) (wideK N m i))]⟩)
    (fun s => match get s.env 22 with | .int _ x => 2 * N - x.toNat | _ => 0) ⟨_, Weak.slots [22, 21, 9, 8, 7, 6, 5, 4, 3, 2], 0, by omega, rfl⟩ ?_
  rintro s ⟨i, hi, rfl⟩
  have c1 : (1 : Int) ≤ N ∧ (N : Int) ≤ 8 := by omega
  have hw : wrapK .i64 ((i : Int) + 1) = ((i + 1 : Nat) : Int) := by rw [wrap64 (by omega) (by omega)]; rfl
  by_cases hlt : i < 2 * N
  · have hli : (i : Int) < ((2 * N : Nat) : Int) := by omega
    have hb := isS_byte hs hlt
    have a1 : wd N i < 16 := by unfold wd; split <;> omega
    have b1 : wd N (m.getD i 0) < 16 := by unfold wd; split <;> omega
    obtain ⟨a2, a3⟩ := small16 a1
    have hu8 : wrapK .u8 ((wd N (m.getD i 0) : Nat) : Int) = ((wd N (m.getD i 0) : Nat) : Int) := wrapU8 (by omega)
    obtain ⟨hi16, hi16'⟩ := small16 (show i < 16 by omega)
    have hi17 : i < 16 := by omega
    have hin : i < m.length := by omega
    have hcv : wrapK .i64 ((m.getD i 0 : Nat) : Int) = ((m.getD i 0 : Nat) : Int) := wrap64N (by omega)
    have hnext : wideK N m (i + 1) = (wideK N m i).set (wd N i) (wd N (m.getD i 0)) := rfl
    have c2 : (0 : Int) ≤ i ∧ (i : Int) < 2 * N := by omega
    have c3 : (0 : Int) ≤ (m.getD i 0 : Nat) ∧ ((m.getD i 0 : Nat) : Int) < 2 * N := by omega
    simp (maxSteps := 3000000) only [over4E, heapL, fillA, rd, wrt, wrl, AO.withl, a_i_union_l1, B47_i_Diagram_n_I5, B47_i_unit_I5, B47_i_union_1_I5, B47_i_union_2_I5, g_left, g_n, g_right, g_unit, hw, hli, a2, a3, hu8, c1, c2, c3, hi16, hi16', hi17, AV.one, hcv, dia_get hin, dia_length, hml, wideK_length, dia_set, Int.reduceEq, Int.reduceNe, Int.reduceBEq, Int.reduceBNe, Int.reduceLT, Int.reduceLE, Int.reduceAdd, Int.reduceSub, Int.reduceMul, idX_eq, wbE, ↓symP, symE, listE, AK.isCall, enumE, ev, putE, abin, aun, AV.cells, ↓reduceIte, reduceCtorEq, Nat.reduceAdd, Nat.reduceMul, Nat.reduceSub, Nat.reduceEqDiff, Nat.reduceLT, Nat.reduceLeDiff, implies_true, Back, retv, retV, AV.scal, AV.scals]; try simp only [idX_eq, ite_both, pickP_both, not_not_eq, Bool.not_eq_false, Bool.not_eq_true]
    refine ⟨⟨_, rfl⟩, ⟨_, rfl⟩, _, Weak.slots [22, 21, 9, 8, 7, 6, 5, 4, 3, 2], ⟨i + 1, by omega, ?_⟩, ?_⟩
    · simp only [keptL, keptW, keptE, kepts, slots, ↓reduceIte, reduceCtorEq, Nat.reduceEqDiff, AV.ren, AV.rens, pos, Nat.reduceAdd]; rw [hnext]
    · simp only [keptL, keptW, keptE, kepts, slots, ↓reduceIte, reduceCtorEq, Nat.reduceEqDiff, AV.ren, AV.rens, pos, Nat.reduceAdd]; omega
  have hli : ¬ ((i : Int) < ((2 * N : Nat) : Int)) := by omega
  obtain rfl : i = 2 * N := by omega
  have h22 : wrapK .i64 (2 * 1) = ((2 : Nat) : Int) := by rw [wrap64 (by omega) (by omega)]; rfl
  simp (maxSteps := 3000000) only [over4E, heapL, fillA, rd, wrt, wrl, AO.withl, a_i_union_l1, a_i_union_k2, B47_i_Diagram_n_I5, B47_i_unit_I5, B47_i_union_1_I5, B47_i_union_2_I5, g_left, g_n, g_right, g_unit, hli, h22, Int.lt_irrefl, Int.reduceEq, Int.reduceNe, Int.reduceBEq, Int.reduceBNe, Int.reduceLT, Int.reduceLE, Int.reduceAdd, Int.reduceSub, Int.reduceMul, idX_eq, wbE, ↓symP, symE, listE, AK.isCall, enumE, ev, putE, abin, aun, AV.cells, ↓reduceIte, reduceCtorEq, Nat.reduceAdd, Nat.reduceMul, Nat.reduceSub, Nat.reduceEqDiff, Nat.reduceLT, Nat.reduceLeDiff, implies_true, Back, retv, retV, AV.scal, AV.scals]; try simp only [idX_eq, ite_both, pickP_both, not_not_eq, Bool.not_eq_false, Bool.not_eq_true]
  clear hw hli hlt hi
  refine WA.loopB B47_ok (fun s => ∃ i : Nat, i ≤ 2 ∧ s = ⟨[(41, .int .i64 i), (40, .int .i64 (2 : Nat)), (9, .fn 141 [] [.ptr 3 0, .ptr 4 0]), (7, .ptr 5 0), (4, .ptr 2 0), (3, .ptr 1 0)], [.cells (dia N m), .cells (dia 1 (unitL 1)), .cells (dia 0 (List.replicate 16 0)), .cells [.int .i64 N], .cells [.int .i64 1], .cells (dia (N + 1 : Nat) (wide2 N m i))]⟩)
    (fun s => match get s.env 41 with | .int _ x => 2 - x.toNat | _ => 0) ⟨_, Weak.slots [41, 40, 9, 7, 4, 3], 0, by omega, rfl⟩ ?_
  rintro s ⟨i, hi, rfl⟩
  have hw : wrapK .i64 ((i : Int) + 1) = ((i + 1 : Nat) : Int) := by rw [wrap64 (by omega) (by omega)]; rfl
  by_cases hlt : i < 2
  · have hli : (i : Int) < ((2 : Nat) : Int) := by omega
    obtain ⟨g1, g2⟩ : (unitL 1).getD i 0 = 1 - i ∧ wide2 N m (i + 1) = (wide2 N m i).set (rt N i) (rt N (1 - i)) := by
      have : i = 0 ∨ i = 1 := by omega
      rcases this with rfl | rfl <;> exact ⟨rfl, rfl⟩
    have hin : i < (unitL 1).length := by omega
    have a1 : rt N i < 16 := by unfold rt; split <;> omega
    have b1 : rt N (1 - i) < 16 := by unfold rt; split <;> omega
    obtain ⟨a2, a3⟩ := small16 a1
    have hu8 : wrapK .u8 ((rt N (1 - i) : Nat) : Int) = ((rt N (1 - i) : Nat) : Int) := wrapU8 (by omega)
    obtain ⟨hi16, hi16'⟩ := small16 (show i < 16 by omega)
    have hi17 : i < 16 := by omega
    have hcv : wrapK .i64 ((1 - i : Nat) : Int) = ((1 - i : Nat) : Int) := wrap64N (by omega)
    have c2 : (0 : Int) ≤ i ∧ (i : Int) < 2 := by omega
    have c3 : (0 : Int) ≤ (1 - i : Nat) ∧ ((1 - i : Nat) : Int) < 2 := by omega
    simp (maxSteps := 3000000) only [over4E, heapL, fillA, rd, wrt, wrl, AO.withl, a_i_union_l2, B47_i_Diagram_n_I5, B47_i_unit_I5, B47_i_union_1_I5, B47_i_union_2_I5, g_left, g_n, g_right, g_unit, hw, hli, a2, a3, hu8, c1, c2, c3, hi16, hi16', hi17, AV.one, hcv, g1, dia_length, hml, hul, wide2_length, dia_set, Int.reduceEq, Int.reduceNe, Int.reduceBEq, Int.reduceBNe, Int.reduceLT, Int.reduceLE, Int.reduceAdd, Int.reduceSub, Int.reduceMul, idX_eq, wbE, ↓symP, symE, listE, AK.isCall, enumE, ev, putE, abin, aun, AV.cells, ↓reduceIte, reduceCtorEq, Nat.reduceAdd, Nat.reduceMul, Nat.reduceSub, Nat.reduceEqDiff, Nat.reduceLT, Nat.reduceLeDiff, implies_true, Back, retv, retV, AV.scal, AV.scals]; try simp only [idX_eq, ite_both, pickP_both, not_not_eq, Bool.not_eq_false, Bool.not_eq_true]
    refine ⟨⟨_, rfl⟩, ⟨_, rfl⟩, _, Weak.slots [41, 40, 9, 7, 4, 3], ⟨i + 1, by omega, ?_⟩, ?_⟩
    · simp only [keptL, keptW, keptE, kepts, slots, ↓reduceIte, reduceCtorEq, Nat.reduceEqDiff, AV.ren, AV.rens, pos, Nat.reduceAdd]; rw [g2]
    · simp only [keptL, keptW, keptE, kepts, slots, ↓reduceIte, reduceCtorEq, Nat.reduceEqDiff, AV.ren, AV.rens, pos, Nat.reduceAdd]; omega
  · have hli : ¬ ((i : Int) < ((2 : Nat) : Int)) := by omega
    obtain rfl : i = 2 := by omega
    have hwl : wide2 N m 2 = wideL N m := rfl
    have hk16 := wide2_length (N := N) (m := m) 2
    rw [hwl] at hk16 ⊢
    simp (maxSteps := 3000000) only [over4E, heapL, fillA, rd, wrt, wrl, AO.withl, a_i_union_l2, a_i_union_k1, B47_i_Diagram_n_I5, B47_i_unit_I5, B47_i_union_1_I5, B47_i_union_2_I5, g_left, g_n, g_right, g_unit, hli, dia_length, hk16, dia_take17 hk16, over_dia okD_zero hk16, ones_dia, List.length_replicate, Int.lt_irrefl, Int.reduceEq, Int.reduceNe, Int.reduceBEq, Int.reduceBNe, Int.reduceLT, Int.reduceLE, Int.reduceAdd, Int.reduceSub, Int.reduceMul, idX_eq, wbE, ↓symP, symE, listE, AK.isCall, enumE, ev, putE, abin, aun, AV.cells, ↓reduceIte, reduceCtorEq, Nat.reduceAdd, Nat.reduceMul, Nat.reduceSub, Nat.reduceEqDiff, Nat.reduceLT, Nat.reduceLeDiff, implies_true, Back, retv, retV, AV.scal, AV.scals]; try simp only [idX_eq, ite_both, pickP_both, not_not_eq, Bool.not_eq_false, Bool.not_eq_true]
    exact scals_dia _ _
def g_union1 : List AV → Option AV
  | [.agg l, .agg l'] => match diaOf l, diaOf l' with
    | some (n, m), some (n', m') => chk ((n' = 1 ∧ m' = unitL 1) ∧ isS n.toNat m = true ∧ 0 ≤ n ∧ n < 8) (some (.agg (dia (n + 1) (wideL n.toNat m))))
    | _, _ => none
  | _ => none
theorem k_union1 : Am.Callee Try.prog 120 (plainE g_union1) := Am.Callee.plain fun xs v he => by
  unfold g_union1 at he
  split at he
  · rename_i l l'
    split at he
    · rename_i n m n' m' hd hd'
      obtain ⟨⟨⟨h0, h1⟩, h2, h3⟩, he⟩ := chk_some he
      cases he
      obtain ⟨rfl, hm⟩ := diaOf_some hd
      obtain ⟨rfl, hm'⟩ := diaOf_some hd'
      subst h0; subst h1
      obtain ⟨N, rfl⟩ : ∃ N : Nat, n = N := ⟨n.toNat, by omega⟩
      rw [Int.toNat_natCast] at h2 ⊢
      exact ⟨by simp only [AV.scals, AV.scal, scals_dia, Bool.and_self], by simp only [AV.scal, scals_dia], c_union1 N m hm h2 (by omega)⟩
    · cases he
  · cases he
def B48 : Book := (B47.put 120 (plainE g_union1))
theorem B48_ok : BookOk Try.prog B48 := (B47_ok.put (k_union1))
theorem B48_i_Diagram_n_I5 : B48 115 = some (readE 1 g_n) := rfl
theorem B48_i_unit_I5 : B48 121 = some (plainE g_unit) := rfl
theorem B48_i_union_1_I5 : B48 140 = some (g_left) := rfl
theorem B48_i_union_2_I5 : B48 141 = some (g_right) := rfl
theorem B48_i_union_I5 : B48 120 = some (plainE g_union1) := rfl


def a_i_Element_included_1 : AC := .seq (.region [⟨some 1, none, .op (.box (.t 0))⟩,
     ⟨some 2, none, .op (.alloc [(.int .i64 0), (.int .u8 0), (.int .u8 0), (.int .u8 0), (.int .u8 0), (.int .u8 0), (.int .u8 0), (.int .u8 0), (.int .u8 0), (.int .u8 0), (.int .u8 0), (.int .u8 0), (.int .u8 0), (.int .u8 0), (.int .u8 0), (.int .u8 0), (.int .u8 0)])⟩,
     ⟨some 3, none, .op (.mov (.c (.int .i64 0)))⟩]) (.seq (.draw true [⟨some 4, none, .op (.loadN 17 (.t 1))⟩,
     ⟨some 5, none, .call (.c (.fn 121 [] [])) [(.c (.int .i64 1))]⟩,
     ⟨some 6, none, .call (.c (.fn 120 [] [])) [(.t 4), (.t 5)]⟩,
     ⟨none, none, .op (.storeN 17 (.t 2) (.t 6))⟩,
     ⟨some 3, none, .op (.mov (.c (.int .i64 1)))⟩]) .ret)
theorem r_i_Element_included_1 : readF Try.prog 119 = some ⟨7, a_i_Element_included_1, [.cellN 2 17, .slot 3]⟩ := by kernel_rfl
theorem c_included_1 (N : Nat) (m : List Nat) (hm : okD m) (hs : isS N m = true) (hN8 : N < 8) : Am.Fn Try.prog 119 [.agg (dia N m)] [] (fun v H' => v = .tup [.agg (dia ((N : Int) + 1) (wideL N m)), .int .i64 1] ∧ H' = []) := by
  refine Am.Fn.sameB (R := fun v => v = _) B48_ok mixed r_i_Element_included_1 (by simp) (by simp) ?_
  have hml := hm.1
  have hu : okD (unitL 1) := unitK_ok (by omega) (by omega)
  have hfl : (wideL N m).length = 16 := (wide_isS hN8 hs).2.1
  have h0 : (0 : Int) ≤ N ∧ (N : Int) < 8 := by omega
  have h1 : (0 : Int) ≤ 1 ∧ (1 : Int) ≤ 8 := by omega
  simp (maxSteps := 3000000) only [over4E, heapL, fillA, rd, wrt, wrl, AO.withl, a_i_Element_included_1, B48_i_Diagram_n_I5, B48_i_unit_I5, B48_i_union_1_I5, B48_i_union_2_I5, B48_i_union_I5, g_left, g_n, g_right, g_union1, g_unit, dia_zero, dia_zero_len, dia_length, hml, hfl, dia_take17 hml, dia_take17 hfl, diaOf_dia hm, diaOf_dia hu, hs, h0, h1, ones_dia, over_dia0 hfl, scals_dia, List.length_replicate, Int.toNat_one, Int.reduceEq, Int.reduceNe, Int.reduceBEq, Int.reduceBNe, Int.reduceLT, Int.reduceLE, Int.reduceAdd, Int.reduceSub, Int.reduceMul, idX_eq, wbE, ↓symP, symE, listE, AK.isCall, enumE, ev, putE, abin, aun, AV.cells, ↓reduceIte, reduceCtorEq, Nat.reduceAdd, Nat.reduceMul, Nat.reduceSub, Nat.reduceEqDiff, Nat.reduceLT, Nat.reduceLeDiff, implies_true, Back, retv, retV, AV.scal, AV.scals]; try simp only [idX_eq, ite_both, pickP_both, not_not_eq, Bool.not_eq_false, Bool.not_eq_true]
  exact ⟨⟨_, rfl⟩, ⟨_, rfl⟩⟩
def g_included1 : List AV → Option AV
  | [.agg l] => match diaOf l with
    | some (n, m) => chk (isS n.toNat m = true ∧ 0 ≤ n ∧ n < 8) (some (.tup [.agg (dia (n + 1) (wideL n.toNat m)), .int .i64 1]))
    | none => none
  | _ => none
theorem k_included1 : Am.Callee Try.prog 119 (plainE g_included1) := Am.Callee.plain fun xs v he => by
  unfold g_included1 at he
  split at he
  · rename_i l
    split at he
    · rename_i n m hd
      obtain ⟨⟨h1, h2⟩, he⟩ := chk_some he
      cases he
      obtain ⟨rfl, hm⟩ := diaOf_some hd
      obtain ⟨N, rfl⟩ : ∃ N : Nat, n = N := ⟨n.toNat, by omega⟩
      rw [Int.toNat_natCast] at h1 ⊢
      exact ⟨by simp only [AV.scals, AV.scal, scals_dia, Bool.and_self], by simp only [AV.scal, AV.scals, scals_dia, Bool.and_self], c_included_1 N m hm h1 (by omega)⟩
    · cases he
  · cases he
def B49 : Book := (B48.put 119 (plainE g_included1))
theorem B49_ok : BookOk Try.prog B49 := (B48_ok.put (k_included1))

theorem wide_at {n : Int} {m : List Nat} (hn : 1 ≤ n ∧ n ≤ 7) (hs : isS n.toNat m = true) : okD (wideL n.toNat m) ∧ isS (n + 1).toNat (wideL n.toNat m) = true := by
  have h := wide_isS (n := n.toNat) (by omega) hs
  rw [show (n + 1).toNat = n.toNat + 1 by omega]
  exact ⟨h.2, h.1⟩
theorem k_chIncl : Am.Callee Try.prog 73 (g_ch0 119 (fun n => n + 1) wideL 1 7) := k_ch0 B49_ok rfl (gf := g_included1) rfl
  (fun n m hn hs => wide_at hn hs) (fun n hn => by omega)
  (fun n m hn hm hs => by
    have h0 : 0 ≤ n ∧ n < 8 := by omega
    simp only [g_included1, diaOf_dia hm, hs, h0, and_self, chk_true])
def B50 : Book := (B49.put 73 (g_ch0 119 (fun n => n + 1) wideL 1 7))
theorem B50_ok : BookOk Try.prog B50 := (B49_ok.put (k_chIncl))
theorem B50_i_Diagram_n_I5 : B50 115 = some (readE 1 g_n) := rfl
theorem B50_i_unit_I5 : B50 121 = some (plainE g_unit) := rfl
theorem B50_i_union_1_I5 : B50 140 = some (g_left) := rfl
theorem B50_i_union_2_I5 : B50 141 = some (g_right) := rfl
theorem B50_i_union_I5 : B50 120 = some (plainE g_union1) := rfl


def a_s_l02Wider_l1 : AC := .seq (.seq (.region [⟨some 14, none, .op (.mov (.t 5))⟩,
         ⟨some 15, none, .op (.mov (.t 3))⟩,
         ⟨some 16, none, .op (.bin .mul (.c (.int .i64 2)) (.t 15))⟩,
         ⟨some 17, none, .op (.bin .lss (.t 14) (.t 16))⟩]) (.cond 17 .skip (.exit 0))) (.seq (.block 1 (.seq (.draw false [⟨some 20, none, .op (.mov (.t 5))⟩,
          ⟨some 21, none, .op (.mov (.t 5))⟩,
          ⟨some 22, none, .op (.faddr 1 (.t 1))⟩,
          ⟨some 23, none, .op (.iaddrA 16 1 (.t 22) (.t 21))⟩,
          ⟨some 24, none, .op (.load1 (.t 23))⟩,
          ⟨some 25, none, .op (.conv .i64 (.t 24))⟩,
          ⟨some 6, none, .op (.mov (.t 20))⟩,
          ⟨some 7, none, .op (.mov (.t 25))⟩]) (.seq (.seq (.region [⟨some 26, none, .op (.mov (.t 6))⟩,
           ⟨some 27, none, .op (.mov (.t 3))⟩,
           ⟨some 28, none, .op (.bin .geq (.t 26) (.t 27))⟩]) (.cond 28 (.region [⟨some 29, none, .op (.mov (.t 6))⟩,
            ⟨some 30, none, .op (.bin .add (.t 29) (.c (.int .i64 1)))⟩,
            ⟨some 6, none, .op (.mov (.t 30))⟩]) .skip)) (.seq (.seq (.region [⟨some 31, none, .op (.mov (.t 7))⟩,
           ⟨some 32, none, .op (.mov (.t 3))⟩,
           ⟨some 33, none, .op (.bin .geq (.t 31) (.t 32))⟩]) (.cond 33 (.region [⟨some 34, none, .op (.mov (.t 7))⟩,
            ⟨some 35, none, .op (.bin .add (.t 34) (.c (.int .i64 1)))⟩,
            ⟨some 7, none, .op (.mov (.t 35))⟩]) .skip)) (.region [⟨some 36, none, .op (.mov (.t 6))⟩,
         ⟨some 37, none, .op (.mov (.t 7))⟩,
         ⟨some 38, none, .op (.conv .u8 (.t 37))⟩,
         ⟨some 39, none, .op (.faddr 1 (.t 4))⟩,
         ⟨some 40, none, .op (.iaddrA 16 1 (.t 39) (.t 36))⟩,
         ⟨none, none, .op (.store1 (.t 40) (.t 38))⟩]))))) (.region [⟨some 18, none, .op (.mov (.t 5))⟩,
       ⟨some 19, none, .op (.bin .add (.t 18) (.c (.int .i64 1)))⟩,
       ⟨some 5, none, .op (.mov (.t 19))⟩]))
def a_s_l02Wider_k1 : AC := .seq (.region [⟨some 41, none, .op (.mov (.t 3))⟩,
     ⟨some 42, none, .op (.mov (.t 3))⟩,
     ⟨some 43, none, .op (.bin .mul (.c (.int .i64 2)) (.t 42))⟩,
     ⟨some 44, none, .op (.bin .add (.t 43) (.c (.int .i64 1)))⟩,
     ⟨some 45, none, .op (.conv .u8 (.t 44))⟩,
     ⟨some 46, none, .op (.faddr 1 (.t 4))⟩,
     ⟨some 47, none, .op (.iaddrA 16 1 (.t 46) (.t 41))⟩,
     ⟨none, none, .op (.store1 (.t 47) (.t 45))⟩]) (.seq (.region [⟨some 48, none, .op (.mov (.t 3))⟩,
     ⟨some 49, none, .op (.bin .mul (.c (.int .i64 2)) (.t 48))⟩,
     ⟨some 50, none, .op (.bin .add (.t 49) (.c (.int .i64 1)))⟩,
     ⟨some 51, none, .op (.mov (.t 3))⟩,
     ⟨some 52, none, .op (.conv .u8 (.t 51))⟩,
     ⟨some 53, none, .op (.faddr 1 (.t 4))⟩,
     ⟨some 54, none, .op (.iaddrA 16 1 (.t 53) (.t 50))⟩,
     ⟨none, none, .op (.store1 (.t 54) (.t 52))⟩]) (.seq (.region [⟨some 55, none, .op (.loadN 17 (.t 4))⟩,
     ⟨none, none, .op (.storeN 17 (.t 2) (.t 55))⟩]) .ret))
def a_s_l02Wider : AC := .seq (.region [⟨some 1, none, .op (.box (.t 0))⟩,
     ⟨some 2, none, .op (.alloc [(.int .i64 0), (.int .u8 0), (.int .u8 0), (.int .u8 0), (.int .u8 0), (.int .u8 0), (.int .u8 0), (.int .u8 0), (.int .u8 0), (.int .u8 0), (.int .u8 0), (.int .u8 0), (.int .u8 0), (.int .u8 0), (.int .u8 0), (.int .u8 0), (.int .u8 0)])⟩]) (.seq (.draw false [⟨some 8, none, .op (.faddr 0 (.t 1))⟩,
     ⟨some 9, none, .op (.load1 (.t 8))⟩,
     ⟨some 10, none, .op (.faddr 0 (.t 1))⟩,
     ⟨some 11, none, .op (.load1 (.t 10))⟩,
     ⟨some 12, none, .op (.bin .add (.t 11) (.c (.int .i64 1)))⟩,
     ⟨some 13, none, .op (.build [(.int .i64 0), (.int .u8 0), (.int .u8 0), (.int .u8 0), (.int .u8 0), (.int .u8 0), (.int .u8 0), (.int .u8 0), (.int .u8 0), (.int .u8 0), (.int .u8 0), (.int .u8 0), (.int .u8 0), (.int .u8 0), (.int .u8 0), (.int .u8 0), (.int .u8 0)] [(0, 1, (.t 12))])⟩,
     ⟨some 4, none, .op (.alloc [(.int .i64 0), (.int .u8 0), (.int .u8 0), (.int .u8 0), (.int .u8 0), (.int .u8 0), (.int .u8 0), (.int .u8 0), (.int .u8 0), (.int .u8 0), (.int .u8 0), (.int .u8 0), (.int .u8 0), (.int .u8 0), (.int .u8 0), (.int .u8 0), (.int .u8 0)])⟩,
     ⟨some 3, none, .op (.mov (.t 9))⟩,
     ⟨none, none, .op (.storeN 17 (.t 4) (.t 13))⟩]) (.seq (.seq (.region [⟨some 5, none, .op (.mov (.c (.int .i64 0)))⟩]) (.block 0 (.loop a_s_l02Wider_l1))) a_s_l02Wider_k1))
theorem r_s_l02Wider : readF Try.prog 80 = some ⟨56, a_s_l02Wider, [.cellN 2 17]⟩ := by kernel_rfl
theorem c_s_l02Wider (N : Nat) (m : List Nat) (hm : okD m) (hs : isS N m = true) (hN8 : N < 8) : Am.Fn Try.prog 80 [.agg (dia N m)] [] (fun v H' => v = .agg (dia ((N : Int) + 1) (wideL N m)) ∧ H' = []) := by
  refine Am.Fn.sameB (R := fun v => v = _) B50_ok mixed r_s_l02Wider (by simp) (by simp) ?_
  obtain ⟨hN, hp, hz⟩ := isS_mate hs
  have hml := hm.1
  have h1 : wrapK .i64 ((N : Int) + 1) = (N : Int) + 1 := wrap64 (by omega) (by omega)
  simp (maxSteps := 3000000) only [over4E, heapL, fillA, rd, wrt, wrl, AO.withl, a_s_l02Wider, B50_i_Diagram_n_I5, B50_i_unit_I5, B50_i_union_1_I5, B50_i_union_2_I5, B50_i_union_I5, g_left, g_n, g_right, g_union1, g_unit, dia_zero, dia_zero_len, dia_sized', dia_length, hml, dia_get0, ones_dia, over_dia okD_zero okD_zero, List.length_replicate, h1, Int.reduceEq, Int.reduceNe, Int.reduceBEq, Int.reduceBNe, Int.reduceLT, Int.reduceLE, Int.reduceAdd, Int.reduceSub, Int.reduceMul, idX_eq, wbE, ↓symP, symE, listE, AK.isCall, enumE, ev, putE, abin, aun, AV.cells, ↓reduceIte, reduceCtorEq, Nat.reduceAdd, Nat.reduceMul, Nat.reduceSub, Nat.reduceEqDiff, Nat.reduceLT, Nat.reduceLeDiff, implies_true, Back, retv, retV, AV.scal, AV.scals]; try simp only [idX_eq, ite_both, pickP_both, not_not_eq, Bool.not_eq_false, Bool.not_eq_true]
  refine WA.loopB B50_ok (fun s => ∃ i : Nat, i ≤ 2 * N ∧ s = ⟨[(5, .int .i64 i), (4, .ptr 2 0), (3, .int .i64 N), (2, .ptr 1 0), (1, .ptr 0 0)], [.cells (dia N m), .cells (dia 0 (List.replicate 16 0)), .cells (dia ((N : Int) + 1) (wideK N m i))]⟩)
    (fun s => match get s.env 5 with | .int _ x => 2 * N - x.toNat | _ => 0) ⟨_, Weak.slots [5, 4, 3, 2, 1], 0, by omega, rfl⟩ ?_
  rintro s ⟨i, hi, rfl⟩
  have hw : wrapK .i64 ((i : Int) + 1) = ((i + 1 : Nat) : Int) := by rw [wrap64 (by omega) (by omega)]; rfl
  have h2 : wrapK .i64 (2 * (N : Int)) = ((2 * N : Nat) : Int) := by rw [wrap64 (by omega) (by omega)]; rfl
  have hk16 := wideK_length (N := N) (m := m) (i := i)
  by_cases hlt : i < 2 * N
  · have hli : (i : Int) < ((2 * N : Nat) : Int) := by omega
    have hb := isS_byte hs hlt
    have a1 : wd N i < 16 := by unfold wd; split <;> omega
    have b1 : wd N (m.getD i 0) < 16 := by unfold wd; split <;> omega
    obtain ⟨hi16, hi16'⟩ := small16 (show i < 16 by omega)
    have hi17 : i < 16 := by omega
    have hin : i < m.length := by omega
    have hnext : wideK N m (i + 1) = (wideK N m i).set (wd N i) (wd N (m.getD i 0)) := rfl
    generalize hx : m.getD i 0 = x at hb b1 hnext
    have hcv : wrapK .i64 (x : Int) = (x : Int) := wrap64N (by omega)
    have hwx : wrapK .i64 ((x : Int) + 1) = ((x + 1 : Nat) : Int) := by rw [wrap64 (by omega) (by omega)]; rfl
    by_cases hA : i < N
    · have eA : wd N i = i := if_pos hA
      have gA : ¬ ((N : Int) ≤ i) := by omega
      rw [eA] at hnext
      by_cases hB : x < N
      · have eB : wd N x = x := if_pos hB
        have gB : ¬ ((N : Int) ≤ x) := by omega
        rw [eB] at hnext
        have hu8 : wrapK .u8 (x : Int) = (x : Int) := wrapU8 (by omega)
        simp (maxSteps := 3000000) only [over4E, heapL, fillA, rd, wrt, wrl, AO.withl, a_s_l02Wider_l1, B50_i_Diagram_n_I5, B50_i_unit_I5, B50_i_union_1_I5, B50_i_union_2_I5, B50_i_union_I5, g_left, g_n, g_right, g_union1, g_unit, hw, h2, hli, gA, gB, hx, hu8, hi16, hi16', hi17, AV.one, hcv, dia_length, hml, hk16, dia_set, Int.reduceEq, Int.reduceNe, Int.reduceBEq, Int.reduceBNe, Int.reduceLT, Int.reduceLE, Int.reduceAdd, Int.reduceSub, Int.reduceMul, idX_eq, wbE, ↓symP, symE, listE, AK.isCall, enumE, ev, putE, abin, aun, AV.cells, ↓reduceIte, reduceCtorEq, Nat.reduceAdd, Nat.reduceMul, Nat.reduceSub, Nat.reduceEqDiff, Nat.reduceLT, Nat.reduceLeDiff, implies_true, Back, retv, retV, AV.scal, AV.scals]; try simp only [idX_eq, ite_both, pickP_both, not_not_eq, Bool.not_eq_false, Bool.not_eq_true]
        refine ⟨_, Weak.slots [5, 4, 3, 2, 1], ⟨i + 1, by omega, ?_⟩, ?_⟩
        · simp only [keptL, keptW, keptE, kepts, slots, ↓reduceIte, reduceCtorEq, Nat.reduceEqDiff, AV.ren, AV.rens, pos, Nat.reduceAdd]; rw [hnext]
        · simp only [keptL, keptW, keptE, kepts, slots, ↓reduceIte, reduceCtorEq, Nat.reduceEqDiff, AV.ren, AV.rens, pos, Nat.reduceAdd]; omega
      · have eB : wd N x = x + 1 := if_neg hB
        have gB : ((N : Int) ≤ x) := by omega
        rw [eB] at hnext
        have hu8 : wrapK .u8 ((x + 1 : Nat) : Int) = ((x + 1 : Nat) : Int) := wrapU8 (by omega)
        simp (maxSteps := 3000000) only [over4E, heapL, fillA, rd, wrt, wrl, AO.withl, a_s_l02Wider_l1, B50_i_Diagram_n_I5, B50_i_unit_I5, B50_i_union_1_I5, B50_i_union_2_I5, B50_i_union_I5, g_left, g_n, g_right, g_union1, g_unit, hw, h2, hli, gA, gB, hx, hwx, hu8, hi16, hi16', hi17, AV.one, hcv, dia_length, hml, hk16, dia_set, Int.reduceEq, Int.reduceNe, Int.reduceBEq, Int.reduceBNe, Int.reduceLT, Int.reduceLE, Int.reduceAdd, Int.reduceSub, Int.reduceMul, idX_eq, wbE, ↓symP, symE, listE, AK.isCall, enumE, ev, putE, abin, aun, AV.cells, ↓reduceIte, reduceCtorEq, Nat.reduceAdd, Nat.reduceMul, Nat.reduceSub, Nat.reduceEqDiff, Nat.reduceLT, Nat.reduceLeDiff, implies_true, Back, retv, retV, AV.scal, AV.scals]; try simp only [idX_eq, ite_both, pickP_both, not_not_eq, Bool.not_eq_false, Bool.not_eq_true]
        refine ⟨_, Weak.slots [5, 4, 3, 2, 1], ⟨i + 1, by omega, ?_⟩, ?_⟩
        · simp only [keptL, keptW, keptE, kepts, slots, ↓reduceIte, reduceCtorEq, Nat.reduceEqDiff, AV.ren, AV.rens, pos, Nat.reduceAdd]; rw [hnext]
        · simp only [keptL, keptW, keptE, kepts, slots, ↓reduceIte, reduceCtorEq, Nat.reduceEqDiff, AV.ren, AV.rens, pos, Nat.reduceAdd]; omega
    · have eA : wd N i = i + 1 := if_neg hA
      have gA : ((N : Int) ≤ i) := by omega
      rw [eA] at hnext a1
      obtain ⟨a2, a3⟩ := small16 a1
      by_cases hB : x < N
      · have eB : wd N x = x := if_pos hB
        have gB : ¬ ((N : Int) ≤ x) := by omega
        rw [eB] at hnext
        have hu8 : wrapK .u8 (x : Int) = (x : Int) := wrapU8 (by omega)
        simp (maxSteps := 3000000) only [over4E, heapL, fillA, rd, wrt, wrl, AO.withl, a_s_l02Wider_l1, B50_i_Diagram_n_I5, B50_i_unit_I5, B50_i_union_1_I5, B50_i_union_2_I5, B50_i_union_I5, g_left, g_n, g_right, g_union1, g_unit, hw, h2, hli, gA, gB, hx, hu8, a2, a3, hi16, hi16', hi17, AV.one, hcv, dia_length, hml, hk16, dia_set, Int.reduceEq, Int.reduceNe, Int.reduceBEq, Int.reduceBNe, Int.reduceLT, Int.reduceLE, Int.reduceAdd, Int.reduceSub, Int.reduceMul, idX_eq, wbE, ↓symP, symE, listE, AK.isCall, enumE, ev, putE, abin, aun, AV.cells, ↓reduceIte, reduceCtorEq, Nat.reduceAdd, Nat.reduceMul, Nat.reduceSub, Nat.reduceEqDiff, Nat.reduceLT, Nat.reduceLeDiff, implies_true, Back, retv, retV, AV.scal, AV.scals]; try simp only [idX_eq, ite_both, pickP_both, not_not_eq, Bool.not_eq_false, Bool.not_eq_true]
        refine ⟨_, Weak.slots [5, 4, 3, 2, 1], ⟨i + 1, by omega, ?_⟩, ?_⟩
        · simp only [keptL, keptW, keptE, kepts, slots, ↓reduceIte, reduceCtorEq, Nat.reduceEqDiff, AV.ren, AV.rens, pos, Nat.reduceAdd]; rw [hnext]
        · simp only [keptL, keptW, keptE, kepts, slots, ↓reduceIte, reduceCtorEq, Nat.reduceEqDiff, AV.ren, AV.rens, pos, Nat.reduceAdd]; omega
      · have eB : wd N x = x + 1 := if_neg hB
        have gB : ((N : Int) ≤ x) := by omega
        rw [eB] at hnext
        have hu8 : wrapK .u8 ((x + 1 : Nat) : Int) = ((x + 1 : Nat) : Int) := wrapU8 (by omega)
        simp (maxSteps := 3000000) only [over4E, heapL, fillA, rd, wrt, wrl, AO.withl, a_s_l02Wider_l1, B50_i_Diagram_n_I5, B50_i_unit_I5, B50_i_union_1_I5, B50_i_union_2_I5, B50_i_union_I5, g_left, g_n, g_right, g_union1, g_unit, hw, h2, hli, gA, gB, hx, hwx, hu8, a2, a3, hi16, hi16', hi17, AV.one, hcv, dia_length, hml, hk16, dia_set, Int.reduceEq, Int.reduceNe, Int.reduceBEq, Int.reduceBNe, Int.reduceLT, Int.reduceLE, Int.reduceAdd, Int.reduceSub, Int.reduceMul, idX_eq, wbE, ↓symP, symE, listE, AK.isCall, enumE, ev, putE, abin, aun, AV.cells, ↓reduceIte, reduceCtorEq, Nat.reduceAdd, Nat.reduceMul, Nat.reduceSub, Nat.reduceEqDiff, Nat.reduceLT, Nat.reduceLeDiff, implies_true, Back, retv, retV, AV.scal, AV.scals]; try simp only [idX_eq, ite_both, pickP_both, not_not_eq, Bool.not_eq_false, Bool.not_eq_true]
        refine ⟨_, Weak.slots [5, 4, 3, 2, 1], ⟨i + 1, by omega, ?_⟩, ?_⟩
        · simp only [keptL, keptW, keptE, kepts, slots, ↓reduceIte, reduceCtorEq, Nat.reduceEqDiff, AV.ren, AV.rens, pos, Nat.reduceAdd]; rw [hnext]
        · simp only [keptL, keptW, keptE, kepts, slots, ↓reduceIte, reduceCtorEq, Nat.reduceEqDiff, AV.ren, AV.rens, pos, Nat.reduceAdd]; omega
  · have hli : ¬ ((i : Int) < ((2 * N : Nat) : Int)) := by omega
    obtain rfl : i = 2 * N := by omega
    have h3 : wrapK .i64 (((2 * N : Nat) : Int) + 1) = ((2 * N + 1 : Nat) : Int) := by rw [wrap64 (by omega) (by omega)]; rfl
    obtain ⟨a2, a3⟩ := small16 (show N < 16 by omega)
    obtain ⟨b2, b3⟩ := small16 (show 2 * N + 1 < 16 by omega)
    have hu1 : wrapK .u8 ((2 * N + 1 : Nat) : Int) = ((2 * N + 1 : Nat) : Int) := wrapU8 (by omega)
    have hu2 : wrapK .u8 (N : Int) = (N : Int) := wrapU8 (by omega)
    have hwl : ((wideK N m (2 * N)).set N (2 * N + 1)).set (2 * N + 1) N = wideL N m := rfl
    have hk17 : (wideL N m).length = 16 := (wide_isS hN8 hs).2.1
    simp (maxSteps := 3000000) only [over4E, heapL, fillA, rd, wrt, wrl, AO.withl, a_s_l02Wider_l1, a_s_l02Wider_k1, B50_i_Diagram_n_I5, B50_i_unit_I5, B50_i_union_1_I5, B50_i_union_2_I5, B50_i_union_I5, g_left, g_n, g_right, g_union1, g_unit, h2, h3, hli, a2, a3, b2, b3, hu1, hu2, hwl, AV.one, dia_length, dia_set, List.length_set, hk16, hk17, dia_take17 hk17, over_dia okD_zero hk17, ones_dia, List.length_replicate, Int.lt_irrefl, Int.reduceEq, Int.reduceNe, Int.reduceBEq, Int.reduceBNe, Int.reduceLT, Int.reduceLE, Int.reduceAdd, Int.reduceSub, Int.reduceMul, idX_eq, wbE, ↓symP, symE, listE, AK.isCall, enumE, ev, putE, abin, aun, AV.cells, ↓reduceIte, reduceCtorEq, Nat.reduceAdd, Nat.reduceMul, Nat.reduceSub, Nat.reduceEqDiff, Nat.reduceLT, Nat.reduceLeDiff, implies_true, Back, retv, retV, AV.scal, AV.scals]; try simp only [idX_eq, ite_both, pickP_both, not_not_eq, Bool.not_eq_false, Bool.not_eq_true]
    exact scals_dia _ _
end Go.Proofs.Ytkgoadglalpbfaa
