/- Contracts: flips of diagrams. -/
import Derived.Test.YtkgoadglalpbfaaH5
import Derived.Test.YtkgoadglalpbfaaH2
import Derived.Test.YtkgoadglalpbfaaG9
namespace Go.Proofs.Ytkgoadglalpbfaa
open Go.Am Go.Dia
set_option linter.unusedSimpArgs false
set_option linter.unusedVariables false
set_option maxRecDepth 4000
set_option maxHeartbeats 1000000

theorem tmodN (a b : Nat) : Int.tmod (a : Int) (b : Int) = ((a % b : Nat) : Int) := rfl
theorem isS_byte {N : Nat} {m : List Nat} (h : isS N m = true) {i : Nat} (hi : i < 2 * N) : m.getD i 0 < 2 * N := ((isS_mate h).2.1 i hi).1
/-- What is needed of a point's place in the flip. -/
theorem fl_facts {N i : Nat} (hN : N ≤ 8) (h0 : 1 ≤ N) (hi : i < 2 * N) : wrapK .i64 ((i : Int) + (N : Int)) = ((i + N : Nat) : Int) ∧ Int.tmod ((i + N : Nat) : Int) ((2 * N : Nat) : Int) = ((fl N i : Nat) : Int) ∧ wrapK .u8 ((fl N i : Nat) : Int) = ((fl N i : Nat) : Int) ∧ ((0 : Int) ≤ (fl N i : Nat) ∧ ((fl N i : Nat) : Int) < ((16 : Nat) : Int)) ∧ 1 + fl N i < 17 := by
  have h := fl_lt hi
  exact ⟨by rw [wrap64 (by omega) (by omega)]; rfl, rfl, wrapU8 (by omega), by omega, by omega⟩
theorem dia_take1' {n : Int} {m : List Nat} : List.take 1 (dia n m) = [.int .i64 n] := rfl
theorem B39_i_Diagram_n_I1 : B39 115 = some (readE 1 g_n) := rfl
def a_s_l01Flip_l1 : AC := .seq (.seq (.region [⟨some 11, none, .op (.mov (.t 5))⟩,
         ⟨some 12, none, .op (.mov (.t 3))⟩,
         ⟨some 13, none, .op (.bin .mul (.c (.int .i64 2)) (.t 12))⟩,
         ⟨some 14, none, .op (.bin .lss (.t 11) (.t 13))⟩]) (.cond 14 .skip (.exit 0))) (.seq (.block 1 (.draw false [⟨some 17, none, .op (.mov (.t 5))⟩,
         ⟨some 18, none, .op (.mov (.t 3))⟩,
         ⟨some 19, none, .op (.bin .add (.t 17) (.t 18))⟩,
         ⟨some 20, none, .op (.mov (.t 3))⟩,
         ⟨some 21, none, .op (.bin .mul (.c (.int .i64 2)) (.t 20))⟩,
         ⟨some 22, none, .op (.bin .rem (.t 19) (.t 21))⟩,
         ⟨some 23, none, .op (.mov (.t 5))⟩,
         ⟨some 24, none, .op (.faddr 1 (.t 1))⟩,
         ⟨some 25, none, .op (.iaddrA 16 1 (.t 24) (.t 23))⟩,
         ⟨some 26, none, .op (.load1 (.t 25))⟩,
         ⟨some 27, none, .op (.conv .i64 (.t 26))⟩,
         ⟨some 28, none, .op (.mov (.t 3))⟩,
         ⟨some 29, none, .op (.bin .add (.t 27) (.t 28))⟩,
         ⟨some 30, none, .op (.mov (.t 3))⟩,
         ⟨some 31, none, .op (.bin .mul (.c (.int .i64 2)) (.t 30))⟩,
         ⟨some 32, none, .op (.bin .rem (.t 29) (.t 31))⟩,
         ⟨some 33, none, .op (.conv .u8 (.t 32))⟩,
         ⟨some 34, none, .op (.faddr 1 (.t 4))⟩,
         ⟨some 35, none, .op (.iaddrA 16 1 (.t 34) (.t 22))⟩,
         ⟨none, none, .op (.store1 (.t 35) (.t 33))⟩])) (.region [⟨some 15, none, .op (.mov (.t 5))⟩,
       ⟨some 16, none, .op (.bin .add (.t 15) (.c (.int .i64 1)))⟩,
       ⟨some 5, none, .op (.mov (.t 16))⟩]))
def a_s_l01Flip_k1 : AC := .seq (.region [⟨some 36, none, .op (.loadN 17 (.t 4))⟩,
     ⟨none, none, .op (.storeN 17 (.t 2) (.t 36))⟩]) .ret
def a_s_l01Flip : AC := .seq (.region [⟨some 1, none, .op (.box (.t 0))⟩,
     ⟨some 2, none, .op (.alloc [(.int .i64 0), (.int .u8 0), (.int .u8 0), (.int .u8 0), (.int .u8 0), (.int .u8 0), (.int .u8 0), (.int .u8 0), (.int .u8 0), (.int .u8 0), (.int .u8 0), (.int .u8 0), (.int .u8 0), (.int .u8 0), (.int .u8 0), (.int .u8 0), (.int .u8 0)])⟩]) (.seq (.draw false [⟨some 6, none, .op (.faddr 0 (.t 1))⟩,
     ⟨some 7, none, .op (.load1 (.t 6))⟩,
     ⟨some 8, none, .op (.faddr 0 (.t 1))⟩,
     ⟨some 9, none, .op (.load1 (.t 8))⟩,
     ⟨some 10, none, .op (.build [(.int .i64 0), (.int .u8 0), (.int .u8 0), (.int .u8 0), (.int .u8 0), (.int .u8 0), (.int .u8 0), (.int .u8 0), (.int .u8 0), (.int .u8 0), (.int .u8 0), (.int .u8 0), (.int .u8 0), (.int .u8 0), (.int .u8 0), (.int .u8 0), (.int .u8 0)] [(0, 1, (.t 9))])⟩,
     ⟨some 4, none, .op (.alloc [(.int .i64 0), (.int .u8 0), (.int .u8 0), (.int .u8 0), (.int .u8 0), (.int .u8 0), (.int .u8 0), (.int .u8 0), (.int .u8 0), (.int .u8 0), (.int .u8 0), (.int .u8 0), (.int .u8 0), (.int .u8 0), (.int .u8 0), (.int .u8 0), (.int .u8 0)])⟩,
     ⟨some 3, none, .op (.mov (.t 7))⟩,
     ⟨none, none, .op (.storeN 17 (.t 4) (.t 10))⟩]) (.seq (.seq (.region [⟨some 5, none, .op (.mov (.c (.int .i64 0)))⟩]) (.block 0 (.loop a_s_l01Flip_l1))) a_s_l01Flip_k1))
theorem r_s_l01Flip : readF Try.prog 72 = some ⟨37, a_s_l01Flip, [.cellN 2 17]⟩ := by kernel_rfl
theorem c_s_l01Flip (N : Nat) (m : List Nat) (hm : okD m) (hs : isS N m = true) : Am.Fn Try.prog 72 [.agg (dia N m)] [] (fun v H' => v = .agg (dia N (flipL N m)) ∧ H' = []) := by
  refine Am.Fn.sameB (R := fun v => v = _) B39_ok mixed r_s_l01Flip (by simp) (by simp) ?_
  obtain ⟨hN, hp, hz⟩ := isS_mate hs
  have hml := hm.1
  simp (maxSteps := 3000000) only [over4E, heapL, fillA, rd, wrt, wrl, AO.withl, a_s_l01Flip, B39_i_Diagram_n_I1, g_n, dia_zero, dia_zero_len, dia_sized', dia_length, hml, dia_get0, ones_dia, over_dia okD_zero okD_zero, List.length_replicate, Int.reduceEq, Int.reduceNe, Int.reduceBEq, Int.reduceBNe, Int.reduceLT, Int.reduceLE, Int.reduceAdd, Int.reduceSub, Int.reduceMul, idX_eq, wbE, ↓symP, symE, listE, AK.isCall, enumE, ev, putE, abin, aun, AV.cells, ↓reduceIte, reduceCtorEq, Nat.reduceAdd, Nat.reduceMul, Nat.reduceSub, Nat.reduceEqDiff, Nat.reduceLT, Nat.reduceLeDiff, implies_true, Back, retv, retV, AV.scal, AV.scals]; try simp only [idX_eq, ite_both, pickP_both, not_not_eq, Bool.not_eq_false, Bool.not_eq_true]
  refine WA.loopB B39_ok (fun s => ∃ i : Nat, i ≤ 2 * N ∧ s = ⟨[(5, .int .i64 i), (4, .ptr 2 0), (3, .int .i64 N), (2, .ptr 1 0), (1, .ptr 0 0)], [.cells (dia N m), .cells (dia 0 (List.replicate 16 0)), .cells (dia N (flipK N m i))]⟩)
    (fun s => match get s.env 5 with | .int _ x => 2 * N - x.toNat | _ => 0) ⟨_, Weak.slots [5, 4, 3, 2, 1], 0, by omega, rfl⟩ ?_
  rintro s ⟨i, hi, rfl⟩
  have hw : wrapK .i64 ((i : Int) + 1) = ((i + 1 : Nat) : Int) := by rw [wrap64 (by omega) (by omega)]; rfl
  have h2 : wrapK .i64 (2 * (N : Int)) = ((2 * N : Nat) : Int) := by rw [wrap64 (by omega) (by omega)]; rfl
  have hk16 : (flipK N m i).length = 16 := putAll_length _ _ _ _
  by_cases hlt : i < 2 * N
  · have hli : (i : Int) < ((2 * N : Nat) : Int) := by omega
    have hb := isS_byte hs hlt
    obtain ⟨a1, a2, a3, a4, a5⟩ := fl_facts hN.2 hN.1 hlt
    obtain ⟨b1, b2, b3, b4, b5⟩ := fl_facts hN.2 hN.1 hb
    have hne : ((2 * N : Nat) : Int) ≠ 0 := by omega
    have hi16 : (0 : Int) ≤ i ∧ (i : Int) < ((16 : Nat) : Int) := by omega
    have hi16' : i < 16 := by omega
    have hin : i < m.length := by omega
    have hcv : wrapK .i64 ((m.getD i 0 : Nat) : Int) = ((m.getD i 0 : Nat) : Int) := wrap64N (by omega)
    have hnext : flipK N m (i + 1) = (flipK N m i).set (fl N i) (fl N (m.getD i 0)) := rfl
    simp (maxSteps := 3000000) only [over4E, heapL, fillA, rd, wrt, wrl, AO.withl, a_s_l01Flip_l1, B39_i_Diagram_n_I1, g_n, hw, h2, hli, a1, a2, a3, a4, a5, b1, b2, b3, b4, hne, hi16, hi16', AV.one, hcv, dia_get hin, dia_length, hml, hk16, dia_set, Int.reduceEq, Int.reduceNe, Int.reduceBEq, Int.reduceBNe, Int.reduceLT, Int.reduceLE, Int.reduceAdd, Int.reduceSub, Int.reduceMul, idX_eq, wbE, ↓symP, symE, listE, AK.isCall, enumE, ev, putE, abin, aun, AV.cells, ↓reduceIte, reduceCtorEq, Nat.reduceAdd, Nat.reduceMul, Nat.reduceSub, Nat.reduceEqDiff, Nat.reduceLT, Nat.reduceLeDiff, implies_true, Back, retv, retV, AV.scal, AV.scals]; try simp only [idX_eq, ite_both, pickP_both, not_not_eq, Bool.not_eq_false, Bool.not_eq_true]
    refine ⟨_, Weak.slots [5, 4, 3, 2, 1], ⟨i + 1, by omega, ?_⟩, ?_⟩
    · simp only [keptL, keptW, keptE, kepts, slots, ↓reduceIte, reduceCtorEq, Nat.reduceEqDiff, AV.ren, AV.rens, pos, Nat.reduceAdd]; rw [hnext]
    · simp only [keptL, keptW, keptE, kepts, slots, ↓reduceIte, reduceCtorEq, Nat.reduceEqDiff, AV.ren, AV.rens, pos, Nat.reduceAdd]; omega
  · have hli : ¬ ((i : Int) < ((2 * N : Nat) : Int)) := by omega
    obtain rfl : i = 2 * N := by omega
    simp (maxSteps := 3000000) only [over4E, heapL, fillA, rd, wrt, wrl, AO.withl, a_s_l01Flip_l1, a_s_l01Flip_k1, B39_i_Diagram_n_I1, g_n, h2, hli, dia_length, hk16, dia_take17 hk16, over_dia okD_zero hk16, ones_dia, List.length_replicate, Int.lt_irrefl, Int.reduceEq, Int.reduceNe, Int.reduceBEq, Int.reduceBNe, Int.reduceLT, Int.reduceLE, Int.reduceAdd, Int.reduceSub, Int.reduceMul, idX_eq, wbE, ↓symP, symE, listE, AK.isCall, enumE, ev, putE, abin, aun, AV.cells, ↓reduceIte, reduceCtorEq, Nat.reduceAdd, Nat.reduceMul, Nat.reduceSub, Nat.reduceEqDiff, Nat.reduceLT, Nat.reduceLeDiff, implies_true, Back, retv, retV, AV.scal, AV.scals]; try simp only [idX_eq, ite_both, pickP_both, not_not_eq, Bool.not_eq_false, Bool.not_eq_true]
    exact ⟨scals_dia _ _, rfl⟩


def a_i_flip_1 : AC := .seq (.region [⟨some 3, none, .op (.mov (.c (.int .i64 0)))⟩]) (.seq (.region [⟨some 4, none, .op (.mov (.t 0))⟩,
     ⟨some 5, none, .op (.load1 (.t 1))⟩,
     ⟨some 6, none, .op (.bin .add (.t 4) (.t 5))⟩,
     ⟨some 7, none, .op (.load1 (.t 1))⟩,
     ⟨some 8, none, .op (.bin .mul (.c (.int .i64 2)) (.t 7))⟩,
     ⟨some 9, none, .op (.bin .rem (.t 6) (.t 8))⟩,
     ⟨some 3, none, .op (.mov (.t 9))⟩]) .ret)
theorem r_i_flip_1 : readF Try.prog 117 = some ⟨10, a_i_flip_1, [.slot 3]⟩ := by kernel_rfl
theorem c_i_flip_1 (N i : Nat) (hN : 1 ≤ N ∧ N ≤ 8) (hi : i < 2 * N) : Am.Fn Try.prog 117 [.int .i64 i, .ptr 0 0] [.ro [.int .i64 N]] (fun v H' => v = .int .i64 ((fl N i : Nat) : Int) ∧ H' = [.ro [.int .i64 N]]) := by
  refine Am.Fn.sameB (R := fun v => v = _) B39_ok mixed r_i_flip_1 (by simp) (ro_under rfl) ?_
  obtain ⟨a1, a2, a3, a4, a5⟩ := fl_facts hN.2 hN.1 hi
  have h2 : wrapK .i64 (2 * (N : Int)) = ((2 * N : Nat) : Int) := by rw [wrap64 (by omega) (by omega)]; rfl
  have hne : ((2 * N : Nat) : Int) ≠ 0 := by omega
  simp (maxSteps := 3000000) only [over4E, heapL, fillA, rd, wrt, wrl, AO.withl, a_i_flip_1, B39_i_Diagram_n_I1, g_n, a1, a2, h2, hne, Int.reduceEq, Int.reduceNe, Int.reduceBEq, Int.reduceBNe, Int.reduceLT, Int.reduceLE, Int.reduceAdd, Int.reduceSub, Int.reduceMul, idX_eq, wbE, ↓symP, symE, listE, AK.isCall, enumE, ev, putE, abin, aun, AV.cells, ↓reduceIte, reduceCtorEq, Nat.reduceAdd, Nat.reduceMul, Nat.reduceSub, Nat.reduceEqDiff, Nat.reduceLT, Nat.reduceLeDiff, implies_true, Back, retv, retV, AV.scal, AV.scals]; try simp only [idX_eq, ite_both, pickP_both, not_not_eq, Bool.not_eq_false, Bool.not_eq_true]
  exact ⟨_, rfl⟩
def g_flip1 : BE := fun hp xs => match xs with
  | [.int .i64 i, .ptr b 0] => match rd hp b with
    | some (.int .i64 n :: _) => chk ((1 ≤ n ∧ n ≤ 8) ∧ 0 ≤ i ∧ i < 2 * n) (some (.int .i64 ((fl n.toNat i.toNat : Nat) : Int), hp))
    | _ => none
  | _ => none
theorem k_flip1 : Am.Callee Try.prog 117 g_flip1 := Callee.fp fun hp xs v hp' he => by
  unfold g_flip1 at he
  split at he
  · rename_i i b
    split at he
    · rename_i n L hL
      obtain ⟨⟨h1, h2, h3⟩, he⟩ := chk_some he
      simp only [Option.some.injEq, Prod.mk.injEq] at he
      obtain ⟨rfl, rfl⟩ := he
      obtain ⟨N, rfl⟩ : ∃ N : Nat, n = N := ⟨n.toNat, by omega⟩
      obtain ⟨k, rfl⟩ : ∃ k : Nat, i = k := ⟨i.toNat, by omega⟩
      simp only [Int.toNat_natCast]
      refine ⟨[(b, 0)], [.int .i64 k, .ptr 0 0], _, _, _, c_i_flip_1 N k (by omega) (by omega), by simp [AV.ren, AV.rens, ofL], rfl, ⟨⟨_, hL, by simp, by simp [AV.rens, AV.ren]⟩, trivial⟩, rfl, ⟨⟨trivial, trivial⟩, trivial⟩, ⟨trivial, by simp [AV.under], trivial⟩, by simp [AV.ren], ?_⟩
      simp [after, upd, AO.wr, AO.ren, AV.rens, AV.ren]
    · cases he
  · cases he
def g_flip : List AV → Option AV
  | [.agg l] => match diaOf l with
    | some (n, m) => chk (isS n.toNat m = true ∧ 0 ≤ n) (some (.agg (dia n (flipL n.toNat m))))
    | none => none
  | _ => none
theorem k_flip_of {f : FuncId} (h : ∀ (N : Nat) m, okD m → isS N m = true → Am.Fn Try.prog f [.agg (dia N m)] [] (fun v H' => v = .agg (dia N (flipL N m)) ∧ H' = [])) : Am.Callee Try.prog f (plainE g_flip) := Am.Callee.plain fun xs v he => by
  unfold g_flip at he
  split at he
  · rename_i l
    split at he
    · rename_i n m hd
      obtain ⟨⟨h1, h2⟩, he⟩ := chk_some he
      cases he
      obtain ⟨rfl, hm⟩ := diaOf_some hd
      obtain ⟨N, rfl⟩ : ∃ N : Nat, n = N := ⟨n.toNat, by omega⟩
      rw [Int.toNat_natCast] at h1 ⊢
      exact ⟨by simp only [AV.scals, AV.scal, scals_dia, Bool.and_self], by simp only [AV.scal, scals_dia], h N m hm h1⟩
    · cases he
  · cases he
def B40 : Book := ((B39.put 72 (plainE g_flip)).put 117 (g_flip1))
theorem B40_ok : BookOk Try.prog B40 := ((B39_ok.put (k_flip_of c_s_l01Flip)).put (k_flip1))
theorem B40_i_Diagram_n_I1 : B40 115 = some (readE 1 g_n) := rfl
theorem B40_i_flip_1_I1 : B40 117 = some (g_flip1) := rfl


def a_i_Diagram_moved_l1 : AC := .seq (.region [⟨some 16, none, .op (.bin .lss (.t 15) (.t 14))⟩]) (.seq (.cond 16 .skip (.exit 0)) (.seq (.block 1 (.seq (.region [⟨some 17, none, .op (.mov (.t 15))⟩,
          ⟨some 6, none, .op (.mov (.t 17))⟩]) (.draw true [⟨some 18, none, .op (.mov (.t 1))⟩,
         ⟨some 19, none, .op (.mov (.t 6))⟩,
         ⟨some 21, none, .op (.mov (.t 1))⟩,
         ⟨some 22, none, .op (.mov (.t 0))⟩,
         ⟨some 23, none, .op (.mov (.t 6))⟩,
         ⟨some 24, none, .op (.nilchk (.t 22))⟩,
         ⟨some 25, none, .op (.faddr 1 (.t 24))⟩,
         ⟨some 26, none, .op (.iaddrA 16 1 (.t 25) (.t 23))⟩,
         ⟨some 27, none, .op (.load1 (.t 26))⟩,
         ⟨some 28, none, .op (.conv .i64 (.t 27))⟩,
         ⟨some 31, none, .op (.faddr 1 (.t 5))⟩,
         ⟨some 20, none, .call (.t 18) [(.t 19)]⟩,
         ⟨some 29, none, .call (.t 21) [(.t 28)]⟩,
         ⟨some 30, none, .op (.conv .u8 (.t 29))⟩,
         ⟨some 32, none, .op (.iaddrA 16 1 (.t 31) (.t 20))⟩,
         ⟨none, none, .op (.store1 (.t 32) (.t 30))⟩]))) (.region [⟨some 33, none, .op (.bin .add (.t 15) (.c (.int .i64 1)))⟩,
       ⟨some 15, none, .op (.mov (.t 33))⟩])))
def a_i_Diagram_moved_k1 : AC := .seq (.region [⟨some 34, none, .op (.loadN 17 (.t 5))⟩,
     ⟨none, none, .op (.storeN 17 (.t 4) (.t 34))⟩]) .ret
def a_i_Diagram_moved : AC := .seq (.region [⟨some 4, none, .op (.alloc [(.int .i64 0), (.int .u8 0), (.int .u8 0), (.int .u8 0), (.int .u8 0), (.int .u8 0), (.int .u8 0), (.int .u8 0), (.int .u8 0), (.int .u8 0), (.int .u8 0), (.int .u8 0), (.int .u8 0), (.int .u8 0), (.int .u8 0), (.int .u8 0), (.int .u8 0)])⟩]) (.seq (.region [⟨some 7, none, .op (.mov (.t 0))⟩,
     ⟨some 8, none, .op (.nilchk (.t 7))⟩,
     ⟨some 9, none, .op (.faddr 0 (.t 8))⟩,
     ⟨some 10, none, .op (.load1 (.t 9))⟩,
     ⟨some 11, none, .op (.build [(.int .i64 0), (.int .u8 0), (.int .u8 0), (.int .u8 0), (.int .u8 0), (.int .u8 0), (.int .u8 0), (.int .u8 0), (.int .u8 0), (.int .u8 0), (.int .u8 0), (.int .u8 0), (.int .u8 0), (.int .u8 0), (.int .u8 0), (.int .u8 0), (.int .u8 0)] [(0, 1, (.t 10))])⟩,
     ⟨some 5, none, .op (.alloc [(.int .i64 0), (.int .u8 0), (.int .u8 0), (.int .u8 0), (.int .u8 0), (.int .u8 0), (.int .u8 0), (.int .u8 0), (.int .u8 0), (.int .u8 0), (.int .u8 0), (.int .u8 0), (.int .u8 0), (.int .u8 0), (.int .u8 0), (.int .u8 0), (.int .u8 0)])⟩,
     ⟨none, none, .op (.storeN 17 (.t 5) (.t 11))⟩]) (.seq (.seq (.region [⟨some 12, none, .op (.mov (.t 0))⟩,
      ⟨some 13, none, .call (.c (.fn 115 [] [])) [(.t 12)]⟩,
      ⟨some 14, none, .op (.bin .mul (.c (.int .i64 2)) (.t 13))⟩,
      ⟨some 15, none, .op (.mov (.c (.int .i64 0)))⟩]) (.block 0 (.loop a_i_Diagram_moved_l1))) a_i_Diagram_moved_k1))
theorem r_i_Diagram_moved : readF Try.prog 116 = some ⟨35, a_i_Diagram_moved, [.cellN 4 17]⟩ := by kernel_rfl
theorem c_moved_flip (N : Nat) (m : List Nat) (hm : okD m) (hs : isS N m = true) : Am.Fn Try.prog 116 [.ptr 0 0, .fn 117 [] [.ptr 1 0]] [.ro (dia N m), .ro [.int .i64 N]] (fun v H' => v = .agg (dia N (flipL N m)) ∧ H' = [.ro (dia N m), .ro [.int .i64 N]]) := by
  refine Am.Fn.sameB (R := fun v => v = _) B40_ok mixed r_i_Diagram_moved (by simp [AV.unders, AV.under]) (ro_under2 (scals_dia _ _) rfl) ?_
  obtain ⟨hN, hp, hz⟩ := isS_mate hs
  have hml := hm.1
  have h2 : wrapK .i64 (2 * (N : Int)) = ((2 * N : Nat) : Int) := by rw [wrap64 (by omega) (by omega)]; rfl
  simp (maxSteps := 3000000) only [over4E, heapL, fillA, rd, wrt, wrl, AO.withl, a_i_Diagram_moved, B40_i_Diagram_n_I1, B40_i_flip_1_I1, g_flip1, g_n, dia_zero, dia_zero_len, dia_sized', dia_length, hml, dia_get0, ones_dia, over_dia okD_zero okD_zero, List.length_replicate, h2, dia_take1', Int.reduceEq, Int.reduceNe, Int.reduceBEq, Int.reduceBNe, Int.reduceLT, Int.reduceLE, Int.reduceAdd, Int.reduceSub, Int.reduceMul, idX_eq, wbE, ↓symP, symE, listE, AK.isCall, enumE, ev, putE, abin, aun, AV.cells, ↓reduceIte, reduceCtorEq, Nat.reduceAdd, Nat.reduceMul, Nat.reduceSub, Nat.reduceEqDiff, Nat.reduceLT, Nat.reduceLeDiff, implies_true, Back, retv, retV, AV.scal, AV.scals]; try simp only [idX_eq, ite_both, pickP_both, not_not_eq, Bool.not_eq_false, Bool.not_eq_true]
  refine WA.loopB B40_ok (fun s => ∃ i : Nat, i ≤ 2 * N ∧ s = ⟨[(15, .int .i64 i), (14, .int .i64 (2 * N : Nat)), (5, .ptr 3 0), (4, .ptr 2 0), (1, .fn 117 [] [.ptr 1 0]), (0, .ptr 0 0)], [.ro (dia N m), .ro [.int .i64 N], .cells (dia 0 (List.replicate 16 0)), .cells (dia N (flipK N m i))]⟩)
    (fun s => match get s.env 15 with | .int _ x => 2 * N - x.toNat | _ => 0) ⟨_, Weak.slots [15, 14, 5, 4, 1, 0], 0, by omega, rfl⟩ ?_
  rintro s ⟨i, hi, rfl⟩
  have hw : wrapK .i64 ((i : Int) + 1) = ((i + 1 : Nat) : Int) := by rw [wrap64 (by omega) (by omega)]; rfl
  have hk16 : (flipK N m i).length = 16 := putAll_length _ _ _ _
  by_cases hlt : i < 2 * N
  · have hli : (i : Int) < ((2 * N : Nat) : Int) := by omega
    have hb := isS_byte hs hlt
    obtain ⟨a1, a2, a3, a4, a5⟩ := fl_facts hN.2 hN.1 hlt
    obtain ⟨b1, b2, b3, b4, b5⟩ := fl_facts hN.2 hN.1 hb
    have hi16 : (0 : Int) ≤ i ∧ (i : Int) < ((16 : Nat) : Int) := by omega
    have hi16' : i < 16 := by omega
    have hin : i < m.length := by omega
    have hcv : wrapK .i64 ((m.getD i 0 : Nat) : Int) = ((m.getD i 0 : Nat) : Int) := wrap64N (by omega)
    have hnext : flipK N m (i + 1) = (flipK N m i).set (fl N i) (fl N (m.getD i 0)) := rfl
    have c1 : (1 : Int) ≤ N ∧ (N : Int) ≤ 8 := by omega
    have c2 : (0 : Int) ≤ i ∧ (i : Int) < 2 * N := by omega
    have c3 : (0 : Int) ≤ (m.getD i 0 : Nat) ∧ ((m.getD i 0 : Nat) : Int) < 2 * N := by omega
    simp (maxSteps := 3000000) only [over4E, heapL, fillA, rd, wrt, wrl, AO.withl, a_i_Diagram_moved_l1, B40_i_Diagram_n_I1, B40_i_flip_1_I1, g_flip1, g_n, hw, hli, a1, a2, a3, a4, a5, b1, b2, b3, b4, c1, c2, c3, hi16, hi16', AV.one, hcv, dia_get hin, dia_length, hml, hk16, dia_set, Int.reduceEq, Int.reduceNe, Int.reduceBEq, Int.reduceBNe, Int.reduceLT, Int.reduceLE, Int.reduceAdd, Int.reduceSub, Int.reduceMul, idX_eq, wbE, ↓symP, symE, listE, AK.isCall, enumE, ev, putE, abin, aun, AV.cells, ↓reduceIte, reduceCtorEq, Nat.reduceAdd, Nat.reduceMul, Nat.reduceSub, Nat.reduceEqDiff, Nat.reduceLT, Nat.reduceLeDiff, implies_true, Back, retv, retV, AV.scal, AV.scals]; try simp only [idX_eq, ite_both, pickP_both, not_not_eq, Bool.not_eq_false, Bool.not_eq_true]
    refine ⟨⟨_, rfl⟩, ⟨_, rfl⟩, _, Weak.slots [15, 14, 5, 4, 1, 0], ⟨i + 1, by omega, ?_⟩, ?_⟩
    · simp only [keptL, keptW, keptE, kepts, slots, ↓reduceIte, reduceCtorEq, Nat.reduceEqDiff, AV.ren, AV.rens, pos, Nat.reduceAdd]; rw [hnext]
    · simp only [keptL, keptW, keptE, kepts, slots, ↓reduceIte, reduceCtorEq, Nat.reduceEqDiff, AV.ren, AV.rens, pos, Nat.reduceAdd]; omega
  · have hli : ¬ ((i : Int) < ((2 * N : Nat) : Int)) := by omega
    obtain rfl : i = 2 * N := by omega
    simp (maxSteps := 3000000) only [over4E, heapL, fillA, rd, wrt, wrl, AO.withl, a_i_Diagram_moved_l1, a_i_Diagram_moved_k1, B40_i_Diagram_n_I1, B40_i_flip_1_I1, g_flip1, g_n, h2, hli, dia_length, hk16, dia_take17 hk16, over_dia okD_zero hk16, ones_dia, List.length_replicate, Int.lt_irrefl, Int.reduceEq, Int.reduceNe, Int.reduceBEq, Int.reduceBNe, Int.reduceLT, Int.reduceLE, Int.reduceAdd, Int.reduceSub, Int.reduceMul, idX_eq, wbE, ↓symP, symE, listE, AK.isCall, enumE, ev, putE, abin, aun, AV.cells, ↓reduceIte, reduceCtorEq, Nat.reduceAdd, Nat.reduceMul, Nat.reduceSub, Nat.reduceEqDiff, Nat.reduceLT, Nat.reduceLeDiff, implies_true, Back, retv, retV, AV.scal, AV.scals]; try simp only [idX_eq, ite_both, pickP_both, not_not_eq, Bool.not_eq_false, Bool.not_eq_true]
    exact ⟨⟨_, rfl⟩, scals_dia _ _, rfl⟩
def g_movedF : BE := fun hp xs => match xs with
  | [.ptr b 0, .fn 117 [] [.ptr b' 0]] => match rd hp b, rd hp b' with
    | some L, some (.int .i64 n' :: _) => match diaOf (L.take 17) with
      | some (n, m) => chk (n' = n ∧ isS n.toNat m = true ∧ 0 ≤ n) (some (.agg (dia n (flipL n.toNat m)), hp))
      | none => none
    | _, _ => none
  | _ => none
theorem k_movedF : Am.Callee Try.prog 116 g_movedF := Callee.fp fun hp xs v hp' he => by
  unfold g_movedF at he
  split at he
  · rename_i b b'
    split at he
    · rename_i L n' L' hL hL'
      split at he
      · rename_i n m hd
        obtain ⟨⟨h1, h2, h3⟩, he⟩ := chk_some he
        simp only [Option.some.injEq, Prod.mk.injEq] at he
        obtain ⟨rfl, rfl⟩ := he
        obtain ⟨e1, hm⟩ := diaOf_some hd
        subst h1
        obtain ⟨N, rfl⟩ : ∃ N : Nat, n' = N := ⟨n'.toNat, by omega⟩
        rw [Int.toNat_natCast] at h2 ⊢
        have hlen : (dia (N : Int) m).length = 17 := by rw [dia_length, hm.1]
        have hLl : 17 ≤ L.length := by
          have := congrArg List.length e1
          rw [hlen, List.length_take] at this
          omega
        refine ⟨[(b, 0), (b', 0)], [.ptr 0 0, .fn 117 [] [.ptr 1 0]], _, _, _, c_moved_flip N m hm h2, by simp [AV.ren, AV.rens, ofL], rfl, ⟨⟨L, hL, by rw [hlen]; omega, by rw [List.drop_zero, rens_scal _ _ (scals_dia _ _), hlen]; exact e1⟩, ⟨_, hL', by simp, by simp [AV.rens, AV.ren]⟩, trivial⟩, rfl, ⟨unders_scal _ _ (scals_dia _ _), ⟨trivial, trivial⟩, trivial⟩, ⟨by simp [AV.under], ⟨trivial, by simp [AV.under], trivial⟩, trivial⟩, by simp [AV.ren, rens_scal _ _ (scals_dia _ _)], ?_⟩
        simp [after, upd, AO.wr, AO.ren, AV.rens, AV.ren]
      · cases he
    · cases he
  · cases he
def B41 : Book := (B40.put 116 (g_movedF))
theorem B41_ok : BookOk Try.prog B41 := (B40_ok.put (k_movedF))
theorem B41_i_Diagram_n_I1 : B41 115 = some (readE 1 g_n) := rfl
theorem B41_i_flip_1_I1 : B41 117 = some (g_flip1) := rfl
theorem B41_i_Diagram_moved_I1 : B41 116 = some (g_movedF) := rfl


def a_i_flip : AC := .seq (.region [⟨some 1, none, .op (.box (.t 0))⟩,
     ⟨some 2, none, .op (.alloc [(.int .i64 0), (.int .u8 0), (.int .u8 0), (.int .u8 0), (.int .u8 0), (.int .u8 0), (.int .u8 0), (.int .u8 0), (.int .u8 0), (.int .u8 0), (.int .u8 0), (.int .u8 0), (.int .u8 0), (.int .u8 0), (.int .u8 0), (.int .u8 0), (.int .u8 0)])⟩]) (.seq (.region [⟨some 4, none, .call (.c (.fn 115 [] [])) [(.t 1)]⟩,
     ⟨some 3, none, .op (.alloc [(.int .i64 0)])⟩,
     ⟨none, none, .op (.store1 (.t 3) (.t 4))⟩]) (.seq (.region [⟨some 5, none, .op (.mkfn 117 [] [(.t 3)])⟩,
     ⟨some 6, none, .call (.c (.fn 116 [] [])) [(.t 1), (.t 5)]⟩,
     ⟨none, none, .op (.storeN 17 (.t 2) (.t 6))⟩]) .ret))
theorem r_i_flip : readF Try.prog 75 = some ⟨7, a_i_flip, [.cellN 2 17]⟩ := by kernel_rfl
theorem c_i_flip (N : Nat) (m : List Nat) (hm : okD m) (hs : isS N m = true) : Am.Fn Try.prog 75 [.agg (dia N m)] [] (fun v H' => v = .agg (dia N (flipL N m)) ∧ H' = []) := by
  refine Am.Fn.sameB (R := fun v => v = _) B41_ok mixed r_i_flip (by simp) (by simp) ?_
  have hml := hm.1
  have hfl : (flipL N m).length = 16 := (flip_isS hs).2.1
  have h0 : (0 : Int) ≤ N := by omega
  simp (maxSteps := 3000000) only [over4E, heapL, fillA, rd, wrt, wrl, AO.withl, a_i_flip, B41_i_Diagram_n_I1, B41_i_flip_1_I1, B41_i_Diagram_moved_I1, g_flip1, g_movedF, g_n, dia_zero, dia_zero_len, dia_length, hml, hfl, dia_take17 hml, dia_take17 hfl, dia_take1', diaOf_dia hm, hs, h0, ones_dia, over_dia0 hfl, List.length_replicate, Int.reduceEq, Int.reduceNe, Int.reduceBEq, Int.reduceBNe, Int.reduceLT, Int.reduceLE, Int.reduceAdd, Int.reduceSub, Int.reduceMul, idX_eq, wbE, ↓symP, symE, listE, AK.isCall, enumE, ev, putE, abin, aun, AV.cells, ↓reduceIte, reduceCtorEq, Nat.reduceAdd, Nat.reduceMul, Nat.reduceSub, Nat.reduceEqDiff, Nat.reduceLT, Nat.reduceLeDiff, implies_true, Back, retv, retV, AV.scal, AV.scals]; try simp only [idX_eq, ite_both, pickP_both, not_not_eq, Bool.not_eq_false, Bool.not_eq_true]
  exact ⟨rfl, ⟨rfl, rfl⟩, scals_dia _ _⟩
def B42 : Book := (B41.put 75 (plainE g_flip))
theorem B42_ok : BookOk Try.prog B42 := (B41_ok.put (k_flip_of c_i_flip))
theorem B42_i_Diagram_n_I1 : B42 115 = some (readE 1 g_n) := rfl
theorem B42_i_flip_1_I1 : B42 117 = some (g_flip1) := rfl
theorem B42_i_Diagram_moved_I1 : B42 116 = some (g_movedF) := rfl
theorem B42_i_flip_I1 : B42 75 = some (plainE g_flip) := rfl


def a_i_FlipElement_1 : AC := .seq (.region [⟨some 1, none, .op (.box (.t 0))⟩,
     ⟨some 2, none, .op (.alloc [(.int .i64 0), (.int .u8 0), (.int .u8 0), (.int .u8 0), (.int .u8 0), (.int .u8 0), (.int .u8 0), (.int .u8 0), (.int .u8 0), (.int .u8 0), (.int .u8 0), (.int .u8 0), (.int .u8 0), (.int .u8 0), (.int .u8 0), (.int .u8 0), (.int .u8 0)])⟩,
     ⟨some 3, none, .op (.mov (.c (.int .i64 0)))⟩]) (.seq (.region [⟨some 4, none, .op (.loadN 17 (.t 1))⟩,
     ⟨some 5, none, .call (.c (.fn 75 [] [])) [(.t 4)]⟩,
     ⟨none, none, .op (.storeN 17 (.t 2) (.t 5))⟩,
     ⟨some 3, none, .op (.mov (.c (.int .i64 1)))⟩]) .ret)
theorem r_i_FlipElement_1 : readF Try.prog 74 = some ⟨6, a_i_FlipElement_1, [.cellN 2 17, .slot 3]⟩ := by kernel_rfl
theorem c_i_FlipElement_1 (N : Nat) (m : List Nat) (hm : okD m) (hs : isS N m = true) : Am.Fn Try.prog 74 [.agg (dia N m)] [] (fun v H' => v = .tup [.agg (dia N (flipL N m)), .int .i64 1] ∧ H' = []) := by
  refine Am.Fn.sameB (R := fun v => v = _) B42_ok mixed r_i_FlipElement_1 (by simp) (by simp) ?_
  have hml := hm.1
  have hfl : (flipL N m).length = 16 := (flip_isS hs).2.1
  have h0 : (0 : Int) ≤ N := by omega
  simp (maxSteps := 3000000) only [over4E, heapL, fillA, rd, wrt, wrl, AO.withl, a_i_FlipElement_1, B42_i_Diagram_n_I1, B42_i_flip_1_I1, B42_i_Diagram_moved_I1, B42_i_flip_I1, g_flip, g_flip1, g_movedF, g_n, dia_zero, dia_zero_len, dia_length, hml, hfl, dia_take17 hml, dia_take17 hfl, diaOf_dia hm, hs, h0, ones_dia, over_dia0 hfl, scals_dia, List.length_replicate, Int.reduceEq, Int.reduceNe, Int.reduceBEq, Int.reduceBNe, Int.reduceLT, Int.reduceLE, Int.reduceAdd, Int.reduceSub, Int.reduceMul, idX_eq, wbE, ↓symP, symE, listE, AK.isCall, enumE, ev, putE, abin, aun, AV.cells, ↓reduceIte, reduceCtorEq, Nat.reduceAdd, Nat.reduceMul, Nat.reduceSub, Nat.reduceEqDiff, Nat.reduceLT, Nat.reduceLeDiff, implies_true, Back, retv, retV, AV.scal, AV.scals]; try simp only [idX_eq, ite_both, pickP_both, not_not_eq, Bool.not_eq_false, Bool.not_eq_true]
def g_FlipElement1 : List AV → Option AV
  | [.agg l] => match diaOf l with
    | some (n, m) => chk (isS n.toNat m = true ∧ 0 ≤ n) (some (.tup [.agg (dia n (flipL n.toNat m)), .int .i64 1]))
    | none => none
  | _ => none
theorem k_FlipElement1 : Am.Callee Try.prog 74 (plainE g_FlipElement1) := Am.Callee.plain fun xs v he => by
  unfold g_FlipElement1 at he
  split at he
  · rename_i l
    split at he
    · rename_i n m hd
      obtain ⟨⟨h1, h2⟩, he⟩ := chk_some he
      cases he
      obtain ⟨rfl, hm⟩ := diaOf_some hd
      obtain ⟨N, rfl⟩ : ∃ N : Nat, n = N := ⟨n.toNat, by omega⟩
      rw [Int.toNat_natCast] at h1 ⊢
      exact ⟨by simp only [AV.scals, AV.scal, scals_dia, Bool.and_self], by simp only [AV.scal, AV.scals, scals_dia, Bool.and_self], c_i_FlipElement_1 N m hm h1⟩
    · cases he
  · cases he
def B43 : Book := (B42.put 74 (plainE g_FlipElement1))
theorem B43_ok : BookOk Try.prog B43 := (B42_ok.put (k_FlipElement1))

end Go.Proofs.Ytkgoadglalpbfaa
