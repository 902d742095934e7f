/- Contracts: units, unions with the unit of one line, and diagrams with a line more. -/
import Derived.Test.YtkgoadglalpbfaaI3
namespace Go.Proofs.Ytkgoadglalpbfaa
open Go.Am Go.Dia
set_option linter.unusedSimpArgs false
set_option linter.unusedVariables false
set_option maxRecDepth 4000
set_option maxHeartbeats 1000000

theorem small16 {x : Nat} (h : x < 16) : ((0 : Int) ≤ (x : Int) ∧ (x : Int) < ((16 : Nat) : Int)) ∧ 1 + x < 17 := by omega

def a_i_Diagram_join : AC := .draw false [⟨some 6, none, .op (.mov (.t 0))⟩,
    ⟨some 7, none, .op (.mov (.t 1))⟩,
    ⟨some 8, none, .op (.mov (.t 0))⟩,
    ⟨some 9, none, .op (.mov (.t 2))⟩,
    ⟨some 10, none, .op (.mov (.t 2))⟩,
    ⟨some 11, none, .op (.conv .u8 (.t 10))⟩,
    ⟨some 12, none, .op (.mov (.t 1))⟩,
    ⟨some 13, none, .op (.conv .u8 (.t 12))⟩,
    ⟨some 14, none, .op (.nilchk (.t 6))⟩,
    ⟨some 15, none, .op (.faddr 1 (.t 14))⟩,
    ⟨some 16, none, .op (.iaddrA 16 1 (.t 15) (.t 7))⟩,
    ⟨some 17, none, .op (.nilchk (.t 8))⟩,
    ⟨some 18, none, .op (.faddr 1 (.t 17))⟩,
    ⟨none, none, .op (.store1 (.t 16) (.t 11))⟩,
    ⟨some 19, none, .op (.iaddrA 16 1 (.t 18) (.t 9))⟩,
    ⟨none, none, .op (.store1 (.t 19) (.t 13))⟩]
theorem r_i_Diagram_join : readF Try.prog 142 = some ⟨20, a_i_Diagram_join, []⟩ := by kernel_rfl
theorem c_join (n : Int) (m : List Nat) (i k : Nat) (hm : m.length = 16) (hi : i < 16) (hk : k < 16) :
    Am.Fn Try.prog 142 [.ptr 0 0, .int .i64 i, .int .i64 k] [.cells (dia n m)] (fun v H' => v = .tup [] ∧ H' = [.cells (dia n ((m.set i k).set k i))]) := by
  refine Am.Fn.ofB B45_ok mixed r_i_Diagram_join (by simp [AV.unders, AV.under]) (fun j o hj => by
    match j, hj with
    | 0, hj => cases hj; exact unders_scal _ _ (scals_dia _ _)
    | j + 1, hj => simp at hj) ?_
  obtain ⟨a1, a2⟩ := small16 hi
  obtain ⟨b1, b2⟩ := small16 hk
  have hu1 : wrapK .u8 (i : Int) = i := wrapU8 (by omega)
  have hu2 : wrapK .u8 (k : Int) = k := wrapU8 (by omega)
  simp (maxSteps := 3000000) only [over4E, heapL, fillA, rd, wrt, wrl, AO.withl, a_i_Diagram_join, dia_length, hm, List.length_set, a1, a2, b1, b2, hu1, hu2, dia_set, AV.one, Int.reduceEq, Int.reduceNe, Int.reduceBEq, Int.reduceBNe, Int.reduceLT, Int.reduceLE, Int.reduceAdd, Int.reduceSub, Int.reduceMul, idX_eq, wbE, ↓symP, symE, listE, AK.isCall, enumE, ev, putE, abin, aun, AV.cells, ↓reduceIte, reduceCtorEq, Nat.reduceAdd, Nat.reduceMul, Nat.reduceSub, Nat.reduceEqDiff, Nat.reduceLT, Nat.reduceLeDiff, implies_true, Back, retv, retV, AV.scal, AV.scals]; try simp only [idX_eq, ite_both, pickP_both, not_not_eq, Bool.not_eq_false, Bool.not_eq_true]
  refine Ret.keep [0] ⟨⟨by simp, rfl, by decide⟩, ?_⟩ (rs := []) rfl rfl (by simp [retV]) ?_ ⟨?_, ?_⟩
  · simp only [keepW, keepL, AV.within, AV.withins, ↓reduceIte, reduceCtorEq, Nat.reduceEqDiff, Nat.reduceBEq, implies_true, Nat.reduceAdd]
  · intro j l; match j with
    | 0 => simp [kepts, AO.ren]
    | j + 1 => simp [kepts]
  · rfl
  · simp only [keptL, keptW, keptE, kepts, slots, ↓reduceIte, reduceCtorEq, Nat.reduceEqDiff, AV.ren, AV.rens, pos, Nat.reduceAdd]
def g_join : BE := fun hp xs => match xs with
  | [.ptr b 0, .int .i64 i, .int .i64 k] => match hp[b]? with
    | some (.cells l) => match diaOf l with
      | some (n, m) => chk ((0 ≤ i ∧ i < 16) ∧ (0 ≤ k ∧ k < 16)) (some (.tup [], hp.set b (.cells (dia n ((m.set i.toNat k.toNat).set k.toNat i.toNat)))))
      | none => none
    | _ => none
  | _ => none
theorem k_join : Am.Callee Try.prog 142 g_join := Callee.fp fun hp xs v hp' he => by
  unfold g_join at he
  split at he
  · rename_i b i k
    split at he
    · rename_i l hb
      split at he
      · rename_i n m hd
        obtain ⟨⟨h1, h2⟩, he⟩ := chk_some he
        simp only [Option.some.injEq, Prod.mk.injEq] at he
        obtain ⟨rfl, rfl⟩ := he
        obtain ⟨rfl, hm⟩ := diaOf_some hd
        obtain ⟨i, rfl⟩ : ∃ j : Nat, i = j := ⟨i.toNat, by omega⟩
        obtain ⟨k, rfl⟩ : ∃ j : Nat, k = j := ⟨k.toNat, by omega⟩
        simp only [Int.toNat_natCast]
        refine ⟨[(b, 0)], [.ptr 0 0, .int .i64 i, .int .i64 k], _, _, _, c_join n m i k hm.1 (by omega) (by omega), by simp [AV.ren, AV.rens, ofL], rfl, ⟨⟨rfl, by simp only [AO.ren, rens_scal _ _ (scals_dia _ _)]; exact hb⟩, trivial⟩, rfl, ⟨unders_scal _ _ (scals_dia _ _), trivial⟩, ⟨by simp [AV.under], trivial, trivial, trivial⟩, by simp [AV.ren, AV.rens], ?_⟩
        simp [after, upd, AO.wr, AO.ren, rens_scal _ _ (scals_dia _ _)]
      · cases he
    · cases he
  · cases he
def B46 : Book := (B45.put 142 (g_join))
theorem B46_ok : BookOk Try.prog B46 := (B45_ok.put (k_join))
theorem B46_i_Diagram_join_I4 : B46 142 = some (g_join) := rfl


def unitK (n : Nat) : Nat → List Nat
  | 0 => List.replicate 16 0
  | k + 1 => ((unitK n k).set k (n + k)).set (n + k) k
def unitL (n : Nat) : List Nat := unitK n n
theorem unitK_length (n : Nat) : ∀ k, (unitK n k).length = 16
  | 0 => by simp [unitK]
  | k + 1 => by simp [unitK, unitK_length n k]
theorem unitK_lt {n : Nat} (hn : n ≤ 8) : ∀ k, k ≤ n → ∀ x ∈ unitK n k, x < 16
  | 0, _, x, hx => by rw [(List.mem_replicate.1 hx).2]; omega
  | k + 1, hk, x, hx => by
    unfold unitK at hx
    rcases List.mem_or_eq_of_mem_set hx with hx | rfl
    · rcases List.mem_or_eq_of_mem_set hx with hx | rfl
      · exact unitK_lt hn k (by omega) x hx
      · omega
    · omega
theorem unitK_ok {n : Nat} (hn : n ≤ 8) {k : Nat} (hk : k ≤ n) : okD (unitK n k) := ⟨unitK_length n k, fun x hx => by have := unitK_lt hn k hk x hx; omega⟩
def a_i_unit_l1 : AC := .seq (.region [⟨some 9, none, .op (.bin .lss (.t 8) (.t 7))⟩]) (.seq (.cond 9 .skip (.exit 0)) (.seq (.block 1 (.seq (.region [⟨some 10, none, .op (.mov (.t 8))⟩,
          ⟨some 4, none, .op (.mov (.t 10))⟩]) (.region [⟨some 11, none, .op (.mov (.t 4))⟩,
         ⟨some 12, none, .op (.mov (.t 0))⟩,
         ⟨some 13, none, .op (.mov (.t 4))⟩,
         ⟨some 14, none, .op (.bin .add (.t 12) (.t 13))⟩,
         ⟨some 15, none, .call (.c (.fn 142 [] [])) [(.t 3), (.t 11), (.t 14)]⟩]))) (.region [⟨some 16, none, .op (.bin .add (.t 8) (.c (.int .i64 1)))⟩,
       ⟨some 8, none, .op (.mov (.t 16))⟩])))
def a_i_unit_k1 : AC := .seq (.region [⟨some 17, none, .op (.loadN 17 (.t 3))⟩,
     ⟨none, none, .op (.storeN 17 (.t 2) (.t 17))⟩]) .ret
def a_i_unit : AC := .seq (.region [⟨some 2, none, .op (.alloc [(.int .i64 0), (.int .u8 0), (.int .u8 0), (.int .u8 0), (.int .u8 0), (.int .u8 0), (.int .u8 0), (.int .u8 0), (.int .u8 0), (.int .u8 0), (.int .u8 0), (.int .u8 0), (.int .u8 0), (.int .u8 0), (.int .u8 0), (.int .u8 0), (.int .u8 0)])⟩]) (.seq (.region [⟨some 5, none, .op (.mov (.t 0))⟩,
     ⟨some 6, none, .op (.build [(.int .i64 0), (.int .u8 0), (.int .u8 0), (.int .u8 0), (.int .u8 0), (.int .u8 0), (.int .u8 0), (.int .u8 0), (.int .u8 0), (.int .u8 0), (.int .u8 0), (.int .u8 0), (.int .u8 0), (.int .u8 0), (.int .u8 0), (.int .u8 0), (.int .u8 0)] [(0, 1, (.t 5))])⟩,
     ⟨some 3, none, .op (.alloc [(.int .i64 0), (.int .u8 0), (.int .u8 0), (.int .u8 0), (.int .u8 0), (.int .u8 0), (.int .u8 0), (.int .u8 0), (.int .u8 0), (.int .u8 0), (.int .u8 0), (.int .u8 0), (.int .u8 0), (.int .u8 0), (.int .u8 0), (.int .u8 0), (.int .u8 0)])⟩,
     ⟨none, none, .op (.storeN 17 (.t 3) (.t 6))⟩]) (.seq (.seq (.region [⟨some 7, none, .op (.mov (.t 0))⟩,
      ⟨some 8, none, .op (.mov (.c (.int .i64 0)))⟩]) (.block 0 (.loop a_i_unit_l1))) a_i_unit_k1))
theorem r_i_unit : readF Try.prog 121 = some ⟨18, a_i_unit, [.cellN 2 17]⟩ := by kernel_rfl
theorem c_unit (n : Nat) (hn : n ≤ 8) : Am.Fn Try.prog 121 [.int .i64 n] [] (fun v H' => v = .agg (dia n (unitL n)) ∧ H' = []) := by
  refine Am.Fn.sameB (R := fun v => v = _) B46_ok mixed r_i_unit (by simp) (by simp) ?_
  simp (maxSteps := 3000000) only [over4E, heapL, fillA, rd, wrt, wrl, AO.withl, a_i_unit, B46_i_Diagram_join_I4, g_join, dia_zero, dia_zero_len, dia_sized', dia_length, ones_dia, over_dia okD_zero okD_zero, List.length_replicate, Int.reduceEq, Int.reduceNe, Int.reduceBEq, Int.reduceBNe, Int.reduceLT, Int.reduceLE, Int.reduceAdd, Int.reduceSub, Int.reduceMul, idX_eq, wbE, ↓symP, symE, listE, AK.isCall, enumE, ev, putE, abin, aun, AV.cells, ↓reduceIte, reduceCtorEq, Nat.reduceAdd, Nat.reduceMul, Nat.reduceSub, Nat.reduceEqDiff, Nat.reduceLT, Nat.reduceLeDiff, implies_true, Back, retv, retV, AV.scal, AV.scals]; try simp only [idX_eq, ite_both, pickP_both, not_not_eq, Bool.not_eq_false, Bool.not_eq_true]
  refine WA.loopB B46_ok (fun s => ∃ i : Nat, i ≤ n ∧ s = ⟨[(8, .int .i64 i), (7, .int .i64 n), (3, .ptr 1 0), (2, .ptr 0 0), (0, .int .i64 n)], [.cells (dia 0 (List.replicate 16 0)), .cells (dia n (unitK n i))]⟩)
    (fun s => match get s.env 8 with | .int _ x => n - x.toNat | _ => 0) ⟨_, Weak.slots [8, 7, 3, 2, 0], 0, by omega, rfl⟩ ?_
  rintro s ⟨i, hi, rfl⟩
  have hw : wrapK .i64 ((i : Int) + 1) = ((i + 1 : Nat) : Int) := by rw [wrap64 (by omega) (by omega)]; rfl
  have hok := unitK_ok hn hi
  by_cases hlt : i < n
  · have hli : (i : Int) < (n : Int) := by omega
    have h2 : wrapK .i64 ((n : Int) + i) = ((n + i : Nat) : Int) := by rw [wrap64 (by omega) (by omega)]; rfl
    have c1 : (0 : Int) ≤ i ∧ (i : Int) < 16 := by omega
    have c2 : (0 : Int) ≤ (n + i : Nat) ∧ ((n + i : Nat) : Int) < 16 := by omega
    have hnext : unitK n (i + 1) = ((unitK n i).set i (n + i)).set (n + i) i := rfl
    simp (maxSteps := 3000000) only [over4E, heapL, fillA, rd, wrt, wrl, AO.withl, a_i_unit_l1, B46_i_Diagram_join_I4, g_join, hli, hw, h2, diaOf_dia hok, c1, c2, Int.reduceEq, Int.reduceNe, Int.reduceBEq, Int.reduceBNe, Int.reduceLT, Int.reduceLE, Int.reduceAdd, Int.reduceSub, Int.reduceMul, idX_eq, wbE, ↓symP, symE, listE, AK.isCall, enumE, ev, putE, abin, aun, AV.cells, ↓reduceIte, reduceCtorEq, Nat.reduceAdd, Nat.reduceMul, Nat.reduceSub, Nat.reduceEqDiff, Nat.reduceLT, Nat.reduceLeDiff, implies_true, Back, retv, retV, AV.scal, AV.scals]; try simp only [idX_eq, ite_both, pickP_both, not_not_eq, Bool.not_eq_false, Bool.not_eq_true]
    refine ⟨_, Weak.slots [8, 7, 3, 2, 0], ⟨i + 1, by omega, ?_⟩, ?_⟩
    · simp only [keptL, keptW, keptE, kepts, slots, ↓reduceIte, reduceCtorEq, Nat.reduceEqDiff, AV.ren, AV.rens, pos, Nat.reduceAdd]; rw [hnext]
    · simp only [keptL, keptW, keptE, kepts, slots, ↓reduceIte, reduceCtorEq, Nat.reduceEqDiff, AV.ren, AV.rens, pos, Nat.reduceAdd]; omega
  · have hli : ¬ ((i : Int) < (n : Int)) := by omega
    obtain rfl : i = n := by omega
    simp (maxSteps := 3000000) only [over4E, heapL, fillA, rd, wrt, wrl, AO.withl, a_i_unit_l1, a_i_unit_k1, B46_i_Diagram_join_I4, g_join, hli, dia_length, hok.1, dia_take17 hok.1, over_dia okD_zero hok.1, ones_dia, List.length_replicate, Int.lt_irrefl, Int.reduceEq, Int.reduceNe, Int.reduceBEq, Int.reduceBNe, Int.reduceLT, Int.reduceLE, Int.reduceAdd, Int.reduceSub, Int.reduceMul, idX_eq, wbE, ↓symP, symE, listE, AK.isCall, enumE, ev, putE, abin, aun, AV.cells, ↓reduceIte, reduceCtorEq, Nat.reduceAdd, Nat.reduceMul, Nat.reduceSub, Nat.reduceEqDiff, Nat.reduceLT, Nat.reduceLeDiff, implies_true, Back, retv, retV, AV.scal, AV.scals]; try simp only [idX_eq, ite_both, pickP_both, not_not_eq, Bool.not_eq_false, Bool.not_eq_true]
    exact ⟨scals_dia _ _, rfl⟩
def g_unit : List AV → Option AV
  | [.int .i64 n] => chk (0 ≤ n ∧ n ≤ 8) (some (.agg (dia n (unitL n.toNat))))
  | _ => none
theorem k_unit_of {f : FuncId} (h : ∀ n : Nat, n ≤ 8 → Am.Fn Try.prog f [.int .i64 n] [] (fun v H' => v = .agg (dia n (unitL n)) ∧ H' = [])) : Am.Callee Try.prog f (plainE g_unit) := Am.Callee.plain fun xs v he => by
  unfold g_unit at he
  split at he
  · rename_i n
    obtain ⟨h1, he⟩ := chk_some he
    cases he
    obtain ⟨N, rfl⟩ : ∃ N : Nat, n = N := ⟨n.toNat, by omega⟩
    rw [Int.toNat_natCast]
    exact ⟨rfl, by simp only [AV.scal, scals_dia], h N (by omega)⟩
  · cases he
def B46u : Book := (B46.put 121 (plainE g_unit))
theorem B46u_ok : BookOk Try.prog B46u := (B46_ok.put (k_unit_of c_unit))

end Go.Proofs.Ytkgoadglalpbfaa
