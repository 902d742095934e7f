/- Contracts: along the lines of two diagrams, the implementation. -/
import Derived.Test.YtkgoadglalpbfaaL2
namespace Go.Proofs.Ytkgoadglalpbfaa
open Go.Am Go.Dia
set_option linter.unusedSimpArgs false
set_option linter.unusedVariables false
set_option maxRecDepth 4000
set_option maxHeartbeats 1000000


def a_i_times_1 : AC := .skip
theorem r_i_times_1 : readF Try.prog 145 = some ⟨4, a_i_times_1, []⟩ := by kernel_rfl
theorem c_i_times_1 (b : Bool) (i : Int) : Am.Fn Try.prog 145 [.bool b, .int .i64 i] [] (fun v H' => v = .tup [] ∧ H' = []) := by
  refine Am.Fn.sameB (R := fun v => v = _) B81_ok mixed r_i_times_1 (by simp) (by simp) ?_
  simp (maxSteps := 3000000) only [over4E, heapL, fillA, rd, wrt, wrl, AO.withl, a_i_times_1, idX_eq, Int.reduceEq, Int.reduceNe, Int.reduceBEq, Int.reduceBNe, Int.reduceLT, Int.reduceLE, Int.reduceAdd, Int.reduceSub, Int.reduceMul, idX_eq, wbE, ↓symP, symE, listE, AK.isCall, enumE, ev, putE, abin, aun, AV.cells, ↓reduceIte, reduceCtorEq, Nat.reduceAdd, Nat.reduceMul, Nat.reduceSub, Nat.reduceEqDiff, Nat.reduceLT, Nat.reduceLeDiff, implies_true, Back, retv, retV, AV.scal, AV.scals]; try simp only [idX_eq, ite_both, pickP_both, not_not_eq, Bool.not_eq_false, Bool.not_eq_true]
def g_each : List AV → Option AV
  | [.bool _, .int .i64 _] => some (.tup [])
  | _ => none
theorem k_each : Am.Callee Try.prog 145 (plainE g_each) := Am.Callee.plain fun xs v he => by
  unfold g_each at he
  split at he
  · cases he; exact ⟨rfl, rfl, c_i_times_1 _ _⟩
  · cases he

def a_i_times_2 : AC := .region [⟨some 5, none, .op (.mov (.t 0))⟩,
    ⟨some 6, none, .op (.mov (.t 1))⟩,
    ⟨some 7, none, .op (.conv .u8 (.t 6))⟩,
    ⟨some 8, none, .op (.faddr 1 (.t 2))⟩,
    ⟨some 9, none, .op (.iaddrA 16 1 (.t 8) (.t 5))⟩,
    ⟨none, none, .op (.store1 (.t 9) (.t 7))⟩]
theorem r_i_times_2 : readF Try.prog 146 = some ⟨10, a_i_times_2, []⟩ := by kernel_rfl
theorem c_i_times_2 (n : Int) (m : List Nat) (hm : m.length = 16) (i v : Nat) (hi : i < 16) (hv : v < 256) : Am.Fn Try.prog 146 [.int .i64 i, .int .i64 v, .ptr 0 0] [.cells (dia n m)] (fun r H' => r = .tup [] ∧ H' = [.cells (dia n (m.set i v))]) := by
  refine Am.Fn.ofB B81_ok mixed r_i_times_2 (by simp [AV.unders, AV.under]) (fun j o hj => by
    match j, hj with
    | 0, hj => cases hj; exact unders_scal _ _ (scals_dia _ _)
    | j + 1, hj => simp at hj) ?_
  obtain ⟨c1, c2⟩ := small16 hi
  have c3 : i < 16 := hi
  have hw : wrapK .u8 (v : Int) = (v : Int) := wrapU8 hv
  simp (maxSteps := 3000000) only [over4E, heapL, fillA, rd, wrt, wrl, AO.withl, a_i_times_2, idX_eq, dia_length, hm, dia_set, c1, c2, c3, hw, AV.one, Int.reduceEq, Int.reduceNe, Int.reduceBEq, Int.reduceBNe, Int.reduceLT, Int.reduceLE, Int.reduceAdd, Int.reduceSub, Int.reduceMul, idX_eq, wbE, ↓symP, symE, listE, AK.isCall, enumE, ev, putE, abin, aun, AV.cells, ↓reduceIte, reduceCtorEq, Nat.reduceAdd, Nat.reduceMul, Nat.reduceSub, Nat.reduceEqDiff, Nat.reduceLT, Nat.reduceLeDiff, implies_true, Back, retv, retV, AV.scal, AV.scals]; try simp only [idX_eq, ite_both, pickP_both, not_not_eq, Bool.not_eq_false, Bool.not_eq_true]
  refine Ret.keep [0] ⟨⟨Nat.le_refl 1, rfl, by decide⟩, ?_⟩ (rs := []) rfl rfl (by simp [retV]) ?_ ⟨rfl, ?_⟩
  · simp only [withins_scal _ _ (scals_dia _ _), keepW, keepL, AV.within, AV.withins, ↓reduceIte, reduceCtorEq, Nat.reduceEqDiff, Nat.reduceBEq, implies_true, Nat.reduceAdd]
  · intro j l; cases j <;> simp [kepts, AO.ren]
  · simp only [rens_scal _ _ (scals_dia _ _), keptL, keptW, keptE, kepts, slots, ↓reduceIte, reduceCtorEq, Nat.reduceEqDiff, AV.ren, AV.rens, pos, Nat.reduceAdd]
def g_set : BE := fun hp xs => match xs with
  | [.int .i64 i, .int .i64 v, .ptr b 0] => match hp[b]? with
    | some (.cells l) => match diaOf l with
      | some (n, m) => chk ((0 ≤ i ∧ i < 16) ∧ 0 ≤ v ∧ v < 256) (some (.tup [], hp.set b (.cells (dia n (m.set i.toNat v.toNat)))))
      | none => none
    | _ => none
  | _ => none
theorem k_set : Am.Callee Try.prog 146 g_set := Callee.fp fun hp xs v hp' he => by
  unfold g_set at he
  split at he
  · rename_i i v b
    split at he
    · rename_i l hb
      split at he
      · rename_i n m hd1
        obtain ⟨⟨⟨a1, a2⟩, a3, a4⟩, he2⟩ := chk_some he
        simp only [Option.some.injEq, Prod.mk.injEq] at he2
        obtain ⟨rfl, rfl⟩ := he2
        obtain ⟨rfl, hd⟩ := diaOf_some hd1
        obtain ⟨k, rfl⟩ : ∃ k : Nat, i = k := ⟨i.toNat, by omega⟩
        obtain ⟨w, rfl⟩ : ∃ w : Nat, v = w := ⟨v.toNat, by omega⟩
        simp only [Int.toNat_natCast]
        refine ⟨[(b, 0)], [.int .i64 k, .int .i64 w, .ptr 0 0], _, _, _, c_i_times_2 n m hd.1 k w (by omega) (by omega), by simp [AV.ren, AV.rens, ofL], by simp [noTopB], ⟨⟨rfl, by simp only [AO.ren, rens_scal _ _ (scals_dia _ _)]; exact hb⟩, trivial⟩, rfl, ⟨unders_scal _ _ (scals_dia _ _), trivial⟩, ⟨trivial, trivial, by simp [AV.under], trivial⟩, by simp [AV.ren, AV.rens], ?_⟩
        simp [after, upd, AO.wr, AO.ren, rens_scal _ _ (scals_dia _ _)]
      · cases he
    · cases he
  · cases he

def a_i_times_3 : AC := .region [⟨some 1, none, .op (.load1 (.t 0))⟩,
    ⟨some 2, none, .op (.bin .add (.t 1) (.c (.int .i64 1)))⟩,
    ⟨none, none, .op (.store1 (.t 0) (.t 2))⟩]
theorem r_i_times_3 : readF Try.prog 147 = some ⟨3, a_i_times_3, []⟩ := by kernel_rfl
theorem c_i_times_3 (k : Nat) (hk : k ≤ 1000) : Am.Fn Try.prog 147 [.ptr 0 0] [.cells [.int .i64 k]] (fun r H' => r = .tup [] ∧ H' = [.cells [.int .i64 (k + 1 : Nat)]]) := by
  refine Am.Fn.ofB B81_ok mixed r_i_times_3 (by simp [AV.unders, AV.under]) (fun j o hj => by
    match j, hj with
    | 0, hj => cases hj; exact ⟨trivial, trivial⟩
    | j + 1, hj => simp at hj) ?_
  have hw : wrapK .i64 ((k : Int) + 1) = ((k + 1 : Nat) : Int) := by rw [wrap64 (by omega) (by omega)]; rfl
  simp (maxSteps := 3000000) only [over4E, heapL, fillA, rd, wrt, wrl, AO.withl, a_i_times_3, idX_eq, hw, AV.one, Int.reduceEq, Int.reduceNe, Int.reduceBEq, Int.reduceBNe, Int.reduceLT, Int.reduceLE, Int.reduceAdd, Int.reduceSub, Int.reduceMul, idX_eq, wbE, ↓symP, symE, listE, AK.isCall, enumE, ev, putE, abin, aun, AV.cells, ↓reduceIte, reduceCtorEq, Nat.reduceAdd, Nat.reduceMul, Nat.reduceSub, Nat.reduceEqDiff, Nat.reduceLT, Nat.reduceLeDiff, implies_true, Back, retv, retV, AV.scal, AV.scals]; try simp only [idX_eq, ite_both, pickP_both, not_not_eq, Bool.not_eq_false, Bool.not_eq_true]
  refine Ret.keep [0] ⟨⟨Nat.le_refl 1, rfl, by decide⟩, ?_⟩ (rs := []) rfl rfl (by simp [retV]) ?_ ⟨rfl, ?_⟩
  · simp only [withins_scal _ _ (scals_dia _ _), keepW, keepL, AV.within, AV.withins, ↓reduceIte, reduceCtorEq, Nat.reduceEqDiff, Nat.reduceBEq, implies_true, Nat.reduceAdd]
  · intro j l; cases j <;> simp [kepts, AO.ren]
  · simp only [rens_scal _ _ (scals_dia _ _), keptL, keptW, keptE, kepts, slots, ↓reduceIte, reduceCtorEq, Nat.reduceEqDiff, AV.ren, AV.rens, pos, Nat.reduceAdd]
def g_looped : BE := fun hp xs => match xs with
  | [.ptr b 0] => match hp[b]? with
    | some (.cells [.int .i64 k]) => chk (0 ≤ k ∧ k ≤ 1000) (some (.tup [], hp.set b (.cells [.int .i64 (k + 1)])))
    | _ => none
  | _ => none
theorem k_looped : Am.Callee Try.prog 147 g_looped := Callee.fp fun hp xs v hp' he => by
  unfold g_looped at he
  split at he
  · rename_i b
    split at he
    · rename_i k hb
      obtain ⟨⟨a1, a2⟩, he2⟩ := chk_some he
      simp only [Option.some.injEq, Prod.mk.injEq] at he2
      obtain ⟨rfl, rfl⟩ := he2
      obtain ⟨k', rfl⟩ : ∃ k' : Nat, k = k' := ⟨k.toNat, by omega⟩
      refine ⟨[(b, 0)], [.ptr 0 0], _, _, _, c_i_times_3 k' (by omega), by simp [AV.ren, AV.rens, ofL], by simp [noTopB], ⟨⟨rfl, by simp only [AO.ren, AV.rens, AV.ren]; exact hb⟩, trivial⟩, rfl, ⟨⟨trivial, trivial⟩, trivial⟩, ⟨by simp [AV.under], trivial⟩, by simp [AV.ren, AV.rens], ?_⟩
      simp [after, upd, AO.wr, AO.ren, AV.rens, AV.ren]
    · cases he
  · cases he
noncomputable def B82 : Book := (((B81.put 145 (plainE g_each)).put 146 (g_set)).put 147 (g_looped))

theorem B82_ok : BookOk Try.prog B82 := (((B81_ok.put (k_each)).put (k_set)).put (k_looped))

end Go.Proofs.Ytkgoadglalpbfaa
