/- Contracts: along the lines of two diagrams, the implementation. -/
import Derived.Test.YtkgoadglalpbfaaL2
namespace Go.Proofs.Ytkgoadglalpbfaa
open Go.Am Go.Dia
open Nat renaming reduceAdd → nA, reduceMul → nM, reduceSub → nS, reduceEqDiff → nE, reduceLT → nL, reduceLeDiff → nD, reduceBEq → nB
open Int renaming reduceEq → iE, reduceNe → iN, reduceBEq → iB, reduceBNe → iC, reduceLT → iL, reduceLE → iD, reduceAdd → iA, reduceSub → iS, reduceMul → iM
set_option linter.unusedSimpArgs false
set_option linter.unusedVariables false
set_option maxRecDepth 4000
set_option maxHeartbeats 1000000
def qbe : AC := .skip
theorem qjf : zy Try.prog 145 = some ⟨4, qbe, []⟩ := by kernel_rfl
theorem qk4 (b : Bool) (i : Int) : Am.Fn Try.prog 145 [.bool b, .int .i64 i] [] (fun v H' => v = .tup [] ∧ H' = []) := by
  refine Am.Fn.jw (R := fun v => v = _) qhs mixed qjf (by simp) (by simp) ?_
  simp (maxSteps := 3000000) only [qf, zH, qbe, qb, iE, iN, iB, iC, iL, iD, iA, iS, iM, qb, zZ, ↓qp, ↓reduceIte, reduceCtorEq, nA, nM, nS, nE, nL, nD]; try simp only [qb, zY]
def gp : List AV → Option AV
  | [.bool _, .int .i64 _] => some (.tup [])
  | _ => none
theorem qwh : Am.Callee Try.prog 145 (qu gp) := Am.Callee.plain fun xs v he => by
  unfold gp at he
  split at he
  · cases he; exact ⟨rfl, rfl, qk4 _ _⟩
  · cases he
def qay : AC := .region [oM 5 0,oM 6 1,o0 7 (.conv .u8 (.t 6)),oF 8 1 2,o0 9 (.ja 16 1 (.t 8) (.t 5)),oT 9 7]
theorem qkb : zy Try.prog 146 = some ⟨10, qay, []⟩ := by kernel_rfl
theorem qju (n : Int) (m : List Nat) (hm : m.length = 16) (i v : Nat) (hi : i < 16) (hv : v < 256) : Am.Fn Try.prog 146 [.int .i64 i, .int .i64 v, .ptr 0 0] [.cells (dia n m)] (fun r H' => r = .tup [] ∧ H' = [.cells (dia n (m.set i v))]) := by
  refine Am.Fn.ofB qhs mixed qkb (by simp [AV.q7, AV.under]) (fun j o hj => by
    match j, hj with
    | 0, hj => cases hj; exact qk _ _ (qh _ _)
    | j + 1, hj => simp at hj) ?_
  obtain ⟨c1, c2⟩ := Xl hi
  have c3 : i < 16 := hi
  have hw : q8 .u8 (v : Int) = (v : Int) := qhh hv
  simp (maxSteps := 3000000) only [qf, zH, qay, qb, qe, hm, qcb, c1, c2, c3, hw, AV.one, iE, iN, iB, iC, iL, iD, iA, iS, iM, qb, zZ, ↓qp, ↓reduceIte, reduceCtorEq, nA, nM, nS, nE, nL, nD]; try simp only [qb, zY]
  refine Ret.zw [0] ⟨⟨Nat.le_refl 1, rfl, by decide⟩, ?_⟩ (rs := []) rfl rfl (by simp [xc]) ?_ ⟨rfl, ?_⟩
  · simp only [qc _ _ (qh _ _), zK, ↓reduceIte, reduceCtorEq, nE, nB, nA]
  · intro j l; cases j <;> simp [zi, AO.ren]
  · simp only [qd _ _ (qh _ _), zL, ↓reduceIte, reduceCtorEq, nE, nA]
def Yd : BE := fun hp xs => match xs with
  | [.int .i64 i, .int .i64 v, .ptr b 0] => match hp[b]? with
    | some (.cells l) => match bg l with
      | some (n, m) => chk ((0 ≤ i ∧ i < 16) ∧ 0 ≤ v ∧ v < 256) (some (.tup [], hp.set b (.cells (dia n (m.set i.toNat v.toNat)))))
      | none => none
    | _ => none
  | _ => none
theorem qx0 : Am.Callee Try.prog 146 Yd := Callee.fp fun hp xs v hp' he => by
  unfold Yd at he
  split at he
  · rename_i i v b
    split at he
    · rename_i l hb
      split at he
      · rename_i n m hd1
        obtain ⟨⟨⟨a1, a2⟩, a3, a4⟩, he2⟩ := qm he
        simp only [Option.some.injEq, Prod.mk.injEq] at he2
        obtain ⟨rfl, rfl⟩ := he2
        obtain ⟨rfl, hd⟩ := xa hd1
        obtain ⟨k, rfl⟩ : ∃ k : Nat, i = k := ⟨i.toNat, by omega⟩
        obtain ⟨w, rfl⟩ : ∃ w : Nat, v = w := ⟨v.toNat, by omega⟩
        simp only [Int.toNat_natCast]
        refine ⟨[(b, 0)], [.int .i64 k, .int .i64 w, .ptr 0 0], _, _, _, qju n m hd.1 k w (by omega) (by omega), by simp [AV.ren, AV.zt, ofL], by simp [wh], ⟨⟨rfl, by simp only [AO.ren, qd _ _ (qh _ _)]; exact hb⟩, trivial⟩, rfl, ⟨qk _ _ (qh _ _), trivial⟩, ⟨trivial, trivial, by simp [AV.under], trivial⟩, by simp [AV.ren, AV.zt], ?_⟩
        simp [after, upd, AO.wr, AO.ren, qd _ _ (qh _ _)]
      · cases he
    · cases he
  · cases he
def qbn : AC := .region [oL 1 0,oK 2 .add 1 1,oT 0 2]
theorem qk9 : zy Try.prog 147 = some ⟨3, qbn, []⟩ := by kernel_rfl
theorem qjo (k : Nat) (hk : k ≤ 1000) : Am.Fn Try.prog 147 [.ptr 0 0] [.cells [.int .i64 k]] (fun r H' => r = .tup [] ∧ H' = [.cells [.int .i64 (k + 1 : Nat)]]) := by
  refine Am.Fn.ofB qhs mixed qk9 (by simp [AV.q7, AV.under]) (fun j o hj => by
    match j, hj with
    | 0, hj => cases hj; exact ⟨trivial, trivial⟩
    | j + 1, hj => simp at hj) ?_
  have hw : q8 .i64 ((k : Int) + 1) = ((k + 1 : Nat) : Int) := by rw [wrap64 (by omega) (by omega)]; rfl
  simp (maxSteps := 3000000) only [qf, zH, qbn, qb, hw, AV.one, iE, iN, iB, iC, iL, iD, iA, iS, iM, qb, zZ, ↓qp, ↓reduceIte, reduceCtorEq, nA, nM, nS, nE, nL, nD]; try simp only [qb, zY]
  refine Ret.zw [0] ⟨⟨Nat.le_refl 1, rfl, by decide⟩, ?_⟩ (rs := []) rfl rfl (by simp [xc]) ?_ ⟨rfl, ?_⟩
  · simp only [qc _ _ (qh _ _), zK, ↓reduceIte, reduceCtorEq, nE, nB, nA]
  · intro j l; cases j <;> simp [zi, AO.ren]
  · simp only [qd _ _ (qh _ _), zL, ↓reduceIte, reduceCtorEq, nE, nA]
def ba : BE := fun hp xs => match xs with
  | [.ptr b 0] => match hp[b]? with
    | some (.cells [.int .i64 k]) => chk (0 ≤ k ∧ k ≤ 1000) (some (.tup [], hp.set b (.cells [.int .i64 (k + 1)])))
    | _ => none
  | _ => none
theorem qst : Am.Callee Try.prog 147 ba := Callee.fp fun hp xs v hp' he => by
  unfold ba at he
  split at he
  · rename_i b
    split at he
    · rename_i k hb
      obtain ⟨⟨a1, a2⟩, he2⟩ := qm he
      simp only [Option.some.injEq, Prod.mk.injEq] at he2
      obtain ⟨rfl, rfl⟩ := he2
      obtain ⟨k', rfl⟩ : ∃ k' : Nat, k = k' := ⟨k.toNat, by omega⟩
      refine ⟨[(b, 0)], [.ptr 0 0], _, _, _, qjo k' (by omega), by simp [AV.ren, AV.zt, ofL], by simp [wh], ⟨⟨rfl, by simp only [AO.ren, AV.zt, AV.ren]; exact hb⟩, trivial⟩, rfl, ⟨⟨trivial, trivial⟩, trivial⟩, ⟨by simp [AV.under], trivial⟩, by simp [AV.ren, AV.zt], ?_⟩
      simp [after, upd, AO.wr, AO.ren, AV.zt, AV.ren]
    · cases he
  · cases he
noncomputable def B82 : z7 := (((B81.put 145 (qu gp)).put 146 (Yd)).put 147 (ba))
theorem qcy : ze Try.prog B82 := (((qhs.put (qwh)).put (qx0)).put (qst))
end Go.Proofs.Ytkgoadglalpbfaa
