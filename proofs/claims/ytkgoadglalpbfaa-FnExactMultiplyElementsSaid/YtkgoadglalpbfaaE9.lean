/- Contracts: marks in elements, the elements themselves. -/
import Derived.Test.YtkgoadglalpbfaaE8
namespace Go.Proofs.Ytkgoadglalpbfaa
open Go.Am Go.Dia
open Nat renaming reduceAdd → nA, reduceMul → nM, reduceSub → nS, reduceEqDiff → nE, reduceLT → nL, reduceLeDiff → nD, reduceBEq → nB
open Int renaming reduceEq → iE, reduceNe → iN, reduceBEq → iB, reduceBNe → iC, reduceLT → iL, reduceLE → iD, reduceAdd → iA, reduceSub → iS, reduceMul → iM
set_option linter.unusedSimpArgs false
set_option linter.unusedVariables false
set_option maxRecDepth 4000
set_option maxHeartbeats 1000000
def one (b : Nat) : Ren := fun j => if j = 0 then some (b, 0) else none
theorem Callee.wr1 {f : FuncId} {g : BE} (h : ∀ hp xs v hp', g hp xs = some (v, hp') → ∃ (sz : Nat) (l l' : List AV) (b : Nat) (ys : List AV), hp[b]? = some (.vec sz l) ∧ hp' = hp.set b (.vec sz l') ∧
    AV.zs l = true ∧ AV.zs l' = true ∧ xs = AV.zt (one b) ys ∧ xs.all wh = true ∧ AV.q7 1 ys ∧ v.xb = true ∧ Am.Fn Try.prog f ys [.vec sz l] fun v' H' => v' = v ∧ H' = [.vec sz l']) : Am.Callee Try.prog f g := by
  intro hp xs v hp' he
  obtain ⟨sz, l, l', b, ys, hb, rfl, h3, h3', h4, h5, h6, h7, h8⟩ := h hp xs v hp' he
  refine ⟨[.vec sz l], ys, _, one b, [(b, 0)], h8, h4, h5, ⟨fun j hj => ?_, rfl, fun j o c hj hc => ?_, fun j k bj bk oj ok hj hk hoj hok hw hl hjk => ?_⟩, ?_, h6, ?_⟩
  · match j, hj with
    | 0, _ => rfl
  · match j, hj, hc with
    | 0, hj, hc =>
      cases hj; cases hc
      exact ⟨rfl, by simp only [AO.ren, qd _ _ h3]; exact hb⟩
    | j + 1, hj, hc => simp at hj
  · match j, k, hoj, hok with
    | 0, 0, _, _ => rfl
    | 0, k + 1, _, hok => simp at hok
    | j + 1, _, hoj, _ => simp at hoj
  · intro j o hj
    match j, hj with
    | 0, hj => cases hj; exact qk _ _ h3
    | j + 1, hj => simp at hj
  · rintro v' H' ⟨rfl, rfl⟩
    refine ⟨Zw _ _ h7, ?_⟩
    simp only [after, upd, AO.wr, if_true, AO.ren, qd _ _ h3', List.length_cons, List.length_nil, List.drop_succ_cons, List.drop_nil, List.map_nil, List.append_nil]
theorem Callee.ro1 {f : FuncId} {g : BE} (h : ∀ hp xs v hp', g hp xs = some (v, hp') → ∃ (l : List AV) (b : Nat) (ys : List AV), hp' = hp ∧ (∃ L, rd hp b = some L ∧ l.length ≤ L.length ∧ L.take l.length = l) ∧
    AV.zs l = true ∧ xs = AV.zt (one b) ys ∧ xs.all wh = true ∧ AV.q7 1 ys ∧ v.xb = true ∧ Am.Fn Try.prog f ys [.ro l] fun v' H' => v' = v ∧ H' = [.ro l]) : Am.Callee Try.prog f g := by
  intro hp xs v hp' he
  obtain ⟨l, b, ys, rfl, ⟨L, hL, h1, h2⟩, h3, h4, h5, h6, h7, h8⟩ := h hp xs v hp' he
  refine ⟨[.ro l], ys, _, one b, [(b, 0)], h8, h4, h5, ⟨fun j hj => ?_, rfl, fun j o c hj hb => ?_, fun j k bj bk oj ok hj hk hoj hok hw => ?_⟩, ?_, h6, ?_⟩
  · match j, hj with
    | 0, _ => rfl
  · match j, hj, hb with
    | 0, hj, hb =>
      cases hj; cases hb
      exact ⟨L, hL, by omega, by rw [List.drop_zero, qd _ _ h3]; exact h2⟩
    | j + 1, hj, hb => simp at hj
  · match j, hoj with
    | 0, hoj => cases hoj; cases hw
    | j + 1, hoj => simp at hoj
  · intro j o hj
    match j, hj with
    | 0, hj => cases hj; exact qk _ _ h3
    | j + 1, hj => simp at hj
  · rintro v' H' ⟨rfl, rfl⟩
    exact ⟨Zw _ _ h7, by simp [after, upd, AO.wr]⟩
def Qa : BE := fun hp xs => match xs with
  | [.slc b 0 n false 0, .int .i64 k] => match hp[b]? with
    | some (.vec 18 l) => match Qz n l with
      | some ts => chk (l.length = n * 18 ∧ 0 ≤ k ∧ k ≤ 100000000 ∧ n ≤ 2000000) (some (.int .i64 ((k.toNat + 18 * n : Nat) : Int), hp.set b (.vec 18 (qq (marks n k.toNat)))))
      | none => none
    | _ => none
  | _ => none
theorem qej : Am.Callee Try.prog 55 Qa := Callee.wr1 fun hp xs v hp' he => by
  unfold Qa at he
  split at he
  · rename_i b n k
    split at he
    · rename_i l hb
      split at he
      · rename_i ts hts
        obtain ⟨h0, he⟩ := qm he
        simp only [Option.some.injEq, Prod.mk.injEq] at he
        obtain ⟨rfl, rfl⟩ := he
        obtain ⟨e1, e2, e3, e4⟩ := xz hts
        have hl : l = qq ts := by rw [← e3, List.take_of_length_le (by omega)]
        subst hl
        obtain ⟨k, rfl⟩ : ∃ j : Nat, k = j := ⟨k.toNat, by omega⟩
        rw [Int.toNat_natCast]
        refine ⟨18, qq ts, _, b, [.slc 0 0 ts.length false 0, .int .i64 k], hb, rfl, qa _, qa _, ?_, rfl, ⟨by simp [AV.under], trivial, trivial⟩, rfl, ?_⟩
        · simp only [AV.zt, AV.ren, one, if_true, e1, Nat.zero_add]
        · have := qe6 ts k e2 (by omega) (by omega)
          rw [e1] at this ⊢
          exact this
      · cases he
    · cases he
  · cases he
def k8 : BE := fun hp xs => match xs with
  | [.slc b 0 n false 0, .int .i64 k] => match rd hp b with
    | some L => match Qz n L with
      | some ts => chk (ts = marks n k.toNat ∧ 0 ≤ k ∧ k ≤ 100000000 ∧ n ≤ 2000000) (some (.int .i64 ((k.toNat + 18 * n : Nat) : Int), hp))
      | none => none
    | _ => none
  | _ => none
theorem qex : Am.Callee Try.prog 67 k8 := Callee.ro1 fun hp xs v hp' he => by
  unfold k8 at he
  split at he
  · rename_i b n k
    split at he
    · rename_i L hL
      split at he
      · rename_i ts hts
        obtain ⟨h0, he⟩ := qm he
        simp only [Option.some.injEq, Prod.mk.injEq] at he
        obtain ⟨rfl, rfl⟩ := he
        obtain ⟨e1, e2, e3, e4⟩ := xz hts
        obtain ⟨k, rfl⟩ : ∃ j : Nat, k = j := ⟨k.toNat, by omega⟩
        rw [Int.toNat_natCast] at h0 ⊢
        obtain ⟨rfl, h0⟩ := h0
        have g1 := qt e2
        refine ⟨qq (marks n k), b, [.slc 0 0 n false 0, .int .i64 k], rfl, ⟨L, hL, by rw [g1, xf]; omega, by rw [g1, xf]; exact e3⟩, qa _, ?_, rfl, ⟨by simp [AV.under], trivial, trivial⟩, rfl, qe2 n k (by omega) (by omega)⟩
        simp only [AV.zt, AV.ren, one, if_true, Nat.zero_add]
      · cases he
    · cases he
  · cases he
def B16 : z7 := ((B15.put 55 (Qa)).put 67 (k8))
theorem qlt : ze Try.prog B16 := ((Gc.put (qej)).put (qex))
theorem X3 : B16 55 = some (Qa) := rfl
theorem Xx : B16 67 = some (k8) := rfl
theorem qb6 (p c n : Int) (ts : List (Int × List Nat × Int)) (k : Nat) (ht : okT ts) (hk : k ≤ 100000000) (hl : ts.length ≤ 2000000) :
    Am.Fn Try.prog 20 [elemV p c n 0 ts.length, .int .i64 k] [.vec 18 (qq ts)] (fun v H' => v = .int .i64 ((k + 18 * ts.length : Nat) : Int) ∧ H' = [.vec 18 (qq (marks ts.length k))]) := by
  refine Am.Fn.ofB qlt mixed qb0 (by simp) (qfw (qa _)) ?_
  have h1 := qt ht
  simp (maxSteps := 3000000) only [W6, elemV, X3, Xx, k8, Qa, xj ht, h1, rd, List.getElem?_cons_zero, List.getElem?_cons_succ, qb, zZ, ↓qp, ↓reduceIte, reduceCtorEq, nA, nM, nS, nE, nL, nD]; try simp only [qb, zY]
  refine ⟨⟨by omega, by omega, hl⟩, ?_⟩
  refine Ret.zw [0] ⟨⟨Nat.le_refl 1, rfl, by decide⟩, ?_⟩ (rs := [.int .i64 ((k + 18 * ts.length : Nat) : Int)]) rfl rfl (by simp [xc]) ?_ ⟨?_, ?_⟩
  · simp only [qc _ _ (qa _), zK, ↓reduceIte, reduceCtorEq, nE, nB, nA]
  · intro j l; cases j <;> simp [zi, AO.ren]
  · simp only [xc]
    simp only [zL, ↓reduceIte, reduceCtorEq, nE, nA]
  · simp only [qd _ _ (qa _), zL, ↓reduceIte, reduceCtorEq, nE, nA]
theorem qbw (p c m : Int) (n k : Nat) (hk : k ≤ 100000000) (hl : n ≤ 2000000) :
    Am.Fn Try.prog 26 [elemV p c m 0 n, .int .i64 k] [.ro (qq (marks n k))] (fun v H' => v = .int .i64 ((k + 18 * n : Nat) : Int) ∧ H' = [.ro (qq (marks n k))]) := by
  refine Am.Fn.jw (R := fun v => v = _) qlt mixed qb5 (by simp) (Zu (qa _)) ?_
  have h1 : Qz n (qq (marks n k)) = some (marks n k) := by have := xj (Vn n k); rwa [xf] at this
  simp (maxSteps := 3000000) only [Wx, elemV, X3, Xx, k8, Qa, h1, rd, List.getElem?_cons_zero, List.getElem?_cons_succ, qb, zZ, ↓qp, ↓reduceIte, reduceCtorEq, nA, nM, nS, nE, nL, nD]; try simp only [qb, zY]
  exact ⟨⟨by omega, by omega, hl⟩, fun h => absurd h (by omega), fun _ => ⟨_, rfl⟩⟩
def zb : BE := fun hp xs => match xs with
  | [.agg [.int .i64 p, .int .i64 c, .int .i64 m, .slc b 0 n false 0], .int .i64 k] => match hp[b]? with
    | some (.vec 18 l) => match Qz n l with
      | some ts => chk (l.length = n * 18 ∧ 0 ≤ k ∧ k ≤ 100000000 ∧ n ≤ 2000000) (some (.int .i64 ((k.toNat + 18 * n : Nat) : Int), hp.set b (.vec 18 (qq (marks n k.toNat)))))
      | none => none
    | _ => none
  | _ => none
theorem qby : Am.Callee Try.prog 20 zb := Callee.wr1 fun hp xs v hp' he => by
  unfold zb at he
  split at he
  · rename_i p c m b n k
    split at he
    · rename_i l hb
      split at he
      · rename_i ts hts
        obtain ⟨h0, he⟩ := qm he
        simp only [Option.some.injEq, Prod.mk.injEq] at he
        obtain ⟨rfl, rfl⟩ := he
        obtain ⟨e1, e2, e3, e4⟩ := xz hts
        have hl : l = qq ts := by rw [← e3, List.take_of_length_le (by omega)]
        subst hl
        obtain ⟨k, rfl⟩ : ∃ j : Nat, k = j := ⟨k.toNat, by omega⟩
        rw [Int.toNat_natCast]
        refine ⟨18, qq ts, _, b, [elemV p c m 0 ts.length, .int .i64 k], hb, rfl, qa _, qa _, ?_, rfl, ⟨⟨trivial, trivial, trivial, by simp [AV.under], trivial⟩, trivial, trivial⟩, rfl, ?_⟩
        · simp only [elemV, AV.zt, AV.ren, one, if_true, e1, Nat.zero_add]
        · have := qb6 p c m ts k e2 (by omega) (by omega)
          rw [e1] at this ⊢
          exact this
      · cases he
    · cases he
  · cases he
def za : BE := fun hp xs => match xs with
  | [.agg [.int .i64 p, .int .i64 c, .int .i64 m, .slc b 0 n false 0], .int .i64 k] => match rd hp b with
    | some L => match Qz n L with
      | some ts => chk (ts = marks n k.toNat ∧ 0 ≤ k ∧ k ≤ 100000000 ∧ n ≤ 2000000) (some (.int .i64 ((k.toNat + 18 * n : Nat) : Int), hp))
      | none => none
    | _ => none
  | _ => none
theorem qb2 : Am.Callee Try.prog 26 za := Callee.ro1 fun hp xs v hp' he => by
  unfold za at he
  split at he
  · rename_i p c m b n k
    split at he
    · rename_i L hL
      split at he
      · rename_i ts hts
        obtain ⟨h0, he⟩ := qm he
        simp only [Option.some.injEq, Prod.mk.injEq] at he
        obtain ⟨rfl, rfl⟩ := he
        obtain ⟨e1, e2, e3, e4⟩ := xz hts
        obtain ⟨k, rfl⟩ : ∃ j : Nat, k = j := ⟨k.toNat, by omega⟩
        rw [Int.toNat_natCast] at h0 ⊢
        obtain ⟨rfl, h0⟩ := h0
        have g1 := qt e2
        refine ⟨qq (marks n k), b, [elemV p c m 0 n, .int .i64 k], rfl, ⟨L, hL, by rw [g1, xf]; omega, by rw [g1, xf]; exact e3⟩, qa _, ?_, rfl, ⟨⟨trivial, trivial, trivial, by simp [AV.under], trivial⟩, trivial, trivial⟩, rfl, qbw p c m n k (by omega) (by omega)⟩
        simp only [elemV, AV.zt, AV.ren, one, if_true, Nat.zero_add]
      · cases he
    · cases he
  · cases he
def B17 : z7 := ((B16.put 20 (zb)).put 26 (za))
theorem qxj : ze Try.prog B17 := ((qlt.put (qby)).put (qb2))
end Go.Proofs.Ytkgoadglalpbfaa
