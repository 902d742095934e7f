/- Contracts of functions of the program, and plain laws, part 4: each text of this part is proved without further condition. -/
import Derived.Test.YtfhckbbgmblhbaaZ3
namespace Go.Proofs.Ytfhckbbgmblhbaa
open Go.Am Go.Dia
open Nat renaming reduceAdd → nA, reduceMul → nM, reduceSub → nS, reduceEqDiff → nE, reduceLT → nL, reduceLeDiff → nD, reduceBEq → nB
open Int renaming reduceEq → iE, reduceNe → iN, reduceBEq → iB, reduceBNe → iC, reduceLT → iL, reduceLE → iD, reduceAdd → iA, reduceSub → iS, reduceMul → iM
set_option linter.unusedSimpArgs false
set_option linter.unusedVariables false
set_option maxRecDepth 4000
set_option maxHeartbeats 1000000
def Uj : AC := .draw false [oM 6 0,oM 7 1,oM 8 0,oM 9 2,oM 10 2,o0 11 (.conv .u8 (.t 10)),oM 12 1,o0 13 (.conv .u8 (.t 12)),o0 14 (.jx (.t 6)),oF 15 1 14,o0 16 (.xa 16 1 (.t 15) (.t 7)),o0 17 (.jx (.t 8)),oF 18 1 17,oT 16 11,o0 19 (.xa 16 1 (.t 18) (.t 9)),oT 19 13]
theorem qfc : zl Try.prog 143 = some ⟨20, Uj, []⟩ := by kernel_rfl
theorem q7z (n : Int) (m : List Nat) (i k : Nat) (hm : m.length = 16) (hi : i < 16) (hk : k < 16) :
    Am.Fn Try.prog 143 [.ptr 0 0, .int .i64 i, .int .i64 k] [.cells (dia n m)] (fun v H' => v = .tup [] ∧ H' = [.cells (dia n ((m.set i k).set k i))]) := by
  refine Am.Fn.ofB qsq mixed qfc (by simp [AV.qv, AV.under]) (fun j o hj => by
    match j, hj with
    | 0, hj => cases hj; exact qk _ _ (qd _ _)
    | j + 1, hj => simp at hj) ?_
  obtain ⟨a1, a2⟩ := v7 hi
  obtain ⟨b1, b2⟩ := v7 hk
  have hu1 : qo .u8 (i : Int) = i := Yx (by omega)
  have hu2 : qo .u8 (k : Int) = k := Yx (by omega)
  simp (maxSteps := 3000000) only [qh, zH, Uj, qc, hm, List.length_set, a1, a2, b1, b2, hu1, hu2, Bt, AV.one, iE, iN, iB, iC, iL, iD, iA, iS, iM, qa, zZ, ↓qq, ↓reduceIte, reduceCtorEq, nA, nM, nS, nE, nL, nD]; try simp only [qa, zY]
  refine Ret.x7 [0] ⟨⟨by simp, rfl, by decide⟩, ?_⟩ (rs := []) rfl rfl (by simp [xl]) ?_ ⟨?_, ?_⟩
  · simp only [zK, ↓reduceIte, reduceCtorEq, nE, nB, nA]
  · intro j l; match j with
    | 0 => simp [zo, AO.ren]
    | j + 1 => simp [zo]
  · rfl
  · simp only [zL, ↓reduceIte, reduceCtorEq, nE, nA]
def Q1 : BE := fun hp xs => match xs with
  | [.ptr b 0, .int .i64 i, .int .i64 k] => match hp[b]? with
    | some (.cells l) => match vi l with
      | some (n, m) => chk ((0 ≤ i ∧ i < 16) ∧ (0 ≤ k ∧ k < 16)) (some (.tup [], hp.set b (.cells (dia n ((m.set i.toNat k.toNat).set k.toNat i.toNat)))))
      | none => none
    | _ => none
  | _ => none
theorem qzx : Am.Callee Try.prog 143 Q1 := Callee.fp fun hp xs v hp' he => by
  unfold Q1 at he
  split at he
  · rename_i b i k
    split at he
    · rename_i l hb
      split at he
      · rename_i n m hd
        obtain ⟨⟨h1, h2⟩, he⟩ := ql he
        simp only [Option.some.injEq, Prod.mk.injEq] at he
        obtain ⟨rfl, rfl⟩ := he
        obtain ⟨rfl, hm⟩ := zi hd
        obtain ⟨i, rfl⟩ : ∃ j : Nat, i = j := ⟨i.toNat, by omega⟩
        obtain ⟨k, rfl⟩ : ∃ j : Nat, k = j := ⟨k.toNat, by omega⟩
        simp only [Int.toNat_natCast]
        refine ⟨[(b, 0)], [.ptr 0 0, .int .i64 i, .int .i64 k], _, _, _, q7z n m i k hm.1 (by omega) (by omega), by simp [AV.ren, AV.zp, ofL], rfl, ⟨⟨rfl, by simp only [AO.ren, qb _ _ (qd _ _)]; exact hb⟩, trivial⟩, rfl, ⟨qk _ _ (qd _ _), trivial⟩, ⟨by simp [AV.under], trivial, trivial, trivial⟩, by simp [AV.ren, AV.zp], ?_⟩
        simp [after, upd, AO.wr, AO.ren, qb _ _ (qd _ _)]
      · cases he
    · cases he
  · cases he
def B46 : zc := (B39.put 143 (Q1))
theorem qun : qp Try.prog B46 := (qsq.put (qzx))
theorem b7 : B46 143 = some (Q1) := rfl
def W7 (n : Nat) : Nat → List Nat
  | 0 => List.replicate 16 0
  | k + 1 => ((W7 n k).set k (n + k)).set (n + k) k
def yh (n : Nat) : List Nat := W7 n n
theorem qcu (n : Nat) : ∀ k, (W7 n k).length = 16
  | 0 => by simp [W7]
  | k + 1 => by simp [W7, qcu n k]
theorem qrb {n : Nat} (hn : n ≤ 8) : ∀ k, k ≤ n → ∀ x ∈ W7 n k, x < 16
  | 0, _, x, hx => by rw [(List.mem_replicate.1 hx).2]; omega
  | k + 1, hk, x, hx => by
    unfold W7 at hx
    rcases List.mem_or_eq_of_mem_set hx with hx | rfl
    · rcases List.mem_or_eq_of_mem_set hx with hx | rfl
      · exact qrb hn k (by omega) x hx
      · omega
    · omega
theorem Uf {n : Nat} (hn : n ≤ 8) {k : Nat} (hk : k ≤ n) : okD (W7 n k) := ⟨qcu n k, fun x hx => by have := qrb hn k hk x hx; omega⟩
def G6 : AC := .seq (.region [oP 9 .lss 8 7]) (.seq (.cond 9 .skip (.exit 0)) (.seq (.block 1 (.seq (.region [oM 10 8,oM 4 10]) (.region [oM 11 4,oM 12 0,oM 13 4,oP 14 .add 12 13,oC 15 143 [.t 3,.t 11,.t 14]]))) (.region [oK 16 .add 8 1,oM 8 16])))
def qgo : AC := .seq (.region [oN 17 17 3,oS 17 2 17]) .ret
def qpp : AC := .seq (.region [oD 2]) (.seq (.region [oM 5 0,o0 6 (.build [.int .i64 0,.int .u8 0,.int .u8 0,.int .u8 0,.int .u8 0,.int .u8 0,.int .u8 0,.int .u8 0,.int .u8 0,.int .u8 0,.int .u8 0,.int .u8 0,.int .u8 0,.int .u8 0,.int .u8 0,.int .u8 0,.int .u8 0] [(0,1,.t 5)]),oD 3,oS 17 3 6]) (.seq (.seq (.region [oM 7 0,oI 8 0]) (.block 0 (.loop G6))) qgo))
theorem q24 : zl Try.prog 88 = some ⟨18, qpp, [.yn 2 17]⟩ := by kernel_rfl
theorem q0a (n : Nat) (hn : n ≤ 8) : Am.Fn Try.prog 88 [.int .i64 n] [] (fun v H' => v = .agg (dia n (yh n)) ∧ H' = []) := by
  refine Am.Fn.xf (R := fun v => v = _) qun mixed q24 (by simp) (by simp) ?_
  simp (maxSteps := 3000000) only [qh, zH, qpp, b7, Q1, zk, zf, kc, qc, za, zn qt qt, List.length_replicate, iE, iN, iB, iC, iL, iD, iA, iS, iM, qa, zZ, ↓qq, ↓reduceIte, reduceCtorEq, nA, nM, nS, nE, nL, nD]; try simp only [qa, zY]
  refine WA.xr qun (fun s => ∃ i : Nat, i ≤ n ∧ s = ⟨[(8, .int .i64 i), (7, .int .i64 n), (3, .ptr 1 0), (2, .ptr 0 0), (0, .int .i64 n)], [.cells (dia 0 (List.replicate 16 0)), .cells (dia n (W7 n i))]⟩)
    (fun s => match get s.env 8 with | .int _ x => n - x.toNat | _ => 0) ⟨_, qw.qx [8, 7, 3, 2, 0], 0, by omega, rfl⟩ ?_
  rintro s ⟨i, hi, rfl⟩
  have hw : qo .i64 ((i : Int) + 1) = ((i + 1 : Nat) : Int) := by rw [wrap64 (by omega) (by omega)]; rfl
  have hok := Uf hn hi
  by_cases hlt : i < n
  · have hli : (i : Int) < (n : Int) := by omega
    have h2 : qo .i64 ((n : Int) + i) = ((n + i : Nat) : Int) := by rw [wrap64 (by omega) (by omega)]; rfl
    have c1 : (0 : Int) ≤ i ∧ (i : Int) < 16 := by omega
    have c2 : (0 : Int) ≤ (n + i : Nat) ∧ ((n + i : Nat) : Int) < 16 := by omega
    have hnext : W7 n (i + 1) = ((W7 n i).set i (n + i)).set (n + i) i := rfl
    simp (maxSteps := 3000000) only [qh, zH, G6, b7, Q1, hli, hw, h2, qy hok, c1, c2, iE, iN, iB, iC, iL, iD, iA, iS, iM, qa, zZ, ↓qq, ↓reduceIte, reduceCtorEq, nA, nM, nS, nE, nL, nD]; try simp only [qa, zY]
    refine ⟨_, qw.qx [8, 7, 3, 2, 0], ⟨i + 1, by omega, ?_⟩, ?_⟩
    · simp only [zL, ↓reduceIte, reduceCtorEq, nE, nA]; rw [hnext]
    · simp only [zL, ↓reduceIte, reduceCtorEq, nE, nA]; omega
  · have hli : ¬ ((i : Int) < (n : Int)) := by omega
    obtain rfl : i = n := by omega
    simp (maxSteps := 3000000) only [qh, zH, G6, qgo, b7, Q1, hli, qc, hok.1, qn hok.1, zn qt hok.1, za, List.length_replicate, Int.lt_irrefl, iE, iN, iB, iC, iL, iD, iA, iS, iM, qa, zZ, ↓qq, ↓reduceIte, reduceCtorEq, nA, nM, nS, nE, nL, nD]; try simp only [qa, zY]
    exact ⟨qd _ _, rfl⟩
def je : List AV → Option AV
  | [.int .i64 n] => chk (0 ≤ n ∧ n ≤ 8) (some (.agg (dia n (yh n.toNat))))
  | _ => none
theorem qfi {f : FuncId} (h : ∀ n : Nat, n ≤ 8 → Am.Fn Try.prog f [.int .i64 n] [] (fun v H' => v = .agg (dia n (yh n)) ∧ H' = [])) : Am.Callee Try.prog f (qj je) := Am.Callee.plain fun xs v he => by
  unfold je at he
  split at he
  · rename_i n
    obtain ⟨h1, he⟩ := ql he
    cases he
    obtain ⟨N, rfl⟩ : ∃ N : Nat, n = N := ⟨n.toNat, by omega⟩
    rw [Int.toNat_natCast]
    exact ⟨rfl, by simp only [AV.zq, qd], h N (by omega)⟩
  · cases he
def zaq : zc := (B46.put 88 (qj je))
theorem qn2 : qp Try.prog zaq := (qun.put (qfi q0a))
theorem q1y {N i : Nat} (hN : N ≤ 8) (h0 : 1 ≤ N) (hi : i < 2 * N) : qo .i64 (Int.tdiv (i : Int) (N : Int)) = ((i / N : Nat) : Int) ∧ qo .i64 (((i / N : Nat) : Int) * 1) = ((i / N : Nat) : Int) ∧ qo .i64 ((i : Int) + ((i / N : Nat) : Int)) = ((wd N i : Nat) : Int) ∧ wd N i < 17 := by
  have hq : i / N = if i < N then 0 else 1 := by
    by_cases h : i < N
    · rw [if_pos h, Nat.div_eq_of_lt h]
    · rw [if_neg h]
      exact Nat.div_eq_of_lt_le (by omega) (by omega)
  have hw : i + i / N = wd N i := by rw [hq]; unfold wd; split <;> omega
  have hb : i / N ≤ 1 := by rw [hq]; split <;> omega
  refine ⟨by rw [q9j]; exact ji (by omega), by rw [Int.mul_one]; exact ji (by omega), ?_, by omega⟩
  rw [← hw]
  exact wrap64 (by omega) (by omega)
def qgt : AC := .seq (.region [oI 4 0]) (.seq (.draw false [oM 5 0,oM 6 0,oL 7 1,oP 8 .quo 6 7,oL 9 2,oP 10 .mul 8 9,oP 11 .add 5 10,oM 4 11]) .ret)
theorem qr3 : zl Try.prog 188 = some ⟨12, qgt, [.slot 4]⟩ := by kernel_rfl
theorem qwx (N i : Nat) (hN : 1 ≤ N ∧ N ≤ 8) (hi : i < 2 * N) : Am.Fn Try.prog 188 [.int .i64 i, .ptr 0 0, .ptr 1 0] [.ro [.int .i64 N], .ro [.int .i64 1]] (fun v H' => v = .int .i64 ((wd N i : Nat) : Int) ∧ H' = [.ro [.int .i64 N], .ro [.int .i64 1]]) := by
  refine Am.Fn.xf (R := fun v => v = _) qn2 mixed qr3 (by simp [AV.qv, AV.under]) (qax rfl rfl) ?_
  obtain ⟨a1, a2, a3, a4⟩ := q1y hN.2 hN.1 hi
  have hne : (N : Int) ≠ 0 := by omega
  simp (maxSteps := 3000000) only [qh, zH, qgt, a1, a2, a3, hne, iE, iN, iB, iC, iL, iD, iA, iS, iM, qa, zZ, ↓qq, ↓reduceIte, reduceCtorEq, nA, nM, nS, nE, nL, nD]; try simp only [qa, zY]
  exact ⟨_, rfl⟩
def rt (N i : Nat) : Nat := if i = 0 then N else 2 * N + 1
def qgx : AC := .seq (.region [oI 4 0]) (.seq (.draw false [oL 5 1,oM 6 0,oP 7 .add 5 6,oM 8 0,oL 9 2,oP 10 .quo 8 9,oL 11 1,oP 12 .mul 10 11,oP 13 .add 7 12,oM 4 13]) .ret)
theorem qp6 : zl Try.prog 189 = some ⟨14, qgx, [.slot 4]⟩ := by kernel_rfl
theorem qxr (N i : Nat) (hN : 1 ≤ N ∧ N ≤ 8) (hi : i < 2) : Am.Fn Try.prog 189 [.int .i64 i, .ptr 0 0, .ptr 1 0] [.ro [.int .i64 N], .ro [.int .i64 1]] (fun v H' => v = .int .i64 ((rt N i : Nat) : Int) ∧ H' = [.ro [.int .i64 N], .ro [.int .i64 1]]) := by
  refine Am.Fn.xf (R := fun v => v = _) qn2 mixed qp6 (by simp [AV.qv, AV.under]) (qax rfl rfl) ?_
  have hne : (1 : Int) ≠ 0 := by omega
  have a1 : qo .i64 ((N : Int) + i) = ((N + i : Nat) : Int) := wrap64 (by omega) (by omega)
  have a2 : qo .i64 (Int.tdiv (i : Int) 1) = (i : Int) := by rw [Int.tdiv_one]; exact ji (by omega)
  have a3 : qo .i64 ((i : Int) * N) = ((i * N : Nat) : Int) := by
    have : i = 0 ∨ i = 1 := by omega
    rcases this with rfl | rfl
    · rw [wrap64 (by omega) (by omega)]; rfl
    · rw [wrap64 (by omega) (by omega)]; simp
  have a4 : qo .i64 (((N + i : Nat) : Int) + ((i * N : Nat) : Int)) = ((rt N i : Nat) : Int) := by
    have : i = 0 ∨ i = 1 := by omega
    unfold rt
    rcases this with rfl | rfl
    · rw [wrap64 (by omega) (by omega)]; simp
    · rw [wrap64 (by omega) (by omega)]; simp; omega
  simp (maxSteps := 3000000) only [qh, zH, qgx, a1, a2, a3, a4, hne, iE, iN, iB, iC, iL, iD, iA, iS, iM, qa, zZ, ↓qq, ↓reduceIte, reduceCtorEq, nA, nM, nS, nE, nL, nD]; try simp only [qa, zY]
  exact ⟨_, rfl⟩
def V5 : BE := fun hp xs => match xs with
  | [.int .i64 i, .ptr b 0, .ptr b' 0] => match rd hp b, rd hp b' with
    | some (.int .i64 n :: _), some (.int .i64 m :: _) => chk ((m = 1 ∧ 1 ≤ n ∧ n ≤ 8) ∧ 0 ≤ i ∧ i < 2 * n) (some (.int .i64 ((wd n.toNat i.toNat : Nat) : Int), hp))
    | _, _ => none
  | _ => none
theorem q72 : Am.Callee Try.prog 188 V5 := Callee.fp fun hp xs v hp' he => by
  unfold V5 at he
  split at he
  · rename_i i b b'
    split at he
    · rename_i n L m L' hL hL'
      obtain ⟨⟨⟨h0, h1⟩, h2, h3⟩, he⟩ := ql he
      simp only [Option.some.injEq, Prod.mk.injEq] at he
      obtain ⟨rfl, rfl⟩ := he
      subst h0
      obtain ⟨N, rfl⟩ : ∃ N : Nat, n = N := ⟨n.toNat, by omega⟩
      obtain ⟨k, rfl⟩ : ∃ k : Nat, i = k := ⟨i.toNat, by omega⟩
      simp only [Int.toNat_natCast]
      refine ⟨[(b, 0), (b', 0)], [.int .i64 k, .ptr 0 0, .ptr 1 0], _, _, _, qwx N k (by omega) (by omega), by simp [AV.ren, AV.zp, ofL], rfl, ⟨⟨_, hL, by simp, by simp [AV.zp, AV.ren]⟩, ⟨_, hL', by simp, by simp [AV.zp, AV.ren]⟩, trivial⟩, rfl, ⟨⟨trivial, trivial⟩, ⟨trivial, trivial⟩, trivial⟩, ⟨trivial, by simp [AV.under], by simp [AV.under], trivial⟩, by simp [AV.ren], ?_⟩
      simp [after, upd, AO.wr, AO.ren, AV.zp, AV.ren]
    · cases he
  · cases he
def Z8 : BE := fun hp xs => match xs with
  | [.int .i64 i, .ptr b 0, .ptr b' 0] => match rd hp b, rd hp b' with
    | some (.int .i64 n :: _), some (.int .i64 m :: _) => chk ((m = 1 ∧ 1 ≤ n ∧ n ≤ 8) ∧ 0 ≤ i ∧ i < 2) (some (.int .i64 ((rt n.toNat i.toNat : Nat) : Int), hp))
    | _, _ => none
  | _ => none
theorem q5b : Am.Callee Try.prog 189 Z8 := Callee.fp fun hp xs v hp' he => by
  unfold Z8 at he
  split at he
  · rename_i i b b'
    split at he
    · rename_i n L m L' hL hL'
      obtain ⟨⟨⟨h0, h1⟩, h2, h3⟩, he⟩ := ql he
      simp only [Option.some.injEq, Prod.mk.injEq] at he
      obtain ⟨rfl, rfl⟩ := he
      subst h0
      obtain ⟨N, rfl⟩ : ∃ N : Nat, n = N := ⟨n.toNat, by omega⟩
      obtain ⟨k, rfl⟩ : ∃ k : Nat, i = k := ⟨i.toNat, by omega⟩
      simp only [Int.toNat_natCast]
      refine ⟨[(b, 0), (b', 0)], [.int .i64 k, .ptr 0 0, .ptr 1 0], _, _, _, qxr N k (by omega) (by omega), by simp [AV.ren, AV.zp, ofL], rfl, ⟨⟨_, hL, by simp, by simp [AV.zp, AV.ren]⟩, ⟨_, hL', by simp, by simp [AV.zp, AV.ren]⟩, trivial⟩, rfl, ⟨⟨trivial, trivial⟩, ⟨trivial, trivial⟩, trivial⟩, ⟨trivial, by simp [AV.under], by simp [AV.under], trivial⟩, by simp [AV.ren], ?_⟩
      simp [after, upd, AO.wr, AO.ren, AV.zp, AV.ren]
    · cases he
  · cases he
def B47 : zc := ((zaq.put 188 (V5)).put 189 (Z8))
theorem qnq : qp Try.prog B47 := ((qn2.put (q72)).put (q5b))
theorem wq : B47 168 = some (Xp 1 g_n) := rfl
theorem Qi : B47 88 = some (qj je) := rfl
theorem uf : B47 188 = some (V5) := rfl
theorem ua : B47 189 = some (Z8) := rfl
def qj4 (N : Nat) (m : List Nat) : Nat → List Nat
  | 0 => qbk N m (2 * N)
  | 1 => (qbk N m (2 * N)).set N (2 * N + 1)
  | _ => xi N m
theorem Vu {N : Nat} {m : List Nat} {i : Nat} : (qbk N m i).length = 16 := bh _ _ _ _
theorem qdr {N : Nat} {m : List Nat} : ∀ i, (qj4 N m i).length = 16
  | 0 => Vu
  | 1 => by simp [qj4, Vu]
  | i + 2 => by simp [qj4, xi, Vu]
def By : AC := .seq (.region [oP 23 .lss 22 21]) (.seq (.cond 23 .skip (.exit 0)) (.seq (.block 1 (.seq (.region [oM 24 22,oM 10 24]) (.draw true [oM 25 8,oM 26 10,oM 28 8,oM 29 10,oF 30 1 2,o0 31 (.xa 16 1 (.t 30) (.t 29)),oL 32 31,o0 33 (.conv .i64 (.t 32)),oF 36 1 7,⟨some 27,none,.call (.t 25) [.t 26]⟩,⟨some 34,none,.call (.t 28) [.t 33]⟩,o0 35 (.conv .u8 (.t 34)),o0 37 (.xa 16 1 (.t 36) (.t 27)),oT 37 35]))) (.region [oK 38 .add 22 1,oM 22 38])))
def Bz : AC := .seq (.region [oP 42 .lss 41 40]) (.seq (.cond 42 .skip (.exit 2)) (.seq (.block 3 (.seq (.region [oM 43 41,oM 11 43]) (.draw true [oM 44 9,oM 45 11,oM 47 9,oM 48 11,oF 49 1 3,o0 50 (.xa 16 1 (.t 49) (.t 48)),oL 51 50,o0 52 (.conv .i64 (.t 51)),oF 55 1 7,⟨some 46,none,.call (.t 44) [.t 45]⟩,⟨some 53,none,.call (.t 47) [.t 52]⟩,o0 54 (.conv .u8 (.t 53)),o0 56 (.xa 16 1 (.t 55) (.t 46)),oT 56 54]))) (.region [oK 57 .add 41 1,oM 41 57])))
def qcv : AC := .seq (.region [oN 58 17 7,oS 17 4 58]) .ret
def qcx : AC := .seq (.seq (.region [oL 39 6,o0 40 (.bin .mul (.c (.int .i64 2)) (.t 39)),oI 41 0]) (.block 2 (.loop Bz))) qcv
def qlg : AC := .seq (.region [o0 2 (.box (.t 0)),o0 3 (.box (.t 1)),oD 4]) (.seq (.region [oC 12 168 [.t 2],oC 13 168 [.t 3],o0 5 (.alloc [.int .i64 0]),o0 6 (.alloc [.int .i64 0]),oT 5 12,oT 6 13]) (.seq (.region [oL 14 5,oL 15 6,oP 16 .add 14 15,o0 17 (.build [.int .i64 0,.int .u8 0,.int .u8 0,.int .u8 0,.int .u8 0,.int .u8 0,.int .u8 0,.int .u8 0,.int .u8 0,.int .u8 0,.int .u8 0,.int .u8 0,.int .u8 0,.int .u8 0,.int .u8 0,.int .u8 0,.int .u8 0] [(0,1,.t 16)]),oD 7,oS 17 7 17]) (.seq (.region [o0 18 (.qg6 188 [] [.t 5,.t 6]),oM 8 18]) (.seq (.region [o0 19 (.qg6 189 [] [.t 5,.t 6]),oM 9 19]) (.seq (.seq (.region [oL 20 5,o0 21 (.bin .mul (.c (.int .i64 2)) (.t 20)),oI 22 0]) (.block 0 (.loop By))) qcx)))))
theorem qwf : zl Try.prog 177 = some ⟨59, qlg, [.yn 4 17]⟩ := by kernel_rfl
theorem q1o (N : Nat) (m : List Nat) (hm : okD m) (hs : isS N m = true) (hN8 : N < 8) : Am.Fn Try.prog 177 [.agg (dia N m), .agg (dia 1 (yh 1))] [] (fun v H' => v = .agg (dia (N + 1 : Nat) (xi N m)) ∧ H' = []) := by
  refine Am.Fn.xf (R := fun v => v = _) qnq mixed qwf (by simp) (by simp) ?_
  obtain ⟨hN, hp, hz⟩ := xk hs
  have hml := hm.1
  have hu : okD (yh 1) := Uf (by omega) (by omega)
  have hul := hu.1
  have h2 : qo .i64 (2 * (N : Int)) = ((2 * N : Nat) : Int) := by rw [wrap64 (by omega) (by omega)]; rfl
  have h1 : qo .i64 ((N : Int) + 1) = ((N + 1 : Nat) : Int) := by rw [wrap64 (by omega) (by omega)]; rfl
  simp (maxSteps := 3000000) only [qh, zH, qlg, wq, Qi, uf, ua, V5, g_n, Z8, je, zk, zf, kc, qc, hml, hul, y7, Bg, za, zn qt qt, List.length_replicate, h1, h2, AV.one, iE, iN, iB, iC, iL, iD, iA, iS, iM, qa, zZ, ↓qq, ↓reduceIte, reduceCtorEq, nA, nM, nS, nE, nL, nD]; try simp only [qa, zY]
  refine ⟨⟨rfl, rfl⟩, ⟨rfl, rfl⟩, ?_⟩
  refine WA.xr qnq (fun s => ∃ i : Nat, i ≤ 2 * N ∧ s = ⟨[(22, .int .i64 i), (21, .int .i64 (2 * N : Nat)), (9, .fn 189 [] [.ptr 3 0, .ptr 4 0]), (8, .fn 188 [] [.ptr 3 0, .ptr 4 0]), (7, .ptr 5 0), (6, .ptr 4 0), (5, .ptr 3 0), (4, .ptr 2 0), (3, .ptr 1 0), (2, .ptr 0 0)], [.cells (dia N m), .cells (dia 1 (yh 1)), .cells (dia 0 (List.replicate 16 0)), .cells [.int .i64 N], .cells [.int .i64 1], .cells (dia (N + 1 : Nat) (qbk N m i))]⟩)
    (fun s => match get s.env 22 with | .int _ x => 2 * N - x.toNat | _ => 0) ⟨_, qw.qx [22, 21, 9, 8, 7, 6, 5, 4, 3, 2], 0, by omega, rfl⟩ ?_
  rintro s ⟨i, hi, rfl⟩
  have c1 : (1 : Int) ≤ N ∧ (N : Int) ≤ 8 := by omega
  have hw : qo .i64 ((i : Int) + 1) = ((i + 1 : Nat) : Int) := by rw [wrap64 (by omega) (by omega)]; rfl
  by_cases hlt : i < 2 * N
  · have hli : (i : Int) < ((2 * N : Nat) : Int) := by omega
    have hb := qiq hs hlt
    have a1 : wd N i < 16 := by unfold wd; split <;> omega
    have b1 : wd N (m.getD i 0) < 16 := by unfold wd; split <;> omega
    obtain ⟨a2, a3⟩ := v7 a1
    have hu8 : qo .u8 ((wd N (m.getD i 0) : Nat) : Int) = ((wd N (m.getD i 0) : Nat) : Int) := Yx (by omega)
    obtain ⟨hi16, hi16'⟩ := v7 (show i < 16 by omega)
    have hi17 : i < 16 := by omega
    have hin : i < m.length := by omega
    have hcv : qo .i64 ((m.getD i 0 : Nat) : Int) = ((m.getD i 0 : Nat) : Int) := ji (by omega)
    have hnext : qbk N m (i + 1) = (qbk N m i).set (wd N i) (wd N (m.getD i 0)) := rfl
    have c2 : (0 : Int) ≤ i ∧ (i : Int) < 2 * N := by omega
    have c3 : (0 : Int) ≤ (m.getD i 0 : Nat) ∧ ((m.getD i 0 : Nat) : Int) < 2 * N := by omega
    simp (maxSteps := 3000000) only [qh, zH, By, wq, Qi, uf, ua, V5, g_n, Z8, je, hw, hli, a2, a3, hu8, c1, c2, c3, hi16, hi16', hi17, AV.one, hcv, Vt hin, qc, hml, Vu, Bt, iE, iN, iB, iC, iL, iD, iA, iS, iM, qa, zZ, ↓qq, ↓reduceIte, reduceCtorEq, nA, nM, nS, nE, nL, nD]; try simp only [qa, zY]
    refine ⟨⟨_, rfl⟩, ⟨_, rfl⟩, _, qw.qx [22, 21, 9, 8, 7, 6, 5, 4, 3, 2], ⟨i + 1, by omega, ?_⟩, ?_⟩
    · simp only [zL, ↓reduceIte, reduceCtorEq, nE, nA]; rw [hnext]
    · simp only [zL, ↓reduceIte, reduceCtorEq, nE, nA]; omega
  have hli : ¬ ((i : Int) < ((2 * N : Nat) : Int)) := by omega
  obtain rfl : i = 2 * N := by omega
  have h22 : qo .i64 (2 * 1) = ((2 : Nat) : Int) := by rw [wrap64 (by omega) (by omega)]; rfl
  simp (maxSteps := 3000000) only [qh, zH, By, qcx, wq, Qi, uf, ua, V5, g_n, Z8, je, hli, h22, Int.lt_irrefl, iE, iN, iB, iC, iL, iD, iA, iS, iM, qa, zZ, ↓qq, ↓reduceIte, reduceCtorEq, nA, nM, nS, nE, nL, nD]; try simp only [qa, zY]
  clear hw hli hlt hi
  refine WA.xr qnq (fun s => ∃ i : Nat, i ≤ 2 ∧ s = ⟨[(41, .int .i64 i), (40, .int .i64 (2 : Nat)), (9, .fn 189 [] [.ptr 3 0, .ptr 4 0]), (7, .ptr 5 0), (4, .ptr 2 0), (3, .ptr 1 0)], [.cells (dia N m), .cells (dia 1 (yh 1)), .cells (dia 0 (List.replicate 16 0)), .cells [.int .i64 N], .cells [.int .i64 1], .cells (dia (N + 1 : Nat) (qj4 N m i))]⟩)
    (fun s => match get s.env 41 with | .int _ x => 2 - x.toNat | _ => 0) ⟨_, qw.qx [41, 40, 9, 7, 4, 3], 0, by omega, rfl⟩ ?_
  rintro s ⟨i, hi, rfl⟩
  have hw : qo .i64 ((i : Int) + 1) = ((i + 1 : Nat) : Int) := by rw [wrap64 (by omega) (by omega)]; rfl
  by_cases hlt : i < 2
  · have hli : (i : Int) < ((2 : Nat) : Int) := by omega
    obtain ⟨g1, g2⟩ : (yh 1).getD i 0 = 1 - i ∧ qj4 N m (i + 1) = (qj4 N m i).set (rt N i) (rt N (1 - i)) := by
      have : i = 0 ∨ i = 1 := by omega
      rcases this with rfl | rfl <;> exact ⟨rfl, rfl⟩
    have hin : i < (yh 1).length := by omega
    have a1 : rt N i < 16 := by unfold rt; split <;> omega
    have b1 : rt N (1 - i) < 16 := by unfold rt; split <;> omega
    obtain ⟨a2, a3⟩ := v7 a1
    have hu8 : qo .u8 ((rt N (1 - i) : Nat) : Int) = ((rt N (1 - i) : Nat) : Int) := Yx (by omega)
    obtain ⟨hi16, hi16'⟩ := v7 (show i < 16 by omega)
    have hi17 : i < 16 := by omega
    have hcv : qo .i64 ((1 - i : Nat) : Int) = ((1 - i : Nat) : Int) := ji (by omega)
    have c2 : (0 : Int) ≤ i ∧ (i : Int) < 2 := by omega
    have c3 : (0 : Int) ≤ (1 - i : Nat) ∧ ((1 - i : Nat) : Int) < 2 := by omega
    simp (maxSteps := 3000000) only [qh, zH, Bz, wq, Qi, uf, ua, V5, g_n, Z8, je, hw, hli, a2, a3, hu8, c1, c2, c3, hi16, hi16', hi17, AV.one, hcv, g1, qc, hml, hul, qdr, Bt, iE, iN, iB, iC, iL, iD, iA, iS, iM, qa, zZ, ↓qq, ↓reduceIte, reduceCtorEq, nA, nM, nS, nE, nL, nD]; try simp only [qa, zY]
    refine ⟨⟨_, rfl⟩, ⟨_, rfl⟩, _, qw.qx [41, 40, 9, 7, 4, 3], ⟨i + 1, by omega, ?_⟩, ?_⟩
    · simp only [zL, ↓reduceIte, reduceCtorEq, nE, nA]; rw [g2]
    · simp only [zL, ↓reduceIte, reduceCtorEq, nE, nA]; omega
  · have hli : ¬ ((i : Int) < ((2 : Nat) : Int)) := by omega
    obtain rfl : i = 2 := by omega
    have hwl : qj4 N m 2 = xi N m := rfl
    have hk16 := qdr (N := N) (m := m) 2
    rw [hwl] at hk16 ⊢
    simp (maxSteps := 3000000) only [qh, zH, Bz, qcv, wq, Qi, uf, ua, V5, g_n, Z8, je, hli, qc, hk16, qn hk16, zn qt hk16, za, List.length_replicate, Int.lt_irrefl, iE, iN, iB, iC, iL, iD, iA, iS, iM, qa, zZ, ↓qq, ↓reduceIte, reduceCtorEq, nA, nM, nS, nE, nL, nD]; try simp only [qa, zY]
    exact qd _ _
def Ka : List AV → Option AV
  | [.agg l, .agg l'] => match vi l, vi l' with
    | some (n, m), some (n', m') => chk ((n' = 1 ∧ m' = yh 1) ∧ isS n.toNat m = true ∧ 0 ≤ n ∧ n < 8) (some (.agg (dia (n + 1) (xi n.toNat m))))
    | _, _ => none
  | _ => none
theorem qy9 : Am.Callee Try.prog 177 (qj Ka) := Am.Callee.plain fun xs v he => by
  unfold Ka at he
  split at he
  · rename_i l l'
    split at he
    · rename_i n m n' m' hd hd'
      obtain ⟨⟨⟨h0, h1⟩, h2, h3⟩, he⟩ := ql he
      cases he
      obtain ⟨rfl, hm⟩ := zi hd
      obtain ⟨rfl, hm'⟩ := zi hd'
      subst h0; subst h1
      obtain ⟨N, rfl⟩ : ∃ N : Nat, n = N := ⟨n.toNat, by omega⟩
      rw [Int.toNat_natCast] at h2 ⊢
      exact ⟨by simp only [AV.zg, AV.zq, qd, Bool.and_self], by simp only [AV.zq, qd], q1o N m hm h2 (by omega)⟩
    · cases he
  · cases he
def B48 : zc := (B47.put 177 (qj Ka))
theorem q0i : qp Try.prog B48 := (qnq.put (qy9))
theorem qci : B48 168 = some (Xp 1 g_n) := rfl
theorem qk5 : B48 88 = some (qj je) := rfl
theorem qe8 : B48 188 = some (V5) := rfl
theorem qel : B48 189 = some (Z8) := rfl
theorem qhy : B48 177 = some (qj Ka) := rfl
def Xk : AC := .seq (.region [o0 1 (.box (.t 0)),oD 2,oI 3 0]) (.seq (.draw true [oN 4 17 1,oC 5 88 [(.c (.int .i64 1))],oC 6 177 [.t 4,.t 5],oS 17 2 6,oI 3 1]) .ret)
theorem Bc : zl Try.prog 176 = some ⟨7, Xk, [.yn 2 17, .slot 3]⟩ := by kernel_rfl
theorem qnj (N : Nat) (m : List Nat) (hm : okD m) (hs : isS N m = true) (hN8 : N < 8) : Am.Fn Try.prog 176 [.agg (dia N m)] [] (fun v H' => v = .tup [.agg (dia ((N : Int) + 1) (xi N m)), .int .i64 1] ∧ H' = []) := by
  refine Am.Fn.xf (R := fun v => v = _) q0i mixed Bc (by simp) (by simp) ?_
  have hml := hm.1
  have hu : okD (yh 1) := Uf (by omega) (by omega)
  have hfl : (xi N m).length = 16 := (qjs hN8 hs).2.1
  have h0 : (0 : Int) ≤ N ∧ (N : Int) < 8 := by omega
  have h1 : (0 : Int) ≤ 1 ∧ (1 : Int) ≤ 8 := by omega
  simp (maxSteps := 3000000) only [qh, zH, Xk, qci, qk5, qe8, qel, qhy, V5, g_n, Z8, Ka, je, zk, zf, qc, hml, hfl, qn hml, qn hfl, qy hm, qy hu, hs, h0, h1, za, j4 hfl, qd, List.length_replicate, Int.toNat_one, iE, iN, iB, iC, iL, iD, iA, iS, iM, qa, zZ, ↓qq, ↓reduceIte, reduceCtorEq, nA, nM, nS, nE, nL, nD]; try simp only [qa, zY]
  exact ⟨⟨_, rfl⟩, ⟨_, rfl⟩⟩
def kb : List AV → Option AV
  | [.agg l] => match vi l with
    | some (n, m) => chk (isS n.toNat m = true ∧ 0 ≤ n ∧ n < 8) (some (.tup [.agg (dia (n + 1) (xi n.toNat m)), .int .i64 1]))
    | none => none
  | _ => none
theorem qpe : Am.Callee Try.prog 176 (qj kb) := Am.Callee.plain fun xs v he => by
  unfold kb at he
  split at he
  · rename_i l
    split at he
    · rename_i n m hd
      obtain ⟨⟨h1, h2⟩, he⟩ := ql he
      cases he
      obtain ⟨rfl, hm⟩ := zi hd
      obtain ⟨N, rfl⟩ : ∃ N : Nat, n = N := ⟨n.toNat, by omega⟩
      rw [Int.toNat_natCast] at h1 ⊢
      exact ⟨by simp only [AV.zg, AV.zq, qd, Bool.and_self], by simp only [AV.zq, AV.zg, qd, Bool.and_self], qnj N m hm h1 (by omega)⟩
    · cases he
  · cases he
def B49 : zc := (B48.put 176 (qj kb))
theorem qzg : qp Try.prog B49 := (q0i.put (qpe))
theorem qvy {n : Int} {m : List Nat} (hn : 1 ≤ n ∧ n ≤ 7) (hs : isS n.toNat m = true) : okD (xi n.toNat m) ∧ isS (n + 1).toNat (xi n.toNat m) = true := by
  have h := qjs (n := n.toNat) (by omega) hs
  rw [show (n + 1).toNat = n.toNat + 1 by omega]
  exact ⟨h.2, h.1⟩
theorem qzc : Am.Callee Try.prog 175 (ql5 176 (fun n => n + 1) xi 1 7) := zac qzg rfl (gf := kb) rfl
  (fun n m hn hs => qvy hn hs) (fun n hn => by omega)
  (fun n m hn hm hs => by
    have h0 : 0 ≤ n ∧ n < 8 := by omega
    simp only [kb, qy hm, hs, h0, and_self, qro])
def B50 : zc := (B49.put 175 (ql5 176 (fun n => n + 1) xi 1 7))
theorem q7u : qp Try.prog B50 := (qzg.put (qzc))
theorem Y3 : B50 175 = some (ql5 176 (fun n => n + 1) xi 1 7) := rfl
theorem Vv : B50 176 = some (qj kb) := rfl
def Jj : AC := .seq (.region [oZ 2]) (.seq (.region [oM 3 0,oM 4 0,o0 5 (.jx (.t 4)),oF 6 2 5,oL 7 6,oK 8 .add 7 1,⟨some 9,none,.call (.c (.fn 175 [] [])) [.t 3,.t 8,(.c (.fn 176 [] []))]⟩,oS 4 2 9]) .ret)
theorem qac : zl Try.prog 149 = some ⟨10, Jj, [.yn 2 4]⟩ := by kernel_rfl
theorem qsl (p c n : Int) (a : List (Int × List Nat × Int)) (hp : 2 ≤ p ∧ p ≤ 97) (hn : 1 ≤ n ∧ n ≤ 7) (ha : xd p n a) (hl : a.length ≤ 100000) :
    Am.Fn Try.prog 149 [.ptr 1 0] [.ro (xc a), .ro (elC p c n a.length)] (fun v H' => v = elemV p c (n + 1) 2 (chP p (n + 1) (xi n.toNat) (fun _ => 1) [] a).length ∧ H' = [.ro (xc a), .ro (elC p c n a.length), .vec 18 (xc (chP p (n + 1) (xi n.toNat) (fun _ => 1) [] a))]) := by
  refine Am.Fn.ofB q7u mixed qac (by simp [AV.qv, AV.under]) ?_ ?_
  · intro j o hj
    match j, hj with
    | 0, hj => cases hj; exact qk _ _ (qe _)
    | 1, hj => cases hj; exact ⟨trivial, trivial, trivial, by simp [AV.under], trivial⟩
    | j + 2, hj => simp at hj
  have hal := xe ha.ok
  have hts := kr ha.ok
  have hg := ha.dec
  have hw : qo .i64 (n + 1) = n + 1 := wrap64 (by omega) (by omega)
  simp (maxSteps := 3000000) only [qh, zH, Jj, Y3, Vv, ql5, kb, elC, elemV, hal, hts, hp, hn, hg, hl, hw, and_self, iE, iN, iB, iC, iL, iD, iA, iS, iM, qa, zZ, ↓qq, ↓reduceIte, reduceCtorEq, nA, nM, nS, nE, nL, nD]; try simp only [qa, zY]
  refine ⟨rfl, ?_⟩
  refine Ret.x7 [0, 1, 3] ⟨⟨by simp, rfl, by decide⟩, ?_⟩ (rs := [.agg [.int .i64 p, .int .i64 c, .int .i64 (n + 1), .slc 3 0 (chP p (n + 1) (xi n.toNat) (fun _ => 1) [] a).length false 0]]) rfl rfl (by simp [xl]) ?_ ⟨?_, ?_⟩
  · simp only [qg _ _ (qe _), zK, ↓reduceIte, reduceCtorEq, nE, nB, nA]
  · intro j l; match j with
    | 0 => exact fun _ => ⟨_, rfl⟩
    | 1 => exact fun _ => ⟨_, rfl⟩
    | 2 => simp [zo, AO.ren]
    | j + 3 => simp [zo]
  · simp only [xl]
    simp only [zL, ↓reduceIte, reduceCtorEq, nE, nA]
  · simp only [qb _ _ (qe _), zL, ↓reduceIte, reduceCtorEq, nE, nA]
def Q3 : BE := fun hp xs => match xs with
  | [.ptr b 0] => match rd hp b with
    | some (.int .i64 p :: .int .i64 c :: .int .i64 n :: .slc ba 0 la false 0 :: _) => match rd hp ba with
      | some L => match qa3 la L with
        | some a => chk (((2 ≤ p ∧ p ≤ 97) ∧ (1 ≤ n ∧ n ≤ 7)) ∧ Ux p n a ∧ la ≤ 100000) (some (elemV p c (n + 1) hp.length (chP p (n + 1) (xi n.toNat) (fun _ => 1) [] a).length, hp ++ [.vec 18 (xc (chP p (n + 1) (xi n.toNat) (fun _ => 1) [] a))]))
        | none => none
      | none => none
    | _ => none
  | _ => none
theorem qt3 : Am.Callee Try.prog 149 Q3 := Callee.fp fun hp xs v hp' he => by
  unfold Q3 at he
  split at he
  · rename_i b
    split at he
    · rename_i p c n ba la L0 hL0
      split at he
      · rename_i L hL
        split at he
        · rename_i a h1
          obtain ⟨⟨⟨a3, a4⟩, a5, a6⟩, he2⟩ := ql he
          simp only [Option.some.injEq, Prod.mk.injEq] at he2
          obtain ⟨rfl, rfl⟩ := he2
          obtain ⟨e1, e2, e3, e4⟩ := kz h1
          have g1 := xe e2
          refine ⟨[(ba, 0), (b, 0)], [.ptr 1 0], _, _, _, qsl p c n a a3 a4 (a5.qg8 e2) (by omega), by simp [AV.ren, AV.zp, ofL], rfl,
            ⟨⟨L, hL, by omega, by rw [List.drop_zero, qb _ _ (qe _), g1, e1]; exact e3⟩, ⟨_, hL0, by simp, by simp [AV.zp, AV.ren, ofL, e1]⟩, trivial⟩, rfl,
            ⟨qk _ _ (qe _), ⟨trivial, trivial, trivial, by simp [AV.under], trivial⟩, trivial⟩, ⟨by simp [AV.under], trivial⟩, by simp [elemV, AV.ren, AV.zp, Ren.ext], ?_⟩
          simp [after, upd, AO.wr, AO.ren, qb _ _ (qe _)]
        · cases he
      · cases he
    · cases he
  · cases he
theorem qya {p n : Int} {a : List (Int × List Nat × Int)} (hp : p ≤ 97) (hn : 1 ≤ n ∧ n ≤ 7) (h : xd p n a) : qja (n + 1) 10000 (xi n.toNat) (fun _ => 1) a := fun t ht => by
  have h1 := qvy hn (h.dia t ht).2
  have h2 := h.fac t ht
  exact ⟨h1.1, h1.2, by show -10000 ≤ t.2.2 * 1; omega, by show t.2.2 * 1 ≤ 10000; omega⟩
def B70 : zc := B53
theorem q7n : qp Try.prog B70 := q8x
def B79 : zc := B70
theorem qt1 : qp Try.prog B79 := q7n
def q59 (p c n : Int) (L : List (Int × List Nat × Int)) : ER := if L.length ≤ 140 then (p, c, n, L, 0) else (0, 0, 0, [], 3)
theorem qsk {p c n : Int} {L : List (Int × List Nat × Int)} (h : okT L) : za2 (q59 p c n L) := by
  unfold q59
  split
  · rename_i hle; exact ⟨h, by simp only; omega⟩
  · exact ⟨(fun t h => by cases h), by simp⟩
structure q6k (H : List AO) (X Y : AV) (ts us : List (Int × List Nat × Int)) : Prop where
  x : ∀ rest, q6i (H ++ rest) X = some ts
  y : ∀ rest, q6i (H ++ rest) Y = some us
  ok : okT ts ∧ okT us
  un : ∀ (j : Nat) (o : AO), H[j]? = some o → o.under H.length
  ux : X.under H.length ∧ Y.under H.length
  sh : (H = [] ∧ X = .v (.slice none 0 0) ∧ Y = .v (.slice none 0 0)) ∨
    (∃ (o : AO) (nx cx : Nat), H = [o] ∧ X = .slc 0 0 nx true cx ∧ Y = .v (.slice none 0 0) ∧ (∀ ids, o.within ids = true) ∧ ∀ ρ, o.ren ρ = o) ∨
    (∃ (o : AO) (ny cy : Nat), H = [o] ∧ X = .v (.slice none 0 0) ∧ Y = .slc 0 0 ny true cy ∧ (∀ ids, o.within ids = true) ∧ ∀ ρ, o.ren ρ = o) ∨
    ∃ (o o' : AO) (nx cx ny cy : Nat), H = [o, o'] ∧ X = .slc 0 0 nx true cx ∧ Y = .slc 1 0 ny true cy ∧ (∀ ids, o.within ids = true) ∧ (∀ ρ, o.ren ρ = o) ∧ (∀ ids, o'.within ids = true) ∧ ∀ ρ, o'.ren ρ = o'
theorem q6k.h {H : List AO} {X Y : AV} {ts us : List (Int × List Nat × Int)} (a : q6k H X Y ts us) : H = [] ∨ (∃ o, H = [o]) ∨ ∃ o o', H = [o, o'] := by
  rcases a.sh with ⟨rfl, _⟩ | ⟨o, _, _, rfl, _⟩ | ⟨o, _, _, rfl, _⟩ | ⟨o, o', _, _, _, _, rfl, _⟩
  · exact .inl rfl
  · exact .inr (.inl ⟨_, rfl⟩)
  · exact .inr (.inl ⟨_, rfl⟩)
  · exact .inr (.inr ⟨_, _, rfl⟩)
theorem Zp {p : Nat → Prop} (h : ∃ k, p k) : ∃ k, p k ∧ ∀ j, p j → k ≤ j := by
  obtain ⟨k, hk⟩ := h
  induction k using Nat.strongRecOn with
  | ind k ih =>
    by_cases hj : ∃ j, j < k ∧ p j
    · obtain ⟨j, h1, h2⟩ := hj; exact ih j h1 h2
    · exact ⟨k, hk, fun j h2 => Nat.le_of_not_lt fun h1 => hj ⟨j, h1, h2⟩⟩
open Classical in
noncomputable def qn0 (J : Nat → St → Prop) (s : St) : Nat := if h : ∃ k, J k s then Classical.choose (Zp h) else 0
theorem qmg {J : Nat → St → Prop} {s : St} (h : ∃ k, J k s) : J (qn0 J s) s ∧ ∀ j, J j s → qn0 J s ≤ j := by
  unfold qn0; rw [dif_pos h]; exact Classical.choose_spec (Zp h)
theorem q2t {B : zc} (hB : qp Try.prog B) {n0 nt : Nat} {Q : AX → St → Prop} {s : St} {a : AC} (J : Nat → St → Prop) (h0 : ∃ s', qw n0 s s' ∧ ∃ k, J k s')
    (round : ∀ k s, J k s → ∀ (post : St → Prop), (∀ s' s'' k', qw n0 s' s'' → J k' s'' → k' < k → post s') → wbC Try.prog B n0 nt a (AX.then post Q) s) : WA Try.prog n0 nt (.loop a) Q s := by
  refine WA.xr hB (fun s => ∃ k, J k s) (qn0 J) h0 fun s hs => ?_
  obtain ⟨h1, h2⟩ := qmg hs
  exact round _ s h1 _ fun s' s'' k' hw hj hlt => ⟨s'', hw, ⟨k', hj⟩, Nat.lt_of_le_of_lt ((qmg ⟨k', hj⟩).2 k' hj) hlt⟩
def bls (l : List Bool) : List AV := l.map .bool
theorem vu (l : List Bool) : (bls l).length = l.length := by simp [bls]
theorem vn (l : List Bool) : AV.zg (bls l) = true := by
  induction l with
  | nil => rfl
  | cons a l ih => simp only [bls, List.map_cons, AV.zg, AV.zq, Bool.true_and]; exact ih
theorem qvu {l : List Bool} {i : Nat} (h : i < l.length) : (bls l)[i]? = some (.bool (l.getD i false)) := by
  simp [bls, List.getD_eq_getElem?_getD, h]
theorem qhs {l : List Bool} {i : Nat} {b : Bool} : (bls l).set i (.bool b) = bls (l.set i b) := by simp [bls, List.map_set]
theorem Yq {x : Nat} (h : x < 8) : ((0 : Int) ≤ (x : Int) ∧ (x : Int) < ((8 : Nat) : Int)) := by omega
def yp : AC := .seq (.region [oM 18 2,oF 19 1 5,o0 20 (.xa 16 1 (.t 19) (.t 18)),oL 21 20,o0 22 (.conv .i64 (.t 21)),oM 13 22]) (.seq (.seq (.region [oM 23 13,oM 24 12,oP 25 .lss 23 24]) (.cond 25 (.seq (.region [oM 26 13,oM 10 26,oB 11 true]) .ret) .skip)) (.seq (.region [oM 27 4,oM 28 13,oM 29 12,oP 30 .sub 28 29,o0 31 (.jx (.t 27)),o0 32 (.xa 8 1 (.t 31) (.t 30)),⟨none,none,.op (.Xb (.t 32) (.c (.bool true)))⟩]) (.seq (.region [oM 33 13,oM 34 12,oP 35 .sub 33 34,oM 2 35]) (.seq (.region [oB 3 false]) (.exit 1)))))
def y9 : AC := .block 1 (.seq (.seq (.region [oM 17 3]) (.cond 17 yp .skip)) (.seq (.region [oM 36 2,oF 37 1 6,o0 38 (.xa 16 1 (.t 37) (.t 36)),oL 39 38,o0 40 (.conv .i64 (.t 39)),oM 14 40]) (.seq (.seq (.region [oM 41 14,oM 42 12,oP 43 .geq 41 42]) (.cond 43 (.seq (.region [oM 44 14,oM 10 44,oB 11 false]) .ret) .skip)) (.seq (.region [oM 45 4,oM 46 14,o0 47 (.jx (.t 45)),o0 48 (.xa 8 1 (.t 47) (.t 46)),⟨none,none,.op (.Xb (.t 48) (.c (.bool true)))⟩]) (.seq (.region [oM 49 12,oM 50 14,oP 51 .add 49 50,oM 2 51]) (.region [oB 3 true]))))))
def qbd : AC := .seq (.region [o0 5 (.box (.t 0)),o0 6 (.box (.t 1)),oI 10 0,oB 11 false]) (.seq (.region [oF 15 0 5,oL 16 15,oM 12 16]) (.block 0 (.loop y9)))
theorem qk6 : zl Try.prog 167 = some ⟨52, qbd, [.slot 10, .slot 11]⟩ := by kernel_rfl
theorem qki (N : Nat) (d e : List Nat) (hd : okD d) (he : okD e) (hds : isS N d = true) (hes : isS N e = true) {f : Nat} {u : Bool} {i : Nat} {met : List Bool} {r : Nat} {s : Bool} {met' : List Bool} (hf : zt N d e f u i met = some (r, s, met')) (hi : i < 2 * N) (hm : met.length = 8) :
    Am.Fn Try.prog 167 [.agg (dia N d), .agg (dia N e), .int .i64 i, .bool u, .ptr 0 0] [.cells (bls met)] (fun v H' => v = .tup [.int .i64 r, .bool s] ∧ H' = [.cells (bls met')]) := by
  refine Am.Fn.ofB qt1 mixed qk6 (by simp [AV.qv, AV.under, qk _ _ (qd _ _)]) (fun j o hj => by
    match j, hj with
    | 0, hj => cases hj; exact qk _ _ (vn _)
    | j + 1, hj => simp at hj) ?_
  obtain ⟨hN, hpd, _⟩ := xk hds
  obtain ⟨_, hpe, _⟩ := xk hes
  have hdl := hd.1
  have hel := he.1
  simp (maxSteps := 3000000) only [qh, zH, qbd, qa, qc, hdl, hel, y7, iE, iN, iB, iC, iL, iD, iA, iS, iM, qa, zZ, ↓qq, ↓reduceIte, reduceCtorEq, nA, nM, nS, nE, nL, nD]; try simp only [qa, zY]
  refine q2t qt1 (fun f st => ∃ (u : Bool) (i : Nat) (met : List Bool), zt N d e f u i met = some (r, s, met') ∧ i < 2 * N ∧ met.length = 8 ∧
      st = ⟨[(12, .int .i64 N), (6, .ptr 2 0), (5, .ptr 1 0), (4, .ptr 0 0), (3, .bool u), (2, .int .i64 i)], [.cells (bls met), .cells (dia N d), .cells (dia N e)]⟩) ⟨_, qw.qx [12, 6, 5, 4, 3, 2], f, u, i, met, hf, hi, hm, rfl⟩ ?_
  clear hf hi hm
  rintro k st ⟨u, i, met, hf, hi, hm, rfl⟩ post hpost
  obtain ⟨hi16, hi16'⟩ := v7 (show i < 16 by omega)
  have hi17 : i < 16 := by omega
  match k, u, hf with
  | 0, _, hf => simp [zt] at hf
  | f + 1, true, hf =>
    have hx := (hpd i hi).1
    have hcx : qo .i64 ((d.getD i 0 : Nat) : Int) = ((d.getD i 0 : Nat) : Int) := ji (by omega)
    rw [zt] at hf
    by_cases hlt : d.getD i 0 < N
    · rw [if_pos hlt] at hf
      simp only [Option.some.injEq, Prod.mk.injEq] at hf
      obtain ⟨rfl, rfl, rfl⟩ := hf
      have hli : ((d.getD i 0 : Nat) : Int) < (N : Int) := by omega
      simp (maxSteps := 3000000) only [qh, zH, y9, yp, hi16, hi16', hi17, qc, hdl, hel, hcx, hli, iE, iN, iB, iC, iL, iD, iA, iS, iM, qa, zZ, ↓qq, ↓reduceIte, reduceCtorEq, nA, nM, nS, nE, nL, nD]; try simp only [qa, zY]
      refine Ret.x7 [0] ⟨⟨Nat.le_refl 1, rfl, by decide⟩, ?_⟩ (rs := [.int .i64 (d.getD i 0 : Nat), .bool true]) rfl rfl (by simp [xl]) ?_ ⟨?_, ?_⟩
      · simp only [qg _ _ (vn _), zK, ↓reduceIte, reduceCtorEq, nE, nB, nA]
      · intro j l; cases j <;> simp [zo, AO.ren]
      · rfl
      · simp only [qb _ _ (vn _), zL, ↓reduceIte, reduceCtorEq, nE, nA]
    · rw [if_neg hlt] at hf
      have hli : ¬ ((d.getD i 0 : Nat) : Int) < (N : Int) := by omega
      have hsub : qo .i64 (((d.getD i 0 : Nat) : Int) - (N : Int)) = ((d.getD i 0 - N : Nat) : Int) := by rw [wrap64 (by omega) (by omega)]; omega
      have h8 := Yq (show d.getD i 0 - N < 8 by omega)
      have h8' : d.getD i 0 - N < 8 := by omega
      simp (maxSteps := 3000000) only [qh, zH, y9, yp, hi16, hi16', hi17, qc, hdl, hel, hcx, hli, hsub, h8, h8', vu, hm, qhs, AV.one, iE, iN, iB, iC, iL, iD, iA, iS, iM, qa, zZ, ↓qq, ↓reduceIte, reduceCtorEq, nA, nM, nS, nE, nL, nD]; try simp only [qa, zY]
      exact hpost _ _ f (qw.qx [12, 6, 5, 4, 3, 2]) ⟨false, d.getD i 0 - N, _, hf, by omega, by simp [hm], rfl⟩ (Nat.lt_succ_self _)
  | f + 1, false, hf =>
    have hx := (hpe i hi).1
    have hcx : qo .i64 ((e.getD i 0 : Nat) : Int) = ((e.getD i 0 : Nat) : Int) := ji (by omega)
    rw [zt] at hf
    by_cases hlt : N ≤ e.getD i 0
    · rw [if_pos hlt] at hf
      simp only [Option.some.injEq, Prod.mk.injEq] at hf
      obtain ⟨rfl, rfl, rfl⟩ := hf
      have hli : (N : Int) ≤ ((e.getD i 0 : Nat) : Int) := by omega
      simp (maxSteps := 3000000) only [qh, zH, y9, yp, hi16, hi16', hi17, qc, hdl, hel, hcx, hli, iE, iN, iB, iC, iL, iD, iA, iS, iM, qa, zZ, ↓qq, ↓reduceIte, reduceCtorEq, nA, nM, nS, nE, nL, nD]; try simp only [qa, zY]
      refine Ret.x7 [0] ⟨⟨Nat.le_refl 1, rfl, by decide⟩, ?_⟩ (rs := [.int .i64 (e.getD i 0 : Nat), .bool false]) rfl rfl (by simp [xl]) ?_ ⟨?_, ?_⟩
      · simp only [qg _ _ (vn _), zK, ↓reduceIte, reduceCtorEq, nE, nB, nA]
      · intro j l; cases j <;> simp [zo, AO.ren]
      · rfl
      · simp only [qb _ _ (vn _), zL, ↓reduceIte, reduceCtorEq, nE, nA]
    · rw [if_neg hlt] at hf
      have hli : ¬ (N : Int) ≤ ((e.getD i 0 : Nat) : Int) := by omega
      have hadd : qo .i64 ((N : Int) + ((e.getD i 0 : Nat) : Int)) = ((N + e.getD i 0 : Nat) : Int) := by rw [wrap64 (by omega) (by omega)]; rfl
      have h8 := Yq (show e.getD i 0 < 8 by omega)
      have h8' : e.getD i 0 < 8 := by omega
      simp (maxSteps := 3000000) only [qh, zH, y9, yp, hi16, hi16', hi17, qc, hdl, hel, hcx, hli, hadd, h8, h8', vu, hm, qhs, AV.one, iE, iN, iB, iC, iL, iD, iA, iS, iM, qa, zZ, ↓qq, ↓reduceIte, reduceCtorEq, nA, nM, nS, nE, nL, nD]; try simp only [qa, zY]
      exact hpost _ _ f (qw.qx [12, 6, 5, 4, 3, 2]) ⟨true, N + e.getD i 0, _, hf, by omega, by simp [hm], rfl⟩ (Nat.lt_succ_self _)
def W2 : List AV → Option (List Bool)
  | [] => some []
  | .bool b :: l => (W2 l).map (b :: ·)
  | _ => none
theorem Kh : ∀ l, W2 (bls l) = some l
  | [] => rfl
  | b :: l => by
    have := Kh l
    simp only [bls] at this
    simp only [bls, List.map_cons, W2, this, Option.map_some]
theorem Bh : ∀ {l : List AV} {m : List Bool}, W2 l = some m → l = bls m
  | [], m, h => by simp only [W2, Option.some.injEq] at h; subst h; rfl
  | .bool b :: l, m, h => by
    simp only [W2, Option.map_eq_some_iff] at h
    obtain ⟨m', h1, rfl⟩ := h
    rw [Bh h1]; rfl
noncomputable def gw : BE := fun hp xs => match xs with
  | [.agg ld, .agg le, .int .i64 i, .bool u, .ptr b 0] => match hp[b]? with
    | some (.cells lm) => match vi ld, vi le, W2 lm with
      | some (n, d), some (n', e), some met => chk (((n' = n ∧ 0 ≤ n) ∧ isS n.toNat d = true ∧ isS n.toNat e = true) ∧ (0 ≤ i ∧ i < 2 * n) ∧ met.length = 8 ∧ u = decide (i < n)) (some (.tup [.int .i64 (pr n.toNat d e i.toNat : Nat), .bool (decide (pr n.toNat d e i.toNat < n.toNat))], hp.set b (.cells (bls (fol n.toNat d e u i.toNat met)))))
      | _, _, _ => none
    | _ => none
  | _ => none
theorem q2z : Am.Callee Try.prog 167 gw := Callee.fp fun hp xs v hp' he => by
  unfold gw at he
  split at he
  · rename_i ld le i u b
    split at he
    · rename_i lm hb
      split at he
      · rename_i n d n' e met hd1 he1 hm1
        obtain ⟨⟨⟨⟨a1, a2⟩, a3, a4⟩, a5, a6, a7⟩, he2⟩ := ql he
        simp only [Option.some.injEq, Prod.mk.injEq] at he2
        obtain ⟨rfl, rfl⟩ := he2
        obtain ⟨rfl, hd⟩ := zi hd1
        obtain ⟨rfl, he'⟩ := zi he1
        have hbl := Bh hm1
        subst hbl; subst a1
        obtain ⟨N, rfl⟩ : ∃ N : Nat, n' = N := ⟨n'.toNat, by omega⟩
        obtain ⟨k, rfl⟩ : ∃ k : Nat, i = k := ⟨i.toNat, by omega⟩
        simp only [Int.toNat_natCast] at a3 a4 ⊢
        have hu : u = decide (k < N) := by rw [a7]; congr 1; exact propext (by omega)
        subst hu
        obtain ⟨f, met', hf⟩ := Up a3 a4 (i := k) (by omega) met
        have hfo := qjd hf
        refine ⟨[(b, 0)], [.agg (dia N d), .agg (dia N e), .int .i64 k, .bool (decide (k < N)), .ptr 0 0], _, _, _, qki N d e hd he' a3 a4 hf (by omega) a6, by simp [AV.ren, AV.zp, ofL, qb _ _ (qd _ _)], by simp [jo], ⟨⟨rfl, by simp only [AO.ren, qb _ _ (vn _)]; exact hb⟩, trivial⟩, rfl, ⟨qk _ _ (vn _), trivial⟩, ⟨qk _ _ (qd _ _), qk _ _ (qd _ _), trivial, trivial, by simp [AV.under], trivial⟩, by simp [AV.ren, AV.zp], ?_⟩
        simp [after, upd, AO.wr, AO.ren, qb _ _ (vn _), hfo]
      · cases he
    · cases he
  · cases he
noncomputable def B80 : zc := (B79.put 167 (gw))
theorem qez : qp Try.prog B80 := (qt1.put (q2z))
def Zt (l : List AV) : Nat := l.countP fun v => match v with | .bool false => true | _ => false
theorem Bq : ∀ {met : List Bool} {k : Nat}, k < met.length → met.getD k false = false → Zt (bls (met.set k true)) < Zt (bls met)
  | b :: l, 0, _, h => by
    simp only [List.getD_cons_zero] at h
    subst h
    simp [Zt, bls]
  | b :: l, k + 1, hk, h => by
    have ih := Bq (met := l) (k := k) (by simpa using hk) (by simpa using h)
    simp only [Zt, bls] at ih
    simp only [Zt, bls, List.set_cons_succ, List.map_cons, List.countP_cons]
    omega
theorem qlf : ∀ {met : List Bool} {k : Nat}, Zt (bls (met.set k true)) ≤ Zt (bls met)
  | [], k => by simp [Zt, bls]
  | b :: l, 0 => by cases b <;> simp [Zt, bls]
  | b :: l, k + 1 => by
    have ih := qlf (met := l) (k := k)
    simp only [Zt, bls] at ih
    simp only [Zt, bls, List.set_cons_succ, List.map_cons, List.countP_cons]
    omega
theorem Ks {n : Nat} {d e : List Nat} {r : Nat × Bool × List Bool} : ∀ {f : Nat} {u : Bool} {i : Nat} {met : List Bool}, zt n d e f u i met = some r → r.2.2.length = met.length
  | 0, _, _, _, h => by simp [zt] at h
  | f + 1, true, i, met, h => by
    rw [zt] at h
    split at h
    · cases h; rfl
    · rw [Ks h, List.length_set]
  | f + 1, false, i, met, h => by
    rw [zt] at h
    split at h
    · cases h; rfl
    · rw [Ks h, List.length_set]
theorem qwa {n : Nat} {d e : List Nat} (hd : isS n d = true) (he : isS n e = true) {i : Nat} {u : Bool} (hi : i < 2 * n) (hu : u = decide (i < n)) (met : List Bool) : (fol n d e u i met).length = met.length := by
  subst hu
  obtain ⟨f, met', h⟩ := Up hd he hi met
  rw [qjd h]; exact Ks h
def InL (n : Nat) (d e : List Nat) (f g : Nat → Nat) (i x : Nat) (met : List Bool) : Prop :=
  met.length = 8 ∧ ((x = i ∧ ∀ y, mt met y ↔ Seen n d e i y) ∨ ∃ (T : Nat → Prop) (last : Nat), qg4 (XX n d e) f g i T last ∧ x = g last ∧ ∀ y, mt met y ↔ Seen n d e i y ∨ T y)
theorem q1i {n : Nat} {d e : List Nat} {f g : Nat → Nat} (hf : Inv (XX n d e) f) (hg : Inv (XX n d e) g) (hn : n ≤ 8) {i x : Nat} {met : List Bool} (hi : i < n) (h0 : ¬ Seen n d e i i) (h : InL n d e f g i x met) (hx : ¬ mt met x) :
    XX n d e x ∧ XX n d e (f x) ∧ InL n d e f g i (g (f x)) ((met.set x true).set (f x) true) := by
  have hX : XX n d e i := ⟨hi, fun h => h0 (.inl h)⟩
  obtain ⟨hl, h⟩ := h
  have mt2 : ∀ {x y z : Nat}, x < n → y < n → (mt ((met.set x true).set y true) z ↔ z = y ∨ z = x ∨ mt met z) := fun {x y z} h1 h2 => by
    rw [bt (by rw [List.length_set]; omega), bt (by omega)]
  rcases h with ⟨rfl, hm⟩ | ⟨T, last, hT, rfl, hm⟩
  · have hfx := hf.mem _ hX
    refine ⟨hX, hfx, by rw [List.length_set, List.length_set]; exact hl, .inr ⟨_, _, qg4.start hf hX, rfl, fun y => ?_⟩⟩
    rw [mt2 hX.1 hfx.1, hm]
    constructor
    · rintro (h | h | h)
      · exact .inr (.inr h)
      · exact .inr (.inl h)
      · exact .inl h
    · rintro (h | h | h)
      · exact .inr (.inr h)
      · exact .inr (.inl h)
      · exact .inl h
  · have hT' : ¬ T (g last) := fun h => hx ((hm _).2 (.inr h))
    have hgl := hg.mem _ (Ring.mem hf hg hX (hT.ring _ hT.lm))
    have hfx := hf.mem _ hgl
    refine ⟨hgl, hfx, by rw [List.length_set, List.length_set]; exact hl, .inr ⟨_, _, (hT.next hf hg hX hT').1, rfl, fun y => ?_⟩⟩
    rw [mt2 hgl.1 hfx.1, hm]
    constructor
    · rintro (h | h | h | h)
      · exact .inr (.inr (.inl h))
      · exact .inr (.inl h)
      · exact .inl h
      · exact .inr (.inr (.inr h))
    · rintro (h | h | h | h)
      · exact .inr (.inr (.inl h))
      · exact .inr (.inl h)
      · exact .inl h
      · exact .inr (.inr (.inr h))
theorem q2o {n : Nat} {d e : List Nat} (hd : isS n d = true) (he : isS n e = true) {f g : Nat → Nat} (hf : Inv (XX n d e) f) (hg : Inv (XX n d e) g) (hR : ∀ i x, Ring f g i x ↔ Ring (dm n d) (em e) i x) {i x : Nat} {met : List Bool} (hi : i < n) (h0 : ¬ Seen n d e i i) (h : InL n d e f g i x met) (hx : mt met x) :
    ∀ y, mt met y ↔ Seen n d e (i + 1) y := by
  have hX : XX n d e i := ⟨hi, fun h => h0 (.inl h)⟩
  intro y
  rw [qp7 hi h0]
  obtain ⟨hl, ⟨rfl, hm⟩ | ⟨T, last, hT, rfl, hm⟩⟩ := h
  · exact absurd ((hm _).1 hx) h0
  · have hr : Ring f g i (g last) := .two (hT.ring _ hT.lm)
    have hT' : T (g last) := ((hm _).1 hx).resolve_left (U5 hd he hi h0 ((hR _ _).1 hr))
    have hs := (hT.stop hf hg hX hT').2
    rw [hm, hs, hR]
theorem jc : B80 167 = some (gw) := rfl
def Gh : AT := (.one (oF 17 0 2) (.one (oL 18 17) (.one (o0 19 (.build [(.bool false),(.bool false),(.bool false),(.bool false),(.bool false),(.bool false),(.bool false),(.bool false)] [])) (.one (oF 20 0 2) (.alt (oL 21 20) (.one (o0 22 (.build [.int .i64 0,.int .u8 0,.int .u8 0,.int .u8 0,.int .u8 0,.int .u8 0,.int .u8 0,.int .u8 0,.int .u8 0,.int .u8 0,.int .u8 0,.int .u8 0,.int .u8 0,.int .u8 0,.int .u8 0,.int .u8 0,.int .u8 0] [(0,1,.t 21)])) (.alt (o0 7 (.alloc [(.bool false),(.bool false),(.bool false),(.bool false),(.bool false),(.bool false),(.bool false),(.bool false)])) (.one (oD 8) (.one (oM 6 18) (.one (oS 8 7 19) (.one (oS 17 8 22) (.nil))))) (.alt (oD 8) (.one (o0 7 (.alloc [(.bool false),(.bool false),(.bool false),(.bool false),(.bool false),(.bool false),(.bool false),(.bool false)])) (.one (oM 6 18) (.one (oS 8 7 19) (.one (oS 17 8 22) (.nil))))) (.none)))) (.alt (o0 7 (.alloc [(.bool false),(.bool false),(.bool false),(.bool false),(.bool false),(.bool false),(.bool false),(.bool false)])) (.alt (oL 21 20) (.one (o0 22 (.build [.int .i64 0,.int .u8 0,.int .u8 0,.int .u8 0,.int .u8 0,.int .u8 0,.int .u8 0,.int .u8 0,.int .u8 0,.int .u8 0,.int .u8 0,.int .u8 0,.int .u8 0,.int .u8 0,.int .u8 0,.int .u8 0,.int .u8 0] [(0,1,.t 21)])) (.one (oD 8) (.one (oM 6 18) (.one (oS 8 7 19) (.one (oS 17 8 22) (.nil)))))) (.alt (oD 8) (.one (oM 6 18) (.alt (oL 21 20) (.one (o0 22 (.build [.int .i64 0,.int .u8 0,.int .u8 0,.int .u8 0,.int .u8 0,.int .u8 0,.int .u8 0,.int .u8 0,.int .u8 0,.int .u8 0,.int .u8 0,.int .u8 0,.int .u8 0,.int .u8 0,.int .u8 0,.int .u8 0,.int .u8 0] [(0,1,.t 21)])) (.one (oS 8 7 19) (.one (oS 17 8 22) (.nil)))) (.alt (oS 8 7 19) (.one (oL 21 20) (.one (o0 22 (.build [.int .i64 0,.int .u8 0,.int .u8 0,.int .u8 0,.int .u8 0,.int .u8 0,.int .u8 0,.int .u8 0,.int .u8 0,.int .u8 0,.int .u8 0,.int .u8 0,.int .u8 0,.int .u8 0,.int .u8 0,.int .u8 0,.int .u8 0] [(0,1,.t 21)])) (.one (oS 17 8 22) (.nil)))) (.none)))) (.none))) (.alt (oD 8) (.alt (oL 21 20) (.one (o0 22 (.build [.int .i64 0,.int .u8 0,.int .u8 0,.int .u8 0,.int .u8 0,.int .u8 0,.int .u8 0,.int .u8 0,.int .u8 0,.int .u8 0,.int .u8 0,.int .u8 0,.int .u8 0,.int .u8 0,.int .u8 0,.int .u8 0,.int .u8 0] [(0,1,.t 21)])) (.one (o0 7 (.alloc [(.bool false),(.bool false),(.bool false),(.bool false),(.bool false),(.bool false),(.bool false),(.bool false)])) (.one (oM 6 18) (.one (oS 8 7 19) (.one (oS 17 8 22) (.nil)))))) (.alt (o0 7 (.alloc [(.bool false),(.bool false),(.bool false),(.bool false),(.bool false),(.bool false),(.bool false),(.bool false)])) (.one (oM 6 18) (.alt (oL 21 20) (.one (o0 22 (.build [.int .i64 0,.int .u8 0,.int .u8 0,.int .u8 0,.int .u8 0,.int .u8 0,.int .u8 0,.int .u8 0,.int .u8 0,.int .u8 0,.int .u8 0,.int .u8 0,.int .u8 0,.int .u8 0,.int .u8 0,.int .u8 0,.int .u8 0] [(0,1,.t 21)])) (.one (oS 8 7 19) (.one (oS 17 8 22) (.nil)))) (.alt (oS 8 7 19) (.one (oL 21 20) (.one (o0 22 (.build [.int .i64 0,.int .u8 0,.int .u8 0,.int .u8 0,.int .u8 0,.int .u8 0,.int .u8 0,.int .u8 0,.int .u8 0,.int .u8 0,.int .u8 0,.int .u8 0,.int .u8 0,.int .u8 0,.int .u8 0,.int .u8 0,.int .u8 0] [(0,1,.t 21)])) (.one (oS 17 8 22) (.nil)))) (.none)))) (.none))) (.none))))))))
def J1 : AC := .seq (.seq (.region [oM 23 9,oM 24 6,oP 25 .lss 23 24]) (.cond 25 .skip (.exit 0))) (.seq (.block 1 (.seq (.region [oN 29 17 2,oN 30 17 3,oM 31 9,oC 32 167 [.t 29,.t 30,.t 31,(.c (.bool true)),.t 7],oM 28 32,oE 33 0 28,oE 34 1 28,oM 10 33,oM 11 34]) (.seq (.region [oM 35 9,oM 36 10,o0 37 (.conv .u8 (.t 36)),oF 38 1 8,o0 39 (.xa 16 1 (.t 38) (.t 35)),oT 39 37]) (.seq (.region [oN 41 17 2,oN 42 17 3,oM 43 6,oM 44 9,oP 45 .add 43 44,oC 46 167 [.t 41,.t 42,.t 45,(.c (.bool false)),.t 7],oM 40 46,oE 47 0 40,oE 48 1 40,oM 12 47,oM 13 48]) (.region [oM 49 6,oM 50 9,oP 51 .add 49 50,oM 52 12,o0 53 (.conv .u8 (.t 52)),oF 54 1 8,o0 55 (.xa 16 1 (.t 54) (.t 51)),oT 55 53]))))) (.region [oM 26 9,oK 27 .add 26 1,oM 9 27]))
def Vb : AC := .seq (.seq (.region [oM 67 16,o0 68 (.xa 8 1 (.t 7) (.t 67)),oL 69 68,o0 70 (.un .not (.t 69))]) (.cond 70 .skip (.exit 4))) (.block 5 (.seq (.region [oM 71 16,o0 72 (.xa 8 1 (.t 7) (.t 71)),⟨none,none,.op (.Xb (.t 72) (.c (.bool true)))⟩]) (.seq (.region [oM 73 6,oM 74 16,oP 75 .add 73 74,oF 76 1 2,o0 77 (.xa 16 1 (.t 76) (.t 75)),oL 78 77,o0 79 (.conv .i64 (.t 78)),oM 80 6,oP 81 .sub 79 80,oM 16 81]) (.seq (.region [oM 82 16,o0 83 (.xa 8 1 (.t 7) (.t 82)),⟨none,none,.op (.Xb (.t 83) (.c (.bool true)))⟩]) (.region [oM 84 16,oF 85 1 3,o0 86 (.xa 16 1 (.t 85) (.t 84)),oL 87 86,o0 88 (.conv .i64 (.t 87)),oM 16 88])))))
def Jw : AC := .region [oM 59 15,oK 60 .add 59 1,oM 15 60]
def Qt : AC := .seq (.seq (.region [oM 56 15,oM 57 6,oP 58 .lss 56 57]) (.cond 58 .skip (.exit 2))) (.seq (.block 3 (.seq (.seq (.region [oM 61 15,o0 62 (.xa 8 1 (.t 7) (.t 61)),oL 63 62]) (.cond 63 (.exit 3) .skip)) (.seq (.region [oM 64 14,oK 65 .add 64 1,oM 14 65]) (.seq (.region [oM 66 15,oM 16 66]) (.block 4 (.loop Vb)))))) Jw)
def Gt : AC := .seq (.region [oN 89 17 8,oM 90 14,oS 17 4 89,oM 5 90]) .ret
def Gf : AC := .seq (.region [oI 14 0]) (.seq (.seq (.region [oI 15 0]) (.block 2 (.loop Qt))) Gt)
def Gr : AC := .seq (.seq (.region [oI 9 0]) (.block 0 (.loop J1))) Gf
def qdc : AC := .seq (.region [o0 2 (.box (.t 0)),o0 3 (.box (.t 1)),oD 4,oI 5 0]) (.seq (.tree false Gh) Gr)
theorem qm8 : zl Try.prog 140 = some ⟨91, qdc, [.yn 4 17, .slot 5]⟩ := by kernel_rfl
theorem qnv (N : Nat) (d e : List Nat) (hd : okD d) (he : okD e) (hds : isS N d = true) (hes : isS N e = true) :
    Am.Fn Try.prog 140 [.agg (dia N d), .agg (dia N e)] [] (fun v H' => v = .tup [.agg (dia N (xt N d e)), .int .i64 (lpN N d e N : Nat)] ∧ H' = []) := by
  refine Am.Fn.xf (R := fun v => v = _) qez mixed qm8 (by simp) (by simp) ?_
  obtain ⟨hN, hpd, _⟩ := xk hds
  obtain ⟨_, hpe, _⟩ := xk hes
  have hdl := hd.1
  have hel := he.1
  have hb8 : [AV.bool false, .bool false, .bool false, .bool false, .bool false, .bool false, .bool false, .bool false] = bls (List.replicate 8 false) := rfl
  simp (maxSteps := 3000000) only [qh, zH, qdc, zk, zf, qc, hdl, hel, y7, iE, iN, iB, iC, iL, iD, iA, iS, iM, qa, zZ, ↓qq, ↓reduceIte, reduceCtorEq, nA, nM, nS, nE, nL, nD]; try simp only [qa, zY]
  refine WA.qf0 qez (fun s => s = ⟨[(8, .ptr 4 0), (7, .ptr 3 0), (6, .int .i64 N), (5, .int .i64 0), (4, .ptr 2 0), (3, .ptr 1 0), (2, .ptr 0 0)], [.cells (dia N d), .cells (dia N e), .cells (dia 0 (List.replicate 16 0)), .cells (bls (List.replicate 8 false)), .cells (dia N (List.replicate 16 0))]⟩) ?_ ?_
  · have hov8 : over (bls (List.replicate 8 false)) 0 (bls (List.replicate 8 false)) = bls (List.replicate 8 false) := rfl
    have hl8 : (bls (List.replicate 8 false)).length = 8 := rfl
    have ho8 : (bls (List.replicate 8 false)).all AV.one = true := rfl
    unfold Gh
    simp (maxSteps := 3000000) only [qh, zH, ka, Xa, hb8, hov8, hl8, ho8, zk, zf, kc, qc, hdl, hel, y7, za, zn qt qt, List.length_replicate, Nat.le_refl, iE, iN, iB, iC, iL, iD, iA, iS, iM, qa, zZ, ↓qq, ↓reduceIte, reduceCtorEq, nA, nM, nS, nE, nL, nD]; try simp only [qa, zY]
    repeat' (with_reducible refine And.intro ?_ ?_)
    all_goals first
      | exact ⟨_, qw.qx [8, 7, 6, 5, 4, 3, 2], rfl⟩
      | (refine ⟨_, qw.x7 [0, 1, 2, 4, 3] [8, 7, 6, 5, 4, 3, 2] ⟨by decide, ?_⟩ ?_, ?_⟩
         · simp only [qg _ _ (qd _ _), qg _ _ (vn _), zK, ↓reduceIte, reduceCtorEq, nE, nB, nA]
         · simp only [qg _ _ (qd _ _), qg _ _ (vn _), zK, ↓reduceIte, reduceCtorEq, nE, nB, nA]
         · simp only [qb _ _ (qd _ _), qb _ _ (vn _), zL, ↓reduceIte, reduceCtorEq, nE, nA])
  rintro s rfl
  simp (maxSteps := 3000000) only [qh, zH, Gr, iE, iN, iB, iC, iL, iD, iA, iS, iM, qa, zZ, ↓qq, ↓reduceIte, reduceCtorEq, nA, nM, nS, nE, nL, nD]; try simp only [qa, zY]
  refine WA.xr qez (fun s => ∃ k : Nat, k ≤ N ∧ s = ⟨[(9, .int .i64 k), (8, .ptr 4 0), (7, .ptr 3 0), (6, .int .i64 N), (5, .int .i64 0), (4, .ptr 2 0), (3, .ptr 1 0), (2, .ptr 0 0)], [.cells (dia N d), .cells (dia N e), .cells (dia 0 (List.replicate 16 0)), .cells (bls (qg7 N d e k)), .cells (dia N (Ud N d e k))]⟩)
    (fun s => match get s.env 9 with | .int _ x => N - x.toNat | _ => 0) ⟨_, qw.qx [9, 8, 7, 6, 5, 4, 3, 2], 0, by omega, rfl⟩ ?_
  rintro s ⟨k, hk, rfl⟩
  have hw : qo .i64 ((k : Int) + 1) = ((k + 1 : Nat) : Int) := by rw [wrap64 (by omega) (by omega)]; rfl
  by_cases hlt : k < N
  · have hli : (k : Int) < (N : Int) := by omega
    have hk16 := yb N d e k
    have hmk := (Vn hds hes k hk).len
    have hx1 := qf2 hds hes (i := k) (by omega)
    have hx2 := qf2 hds hes (i := N + k) (by omega)
    have u1 : qo .u8 ((pr N d e k : Nat) : Int) = ((pr N d e k : Nat) : Int) := Yx (by omega)
    have u2 : qo .u8 ((pr N d e (N + k) : Nat) : Int) = ((pr N d e (N + k) : Nat) : Int) := Yx (by omega)
    have hadd : qo .i64 ((N : Int) + (k : Int)) = ((N + k : Nat) : Int) := by rw [wrap64 (by omega) (by omega)]; rfl
    obtain ⟨c1, c2⟩ := v7 (show k < 16 by omega)
    obtain ⟨c3, c4⟩ := v7 (show N + k < 16 by omega)
    have c5 : k < 16 := by omega
    have c6 : N + k < 16 := by omega
    have k1 : (0 : Int) ≤ (k : Int) ∧ (k : Int) < 2 * (N : Int) := by omega
    have k2 : (0 : Int) ≤ ((N + k : Nat) : Int) ∧ ((N + k : Nat) : Int) < 2 * (N : Int) := by omega
    have q1 : (true = decide ((k : Int) < (N : Int))) = True := by simp [hlt]
    have q2 : (false = decide (((N + k : Nat) : Int) < (N : Int))) = True := by simp; omega
    have hf1 : (fol N d e true k (qg7 N d e k)).length = 8 := by rw [qwa hds hes (by omega) (by simp [hlt])]; exact hmk
    have q0 : (0 : Int) ≤ (N : Int) := by omega
    have hdo := qy (n := (N : Int)) hd
    have heo := qy (n := (N : Int)) he
    simp (maxSteps := 3000000) only [qh, zH, J1, jc, gw, hw, hli, qc, hdl, hel, qn hdl, qn hel, hdo, heo, Kh, Int.toNat_natCast, hds, hes, k1, k2, q0, q1, q2, hmk, hf1, u1, u2, hadd, c1, c2, c3, c4, c5, c6, hk16, Bt, List.length_set, vu, AV.one, and_self, true_and, and_true, iE, iN, iB, iC, iL, iD, iA, iS, iM, qa, zZ, ↓qq, ↓reduceIte, reduceCtorEq, nA, nM, nS, nE, nL, nD]; try simp only [qa, zY]
    refine ⟨_, qw.qx [9, 8, 7, 6, 5, 4, 3, 2], ⟨k + 1, by omega, ?_⟩, ?_⟩
    · simp only [zL, ↓reduceIte, reduceCtorEq, nE, nA]
      rfl
    · simp only [zL, ↓reduceIte, reduceCtorEq, nE, nA]; omega
  have hli : ¬ (k : Int) < (N : Int) := by omega
  obtain rfl : k = N := by omega
  simp (maxSteps := 3000000) only [qh, zH, J1, Gf, jc, gw, hli, Int.lt_irrefl, iE, iN, iB, iC, iL, iD, iA, iS, iM, qa, zZ, ↓qq, ↓reduceIte, reduceCtorEq, nA, nM, nS, nE, nL, nD]; try simp only [qa, zY]
  refine WA.xr qez (fun s => ∃ (i : Nat) (met : List Bool), i ≤ k ∧ (met.length = 8 ∧ ∀ x, mt met x ↔ Seen k d e i x) ∧ s = ⟨[(15, .int .i64 i), (14, .int .i64 (lpN k d e i : Nat)), (8, .ptr 4 0), (7, .ptr 3 0), (6, .int .i64 k), (5, .int .i64 0), (4, .ptr 2 0), (3, .ptr 1 0), (2, .ptr 0 0)], [.cells (dia k d), .cells (dia k e), .cells (dia 0 (List.replicate 16 0)), .cells (bls met), .cells (dia k (xt k d e))]⟩)
    (fun s => match get s.env 15 with | .int _ x => k - x.toNat | _ => 0) ⟨_, qw.qx [15, 14, 8, 7, 6, 5, 4, 3, 2], 0, qg7 k d e k, by omega, ⟨(Vn hds hes k (Nat.le_refl _)).len, fun x => ⟨.inl, fun h => h.elim id fun ⟨j, hj, _⟩ => absurd hj (Nat.not_lt_zero _)⟩⟩, rfl⟩ ?_
  clear hlt hli hw
  rintro s ⟨i, met, hi, ⟨hml, hmt⟩, rfl⟩
  have hw : qo .i64 ((i : Int) + 1) = ((i + 1 : Nat) : Int) := by rw [wrap64 (by omega) (by omega)]; rfl
  have hle := qil k d e i
  have hw2 : qo .i64 (((lpN k d e i : Nat) : Int) + 1) = ((lpN k d e i + 1 : Nat) : Int) := by rw [wrap64 (by omega) (by omega)]; rfl
  by_cases hlt : i < k
  · have hli : (i : Int) < (k : Int) := by omega
    have g1 := Yq (show i < 8 by omega)
    have g2 : i < 8 := by omega
    have g3 := qvu (l := met) (i := i) (by omega)
    by_cases hs : Seen k d e i i
    · have hm1 : met.getD i false = true := (hmt i).2 hs
      simp (maxSteps := 3000000) only [qh, zH, Qt, Jw, jc, gw, hw, hli, g1, g2, g3, hm1, vu, hml, iE, iN, iB, iC, iL, iD, iA, iS, iM, qa, zZ, ↓qq, ↓reduceIte, reduceCtorEq, nA, nM, nS, nE, nL, nD]; try simp only [qa, zY]
      refine ⟨_, qw.qx [15, 14, 8, 7, 6, 5, 4, 3, 2], ⟨i + 1, met, by omega, ⟨hml, fun x => by rw [hmt, qqh hds hes hs]⟩, ?_⟩, ?_⟩
      · simp only [zL, ↓reduceIte, reduceCtorEq, nE, nA]
        simp only [lpN, if_pos hs]
      · simp only [zL, ↓reduceIte, reduceCtorEq, nE, nA]; omega
    · have hm1 : met.getD i false = false := by
        cases h : met.getD i false with
        | false => rfl
        | true => exact absurd ((hmt i).1 h) hs
      simp (maxSteps := 3000000) only [qh, zH, Qt, jc, gw, hw, hw2, hli, g1, g2, g3, hm1, vu, hml, iE, iN, iB, iC, iL, iD, iA, iS, iM, qa, zZ, ↓qq, ↓reduceIte, reduceCtorEq, nA, nM, nS, nE, nL, nD]; try simp only [qa, zY]
      refine WA.xr qez (fun s => ∃ (x : Nat) (mm : List Bool), InL k d e (dm k d) (em e) i x mm ∧ s = ⟨[(16, .int .i64 x), (15, .int .i64 i), (14, .int .i64 (lpN k d e i + 1 : Nat)), (8, .ptr 4 0), (7, .ptr 3 0), (6, .int .i64 k), (5, .int .i64 0), (4, .ptr 2 0), (3, .ptr 1 0), (2, .ptr 0 0)], [.cells (dia k d), .cells (dia k e), .cells (dia 0 (List.replicate 16 0)), .cells (bls mm), .cells (dia k (xt k d e))]⟩)
        (fun s : St => match s.hp[3]? with | some (AO.cells l) => Zt l | _ => 0) ⟨_, qw.qx [16, 15, 14, 8, 7, 6, 5, 4, 3, 2], i, met, ⟨hml, .inl ⟨rfl, hmt⟩⟩, rfl⟩ ?_
      rintro s ⟨x, mm, hin, rfl⟩
      have hmm := hin.1
      have hdi := qcm hds hes
      have hei := qb7 hds hes
      have hxk : x < k := by
        rcases hin.2 with ⟨rfl, _⟩ | ⟨T, last, hT, rfl, _⟩
        · exact hlt
        · exact (hei.mem _ (Ring.mem hdi hei ⟨hlt, fun h => hs (.inl h)⟩ (hT.ring _ hT.lm))).1
      have g4 := Yq (show x < 8 by omega)
      have g5 : x < 8 := by omega
      have g6 := qvu (l := mm) (i := x) (by omega)
      by_cases hmx : mm.getD x false = true
      · have hst := q2o hds hes hdi hei (fun _ _ => Iff.rfl) hlt hs hin hmx
        simp (maxSteps := 3000000) only [qh, zH, Vb, Jw, jc, gw, hw, g4, g5, g6, hmx, vu, hmm, Bool.not_true, iE, iN, iB, iC, iL, iD, iA, iS, iM, qa, zZ, ↓qq, ↓reduceIte, reduceCtorEq, nA, nM, nS, nE, nL, nD]; try simp only [qa, zY]
        refine ⟨_, qw.qx [15, 14, 8, 7, 6, 5, 4, 3, 2], ⟨i + 1, mm, by omega, ⟨hmm, hst⟩, ?_⟩, ?_⟩
        · simp only [zL, ↓reduceIte, reduceCtorEq, nE, nA]
          simp only [lpN, if_neg hs]
        · simp only [zL, ↓reduceIte, reduceCtorEq, nE, nA]; omega
      · obtain ⟨y1, y2, y3⟩ := q1i hdi hei (by omega) hlt hs hin hmx
        have hmx' : mm.getD x false = false := by simpa using hmx
        obtain ⟨z1, z2, z3⟩ := ql7 hds hes y1
        have hdx : dm k d x = d.getD (k + x) 0 - k := rfl
        have hyk := y2.1
        have hadd : qo .i64 ((k : Int) + (x : Int)) = ((k + x : Nat) : Int) := by rw [wrap64 (by omega) (by omega)]; rfl
        obtain ⟨c3, c4⟩ := v7 (show k + x < 16 by omega)
        have c6 : k + x < 16 := by omega
        obtain ⟨c7, c8⟩ := v7 (show dm k d x < 16 by omega)
        have c9 : dm k d x < 16 := by omega
        have g7 := Yq (show dm k d x < 8 by omega)
        have g8 : dm k d x < 8 := by omega
        have d1 := Vt (n := (k : Int)) (m := d) (i := k + x) (by omega)
        have d2 := Vt (n := (k : Int)) (m := e) (i := dm k d x) (by omega)
        have v1 : qo .i64 ((d.getD (k + x) 0 : Nat) : Int) = ((d.getD (k + x) 0 : Nat) : Int) := ji (by omega)
        have v2 : qo .i64 (((d.getD (k + x) 0 : Nat) : Int) - (k : Int)) = ((dm k d x : Nat) : Int) := by rw [wrap64 (by omega) (by omega)]; omega
        have v3 : qo .i64 ((e.getD (dm k d x) 0 : Nat) : Int) = ((e.getD (dm k d x) 0 : Nat) : Int) := ji (by have := ql7 hds hes y2; omega)
        simp (maxSteps := 3000000) only [qh, zH, Vb, jc, gw, g4, g5, g6, g7, g8, hmx', vu, qhs, hmm, List.length_set, hadd, c3, c4, c6, c7, c8, c9, d1, d2, v1, v2, v3, qc, hdl, hel, AV.one, Bool.not_false, iE, iN, iB, iC, iL, iD, iA, iS, iM, qa, zZ, ↓qq, ↓reduceIte, reduceCtorEq, nA, nM, nS, nE, nL, nD]; try simp only [qa, zY]
        refine ⟨_, qw.qx [16, 15, 14, 8, 7, 6, 5, 4, 3, 2], ⟨_, _, y3, ?_⟩, ?_⟩
        · simp only [zL, ↓reduceIte, reduceCtorEq, nE, nA]
          rfl
        · simp only [zL, ↓reduceIte, reduceCtorEq, nE, nA]
          have h1 := Bq (met := mm) (k := x) (by omega) hmx'
          have h2 := qlf (met := mm.set x true) (k := dm k d x)
          omega
  · have hli : ¬ (i : Int) < (k : Int) := by omega
    obtain rfl : i = k := by omega
    have hk16 := yb i d e i
    have hk16' : (xt i d e).length = 16 := hk16
    simp (maxSteps := 3000000) only [qh, zH, Qt, Gt, jc, gw, hli, qc, hk16', qn hk16', zn qt hk16', za, List.length_replicate, Int.lt_irrefl, iE, iN, iB, iC, iL, iD, iA, iS, iM, qa, zZ, ↓qq, ↓reduceIte, reduceCtorEq, nA, nM, nS, nE, nL, nD]; try simp only [qa, zY]
    simp only [qd, Bool.and_self]
noncomputable def jq : List AV → Option AV
  | [.agg ld, .agg le] => match vi ld, vi le with
    | some (n, d), some (n', e) => chk ((n' = n ∧ 0 ≤ n) ∧ isS n.toNat d = true ∧ isS n.toNat e = true) (some (.tup [.agg (dia n (xt n.toNat d e)), .int .i64 (lpN n.toNat d e n.toNat : Nat)]))
    | _, _ => none
  | _ => none
theorem qj8 {f : FuncId} (h : ∀ (N : Nat) d e, okD d → okD e → isS N d = true → isS N e = true → Am.Fn Try.prog f [.agg (dia N d), .agg (dia N e)] [] (fun v H' => v = .tup [.agg (dia N (xt N d e)), .int .i64 (lpN N d e N : Nat)] ∧ H' = [])) : Am.Callee Try.prog f (qj jq) := Am.Callee.plain fun xs v he => by
  unfold jq at he
  split at he
  · rename_i ld le
    split at he
    · rename_i n d n' e hd1 he1
      obtain ⟨⟨⟨a1, a2⟩, a3, a4⟩, he2⟩ := ql he
      cases he2
      obtain ⟨rfl, hd⟩ := zi hd1
      obtain ⟨rfl, he'⟩ := zi he1
      subst a1
      obtain ⟨N, rfl⟩ : ∃ N : Nat, n' = N := ⟨n'.toNat, by omega⟩
      simp only [Int.toNat_natCast] at a3 a4 ⊢
      exact ⟨by simp [AV.zg, AV.zq, qd], by simp [AV.zg, AV.zq, qd], h N d e hd he' a3 a4⟩
    · cases he
  · cases he
noncomputable def B81 : zc := (B80.put 140 (qj jq))
theorem qmr : qp Try.prog B81 := (qez.put (qj8 qnv))
def qft : AC := .skip
theorem qsf : zl Try.prog 171 = some ⟨4, qft, []⟩ := by kernel_rfl
theorem qpw (b : Bool) (i : Int) : Am.Fn Try.prog 171 [.bool b, .int .i64 i] [] (fun v H' => v = .tup [] ∧ H' = []) := by
  refine Am.Fn.xf (R := fun v => v = _) qmr mixed qsf (by simp) (by simp) ?_
  simp (maxSteps := 3000000) only [qh, zH, qft, qa, iE, iN, iB, iC, iL, iD, iA, iS, iM, qa, zZ, ↓qq, ↓reduceIte, reduceCtorEq, nA, nM, nS, nE, nL, nD]; try simp only [qa, zY]
def Qe : List AV → Option AV
  | [.bool _, .int .i64 _] => some (.tup [])
  | _ => none
theorem q78 : Am.Callee Try.prog 171 (qj Qe) := Am.Callee.plain fun xs v he => by
  unfold Qe at he
  split at he
  · cases he; exact ⟨rfl, rfl, qpw _ _⟩
  · cases he
def qgb : AC := .region [oM 5 0,oM 6 1,o0 7 (.conv .u8 (.t 6)),oF 8 1 2,o0 9 (.xa 16 1 (.t 8) (.t 5)),oT 9 7]
theorem qqj : zl Try.prog 172 = some ⟨10, qgb, []⟩ := by kernel_rfl
theorem qp1 (n : Int) (m : List Nat) (hm : m.length = 16) (i v : Nat) (hi : i < 16) (hv : v < 256) : Am.Fn Try.prog 172 [.int .i64 i, .int .i64 v, .ptr 0 0] [.cells (dia n m)] (fun r H' => r = .tup [] ∧ H' = [.cells (dia n (m.set i v))]) := by
  refine Am.Fn.ofB qmr mixed qqj (by simp [AV.qv, AV.under]) (fun j o hj => by
    match j, hj with
    | 0, hj => cases hj; exact qk _ _ (qd _ _)
    | j + 1, hj => simp at hj) ?_
  obtain ⟨c1, c2⟩ := v7 hi
  have c3 : i < 16 := hi
  have hw : qo .u8 (v : Int) = (v : Int) := Yx hv
  simp (maxSteps := 3000000) only [qh, zH, qgb, qa, qc, hm, Bt, c1, c2, c3, hw, AV.one, iE, iN, iB, iC, iL, iD, iA, iS, iM, qa, zZ, ↓qq, ↓reduceIte, reduceCtorEq, nA, nM, nS, nE, nL, nD]; try simp only [qa, zY]
  refine Ret.x7 [0] ⟨⟨Nat.le_refl 1, rfl, by decide⟩, ?_⟩ (rs := []) rfl rfl (by simp [xl]) ?_ ⟨rfl, ?_⟩
  · simp only [qg _ _ (qd _ _), zK, ↓reduceIte, reduceCtorEq, nE, nB, nA]
  · intro j l; cases j <;> simp [zo, AO.ren]
  · simp only [qb _ _ (qd _ _), zL, ↓reduceIte, reduceCtorEq, nE, nA]
def Gj : BE := fun hp xs => match xs with
  | [.int .i64 i, .int .i64 v, .ptr b 0] => match hp[b]? with
    | some (.cells l) => match vi l with
      | some (n, m) => chk ((0 ≤ i ∧ i < 16) ∧ 0 ≤ v ∧ v < 256) (some (.tup [], hp.set b (.cells (dia n (m.set i.toNat v.toNat)))))
      | none => none
    | _ => none
  | _ => none
theorem zam : Am.Callee Try.prog 172 Gj := Callee.fp fun hp xs v hp' he => by
  unfold Gj at he
  split at he
  · rename_i i v b
    split at he
    · rename_i l hb
      split at he
      · rename_i n m hd1
        obtain ⟨⟨⟨a1, a2⟩, a3, a4⟩, he2⟩ := ql he
        simp only [Option.some.injEq, Prod.mk.injEq] at he2
        obtain ⟨rfl, rfl⟩ := he2
        obtain ⟨rfl, hd⟩ := zi hd1
        obtain ⟨k, rfl⟩ : ∃ k : Nat, i = k := ⟨i.toNat, by omega⟩
        obtain ⟨w, rfl⟩ : ∃ w : Nat, v = w := ⟨v.toNat, by omega⟩
        simp only [Int.toNat_natCast]
        refine ⟨[(b, 0)], [.int .i64 k, .int .i64 w, .ptr 0 0], _, _, _, qp1 n m hd.1 k w (by omega) (by omega), by simp [AV.ren, AV.zp, ofL], by simp [jo], ⟨⟨rfl, by simp only [AO.ren, qb _ _ (qd _ _)]; exact hb⟩, trivial⟩, rfl, ⟨qk _ _ (qd _ _), trivial⟩, ⟨trivial, trivial, by simp [AV.under], trivial⟩, by simp [AV.ren, AV.zp], ?_⟩
        simp [after, upd, AO.wr, AO.ren, qb _ _ (qd _ _)]
      · cases he
    · cases he
  · cases he
def qf5 : AC := .region [oL 1 0,oK 2 .add 1 1,oT 0 2]
theorem qq9 : zl Try.prog 173 = some ⟨3, qf5, []⟩ := by kernel_rfl
theorem qo4 (k : Nat) (hk : k ≤ 1000) : Am.Fn Try.prog 173 [.ptr 0 0] [.cells [.int .i64 k]] (fun r H' => r = .tup [] ∧ H' = [.cells [.int .i64 (k + 1 : Nat)]]) := by
  refine Am.Fn.ofB qmr mixed qq9 (by simp [AV.qv, AV.under]) (fun j o hj => by
    match j, hj with
    | 0, hj => cases hj; exact ⟨trivial, trivial⟩
    | j + 1, hj => simp at hj) ?_
  have hw : qo .i64 ((k : Int) + 1) = ((k + 1 : Nat) : Int) := by rw [wrap64 (by omega) (by omega)]; rfl
  simp (maxSteps := 3000000) only [qh, zH, qf5, qa, hw, AV.one, iE, iN, iB, iC, iL, iD, iA, iS, iM, qa, zZ, ↓qq, ↓reduceIte, reduceCtorEq, nA, nM, nS, nE, nL, nD]; try simp only [qa, zY]
  refine Ret.x7 [0] ⟨⟨Nat.le_refl 1, rfl, by decide⟩, ?_⟩ (rs := []) rfl rfl (by simp [xl]) ?_ ⟨rfl, ?_⟩
  · simp only [qg _ _ (qd _ _), zK, ↓reduceIte, reduceCtorEq, nE, nB, nA]
  · intro j l; cases j <;> simp [zo, AO.ren]
  · simp only [qb _ _ (qd _ _), zL, ↓reduceIte, reduceCtorEq, nE, nA]
def bd : BE := fun hp xs => match xs with
  | [.ptr b 0] => match hp[b]? with
    | some (.cells [.int .i64 k]) => chk (0 ≤ k ∧ k ≤ 1000) (some (.tup [], hp.set b (.cells [.int .i64 (k + 1)])))
    | _ => none
  | _ => none
theorem q3c : Am.Callee Try.prog 173 bd := Callee.fp fun hp xs v hp' he => by
  unfold bd at he
  split at he
  · rename_i b
    split at he
    · rename_i k hb
      obtain ⟨⟨a1, a2⟩, he2⟩ := ql he
      simp only [Option.some.injEq, Prod.mk.injEq] at he2
      obtain ⟨rfl, rfl⟩ := he2
      obtain ⟨k', rfl⟩ : ∃ k' : Nat, k = k' := ⟨k.toNat, by omega⟩
      refine ⟨[(b, 0)], [.ptr 0 0], _, _, _, qo4 k' (by omega), by simp [AV.ren, AV.zp, ofL], by simp [jo], ⟨⟨rfl, by simp only [AO.ren, AV.zp, AV.ren]; exact hb⟩, trivial⟩, rfl, ⟨⟨trivial, trivial⟩, trivial⟩, ⟨by simp [AV.under], trivial⟩, by simp [AV.ren, AV.zp], ?_⟩
      simp [after, upd, AO.wr, AO.ren, AV.zp, AV.ren]
    · cases he
  · cases he
noncomputable def B82 : zc := (((B81.put 171 (qj Qe)).put 172 (Gj)).put 173 (bd))
theorem qiv : qp Try.prog B82 := (((qmr.put (q78)).put (zam)).put (q3c))
def stk (a b : Nat) (met : List Bool) : List AV := .ptr a 0 :: .ptr b 0 :: (bls met ++ [.fn 171 [] []])
theorem wj {a b : Nat} {met : List Bool} : (stk a b met).length = met.length + 3 := by simp [stk, vu]
theorem Zl {a b : Nat} {met : List Bool} : (stk a b met)[0]? = some (.ptr a 0) := rfl
theorem Xc {a b : Nat} {met : List Bool} : (stk a b met)[1]? = some (.ptr b 0) := rfl
theorem X5 {a b : Nat} {met : List Bool} (h : met.length = 8) : (stk a b met)[10]? = some (.fn 171 [] []) := by
  simp [stk, List.getElem?_append, vu, h]
theorem qc6 {a b : Nat} {met : List Bool} {i : Nat} {v : Bool} (h : met.length = 8) (hi : i < 8) : (stk a b met).set (2 + i) (.bool v) = stk a b (met.set i v) := by
  rw [Nat.add_comm]
  simp [stk, List.set_append, vu, h, hi, qhs]
theorem q3k {a b : Nat} {met : List Bool} {i : Nat} (h : met.length = 8) (hi : i < 8) : (stk a b met)[2 + i]? = some (.bool (met.getD i false)) := by
  rw [Nat.add_comm]
  simp [stk, List.getElem?_append, vu, h, hi, bls]
theorem qtb {n : Nat} (met : List Bool) : AV.qv n (bls met) := qk _ _ (vn _)
theorem qqv {ρ : Ren} : ∀ (l l' : List AV), AV.zp ρ (l ++ l') = AV.zp ρ l ++ AV.zp ρ l'
  | [], _ => rfl
  | a :: l, l' => by simp [AV.zp, qqv l l']
theorem qf4 {n : Nat} : ∀ (l l' : List AV), AV.qv n l → AV.qv n l' → AV.qv n (l ++ l')
  | [], _, _, h => h
  | a :: l, l', h, h' => ⟨h.1, qf4 l l' h.2 h'⟩
theorem qdh {ids : List Nat} : ∀ (l l' : List AV), AV.xg ids l = true → AV.xg ids l' = true → AV.xg ids (l ++ l') = true
  | [], _, _, h => h
  | a :: l, l', h, h' => by
    simp only [AV.xg, List.cons_append, Bool.and_eq_true] at h ⊢
    exact ⟨h.1, qdh l l' h.2 h'⟩
theorem Y9 {ρ : Ren} {a b : Nat} {met : List Bool} : AV.zp ρ (stk a b met) = (AV.ptr a 0).ren ρ :: (AV.ptr b 0).ren ρ :: (bls met ++ [.fn 171 [] []]) := by
  simp only [stk, AV.zp, qqv, qb _ _ (vn met)]
  simp [AV.zp, AV.ren]
theorem ql9 {n a b : Nat} {met : List Bool} (h1 : a < n) (h2 : b < n) : AV.qv n (stk a b met) := ⟨h1, h2, qf4 _ _ (qtb _) ⟨⟨trivial, trivial⟩, trivial⟩⟩
theorem qvd {x N : Nat} (h1 : N ≤ x) (h2 : x < 2 * N) : Int.tmod (x : Int) (N : Int) = ((x - N : Nat) : Int) := by
  show ((x % N : Nat) : Int) = _
  rw [Nat.mod_eq_sub_mod h1, Nat.mod_eq_of_lt (by omega)]
theorem qvb {x N : Nat} (h1 : x < N) : Int.tmod (x : Int) (N : Int) = (x : Int) := by
  show ((x % N : Nat) : Int) = _
  rw [Nat.mod_eq_of_lt h1]
theorem qb1 {met : List Bool} : AV.xg [0, 1, 2] (stk 1 2 met) = true := by
  have h : AV.xg [0, 1, 2] (bls met ++ [.fn 171 [] []]) = true := qdh _ _ (qg _ _ (vn _)) rfl
  simp [stk, AV.xg, AV.within, h]
theorem ro3 {m m' l1 l2 : List AV} {hp : List AO} : ∀ (j : Nat) (l : List AV), (zo [0, 1, 2] (.cells m :: .ro l1 :: .ro l2 :: hp))[j]? = some (AO.ro l) → ∃ l', ([.cells m', .ro l1, .ro l2] : List AO)[j]? = some (AO.ro l')
  | 0, l, h => by simp [zo, AO.ren] at h
  | 1, l, h => ⟨_, rfl⟩
  | 2, l, h => ⟨_, rfl⟩
  | j + 3, l, h => by simp [zo] at h
def H3 (N : Nat) (d e : List Nat) (met : List Bool) : List AO := [.cells (stk 1 2 met), .ro (dia N d), .ro (dia N e)]
theorem qqq {N : Nat} {d e : List Nat} {met : List Bool} : ∀ (j : Nat) (o : AO), (H3 N d e met)[j]? = some o → o.under 3 := fun j o hj => by
  match j, hj with
  | 0, hj => cases hj; exact ql9 (by omega) (by omega)
  | 1, hj => cases hj; exact qk _ _ (qd _ _)
  | 2, hj => cases hj; exact qk _ _ (qd _ _)
  | j + 3, hj => simp [H3] at hj
theorem wi : B82 168 = some (Xp 1 g_n) := rfl
theorem ud : B82 171 = some (qj Qe) := rfl
def xn : AC := .block 1 (.seq (.region [oM 17 0,o0 18 (.jx (.t 17)),oF 19 0 18,oL 20 19,oM 10 20]) (.seq (.seq (.region [oM 21 1]) (.cond 21 (.region [oM 22 0,o0 23 (.jx (.t 22)),oF 24 1 23,oL 25 24,oM 10 25]) .skip)) (.seq (.region [oM 26 0,o0 27 (.jx (.t 26)),oF 28 10 27,oL 29 28,oM 30 1,oM 31 2,⟨some 32,none,.call (.t 29) [.t 30,.t 31]⟩]) (.seq (.region [oM 33 10,oM 34 2,o0 35 (.jx (.t 33)),oF 36 1 35,o0 37 (.xa 16 1 (.t 36) (.t 34)),oL 38 37,o0 39 (.conv .i64 (.t 38)),oM 2 39]) (.seq (.seq (.region [oM 40 1,oM 41 2,oM 42 9,oP 43 .geq 41 42,o0 44 (.eqb false (.t 40) (.t 43))]) (.cond 44 (.seq (.region [oM 45 2,oM 8 45]) .ret) .skip)) (.seq (.region [oM 46 2,oM 47 9,oP 48 .rem 46 47,oM 11 48]) (.seq (.region [oM 49 0,oM 50 11,o0 51 (.jx (.t 49)),oF 52 2 51,o0 53 (.xa 8 1 (.t 52) (.t 50)),⟨none,none,.op (.Xb (.t 53) (.c (.bool true)))⟩]) (.seq (.seq (.region [oM 54 1,o0 55 (.un .not (.t 54)),oM 1 55]) (.seq (.region [oM 56 1]) (.cond 56 (.region [oM 57 11,oM 2 57]) (.region [oM 58 9,oM 59 11,oP 60 .add 58 59,oM 2 60])))) (.seq (.region [oM 61 11,oM 62 3,oP 63 .eql 61 62]) (.cond 63 (.seq (.region [oI 8 (-1)]) .ret) .skip))))))))))
def Xz : AC := .seq (.region [oI 8 0]) (.seq (.region [oM 12 0,o0 13 (.jx (.t 12)),oF 14 0 13,oL 15 14,oC 16 168 [.t 15],oM 9 16]) (.block 0 (.loop xn)))
theorem Ur : zl Try.prog 187 = some ⟨64, Xz, [.slot 8]⟩ := by kernel_rfl
theorem qsz (N : Nat) (d e : List Nat) (hd : okD d) (he : okD e) (hds : isS N d = true) (hes : isS N e = true) {f : Nat} {u : Bool} {i : Nat} {met : List Bool} {r : Nat} {s : Bool} {met' : List Bool} (hf : zt N d e f u i met = some (r, s, met')) (hi : i < 2 * N) (hm : met.length = 8) :
    Am.Fn Try.prog 187 [.ptr 0 0, .bool (!u), .int .i64 i, .int .i64 (-1)] (H3 N d e met) (fun v H' => v = .int .i64 r ∧ H' = H3 N d e met') := by
  refine Am.Fn.ofB qiv mixed Ur (by simp [AV.qv, AV.under, H3]) qqq ?_
  obtain ⟨hN, hpd, _⟩ := xk hds
  obtain ⟨_, hpe, _⟩ := xk hes
  have hdl := hd.1
  have hel := he.1
  unfold H3
  simp (maxSteps := 3000000) only [qh, zH, Xz, wi, ud, Qe, g_n, wj, Zl, Xc, hm, qc, hdl, hel, y7, Bg, iE, iN, iB, iC, iL, iD, iA, iS, iM, qa, zZ, ↓qq, ↓reduceIte, reduceCtorEq, nA, nM, nS, nE, nL, nD]; try simp only [qa, zY]
  refine q2t qiv (fun f st => ∃ (u : Bool) (i : Nat) (met : List Bool), zt N d e f u i met = some (r, s, met') ∧ i < 2 * N ∧ met.length = 8 ∧
      st = ⟨[(9, .int .i64 N), (0, .ptr 0 0), (1, .bool (!u)), (2, .int .i64 i), (3, .int .i64 (-1))], [.cells (stk 1 2 met), .ro (dia N d), .ro (dia N e)]⟩) ⟨_, qw.qx [9, 0, 1, 2, 3], f, u, i, met, hf, hi, hm, rfl⟩ ?_
  clear hf hi hm
  rintro k st ⟨u, i, met, hf, hi, hm, rfl⟩ post hpost
  obtain ⟨hi16, hi16'⟩ := v7 (show i < 16 by omega)
  have hi17 : i < 16 := by omega
  have hN0 : (N : Int) ≠ 0 := by omega
  match k, u, hf with
  | 0, _, hf => simp [zt] at hf
  | f + 1, true, hf =>
    have hx := (hpd i hi).1
    have hcx : qo .i64 ((d.getD i 0 : Nat) : Int) = ((d.getD i 0 : Nat) : Int) := ji (by omega)
    have hdx := Vt (n := (N : Int)) (m := d) (i := i) (by omega)
    rw [zt] at hf
    by_cases hlt : d.getD i 0 < N
    · rw [if_pos hlt] at hf
      simp only [Option.some.injEq, Prod.mk.injEq] at hf
      obtain ⟨rfl, rfl, rfl⟩ := hf
      have hli : ((N : Int) ≤ ((d.getD i 0 : Nat) : Int)) ↔ False := iff_false_intro (by omega)
      simp (maxSteps := 3000000) only [qh, zH, xn, wi, ud, Qe, g_n, Bool.not_true, Bool.not_false, wj, Zl, Xc, X5 hm, hm, qc, hdl, hel, hi16, hi16', hi17, hcx, hdx, hli, decide_false, decide_true, beq_self_eq_true, bne_self_eq_false, Bool.true_beq, Bool.false_beq, AV.one, iE, iN, iB, iC, iL, iD, iA, iS, iM, qa, zZ, ↓qq, ↓reduceIte, reduceCtorEq, nA, nM, nS, nE, nL, nD]; try simp only [qa, zY]
      refine Ret.x7 [0, 1, 2] ⟨⟨by simp, rfl, by decide⟩, ?_⟩ (rs := [.int .i64 (d.getD i 0 : Nat)]) rfl rfl (by simp [xl]) ?_ ⟨?_, ?_⟩
      · simp only [qg _ _ (qd _ _), qb1, zK, ↓reduceIte, reduceCtorEq, nE, nB, nA]
      · exact ro3
      · rfl
      · simp only [qb _ _ (qd _ _), Y9, zL, ↓reduceIte, reduceCtorEq, nE, nA]
        rfl
    · rw [if_neg hlt] at hf
      have hli : ((N : Int) ≤ ((d.getD i 0 : Nat) : Int)) ↔ True := iff_true_intro (by omega)
      have hrem := qvd (N := N) (x := d.getD i 0) (by omega) hx
      have h8 := Yq (show d.getD i 0 - N < 8 by omega)
      have h8' : d.getD i 0 - N < 8 := by omega
      have h10 : 2 + (d.getD i 0 - N) < 8 + 3 := by omega
      have hst : ((((d.getD i 0 - N : Nat) : Int)) == (-1 : Int)) = false := by rw [beq_eq_false_iff_ne]; omega
      simp (maxSteps := 3000000) only [qh, zH, xn, wi, ud, Qe, g_n, Bool.not_true, Bool.not_false, wj, Zl, Xc, X5 hm, qc6 hm h8', hm, qc, hdl, hel, hi16, hi16', hi17, hcx, hdx, hli, decide_false, decide_true, beq_self_eq_true, bne_self_eq_false, Bool.true_beq, Bool.false_beq, hrem, h8, h8', h10, hN0, hst, AV.one, iE, iN, iB, iC, iL, iD, iA, iS, iM, qa, zZ, ↓qq, ↓reduceIte, reduceCtorEq, nA, nM, nS, nE, nL, nD]; try simp only [qa, zY]
      exact hpost _ _ f (qw.qx [9, 0, 1, 2, 3]) ⟨false, d.getD i 0 - N, _, hf, by omega, by simp [hm], rfl⟩ (Nat.lt_succ_self _)
  | f + 1, false, hf =>
    have hx := (hpe i hi).1
    have hcx : qo .i64 ((e.getD i 0 : Nat) : Int) = ((e.getD i 0 : Nat) : Int) := ji (by omega)
    have hdx := Vt (n := (N : Int)) (m := e) (i := i) (by omega)
    rw [zt] at hf
    by_cases hlt : N ≤ e.getD i 0
    · rw [if_pos hlt] at hf
      simp only [Option.some.injEq, Prod.mk.injEq] at hf
      obtain ⟨rfl, rfl, rfl⟩ := hf
      have hli : ((N : Int) ≤ ((e.getD i 0 : Nat) : Int)) ↔ True := iff_true_intro (by omega)
      simp (maxSteps := 3000000) only [qh, zH, xn, wi, ud, Qe, g_n, Bool.not_true, Bool.not_false, wj, Zl, Xc, X5 hm, hm, qc, hdl, hel, hi16, hi16', hi17, hcx, hdx, hli, decide_false, decide_true, beq_self_eq_true, bne_self_eq_false, Bool.true_beq, Bool.false_beq, AV.one, iE, iN, iB, iC, iL, iD, iA, iS, iM, qa, zZ, ↓qq, ↓reduceIte, reduceCtorEq, nA, nM, nS, nE, nL, nD]; try simp only [qa, zY]
      refine Ret.x7 [0, 1, 2] ⟨⟨by simp, rfl, by decide⟩, ?_⟩ (rs := [.int .i64 (e.getD i 0 : Nat)]) rfl rfl (by simp [xl]) ?_ ⟨?_, ?_⟩
      · simp only [qg _ _ (qd _ _), qb1, zK, ↓reduceIte, reduceCtorEq, nE, nB, nA]
      · exact ro3
      · rfl
      · simp only [qb _ _ (qd _ _), Y9, zL, ↓reduceIte, reduceCtorEq, nE, nA]
        rfl
    · rw [if_neg hlt] at hf
      have hli : ((N : Int) ≤ ((e.getD i 0 : Nat) : Int)) ↔ False := iff_false_intro (by omega)
      have hrem := qvb (N := N) (x := e.getD i 0) (by omega)
      have hadd : qo .i64 ((N : Int) + ((e.getD i 0 : Nat) : Int)) = ((N + e.getD i 0 : Nat) : Int) := by rw [wrap64 (by omega) (by omega)]; rfl
      have h8 := Yq (show e.getD i 0 < 8 by omega)
      have h8' : e.getD i 0 < 8 := by omega
      have h10 : 2 + e.getD i 0 < 8 + 3 := by omega
      have hst : (((e.getD i 0 : Nat) : Int) == (-1 : Int)) = false := by rw [beq_eq_false_iff_ne]; omega
      simp (maxSteps := 3000000) only [qh, zH, xn, wi, ud, Qe, g_n, Bool.not_true, Bool.not_false, wj, Zl, Xc, X5 hm, qc6 hm h8', hm, qc, hdl, hel, hi16, hi16', hi17, hcx, hdx, hli, decide_false, decide_true, beq_self_eq_true, bne_self_eq_false, Bool.true_beq, Bool.false_beq, hrem, hadd, h8, h8', h10, hN0, hst, AV.one, iE, iN, iB, iC, iL, iD, iA, iS, iM, qa, zZ, ↓qq, ↓reduceIte, reduceCtorEq, nA, nM, nS, nE, nL, nD]; try simp only [qa, zY]
      exact hpost _ _ f (qw.qx [9, 0, 1, 2, 3]) ⟨true, N + e.getD i 0, _, hf, by omega, by simp [hm], rfl⟩ (Nat.lt_succ_self _)
theorem uu : B82 168 = some (Xp 1 g_n) := rfl
theorem kv : B82 171 = some (qj Qe) := rfl
def InA (n : Nat) (d e : List Nat) (i x : Nat) (met : List Bool) : Prop :=
  met.length = 8 ∧ ((x = i ∧ ∀ y, mt met y ↔ Seen n d e i y) ∨ ∃ (T : Nat → Prop) (last : Nat), qg4 (XX n d e) (em e) (dm n d) i T last ∧ x = dm n d last ∧ ¬ T x ∧ ∀ y, mt met y ↔ Seen n d e i y ∨ (T y ∧ y ≠ i) ∨ y = x)
def InB (n : Nat) (d e : List Nat) (i y : Nat) (met : List Bool) : Prop :=
  met.length = 8 ∧ ∃ (T : Nat → Prop), qg4 (XX n d e) (em e) (dm n d) i T y ∧ ∀ z, mt met z ↔ Seen n d e i z ∨ (T z ∧ z ≠ i)
theorem q0j {n : Nat} {d e : List Nat} (hd : isS n d = true) (he : isS n e = true) (hn : n ≤ 8) {i x : Nat} {met : List Bool} (hi : i < n) (h0 : ¬ Seen n d e i i) (h : InA n d e i x met) :
    XX n d e x ∧ XX n d e (em e x) ∧ em e x ≠ i ∧ ¬ mt met (em e x) ∧ InB n d e i (em e x) (met.set (em e x) true) := by
  have hX : XX n d e i := ⟨hi, fun h => h0 (.inl h)⟩
  have hf := qb7 hd he
  have hg := qcm hd he
  obtain ⟨hl, ⟨rfl, hm⟩ | ⟨T, last, hT, rfl, hTx, hm⟩⟩ := h
  · have h1 := hf.mem _ hX
    have h2 : ¬ mt met (em e x) := fun h => U5 hd he hi h0 (.two .base) ((hm _).1 h)
    have h3 := hf.fix _ hX
    refine ⟨hX, h1, h3, h2, by rw [List.length_set]; exact hl, _, qg4.start hf hX, fun z => ?_⟩
    rw [bt (by have := h1.1; omega), hm]
    constructor
    · rintro (rfl | h)
      · exact .inr ⟨.inr rfl, h3⟩
      · exact .inl h
    · rintro (h | ⟨h | h, h'⟩)
      · exact .inr h
      · exact absurd h h'
      · exact .inl h
  · have hr := hT.ring _ hT.lm
    have h0' := hg.mem _ (Ring.mem hf hg hX hr)
    have h1 := hf.mem _ h0'
    obtain ⟨n1, n2, n3⟩ := hT.next hf hg hX hTx
    have h3 : em e (dm n d last) ≠ i := fun h => n2 (by rw [h]; exact hT.m0)
    have h4 : dm n d last ≠ i := fun h => hTx (by rw [h]; exact hT.m0)
    have h2 : ¬ mt met (em e (dm n d last)) := fun h => by
      rcases (hm _).1 h with h | ⟨h, _⟩ | h
      · exact U5 hd he hi h0 (Ring.swap (.one (.two hr))) h
      · exact n2 h
      · exact n3 h
    refine ⟨h0', h1, h3, h2, by rw [List.length_set]; exact hl, _, n1, fun z => ?_⟩
    rw [bt (by have := h1.1; omega), hm]
    constructor
    · rintro (rfl | h | ⟨h, h'⟩ | rfl)
      · exact .inr ⟨.inr (.inl rfl), h3⟩
      · exact .inl h
      · exact .inr ⟨.inr (.inr h), h'⟩
      · exact .inr ⟨.inl rfl, h4⟩
    · rintro (h | ⟨h | h | h, h'⟩)
      · exact .inr (.inl h)
      · exact .inr (.inr (.inr h))
      · exact .inl h
      · exact .inr (.inr (.inl ⟨h, h'⟩))
theorem qz2 {n : Nat} {d e : List Nat} (hd : isS n d = true) (he : isS n e = true) (hn : n ≤ 8) {i y : Nat} {met : List Bool} (hi : i < n) (h0 : ¬ Seen n d e i i) (h : InB n d e i y met) :
    XX n d e y ∧ XX n d e (dm n d y) ∧ (dm n d y = i → ∀ z, mt (met.set i true) z ↔ Seen n d e i z ∨ Ring (dm n d) (em e) i z) ∧ (dm n d y ≠ i → ¬ mt met (dm n d y) ∧ InA n d e i (dm n d y) (met.set (dm n d y) true)) := by
  have hX : XX n d e i := ⟨hi, fun h => h0 (.inl h)⟩
  have hf := qb7 hd he
  have hg := qcm hd he
  obtain ⟨hl, T, hT, hm⟩ := h
  have hr := hT.ring _ hT.lm
  have hy := Ring.mem hf hg hX hr
  have h1 := hg.mem _ hy
  refine ⟨hy, h1, fun hk z => ?_, fun hk => ?_⟩
  · have hs := (hT.stop hf hg hX (by rw [hk]; exact hT.m0)).2
    rw [bt (by omega), hm]
    constructor
    · rintro (rfl | h | ⟨h, _⟩)
      · exact .inr .base
      · exact .inl h
      · exact .inr (Ring.swap ((hs _).1 h))
    · rintro (h | h)
      · exact .inr (.inl h)
      · by_cases e1 : z = i
        · exact .inl e1
        · exact .inr (.inr ⟨(hs _).2 (Ring.swap h), e1⟩)
  · have hnT : ¬ T (dm n d y) := fun h => hk (hT.stop hf hg hX h).1
    refine ⟨fun h => ?_, by rw [List.length_set]; exact hl, .inr ⟨T, y, hT, rfl, hnT, fun z => ?_⟩⟩
    · rcases (hm _).1 h with h | ⟨h, _⟩
      · exact U5 hd he hi h0 (Ring.swap (.two hr)) h
      · exact hnT h
    · rw [bt (by have := h1.1; omega), hm]
      constructor
      · rintro (h | h | h)
        · exact .inr (.inr h)
        · exact .inl h
        · exact .inr (.inl h)
      · rintro (h | h | h)
        · exact .inr (.inl h)
        · exact .inr (.inr h)
        · exact .inl h
open Classical in
noncomputable def G1 (n : Nat) (d e : List Nat) (i : Nat) (met : List Bool) : List Bool := (List.range 8).map fun z => decide (mt met z ∨ Ring (dm n d) (em e) i z)
theorem qy5 {n : Nat} {d e : List Nat} {i : Nat} {met : List Bool} {z : Nat} (hz : z < 8) : mt (G1 n d e i met) z ↔ mt met z ∨ Ring (dm n d) (em e) i z := by
  conv => lhs; unfold mt G1
  simp [List.getD_eq_getElem?_getD, hz]
theorem qyy {n : Nat} {d e : List Nat} {i : Nat} {met met' : List Bool} (hl : met'.length = 8) (h : ∀ z, mt met' z ↔ mt met z ∨ Ring (dm n d) (em e) i z) : met' = G1 n d e i met := by
  apply List.ext_getElem
  · simp [G1, hl]
  · intro z h1 h2
    have h3 := h z
    have h4 : mt met' z ↔ met'[z] = true := by simp [mt, List.getD_eq_getElem?_getD, h1]
    simp only [G1, List.getElem_map, List.getElem_range]
    rw [Bool.eq_iff_iff, ← h4, h3]
    simp
theorem qtr (N : Nat) (d e : List Nat) (hd : okD d) (he : okD e) (hds : isS N d = true) (hes : isS N e = true) {i : Nat} {met : List Bool} (hi : i < N) (hm0 : met.length = 8) (hmt : ∀ x, mt met x ↔ Seen N d e i x) (h0 : ¬ Seen N d e i i) :
    Am.Fn Try.prog 187 [.ptr 0 0, .bool true, .int .i64 i, .int .i64 i] (H3 N d e met) (fun v H' => v = .int .i64 (-1) ∧ H' = H3 N d e (G1 N d e i met)) := by
  refine Am.Fn.ofB qiv mixed Ur (by simp [AV.qv, AV.under, H3]) qqq ?_
  obtain ⟨hN, hpd, _⟩ := xk hds
  obtain ⟨_, hpe, _⟩ := xk hes
  have hdl := hd.1
  have hel := he.1
  unfold H3
  simp (maxSteps := 3000000) only [qh, zH, Xz, uu, kv, Qe, g_n, wj, Zl, Xc, hm0, qc, hdl, hel, y7, Bg, iE, iN, iB, iC, iL, iD, iA, iS, iM, qa, zZ, ↓qq, ↓reduceIte, reduceCtorEq, nA, nM, nS, nE, nL, nD]; try simp only [qa, zY]
  refine q2t qiv (fun k st => (∃ (x : Nat) (mm : List Bool), k = Zt (bls mm) ∧ InA N d e i x mm ∧ st = ⟨[(9, .int .i64 N), (0, .ptr 0 0), (1, .bool true), (2, .int .i64 x), (3, .int .i64 i)], [.cells (stk 1 2 mm), .ro (dia N d), .ro (dia N e)]⟩) ∨
      ∃ (y : Nat) (mm : List Bool), k = Zt (bls mm) ∧ InB N d e i y mm ∧ st = ⟨[(9, .int .i64 N), (0, .ptr 0 0), (1, .bool false), (2, .int .i64 (N + y : Nat)), (3, .int .i64 i)], [.cells (stk 1 2 mm), .ro (dia N d), .ro (dia N e)]⟩)
    ⟨_, qw.qx [9, 0, 1, 2, 3], _, .inl ⟨i, met, rfl, ⟨hm0, .inl ⟨rfl, hmt⟩⟩, rfl⟩⟩ ?_
  have hN0 : (N : Int) ≠ 0 := by omega
  rintro k st (⟨x, mm, rfl, hA, rfl⟩ | ⟨y, mm, rfl, hB, rfl⟩) post hpost
  · obtain ⟨x1, x2, x3, x4, x5⟩ := q0j hds hes hN.2 hi h0 hA
    have hm := hA.1
    obtain ⟨z1, z2, z3⟩ := ql7 hds hes x1
    have hxk := x1.1
    have hex : em e x = e.getD x 0 := rfl
    obtain ⟨hi16, hi16'⟩ := v7 (show x < 16 by omega)
    have hi17 : x < 16 := by omega
    have hcx : qo .i64 ((e.getD x 0 : Nat) : Int) = ((e.getD x 0 : Nat) : Int) := ji (by omega)
    have hdx := Vt (n := (N : Int)) (m := e) (i := x) (by omega)
    have hli : ((N : Int) ≤ ((e.getD x 0 : Nat) : Int)) ↔ False := iff_false_intro (by omega)
    have hrem := qvb (N := N) (x := e.getD x 0) z3
    have hadd : qo .i64 ((N : Int) + ((e.getD x 0 : Nat) : Int)) = ((N + e.getD x 0 : Nat) : Int) := by rw [wrap64 (by omega) (by omega)]; rfl
    have h8 := Yq (show e.getD x 0 < 8 by omega)
    have h8' : e.getD x 0 < 8 := by omega
    have h10 : 2 + e.getD x 0 < 8 + 3 := by omega
    have hst : (((e.getD x 0 : Nat) : Int) == (i : Int)) = false := by rw [beq_eq_false_iff_ne]; rw [hex] at x3; omega
    simp (maxSteps := 3000000) only [qh, zH, xn, uu, kv, Qe, g_n, Bool.not_true, Bool.not_false, wj, Zl, Xc, X5 hm, qc6 hm h8', hm, qc, hdl, hel, hi16, hi16', hi17, hcx, hdx, hli, decide_false, decide_true, beq_self_eq_true, Bool.true_beq, Bool.false_beq, hrem, hadd, h8, h8', h10, hN0, hst, AV.one, iE, iN, iB, iC, iL, iD, iA, iS, iM, qa, zZ, ↓qq, ↓reduceIte, reduceCtorEq, nA, nM, nS, nE, nL, nD]; try simp only [qa, zY]
    have hlt := Bq (met := mm) (k := em e x) (by have := x2.1; omega) (by cases h : mm.getD (em e x) false with
      | false => rfl
      | true => exact absurd h x4)
    exact hpost _ _ _ (qw.qx [9, 0, 1, 2, 3]) (.inr ⟨em e x, _, rfl, x5, rfl⟩) hlt
  · obtain ⟨y1, y2, y3, y4⟩ := qz2 hds hes hN.2 hi h0 hB
    have hm := hB.1
    obtain ⟨z1, z2, z3⟩ := ql7 hds hes y1
    have hyk := y1.1
    have hdy : dm N d y = d.getD (N + y) 0 - N := rfl
    obtain ⟨hi16, hi16'⟩ := v7 (show N + y < 16 by omega)
    have hi17 : N + y < 16 := by omega
    have hcx : qo .i64 ((d.getD (N + y) 0 : Nat) : Int) = ((d.getD (N + y) 0 : Nat) : Int) := ji (by omega)
    have hdx := Vt (n := (N : Int)) (m := d) (i := N + y) (by omega)
    have hli : ((N : Int) ≤ ((d.getD (N + y) 0 : Nat) : Int)) ↔ True := iff_true_intro (by omega)
    have hrem := qvd (N := N) (x := d.getD (N + y) 0) (by omega) (by omega)
    have h8 := Yq (show d.getD (N + y) 0 - N < 8 by omega)
    have h8' : d.getD (N + y) 0 - N < 8 := by omega
    have h10 : 2 + (d.getD (N + y) 0 - N) < 8 + 3 := by omega
    by_cases hk : dm N d y = i
    · have hst : ((((d.getD (N + y) 0 - N : Nat) : Int)) == (i : Int)) = true := by rw [beq_iff_eq]; omega
      simp (maxSteps := 3000000) only [qh, zH, xn, uu, kv, Qe, g_n, Bool.not_true, Bool.not_false, wj, Zl, Xc, X5 hm, qc6 hm h8', hm, qc, hdl, hel, hi16, hi16', hi17, hcx, hdx, hli, decide_false, decide_true, beq_self_eq_true, Bool.true_beq, Bool.false_beq, hrem, h8, h8', h10, hN0, hst, AV.one, iE, iN, iB, iC, iL, iD, iA, iS, iM, qa, zZ, ↓qq, ↓reduceIte, reduceCtorEq, nA, nM, nS, nE, nL, nD]; try simp only [qa, zY]
      have hL : mm.set (d.getD (N + y) 0 - N) true = G1 N d e i met := qyy (by rw [List.length_set]; exact hm) fun z => by
        rw [show d.getD (N + y) 0 - N = i from hk, y3 hk, hmt]
      refine Ret.x7 [0, 1, 2] ⟨⟨by simp, rfl, by decide⟩, ?_⟩ (rs := [.int .i64 (-1)]) rfl rfl (by simp [xl]) ?_ ⟨?_, ?_⟩
      · simp only [qg _ _ (qd _ _), qb1, zK, ↓reduceIte, reduceCtorEq, nE, nB, nA]
      · exact ro3
      · rfl
      · simp only [qb _ _ (qd _ _), Y9, zL, ↓reduceIte, reduceCtorEq, nE, nA]
        rw [hL]; rfl
    · have hst : ((((d.getD (N + y) 0 - N : Nat) : Int)) == (i : Int)) = false := by rw [beq_eq_false_iff_ne]; omega
      obtain ⟨q1, q2⟩ := y4 hk
      simp (maxSteps := 3000000) only [qh, zH, xn, uu, kv, Qe, g_n, Bool.not_true, Bool.not_false, wj, Zl, Xc, X5 hm, qc6 hm h8', hm, qc, hdl, hel, hi16, hi16', hi17, hcx, hdx, hli, decide_false, decide_true, beq_self_eq_true, Bool.true_beq, Bool.false_beq, hrem, h8, h8', h10, hN0, hst, AV.one, iE, iN, iB, iC, iL, iD, iA, iS, iM, qa, zZ, ↓qq, ↓reduceIte, reduceCtorEq, nA, nM, nS, nE, nL, nD]; try simp only [qa, zY]
      have hlt := Bq (met := mm) (k := dm N d y) (by have := y2.1; omega) (by cases h : mm.getD (dm N d y) false with
        | false => rfl
        | true => exact absurd h q1)
      exact hpost _ _ _ (qw.qx [9, 0, 1, 2, 3]) (.inl ⟨dm N d y, _, rfl, q2, rfl⟩) hlt
def qrs : List AV → Option (Nat × Nat × List Bool)
  | .ptr a 0 :: .ptr b 0 :: rest => match W2 (rest.take 8), rest.drop 8 with
    | some met, [.fn 171 [] []] => chk (met.length = 8) (some (a, b, met))
    | _, _ => none
  | _ => none
theorem qes {a b : Nat} {met : List Bool} (h : met.length = 8) : qrs (stk a b met) = some (a, b, met) := by
  have h1 : (bls met).length = 8 := by rw [vu, h]
  have h2 : List.take 8 (bls met ++ [.fn 171 [] []]) = bls met := List.take_left' h1
  have h3 : List.drop 8 (bls met ++ [.fn 171 [] []]) = [.fn 171 [] []] := List.drop_left' h1
  simp only [stk, qrs, h2, h3, Kh, chk, h, if_true]
theorem qs5 {l : List AV} {a b : Nat} {met : List Bool} (h : qrs l = some (a, b, met)) : l = stk a b met ∧ met.length = 8 := by
  unfold qrs at h
  split at h
  · rename_i a' b' rest
    split at h
    · rename_i met' h1 h2
      obtain ⟨h3, h4⟩ := ql h
      simp only [Option.some.injEq, Prod.mk.injEq] at h4
      obtain ⟨rfl, rfl, rfl⟩ := h4
      refine ⟨?_, h3⟩
      have h5 := Bh h1
      conv => lhs; rw [← List.take_append_drop 8 rest, h5, h2]
      rfl
    · cases h
  · cases h
def rdD (hp : List AO) (b : Nat) : Option (Int × List Nat) := match rd hp b with
  | some L => vi (L.take 17)
  | none => none
open Classical in
noncomputable def bn : BE := fun hp xs => match xs with
  | [.ptr b 0, .bool w, .int .i64 i, .int .i64 st] => match hp[b]? with
    | some (.cells l) => match qrs l with
      | some (b1, b2, met) => match rdD hp b1, rdD hp b2 with
        | some (n, d), some (n', e) => chk ((n' = n ∧ 0 ≤ n) ∧ (isS n.toNat d = true ∧ isS n.toNat e = true) ∧ b1 ≠ b ∧ b2 ≠ b)
          (if st = -1 then chk ((0 ≤ i ∧ i < 2 * n) ∧ w = decide (n ≤ i)) (some (.int .i64 (pr n.toNat d e i.toNat : Nat), hp.set b (.cells (stk b1 b2 (fol n.toNat d e (!w) i.toNat met)))))
          else chk ((st = i ∧ w = true ∧ 0 ≤ i ∧ i < n) ∧ (∀ x, mt met x ↔ Seen n.toNat d e i.toNat x) ∧ ¬ Seen n.toNat d e i.toNat i.toNat) (some (.int .i64 (-1), hp.set b (.cells (stk b1 b2 (G1 n.toNat d e i.toNat met))))))
        | _, _ => none
      | none => none
    | _ => none
  | _ => none
open Classical in
theorem qx7 : Am.Callee Try.prog 187 bn := Callee.fp fun hp xs v hp' he => by
  unfold bn at he
  split at he
  · rename_i b w i st
    split at he
    · rename_i l hb
      split at he
      · rename_i b1 b2 met hs1
        obtain ⟨rfl, hm⟩ := qs5 hs1
        split at he
        · rename_i n d n' e hd1 he1
          obtain ⟨⟨⟨a1, a2⟩, ⟨a3, a4⟩, a5, a6⟩, he2⟩ := ql he
          subst a1
          obtain ⟨N, rfl⟩ : ∃ N : Nat, n' = N := ⟨n'.toNat, by omega⟩
          simp only [Int.toNat_natCast] at a3 a4 he2
          have rdd : ∀ {b : Nat} {m : List Nat}, rdD hp b = some ((N : Int), m) → okD m ∧ Fits hp (ofL [(b, 0)]) b 0 (.ro (dia N m)) ∧ ∃ L, rd hp b = some L ∧ 17 ≤ L.length ∧ L.take 17 = dia N m := fun {b m} h => by
            unfold rdD at h
            split at h
            · rename_i L hL
              obtain ⟨e1, hok⟩ := zi h
              have hlen : (dia (N : Int) m).length = 17 := by rw [qc, hok.1]
              have hLl : 17 ≤ L.length := by
                have := congrArg List.length e1
                rw [hlen, List.length_take] at this
                omega
              exact ⟨hok, ⟨L, hL, by rw [hlen]; omega, by rw [List.drop_zero, qb _ _ (qd _ _), hlen]; exact e1⟩, L, hL, hLl, e1⟩
            · cases h
          obtain ⟨hd, _, L1, r1, r2, r3⟩ := rdd hd1
          obtain ⟨he', _, L2, q1, q2, q3⟩ := rdd he1
          have hlen : ∀ {m : List Nat}, okD m → (dia (N : Int) m).length = 17 := fun h => by rw [qc, h.1]
          have hfit : qc7 hp (ofL [(b, 0), (b1, 0), (b2, 0)]) [(b, 0), (b1, 0), (b2, 0)] (H3 N d e met) :=
            ⟨⟨rfl, by rw [hb]; simp only [AO.ren, Y9]; simp [AV.ren, ofL, stk]⟩, ⟨L1, r1, by rw [hlen hd]; omega, by rw [List.drop_zero, qb _ _ (qd _ _), hlen hd]; exact r3⟩, ⟨L2, q1, by rw [hlen he']; omega, by rw [List.drop_zero, qb _ _ (qd _ _), hlen he']; exact q3⟩, trivial⟩
          have hap : ∀ met, Y1 [(b, 0), (b1, 0), (b2, 0)] (H3 N d e met) = true := fun met => by simp [Y1, H3, AO.wr, a5, a6]
          have hun : ∀ met, AO.qhb 3 (H3 N d e met) := fun met => ⟨ql9 (by omega) (by omega), qk _ _ (qd _ _), qk _ _ (qd _ _), trivial⟩
          split at he2
          · rename_i hst
            subst hst
            obtain ⟨⟨⟨c1, c2⟩, c3⟩, he3⟩ := ql he2
            simp only [Option.some.injEq, Prod.mk.injEq] at he3
            obtain ⟨rfl, rfl⟩ := he3
            obtain ⟨k, rfl⟩ : ∃ k : Nat, i = k := ⟨i.toNat, by omega⟩
            simp only [Int.toNat_natCast]
            have hw : w = !decide (k < N) := by
              rw [c3, Bool.eq_iff_iff]; simp
            obtain ⟨f, met', hf⟩ := Up a3 a4 (i := k) (by omega) met
            have hfo := qjd hf
            subst hw
            rw [Bool.not_not, hfo]
            refine ⟨[(b, 0), (b1, 0), (b2, 0)], [.ptr 0 0, .bool (!decide (k < N)), .int .i64 k, .int .i64 (-1)], H3 N d e met, _, _, qsz N d e hd he' a3 a4 hf (by omega) hm, by simp [AV.ren, AV.zp, ofL], by simp [jo], hfit, hap met, hun met, ⟨by simp [AV.under, H3], trivial, trivial, trivial, trivial⟩, by simp [AV.ren, AV.zp], ?_⟩
            simp [after, upd, AO.wr, AO.ren, H3, Y9, AV.ren, qb _ _ (qd _ _)]
            simp [Ren.ext, ofL, stk]
          · obtain ⟨⟨⟨c1, c2, c3, c4⟩, c5, c6⟩, he3⟩ := ql he2
            simp only [Option.some.injEq, Prod.mk.injEq] at he3
            obtain ⟨rfl, rfl⟩ := he3
            subst c1; subst c2
            obtain ⟨k, rfl⟩ : ∃ k : Nat, st = k := ⟨st.toNat, by omega⟩
            simp only [Int.toNat_natCast] at c5 c6 ⊢
            refine ⟨[(b, 0), (b1, 0), (b2, 0)], [.ptr 0 0, .bool true, .int .i64 k, .int .i64 k], H3 N d e met, _, _, qtr N d e hd he' a3 a4 (by omega) hm c5 c6, by simp [AV.ren, AV.zp, ofL], by simp [jo], hfit, hap met, hun met, ⟨by simp [AV.under, H3], trivial, trivial, trivial, trivial⟩, by simp [AV.ren, AV.zp], ?_⟩
            simp [after, upd, AO.wr, AO.ren, H3, Y9, AV.ren, qb _ _ (qd _ _)]
            simp [Ren.ext, ofL, stk]
        · cases he
      · cases he
    · cases he
  · cases he
noncomputable def B83 : zc := (B82.put 187 (bn))
theorem qn5 : qp Try.prog B83 := (qiv.put (qx7))
end Go.Proofs.Ytfhckbbgmblhbaa
