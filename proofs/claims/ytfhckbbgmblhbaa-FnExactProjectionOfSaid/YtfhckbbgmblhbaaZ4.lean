/- Contracts of functions of the program, and plain laws, part 4: each text of this part is proved without further condition. -/
import Derived.Test.YtfhckbbgmblhbaaZ3
namespace Go.Proofs.Ytfhckbbgmblhbaa
open Go.Am Go.Dia
open Nat renaming reduceAdd → nA, reduceMul → nM, reduceSub → nS, reduceEqDiff → nE, reduceLT → nL, reduceLeDiff → nD, reduceBEq → nB
open Int renaming reduceEq → iE, reduceNe → iN, reduceBEq → iB, reduceBNe → iC, reduceLT → iL, reduceLE → iD, reduceAdd → iA, reduceSub → iS, reduceMul → iM
set_option linter.unusedSimpArgs false
set_option linter.unusedVariables false
set_option maxRecDepth 4000
set_option maxHeartbeats 1000000
def Y4 : AC := .draw false [oM 6 0,oM 7 1,oM 8 0,oM 9 2,oM 10 2,o0 11 (.conv .u8 (.t 10)),oM 12 1,o0 13 (.conv .u8 (.t 12)),o0 14 (.jy (.t 6)),oF 15 1 14,o0 16 (.zz 16 1 (.t 15) (.t 7)),o0 17 (.jy (.t 8)),oF 18 1 17,oT 16 11,o0 19 (.zz 16 1 (.t 18) (.t 9)),oT 19 13]
theorem qeq : zj Try.prog 143 = some ⟨20, Y4, []⟩ := by kernel_rfl
theorem q56 (n : Int) (m : List Nat) (i k : Nat) (hm : m.length = 16) (hi : i < 16) (hk : k < 16) :
    Am.Fn Try.prog 143 [.ptr 0 0, .int .i64 i, .int .i64 k] [.cells (dia n m)] (fun v H' => v = .tup [] ∧ H' = [.cells (dia n ((m.set i k).set k i))]) := by
  refine Am.Fn.ofB qtj mixed qeq (by simp [AV.qu, AV.under]) (fun j o hj => by
    match j, hj with
    | 0, hj => cases hj; exact qj _ _ (qg _ _)
    | j + 1, hj => simp at hj) ?_
  obtain ⟨a1, a2⟩ := vl hi
  obtain ⟨b1, b2⟩ := vl hk
  have hu1 : qn .u8 (i : Int) = i := U2 (by omega)
  have hu2 : qn .u8 (k : Int) = k := U2 (by omega)
  simp (maxSteps := 3000000) only [qh, zH, Y4, qe, hm, List.length_set, a1, a2, b1, b2, hu1, hu2, U3, AV.one, iE, iN, iB, iC, iL, iD, iA, iS, iM, qa, zZ, ↓qp, ↓reduceIte, reduceCtorEq, nA, nM, nS, nE, nL, nD]; try simp only [qa, zY]
  refine Ret.xv [0] ⟨⟨by simp, rfl, by decide⟩, ?_⟩ (rs := []) rfl rfl (by simp [xl]) ?_ ⟨?_, ?_⟩
  · simp only [zK, ↓reduceIte, reduceCtorEq, nE, nB, nA]
  · intro j l; match j with
    | 0 => simp [zn, AO.ren]
    | j + 1 => simp [zn]
  · rfl
  · simp only [zL, ↓reduceIte, reduceCtorEq, nE, nA]
def kv : BE := fun hp xs => match xs with
  | [.ptr b 0, .int .i64 i, .int .i64 k] => match hp[b]? with
    | some (.cells l) => match vn l with
      | some (n, m) => chk ((0 ≤ i ∧ i < 16) ∧ (0 ≤ k ∧ k < 16)) (some (.tup [], hp.set b (.cells (dia n ((m.set i.toNat k.toNat).set k.toNat i.toNat)))))
      | none => none
    | _ => none
  | _ => none
theorem q2f : Am.Callee Try.prog 143 kv := Callee.fp fun hp xs v hp' he => by
  unfold kv at he
  split at he
  · rename_i b i k
    split at he
    · rename_i l hb
      split at he
      · rename_i n m hd
        obtain ⟨⟨h1, h2⟩, he⟩ := ql he
        simp only [Option.some.injEq, Prod.mk.injEq] at he
        obtain ⟨rfl, rfl⟩ := he
        obtain ⟨rfl, hm⟩ := zm hd
        obtain ⟨i, rfl⟩ : ∃ j : Nat, i = j := ⟨i.toNat, by omega⟩
        obtain ⟨k, rfl⟩ : ∃ j : Nat, k = j := ⟨k.toNat, by omega⟩
        simp only [Int.toNat_natCast]
        refine ⟨[(b, 0)], [.ptr 0 0, .int .i64 i, .int .i64 k], _, _, _, q56 n m i k hm.1 (by omega) (by omega), by simp [AV.ren, AV.zk, ofL], rfl, ⟨⟨rfl, by simp only [AO.ren, qb _ _ (qg _ _)]; exact hb⟩, trivial⟩, rfl, ⟨qj _ _ (qg _ _), trivial⟩, ⟨by simp [AV.under], trivial, trivial, trivial⟩, by simp [AV.ren, AV.zk], ?_⟩
        simp [after, upd, AO.wr, AO.ren, qb _ _ (qg _ _)]
      · cases he
    · cases he
  · cases he
def B46 : za := (B39.put 143 (kv))
theorem qtp : qo Try.prog B46 := (qtj.put (q2f))
theorem ur : B46 143 = some (kv) := rfl
def Wd (n : Nat) : Nat → List Nat
  | 0 => List.replicate 16 0
  | k + 1 => ((Wd n k).set k (n + k)).set (n + k) k
def wk (n : Nat) : List Nat := Wd n n
theorem qcy (n : Nat) : ∀ k, (Wd n k).length = 16
  | 0 => by simp [Wd]
  | k + 1 => by simp [Wd, qcy n k]
theorem qqk {n : Nat} (hn : n ≤ 8) : ∀ k, k ≤ n → ∀ x ∈ Wd n k, x < 16
  | 0, _, x, hx => by rw [(List.mem_replicate.1 hx).2]; omega
  | k + 1, hk, x, hx => by
    unfold Wd at hx
    rcases List.mem_or_eq_of_mem_set hx with hx | rfl
    · rcases List.mem_or_eq_of_mem_set hx with hx | rfl
      · exact qqk hn k (by omega) x hx
      · omega
    · omega
theorem Yx {n : Nat} (hn : n ≤ 8) {k : Nat} (hk : k ≤ n) : okD (Wd n k) := ⟨qcy n k, fun x hx => by have := qqk hn k hk x hx; omega⟩
def Gh : AC := .seq (.region [oP 9 .lss 8 7]) (.seq (.cond 9 .skip (.exit 0)) (.seq (.block 1 (.seq (.region [oM 10 8,oM 4 10]) (.region [oM 11 4,oM 12 0,oM 13 4,oP 14 .add 12 13,oC 15 143 [.t 3,.t 11,.t 14]]))) (.region [oK 16 .add 8 1,oM 8 16])))
def qfu : AC := .seq (.region [oN 17 17 3,oS 17 2 17]) .ret
def qrl : AC := .seq (.region [oD 2]) (.seq (.region [oM 5 0,o0 6 (.build [.int .i64 0,.int .u8 0,.int .u8 0,.int .u8 0,.int .u8 0,.int .u8 0,.int .u8 0,.int .u8 0,.int .u8 0,.int .u8 0,.int .u8 0,.int .u8 0,.int .u8 0,.int .u8 0,.int .u8 0,.int .u8 0,.int .u8 0] [(0,1,.t 5)]),oD 3,oS 17 3 6]) (.seq (.seq (.region [oM 7 0,oI 8 0]) (.block 0 (.loop Gh))) qfu))
theorem qyp : zj Try.prog 88 = some ⟨18, qrl, [.wu 2 17]⟩ := by kernel_rfl
theorem q0c (n : Nat) (hn : n ≤ 8) : Am.Fn Try.prog 88 [.int .i64 n] [] (fun v H' => v = .agg (dia n (wk n)) ∧ H' = []) := by
  refine Am.Fn.xm (R := fun v => v = _) qtp mixed qyp (by simp) (by simp) ?_
  simp (maxSteps := 3000000) only [qh, zH, qrl, ur, kv, x7, zq, kx, qe, zx, xq xa xa, List.length_replicate, iE, iN, iB, iC, iL, iD, iA, iS, iM, qa, zZ, ↓qp, ↓reduceIte, reduceCtorEq, nA, nM, nS, nE, nL, nD]; try simp only [qa, zY]
  refine WA.xo qtp (fun s => ∃ i : Nat, i ≤ n ∧ s = ⟨[(8, .int .i64 i), (7, .int .i64 n), (3, .ptr 1 0), (2, .ptr 0 0), (0, .int .i64 n)], [.cells (dia 0 (List.replicate 16 0)), .cells (dia n (Wd n i))]⟩)
    (fun s => match get s.env 8 with | .int _ x => n - x.toNat | _ => 0) ⟨_, qt.qv [8, 7, 3, 2, 0], 0, by omega, rfl⟩ ?_
  rintro s ⟨i, hi, rfl⟩
  have hw : qn .i64 ((i : Int) + 1) = ((i + 1 : Nat) : Int) := by rw [wrap64 (by omega) (by omega)]; rfl
  have hok := Yx hn hi
  by_cases hlt : i < n
  · have hli : (i : Int) < (n : Int) := by omega
    have h2 : qn .i64 ((n : Int) + i) = ((n + i : Nat) : Int) := by rw [wrap64 (by omega) (by omega)]; rfl
    have c1 : (0 : Int) ≤ i ∧ (i : Int) < 16 := by omega
    have c2 : (0 : Int) ≤ (n + i : Nat) ∧ ((n + i : Nat) : Int) < 16 := by omega
    have hnext : Wd n (i + 1) = ((Wd n i).set i (n + i)).set (n + i) i := rfl
    simp (maxSteps := 3000000) only [qh, zH, Gh, ur, kv, hli, hw, h2, qy hok, c1, c2, iE, iN, iB, iC, iL, iD, iA, iS, iM, qa, zZ, ↓qp, ↓reduceIte, reduceCtorEq, nA, nM, nS, nE, nL, nD]; try simp only [qa, zY]
    refine ⟨_, qt.qv [8, 7, 3, 2, 0], ⟨i + 1, by omega, ?_⟩, ?_⟩
    · simp only [zL, ↓reduceIte, reduceCtorEq, nE, nA]; rw [hnext]
    · simp only [zL, ↓reduceIte, reduceCtorEq, nE, nA]; omega
  · have hli : ¬ ((i : Int) < (n : Int)) := by omega
    obtain rfl : i = n := by omega
    simp (maxSteps := 3000000) only [qh, zH, Gh, qfu, ur, kv, hli, qe, hok.1, qw hok.1, xq xa hok.1, zx, List.length_replicate, Int.lt_irrefl, iE, iN, iB, iC, iL, iD, iA, iS, iM, qa, zZ, ↓qp, ↓reduceIte, reduceCtorEq, nA, nM, nS, nE, nL, nD]; try simp only [qa, zY]
    exact ⟨qg _ _, rfl⟩
def x9 : List AV → Option AV
  | [.int .i64 n] => chk (0 ≤ n ∧ n ≤ 8) (some (.agg (dia n (wk n.toNat))))
  | _ => none
theorem qem {f : FuncId} (h : ∀ n : Nat, n ≤ 8 → Am.Fn Try.prog f [.int .i64 n] [] (fun v H' => v = .agg (dia n (wk n)) ∧ H' = [])) : Am.Callee Try.prog f (qk x9) := Am.Callee.plain fun xs v he => by
  unfold x9 at he
  split at he
  · rename_i n
    obtain ⟨h1, he⟩ := ql he
    cases he
    obtain ⟨N, rfl⟩ : ∃ N : Nat, n = N := ⟨n.toNat, by omega⟩
    rw [Int.toNat_natCast]
    exact ⟨rfl, by simp only [AV.zo, qg], h N (by omega)⟩
  · cases he
def q86 : za := (B46.put 88 (qk x9))
theorem qn3 : qo Try.prog q86 := (qtp.put (qem q0c))
theorem q06 {N i : Nat} (hN : N ≤ 8) (h0 : 1 ≤ N) (hi : i < 2 * N) : qn .i64 (Int.tdiv (i : Int) (N : Int)) = ((i / N : Nat) : Int) ∧ qn .i64 (((i / N : Nat) : Int) * 1) = ((i / N : Nat) : Int) ∧ qn .i64 ((i : Int) + ((i / N : Nat) : Int)) = ((wd N i : Nat) : Int) ∧ wd N i < 17 := by
  have hq : i / N = if i < N then 0 else 1 := by
    by_cases h : i < N
    · rw [if_pos h, Nat.div_eq_of_lt h]
    · rw [if_neg h]
      exact Nat.div_eq_of_lt_le (by omega) (by omega)
  have hw : i + i / N = wd N i := by rw [hq]; unfold wd; split <;> omega
  have hb : i / N ≤ 1 := by rw [hq]; split <;> omega
  refine ⟨by rw [q9x]; exact jr (by omega), by rw [Int.mul_one]; exact jr (by omega), ?_, by omega⟩
  rw [← hw]
  exact wrap64 (by omega) (by omega)
def qfp : AC := .seq (.region [oI 4 0]) (.seq (.draw false [oM 5 0,oM 6 0,oL 7 1,oP 8 .quo 6 7,oL 9 2,oP 10 .mul 8 9,oP 11 .add 5 10,oM 4 11]) .ret)
theorem qq8 : zj Try.prog 188 = some ⟨12, qfp, [.slot 4]⟩ := by kernel_rfl
theorem qvt (N i : Nat) (hN : 1 ≤ N ∧ N ≤ 8) (hi : i < 2 * N) : Am.Fn Try.prog 188 [.int .i64 i, .ptr 0 0, .ptr 1 0] [.ro [.int .i64 N], .ro [.int .i64 1]] (fun v H' => v = .int .i64 ((wd N i : Nat) : Int) ∧ H' = [.ro [.int .i64 N], .ro [.int .i64 1]]) := by
  refine Am.Fn.xm (R := fun v => v = _) qn3 mixed qq8 (by simp [AV.qu, AV.under]) (J2 rfl rfl) ?_
  obtain ⟨a1, a2, a3, a4⟩ := q06 hN.2 hN.1 hi
  have hne : (N : Int) ≠ 0 := by omega
  simp (maxSteps := 3000000) only [qh, zH, qfp, a1, a2, a3, hne, iE, iN, iB, iC, iL, iD, iA, iS, iM, qa, zZ, ↓qp, ↓reduceIte, reduceCtorEq, nA, nM, nS, nE, nL, nD]; try simp only [qa, zY]
  exact ⟨_, rfl⟩
def rt (N i : Nat) : Nat := if i = 0 then N else 2 * N + 1
def qfa : AC := .seq (.region [oI 4 0]) (.seq (.draw false [oL 5 1,oM 6 0,oP 7 .add 5 6,oM 8 0,oL 9 2,oP 10 .quo 8 9,oL 11 1,oP 12 .mul 10 11,oP 13 .add 7 12,oM 4 13]) .ret)
theorem qol : zj Try.prog 189 = some ⟨14, qfa, [.slot 4]⟩ := by kernel_rfl
theorem qw7 (N i : Nat) (hN : 1 ≤ N ∧ N ≤ 8) (hi : i < 2) : Am.Fn Try.prog 189 [.int .i64 i, .ptr 0 0, .ptr 1 0] [.ro [.int .i64 N], .ro [.int .i64 1]] (fun v H' => v = .int .i64 ((rt N i : Nat) : Int) ∧ H' = [.ro [.int .i64 N], .ro [.int .i64 1]]) := by
  refine Am.Fn.xm (R := fun v => v = _) qn3 mixed qol (by simp [AV.qu, AV.under]) (J2 rfl rfl) ?_
  have hne : (1 : Int) ≠ 0 := by omega
  have a1 : qn .i64 ((N : Int) + i) = ((N + i : Nat) : Int) := wrap64 (by omega) (by omega)
  have a2 : qn .i64 (Int.tdiv (i : Int) 1) = (i : Int) := by rw [Int.tdiv_one]; exact jr (by omega)
  have a3 : qn .i64 ((i : Int) * N) = ((i * N : Nat) : Int) := by
    have : i = 0 ∨ i = 1 := by omega
    rcases this with rfl | rfl
    · rw [wrap64 (by omega) (by omega)]; rfl
    · rw [wrap64 (by omega) (by omega)]; simp
  have a4 : qn .i64 (((N + i : Nat) : Int) + ((i * N : Nat) : Int)) = ((rt N i : Nat) : Int) := by
    have : i = 0 ∨ i = 1 := by omega
    unfold rt
    rcases this with rfl | rfl
    · rw [wrap64 (by omega) (by omega)]; simp
    · rw [wrap64 (by omega) (by omega)]; simp; omega
  simp (maxSteps := 3000000) only [qh, zH, qfa, a1, a2, a3, a4, hne, iE, iN, iB, iC, iL, iD, iA, iS, iM, qa, zZ, ↓qp, ↓reduceIte, reduceCtorEq, nA, nM, nS, nE, nL, nD]; try simp only [qa, zY]
  exact ⟨_, rfl⟩
def Va : BE := fun hp xs => match xs with
  | [.int .i64 i, .ptr b 0, .ptr b' 0] => match rd hp b, rd hp b' with
    | some (.int .i64 n :: _), some (.int .i64 m :: _) => chk ((m = 1 ∧ 1 ≤ n ∧ n ≤ 8) ∧ 0 ≤ i ∧ i < 2 * n) (some (.int .i64 ((wd n.toNat i.toNat : Nat) : Int), hp))
    | _, _ => none
  | _ => none
theorem q59 : Am.Callee Try.prog 188 Va := Callee.fp fun hp xs v hp' he => by
  unfold Va at he
  split at he
  · rename_i i b b'
    split at he
    · rename_i n L m L' hL hL'
      obtain ⟨⟨⟨h0, h1⟩, h2, h3⟩, he⟩ := ql he
      simp only [Option.some.injEq, Prod.mk.injEq] at he
      obtain ⟨rfl, rfl⟩ := he
      subst h0
      obtain ⟨N, rfl⟩ : ∃ N : Nat, n = N := ⟨n.toNat, by omega⟩
      obtain ⟨k, rfl⟩ : ∃ k : Nat, i = k := ⟨i.toNat, by omega⟩
      simp only [Int.toNat_natCast]
      refine ⟨[(b, 0), (b', 0)], [.int .i64 k, .ptr 0 0, .ptr 1 0], _, _, _, qvt N k (by omega) (by omega), by simp [AV.ren, AV.zk, ofL], rfl, ⟨⟨_, hL, by simp, by simp [AV.zk, AV.ren]⟩, ⟨_, hL', by simp, by simp [AV.zk, AV.ren]⟩, trivial⟩, rfl, ⟨⟨trivial, trivial⟩, ⟨trivial, trivial⟩, trivial⟩, ⟨trivial, by simp [AV.under], by simp [AV.under], trivial⟩, by simp [AV.ren], ?_⟩
      simp [after, upd, AO.wr, AO.ren, AV.zk, AV.ren]
    · cases he
  · cases he
def Zb : BE := fun hp xs => match xs with
  | [.int .i64 i, .ptr b 0, .ptr b' 0] => match rd hp b, rd hp b' with
    | some (.int .i64 n :: _), some (.int .i64 m :: _) => chk ((m = 1 ∧ 1 ≤ n ∧ n ≤ 8) ∧ 0 ≤ i ∧ i < 2) (some (.int .i64 ((rt n.toNat i.toNat : Nat) : Int), hp))
    | _, _ => none
  | _ => none
theorem q3h : Am.Callee Try.prog 189 Zb := Callee.fp fun hp xs v hp' he => by
  unfold Zb at he
  split at he
  · rename_i i b b'
    split at he
    · rename_i n L m L' hL hL'
      obtain ⟨⟨⟨h0, h1⟩, h2, h3⟩, he⟩ := ql he
      simp only [Option.some.injEq, Prod.mk.injEq] at he
      obtain ⟨rfl, rfl⟩ := he
      subst h0
      obtain ⟨N, rfl⟩ : ∃ N : Nat, n = N := ⟨n.toNat, by omega⟩
      obtain ⟨k, rfl⟩ : ∃ k : Nat, i = k := ⟨i.toNat, by omega⟩
      simp only [Int.toNat_natCast]
      refine ⟨[(b, 0), (b', 0)], [.int .i64 k, .ptr 0 0, .ptr 1 0], _, _, _, qw7 N k (by omega) (by omega), by simp [AV.ren, AV.zk, ofL], rfl, ⟨⟨_, hL, by simp, by simp [AV.zk, AV.ren]⟩, ⟨_, hL', by simp, by simp [AV.zk, AV.ren]⟩, trivial⟩, rfl, ⟨⟨trivial, trivial⟩, ⟨trivial, trivial⟩, trivial⟩, ⟨trivial, by simp [AV.under], by simp [AV.under], trivial⟩, by simp [AV.ren], ?_⟩
      simp [after, upd, AO.wr, AO.ren, AV.zk, AV.ren]
    · cases he
  · cases he
def B47 : za := ((q86.put 188 (Va)).put 189 (Zb))
theorem qnl : qo Try.prog B47 := ((qn3.put (q59)).put (q3h))
theorem vw : B47 168 = some (Wp 1 g_n) := rfl
theorem kd : B47 88 = some (qk x9) := rfl
theorem yl : B47 188 = some (Va) := rfl
theorem yn : B47 189 = some (Zb) := rfl
def qix (N : Nat) (m : List Nat) : Nat → List Nat
  | 0 => qa2 N m (2 * N)
  | 1 => (qa2 N m (2 * N)).set N (2 * N + 1)
  | _ => xf N m
theorem Js {N : Nat} {m : List Nat} {i : Nat} : (qa2 N m i).length = 16 := um _ _ _ _
theorem qb7 {N : Nat} {m : List Nat} : ∀ i, (qix N m i).length = 16
  | 0 => Js
  | 1 => by simp [qix, Js]
  | i + 2 => by simp [qix, xf, Js]
def Ug : AC := .seq (.region [oP 23 .lss 22 21]) (.seq (.cond 23 .skip (.exit 0)) (.seq (.block 1 (.seq (.region [oM 24 22,oM 10 24]) (.draw true [oM 25 8,oM 26 10,oM 28 8,oM 29 10,oF 30 1 2,o0 31 (.zz 16 1 (.t 30) (.t 29)),oL 32 31,o0 33 (.conv .i64 (.t 32)),oF 36 1 7,⟨some 27,none,.call (.t 25) [.t 26]⟩,⟨some 34,none,.call (.t 28) [.t 33]⟩,o0 35 (.conv .u8 (.t 34)),o0 37 (.zz 16 1 (.t 36) (.t 27)),oT 37 35]))) (.region [oK 38 .add 22 1,oM 22 38])))
def Ut : AC := .seq (.region [oP 42 .lss 41 40]) (.seq (.cond 42 .skip (.exit 2)) (.seq (.block 3 (.seq (.region [oM 43 41,oM 11 43]) (.draw true [oM 44 9,oM 45 11,oM 47 9,oM 48 11,oF 49 1 3,o0 50 (.zz 16 1 (.t 49) (.t 48)),oL 51 50,o0 52 (.conv .i64 (.t 51)),oF 55 1 7,⟨some 46,none,.call (.t 44) [.t 45]⟩,⟨some 53,none,.call (.t 47) [.t 52]⟩,o0 54 (.conv .u8 (.t 53)),o0 56 (.zz 16 1 (.t 55) (.t 46)),oT 56 54]))) (.region [oK 57 .add 41 1,oM 41 57])))
def qcd : AC := .seq (.region [oN 58 17 7,oS 17 4 58]) .ret
def qcv : AC := .seq (.seq (.region [oL 39 6,o0 40 (.bin .mul (.c (.int .i64 2)) (.t 39)),oI 41 0]) (.block 2 (.loop Ut))) qcd
def qlz : AC := .seq (.region [o0 2 (.box (.t 0)),o0 3 (.box (.t 1)),oD 4]) (.seq (.region [oC 12 168 [.t 2],oC 13 168 [.t 3],o0 5 (.alloc [.int .i64 0]),o0 6 (.alloc [.int .i64 0]),oT 5 12,oT 6 13]) (.seq (.region [oL 14 5,oL 15 6,oP 16 .add 14 15,o0 17 (.build [.int .i64 0,.int .u8 0,.int .u8 0,.int .u8 0,.int .u8 0,.int .u8 0,.int .u8 0,.int .u8 0,.int .u8 0,.int .u8 0,.int .u8 0,.int .u8 0,.int .u8 0,.int .u8 0,.int .u8 0,.int .u8 0,.int .u8 0] [(0,1,.t 16)]),oD 7,oS 17 7 17]) (.seq (.region [o0 18 (.qga 188 [] [.t 5,.t 6]),oM 8 18]) (.seq (.region [o0 19 (.qga 189 [] [.t 5,.t 6]),oM 9 19]) (.seq (.seq (.region [oL 20 5,o0 21 (.bin .mul (.c (.int .i64 2)) (.t 20)),oI 22 0]) (.block 0 (.loop Ug))) qcv)))))
theorem qvp : zj Try.prog 177 = some ⟨59, qlz, [.wu 4 17]⟩ := by kernel_rfl
theorem qzo (N : Nat) (m : List Nat) (hm : okD m) (hs : isS N m = true) (hN8 : N < 8) : Am.Fn Try.prog 177 [.agg (dia N m), .agg (dia 1 (wk 1))] [] (fun v H' => v = .agg (dia (N + 1 : Nat) (xf N m)) ∧ H' = []) := by
  refine Am.Fn.xm (R := fun v => v = _) qnl mixed qvp (by simp) (by simp) ?_
  obtain ⟨hN, hp, hz⟩ := xg hs
  have hml := hm.1
  have hu : okD (wk 1) := Yx (by omega) (by omega)
  have hul := hu.1
  have h2 : qn .i64 (2 * (N : Int)) = ((2 * N : Nat) : Int) := by rw [wrap64 (by omega) (by omega)]; rfl
  have h1 : qn .i64 ((N : Int) + 1) = ((N + 1 : Nat) : Int) := by rw [wrap64 (by omega) (by omega)]; rfl
  simp (maxSteps := 3000000) only [qh, zH, qlz, vw, kd, yl, yn, Va, g_n, Zb, x9, x7, zq, kx, qe, hml, hul, w9, Be, zx, xq xa xa, List.length_replicate, h1, h2, AV.one, iE, iN, iB, iC, iL, iD, iA, iS, iM, qa, zZ, ↓qp, ↓reduceIte, reduceCtorEq, nA, nM, nS, nE, nL, nD]; try simp only [qa, zY]
  refine ⟨⟨rfl, rfl⟩, ⟨rfl, rfl⟩, ?_⟩
  refine WA.xo qnl (fun s => ∃ i : Nat, i ≤ 2 * N ∧ s = ⟨[(22, .int .i64 i), (21, .int .i64 (2 * N : Nat)), (9, .fn 189 [] [.ptr 3 0, .ptr 4 0]), (8, .fn 188 [] [.ptr 3 0, .ptr 4 0]), (7, .ptr 5 0), (6, .ptr 4 0), (5, .ptr 3 0), (4, .ptr 2 0), (3, .ptr 1 0), (2, .ptr 0 0)], [.cells (dia N m), .cells (dia 1 (wk 1)), .cells (dia 0 (List.replicate 16 0)), .cells [.int .i64 N], .cells [.int .i64 1], .cells (dia (N + 1 : Nat) (qa2 N m i))]⟩)
    (fun s => match get s.env 22 with | .int _ x => 2 * N - x.toNat | _ => 0) ⟨_, qt.qv [22, 21, 9, 8, 7, 6, 5, 4, 3, 2], 0, by omega, rfl⟩ ?_
  rintro s ⟨i, hi, rfl⟩
  have c1 : (1 : Int) ≤ N ∧ (N : Int) ≤ 8 := by omega
  have hw : qn .i64 ((i : Int) + 1) = ((i + 1 : Nat) : Int) := by rw [wrap64 (by omega) (by omega)]; rfl
  by_cases hlt : i < 2 * N
  · have hli : (i : Int) < ((2 * N : Nat) : Int) := by omega
    have hb := qiq hs hlt
    have a1 : wd N i < 16 := by unfold wd; split <;> omega
    have b1 : wd N (m.getD i 0) < 16 := by unfold wd; split <;> omega
    obtain ⟨a2, a3⟩ := vl a1
    have hu8 : qn .u8 ((wd N (m.getD i 0) : Nat) : Int) = ((wd N (m.getD i 0) : Nat) : Int) := U2 (by omega)
    obtain ⟨hi16, hi16'⟩ := vl (show i < 16 by omega)
    have hi17 : i < 16 := by omega
    have hin : i < m.length := by omega
    have hcv : qn .i64 ((m.getD i 0 : Nat) : Int) = ((m.getD i 0 : Nat) : Int) := jr (by omega)
    have hnext : qa2 N m (i + 1) = (qa2 N m i).set (wd N i) (wd N (m.getD i 0)) := rfl
    have c2 : (0 : Int) ≤ i ∧ (i : Int) < 2 * N := by omega
    have c3 : (0 : Int) ≤ (m.getD i 0 : Nat) ∧ ((m.getD i 0 : Nat) : Int) < 2 * N := by omega
    simp (maxSteps := 3000000) only [qh, zH, Ug, vw, kd, yl, yn, Va, g_n, Zb, x9, hw, hli, a2, a3, hu8, c1, c2, c3, hi16, hi16', hi17, AV.one, hcv, Xi hin, qe, hml, Js, U3, iE, iN, iB, iC, iL, iD, iA, iS, iM, qa, zZ, ↓qp, ↓reduceIte, reduceCtorEq, nA, nM, nS, nE, nL, nD]; try simp only [qa, zY]
    refine ⟨⟨_, rfl⟩, ⟨_, rfl⟩, _, qt.qv [22, 21, 9, 8, 7, 6, 5, 4, 3, 2], ⟨i + 1, by omega, ?_⟩, ?_⟩
    · simp only [zL, ↓reduceIte, reduceCtorEq, nE, nA]; rw [hnext]
    · simp only [zL, ↓reduceIte, reduceCtorEq, nE, nA]; omega
  have hli : ¬ ((i : Int) < ((2 * N : Nat) : Int)) := by omega
  obtain rfl : i = 2 * N := by omega
  have h22 : qn .i64 (2 * 1) = ((2 : Nat) : Int) := by rw [wrap64 (by omega) (by omega)]; rfl
  simp (maxSteps := 3000000) only [qh, zH, Ug, qcv, vw, kd, yl, yn, Va, g_n, Zb, x9, hli, h22, Int.lt_irrefl, iE, iN, iB, iC, iL, iD, iA, iS, iM, qa, zZ, ↓qp, ↓reduceIte, reduceCtorEq, nA, nM, nS, nE, nL, nD]; try simp only [qa, zY]
  clear hw hli hlt hi
  refine WA.xo qnl (fun s => ∃ i : Nat, i ≤ 2 ∧ s = ⟨[(41, .int .i64 i), (40, .int .i64 (2 : Nat)), (9, .fn 189 [] [.ptr 3 0, .ptr 4 0]), (7, .ptr 5 0), (4, .ptr 2 0), (3, .ptr 1 0)], [.cells (dia N m), .cells (dia 1 (wk 1)), .cells (dia 0 (List.replicate 16 0)), .cells [.int .i64 N], .cells [.int .i64 1], .cells (dia (N + 1 : Nat) (qix N m i))]⟩)
    (fun s => match get s.env 41 with | .int _ x => 2 - x.toNat | _ => 0) ⟨_, qt.qv [41, 40, 9, 7, 4, 3], 0, by omega, rfl⟩ ?_
  rintro s ⟨i, hi, rfl⟩
  have hw : qn .i64 ((i : Int) + 1) = ((i + 1 : Nat) : Int) := by rw [wrap64 (by omega) (by omega)]; rfl
  by_cases hlt : i < 2
  · have hli : (i : Int) < ((2 : Nat) : Int) := by omega
    obtain ⟨g1, g2⟩ : (wk 1).getD i 0 = 1 - i ∧ qix N m (i + 1) = (qix N m i).set (rt N i) (rt N (1 - i)) := by
      have : i = 0 ∨ i = 1 := by omega
      rcases this with rfl | rfl <;> exact ⟨rfl, rfl⟩
    have hin : i < (wk 1).length := by omega
    have a1 : rt N i < 16 := by unfold rt; split <;> omega
    have b1 : rt N (1 - i) < 16 := by unfold rt; split <;> omega
    obtain ⟨a2, a3⟩ := vl a1
    have hu8 : qn .u8 ((rt N (1 - i) : Nat) : Int) = ((rt N (1 - i) : Nat) : Int) := U2 (by omega)
    obtain ⟨hi16, hi16'⟩ := vl (show i < 16 by omega)
    have hi17 : i < 16 := by omega
    have hcv : qn .i64 ((1 - i : Nat) : Int) = ((1 - i : Nat) : Int) := jr (by omega)
    have c2 : (0 : Int) ≤ i ∧ (i : Int) < 2 := by omega
    have c3 : (0 : Int) ≤ (1 - i : Nat) ∧ ((1 - i : Nat) : Int) < 2 := by omega
    simp (maxSteps := 3000000) only [qh, zH, Ut, vw, kd, yl, yn, Va, g_n, Zb, x9, hw, hli, a2, a3, hu8, c1, c2, c3, hi16, hi16', hi17, AV.one, hcv, g1, qe, hml, hul, qb7, U3, iE, iN, iB, iC, iL, iD, iA, iS, iM, qa, zZ, ↓qp, ↓reduceIte, reduceCtorEq, nA, nM, nS, nE, nL, nD]; try simp only [qa, zY]
    refine ⟨⟨_, rfl⟩, ⟨_, rfl⟩, _, qt.qv [41, 40, 9, 7, 4, 3], ⟨i + 1, by omega, ?_⟩, ?_⟩
    · simp only [zL, ↓reduceIte, reduceCtorEq, nE, nA]; rw [g2]
    · simp only [zL, ↓reduceIte, reduceCtorEq, nE, nA]; omega
  · have hli : ¬ ((i : Int) < ((2 : Nat) : Int)) := by omega
    obtain rfl : i = 2 := by omega
    have hwl : qix N m 2 = xf N m := rfl
    have hk16 := qb7 (N := N) (m := m) 2
    rw [hwl] at hk16 ⊢
    simp (maxSteps := 3000000) only [qh, zH, Ut, qcd, vw, kd, yl, yn, Va, g_n, Zb, x9, hli, qe, hk16, qw hk16, xq xa hk16, zx, List.length_replicate, Int.lt_irrefl, iE, iN, iB, iC, iL, iD, iA, iS, iM, qa, zZ, ↓qp, ↓reduceIte, reduceCtorEq, nA, nM, nS, nE, nL, nD]; try simp only [qa, zY]
    exact qg _ _
def Gq : List AV → Option AV
  | [.agg l, .agg l'] => match vn l, vn l' with
    | some (n, m), some (n', m') => chk ((n' = 1 ∧ m' = wk 1) ∧ isS n.toNat m = true ∧ 0 ≤ n ∧ n < 8) (some (.agg (dia (n + 1) (xf n.toNat m))))
    | _, _ => none
  | _ => none
theorem q1z : Am.Callee Try.prog 177 (qk Gq) := Am.Callee.plain fun xs v he => by
  unfold Gq at he
  split at he
  · rename_i l l'
    split at he
    · rename_i n m n' m' hd hd'
      obtain ⟨⟨⟨h0, h1⟩, h2, h3⟩, he⟩ := ql he
      cases he
      obtain ⟨rfl, hm⟩ := zm hd
      obtain ⟨rfl, hm'⟩ := zm hd'
      subst h0; subst h1
      obtain ⟨N, rfl⟩ : ∃ N : Nat, n = N := ⟨n.toNat, by omega⟩
      rw [Int.toNat_natCast] at h2 ⊢
      exact ⟨by simp only [AV.ze, AV.zo, qg, Bool.and_self], by simp only [AV.zo, qg], qzo N m hm h2 (by omega)⟩
    · cases he
  · cases he
def B48 : za := (B47.put 177 (qk Gq))
theorem qyg : qo Try.prog B48 := (qnl.put (q1z))
theorem qbh : B48 168 = some (Wp 1 g_n) := rfl
theorem qkl : B48 88 = some (qk x9) := rfl
theorem qes : B48 188 = some (Va) := rfl
theorem qdt : B48 189 = some (Zb) := rfl
theorem qhv : B48 177 = some (qk Gq) := rfl
def Q0 : AC := .seq (.region [o0 1 (.box (.t 0)),oD 2,oI 3 0]) (.seq (.draw true [oN 4 17 1,oC 5 88 [(.c (.int .i64 1))],oC 6 177 [.t 4,.t 5],oS 17 2 6,oI 3 1]) .ret)
theorem U9 : zj Try.prog 176 = some ⟨7, Q0, [.wu 2 17, .slot 3]⟩ := by kernel_rfl
theorem qnw (N : Nat) (m : List Nat) (hm : okD m) (hs : isS N m = true) (hN8 : N < 8) : Am.Fn Try.prog 176 [.agg (dia N m)] [] (fun v H' => v = .tup [.agg (dia ((N : Int) + 1) (xf N m)), .int .i64 1] ∧ H' = []) := by
  refine Am.Fn.xm (R := fun v => v = _) qyg mixed U9 (by simp) (by simp) ?_
  have hml := hm.1
  have hu : okD (wk 1) := Yx (by omega) (by omega)
  have hfl : (xf N m).length = 16 := (qia hN8 hs).2.1
  have h0 : (0 : Int) ≤ N ∧ (N : Int) < 8 := by omega
  have h1 : (0 : Int) ≤ 1 ∧ (1 : Int) ≤ 8 := by omega
  simp (maxSteps := 3000000) only [qh, zH, Q0, qbh, qkl, qes, qdt, qhv, Va, g_n, Zb, Gq, x9, x7, zq, qe, hml, hfl, qw hml, qw hfl, qy hm, qy hu, hs, h0, h1, zx, Qe hfl, qg, List.length_replicate, Int.toNat_one, iE, iN, iB, iC, iL, iD, iA, iS, iM, qa, zZ, ↓qp, ↓reduceIte, reduceCtorEq, nA, nM, nS, nE, nL, nD]; try simp only [qa, zY]
  exact ⟨⟨_, rfl⟩, ⟨_, rfl⟩⟩
def bf : List AV → Option AV
  | [.agg l] => match vn l with
    | some (n, m) => chk (isS n.toNat m = true ∧ 0 ≤ n ∧ n < 8) (some (.tup [.agg (dia (n + 1) (xf n.toNat m)), .int .i64 1]))
    | none => none
  | _ => none
theorem qrn : Am.Callee Try.prog 176 (qk bf) := Am.Callee.plain fun xs v he => by
  unfold bf at he
  split at he
  · rename_i l
    split at he
    · rename_i n m hd
      obtain ⟨⟨h1, h2⟩, he⟩ := ql he
      cases he
      obtain ⟨rfl, hm⟩ := zm hd
      obtain ⟨N, rfl⟩ : ∃ N : Nat, n = N := ⟨n.toNat, by omega⟩
      rw [Int.toNat_natCast] at h1 ⊢
      exact ⟨by simp only [AV.ze, AV.zo, qg, Bool.and_self], by simp only [AV.zo, AV.ze, qg, Bool.and_self], qnw N m hm h1 (by omega)⟩
    · cases he
  · cases he
def B49 : za := (B48.put 176 (qk bf))
theorem q0p : qo Try.prog B49 := (qyg.put (qrn))
theorem qvg {n : Int} {m : List Nat} (hn : 1 ≤ n ∧ n ≤ 7) (hs : isS n.toNat m = true) : okD (xf n.toNat m) ∧ isS (n + 1).toNat (xf n.toNat m) = true := by
  have h := qia (n := n.toNat) (by omega) hs
  rw [show (n + 1).toNat = n.toNat + 1 by omega]
  exact ⟨h.2, h.1⟩
theorem q1q : Am.Callee Try.prog 175 (qky 176 (fun n => n + 1) xf 1 7) := q8i q0p rfl (gf := bf) rfl
  (fun n m hn hs => qvg hn hs) (fun n hn => by omega)
  (fun n m hn hm hs => by
    have h0 : 0 ≤ n ∧ n < 8 := by omega
    simp only [bf, qy hm, hs, h0, and_self, qpu])
def B50 : za := (B49.put 175 (qky 176 (fun n => n + 1) xf 1 7))
theorem q6x : qo Try.prog B50 := (q0p.put (q1q))
theorem W7 : B50 175 = some (qky 176 (fun n => n + 1) xf 1 7) := rfl
theorem Jr : B50 176 = some (qk bf) := rfl
def Xz : AC := .seq (.region [oZ 2]) (.seq (.region [oM 3 0,oM 4 0,o0 5 (.jy (.t 4)),oF 6 2 5,oL 7 6,oK 8 .add 7 1,⟨some 9,none,.call (.c (.fn 175 [] [])) [.t 3,.t 8,(.c (.fn 176 [] []))]⟩,oS 4 2 9]) .ret)
theorem Kb : zj Try.prog 149 = some ⟨10, Xz, [.wu 2 4]⟩ := by kernel_rfl
theorem qsl (p c n : Int) (a : List (Int × List Nat × Int)) (hp : 2 ≤ p ∧ p ≤ 97) (hn : 1 ≤ n ∧ n ≤ 7) (ha : xb p n a) (hl : a.length ≤ 100000) :
    Am.Fn Try.prog 149 [.ptr 1 0] [.ro (zc a), .ro (elC p c n a.length)] (fun v H' => v = elemV p c (n + 1) 2 (chP p (n + 1) (xf n.toNat) (fun _ => 1) [] a).length ∧ H' = [.ro (zc a), .ro (elC p c n a.length), .vec 18 (zc (chP p (n + 1) (xf n.toNat) (fun _ => 1) [] a))]) := by
  refine Am.Fn.ofB q6x mixed Kb (by simp [AV.qu, AV.under]) ?_ ?_
  · intro j o hj
    match j, hj with
    | 0, hj => cases hj; exact qj _ _ (qc _)
    | 1, hj => cases hj; exact ⟨trivial, trivial, trivial, by simp [AV.under], trivial⟩
    | j + 2, hj => simp at hj
  have hal := zf ha.ok
  have hts := jx ha.ok
  have hg := ha.dec
  have hw : qn .i64 (n + 1) = n + 1 := wrap64 (by omega) (by omega)
  simp (maxSteps := 3000000) only [qh, zH, Xz, W7, Jr, qky, bf, elC, elemV, hal, hts, hp, hn, hg, hl, hw, and_self, iE, iN, iB, iC, iL, iD, iA, iS, iM, qa, zZ, ↓qp, ↓reduceIte, reduceCtorEq, nA, nM, nS, nE, nL, nD]; try simp only [qa, zY]
  refine ⟨rfl, ?_⟩
  refine Ret.xv [0, 1, 3] ⟨⟨by simp, rfl, by decide⟩, ?_⟩ (rs := [.agg [.int .i64 p, .int .i64 c, .int .i64 (n + 1), .slc 3 0 (chP p (n + 1) (xf n.toNat) (fun _ => 1) [] a).length false 0]]) rfl rfl (by simp [xl]) ?_ ⟨?_, ?_⟩
  · simp only [qd _ _ (qc _), zK, ↓reduceIte, reduceCtorEq, nE, nB, nA]
  · intro j l; match j with
    | 0 => exact fun _ => ⟨_, rfl⟩
    | 1 => exact fun _ => ⟨_, rfl⟩
    | 2 => simp [zn, AO.ren]
    | j + 3 => simp [zn]
  · simp only [xl]
    simp only [zL, ↓reduceIte, reduceCtorEq, nE, nA]
  · simp only [qb _ _ (qc _), zL, ↓reduceIte, reduceCtorEq, nE, nA]
def ko : BE := fun hp xs => match xs with
  | [.ptr b 0] => match rd hp b with
    | some (.int .i64 p :: .int .i64 c :: .int .i64 n :: .slc ba 0 la false 0 :: _) => match rd hp ba with
      | some L => match Ji la L with
        | some a => chk (((2 ≤ p ∧ p ≤ 97) ∧ (1 ≤ n ∧ n ≤ 7)) ∧ Bl p n a ∧ la ≤ 100000) (some (elemV p c (n + 1) hp.length (chP p (n + 1) (xf n.toNat) (fun _ => 1) [] a).length, hp ++ [.vec 18 (zc (chP p (n + 1) (xf n.toNat) (fun _ => 1) [] a))]))
        | none => none
      | none => none
    | _ => none
  | _ => none
theorem qtd : Am.Callee Try.prog 149 ko := Callee.fp fun hp xs v hp' he => by
  unfold ko at he
  split at he
  · rename_i b
    split at he
    · rename_i p c n ba la L0 hL0
      split at he
      · rename_i L hL
        split at he
        · rename_i a h1
          obtain ⟨⟨⟨a3, a4⟩, a5, a6⟩, he2⟩ := ql he
          simp only [Option.some.injEq, Prod.mk.injEq] at he2
          obtain ⟨rfl, rfl⟩ := he2
          obtain ⟨e1, e2, e3, e4⟩ := jn h1
          have g1 := zf e2
          refine ⟨[(ba, 0), (b, 0)], [.ptr 1 0], _, _, _, qsl p c n a a3 a4 (a5.qi2 e2) (by omega), by simp [AV.ren, AV.zk, ofL], rfl,
            ⟨⟨L, hL, by omega, by rw [List.drop_zero, qb _ _ (qc _), g1, e1]; exact e3⟩, ⟨_, hL0, by simp, by simp [AV.zk, AV.ren, ofL, e1]⟩, trivial⟩, rfl,
            ⟨qj _ _ (qc _), ⟨trivial, trivial, trivial, by simp [AV.under], trivial⟩, trivial⟩, ⟨by simp [AV.under], trivial⟩, by simp [elemV, AV.ren, AV.zk, Ren.ext], ?_⟩
          simp [after, upd, AO.wr, AO.ren, qb _ _ (qc _)]
        · cases he
      · cases he
    · cases he
  · cases he
theorem qwo {p n : Int} {a : List (Int × List Nat × Int)} (hp : p ≤ 97) (hn : 1 ≤ n ∧ n ≤ 7) (h : xb p n a) : qho (n + 1) 10000 (xf n.toNat) (fun _ => 1) a := fun t ht => by
  have h1 := qvg hn (h.dia t ht).2
  have h2 := h.fac t ht
  exact ⟨h1.1, h1.2, by show -10000 ≤ t.2.2 * 1; omega, by show t.2.2 * 1 ≤ 10000; omega⟩
def B70 : za := B53
theorem q54 : qo Try.prog B70 := q7b
def B79 : za := B70
theorem qsh : qo Try.prog B79 := q54
def q5k (p c n : Int) (L : List (Int × List Nat × Int)) : ER := if L.length ≤ 140 then (p, c, n, L, 0) else (0, 0, 0, [], 3)
theorem qsf {p c n : Int} {L : List (Int × List Nat × Int)} (h : okT L) : zaa (q5k p c n L) := by
  unfold q5k
  split
  · rename_i hle; exact ⟨h, by simp only; omega⟩
  · exact ⟨(fun t h => by cases h), by simp⟩
structure q5n (H : List AO) (X Y : AV) (ts us : List (Int × List Nat × Int)) : Prop where
  x : ∀ rest, q5p (H ++ rest) X = some ts
  y : ∀ rest, q5p (H ++ rest) Y = some us
  ok : okT ts ∧ okT us
  un : ∀ (j : Nat) (o : AO), H[j]? = some o → o.under H.length
  ux : X.under H.length ∧ Y.under H.length
  sh : (H = [] ∧ X = .v (.slice none 0 0) ∧ Y = .v (.slice none 0 0)) ∨
    (∃ (o : AO) (nx cx : Nat), H = [o] ∧ X = .slc 0 0 nx true cx ∧ Y = .v (.slice none 0 0) ∧ (∀ ids, o.within ids = true) ∧ ∀ ρ, o.ren ρ = o) ∨
    (∃ (o : AO) (ny cy : Nat), H = [o] ∧ X = .v (.slice none 0 0) ∧ Y = .slc 0 0 ny true cy ∧ (∀ ids, o.within ids = true) ∧ ∀ ρ, o.ren ρ = o) ∨
    ∃ (o o' : AO) (nx cx ny cy : Nat), H = [o, o'] ∧ X = .slc 0 0 nx true cx ∧ Y = .slc 1 0 ny true cy ∧ (∀ ids, o.within ids = true) ∧ (∀ ρ, o.ren ρ = o) ∧ (∀ ids, o'.within ids = true) ∧ ∀ ρ, o'.ren ρ = o'
theorem q5n.h {H : List AO} {X Y : AV} {ts us : List (Int × List Nat × Int)} (a : q5n H X Y ts us) : H = [] ∨ (∃ o, H = [o]) ∨ ∃ o o', H = [o, o'] := by
  rcases a.sh with ⟨rfl, _⟩ | ⟨o, _, _, rfl, _⟩ | ⟨o, _, _, rfl, _⟩ | ⟨o, o', _, _, _, _, rfl, _⟩
  · exact .inl rfl
  · exact .inr (.inl ⟨_, rfl⟩)
  · exact .inr (.inl ⟨_, rfl⟩)
  · exact .inr (.inr ⟨_, _, rfl⟩)
theorem Zm {p : Nat → Prop} (h : ∃ k, p k) : ∃ k, p k ∧ ∀ j, p j → k ≤ j := by
  obtain ⟨k, hk⟩ := h
  induction k using Nat.strongRecOn with
  | ind k ih =>
    by_cases hj : ∃ j, j < k ∧ p j
    · obtain ⟨j, h1, h2⟩ := hj; exact ih j h1 h2
    · exact ⟨k, hk, fun j h2 => Nat.le_of_not_lt fun h1 => hj ⟨j, h1, h2⟩⟩
open Classical in
noncomputable def qny (J : Nat → St → Prop) (s : St) : Nat := if h : ∃ k, J k s then Classical.choose (Zm h) else 0
theorem qlv {J : Nat → St → Prop} {s : St} (h : ∃ k, J k s) : J (qny J s) s ∧ ∀ j, J j s → qny J s ≤ j := by
  unfold qny; rw [dif_pos h]; exact Classical.choose_spec (Zm h)
theorem qyr {B : za} (hB : qo Try.prog B) {n0 nt : Nat} {Q : AX → St → Prop} {s : St} {a : AC} (J : Nat → St → Prop) (h0 : ∃ s', qt n0 s s' ∧ ∃ k, J k s')
    (round : ∀ k s, J k s → ∀ (post : St → Prop), (∀ s' s'' k', qt n0 s' s'' → J k' s'' → k' < k → post s') → wbC Try.prog B n0 nt a (AX.then post Q) s) : WA Try.prog n0 nt (.loop a) Q s := by
  refine WA.xo hB (fun s => ∃ k, J k s) (qny J) h0 fun s hs => ?_
  obtain ⟨h1, h2⟩ := qlv hs
  exact round _ s h1 _ fun s' s'' k' hw hj hlt => ⟨s'', hw, ⟨k', hj⟩, Nat.lt_of_le_of_lt ((qlv ⟨k', hj⟩).2 k' hj) hlt⟩
def bls (l : List Bool) : List AV := l.map .bool
theorem vg (l : List Bool) : (bls l).length = l.length := by simp [bls]
theorem vc (l : List Bool) : AV.ze (bls l) = true := by
  induction l with
  | nil => rfl
  | cons a l ih => simp only [bls, List.map_cons, AV.ze, AV.zo, Bool.true_and]; exact ih
theorem que {l : List Bool} {i : Nat} (h : i < l.length) : (bls l)[i]? = some (.bool (l.getD i false)) := by
  simp [bls, List.getD_eq_getElem?_getD, h]
theorem qgo {l : List Bool} {i : Nat} {b : Bool} : (bls l).set i (.bool b) = bls (l.set i b) := by simp [bls, List.map_set]
theorem W9 {x : Nat} (h : x < 8) : ((0 : Int) ≤ (x : Int) ∧ (x : Int) < ((8 : Nat) : Int)) := by omega
def yh : AC := .seq (.region [oM 18 2,oF 19 1 5,o0 20 (.zz 16 1 (.t 19) (.t 18)),oL 21 20,o0 22 (.conv .i64 (.t 21)),oM 13 22]) (.seq (.seq (.region [oM 23 13,oM 24 12,oP 25 .lss 23 24]) (.cond 25 (.seq (.region [oM 26 13,oM 10 26,oB 11 true]) .ret) .skip)) (.seq (.region [oM 27 4,oM 28 13,oM 29 12,oP 30 .sub 28 29,o0 31 (.jy (.t 27)),o0 32 (.zz 8 1 (.t 31) (.t 30)),⟨none,none,.op (.Zj (.t 32) (.c (.bool true)))⟩]) (.seq (.region [oM 33 13,oM 34 12,oP 35 .sub 33 34,oM 2 35]) (.seq (.region [oB 3 false]) (.exit 1)))))
def ya : AC := .block 1 (.seq (.seq (.region [oM 17 3]) (.cond 17 yh .skip)) (.seq (.region [oM 36 2,oF 37 1 6,o0 38 (.zz 16 1 (.t 37) (.t 36)),oL 39 38,o0 40 (.conv .i64 (.t 39)),oM 14 40]) (.seq (.seq (.region [oM 41 14,oM 42 12,oP 43 .geq 41 42]) (.cond 43 (.seq (.region [oM 44 14,oM 10 44,oB 11 false]) .ret) .skip)) (.seq (.region [oM 45 4,oM 46 14,o0 47 (.jy (.t 45)),o0 48 (.zz 8 1 (.t 47) (.t 46)),⟨none,none,.op (.Zj (.t 48) (.c (.bool true)))⟩]) (.seq (.region [oM 49 12,oM 50 14,oP 51 .add 49 50,oM 2 51]) (.region [oB 3 true]))))))
def qaw : AC := .seq (.region [o0 5 (.box (.t 0)),o0 6 (.box (.t 1)),oI 10 0,oB 11 false]) (.seq (.region [oF 15 0 5,oL 16 15,oM 12 16]) (.block 0 (.loop ya)))
theorem qj6 : zj Try.prog 167 = some ⟨52, qaw, [.slot 10, .slot 11]⟩ := by kernel_rfl
theorem qjx (N : Nat) (d e : List Nat) (hd : okD d) (he : okD e) (hds : isS N d = true) (hes : isS N e = true) {f : Nat} {u : Bool} {i : Nat} {met : List Bool} {r : Nat} {s : Bool} {met' : List Bool} (hf : zr N d e f u i met = some (r, s, met')) (hi : i < 2 * N) (hm : met.length = 8) :
    Am.Fn Try.prog 167 [.agg (dia N d), .agg (dia N e), .int .i64 i, .bool u, .ptr 0 0] [.cells (bls met)] (fun v H' => v = .tup [.int .i64 r, .bool s] ∧ H' = [.cells (bls met')]) := by
  refine Am.Fn.ofB qsh mixed qj6 (by simp [AV.qu, AV.under, qj _ _ (qg _ _)]) (fun j o hj => by
    match j, hj with
    | 0, hj => cases hj; exact qj _ _ (vc _)
    | j + 1, hj => simp at hj) ?_
  obtain ⟨hN, hpd, _⟩ := xg hds
  obtain ⟨_, hpe, _⟩ := xg hes
  have hdl := hd.1
  have hel := he.1
  simp (maxSteps := 3000000) only [qh, zH, qaw, qa, qe, hdl, hel, w9, iE, iN, iB, iC, iL, iD, iA, iS, iM, qa, zZ, ↓qp, ↓reduceIte, reduceCtorEq, nA, nM, nS, nE, nL, nD]; try simp only [qa, zY]
  refine qyr qsh (fun f st => ∃ (u : Bool) (i : Nat) (met : List Bool), zr N d e f u i met = some (r, s, met') ∧ i < 2 * N ∧ met.length = 8 ∧
      st = ⟨[(12, .int .i64 N), (6, .ptr 2 0), (5, .ptr 1 0), (4, .ptr 0 0), (3, .bool u), (2, .int .i64 i)], [.cells (bls met), .cells (dia N d), .cells (dia N e)]⟩) ⟨_, qt.qv [12, 6, 5, 4, 3, 2], f, u, i, met, hf, hi, hm, rfl⟩ ?_
  clear hf hi hm
  rintro k st ⟨u, i, met, hf, hi, hm, rfl⟩ post hpost
  obtain ⟨hi16, hi16'⟩ := vl (show i < 16 by omega)
  have hi17 : i < 16 := by omega
  match k, u, hf with
  | 0, _, hf => simp [zr] at hf
  | f + 1, true, hf =>
    have hx := (hpd i hi).1
    have hcx : qn .i64 ((d.getD i 0 : Nat) : Int) = ((d.getD i 0 : Nat) : Int) := jr (by omega)
    rw [zr] at hf
    by_cases hlt : d.getD i 0 < N
    · rw [if_pos hlt] at hf
      simp only [Option.some.injEq, Prod.mk.injEq] at hf
      obtain ⟨rfl, rfl, rfl⟩ := hf
      have hli : ((d.getD i 0 : Nat) : Int) < (N : Int) := by omega
      simp (maxSteps := 3000000) only [qh, zH, ya, yh, hi16, hi16', hi17, qe, hdl, hel, hcx, hli, iE, iN, iB, iC, iL, iD, iA, iS, iM, qa, zZ, ↓qp, ↓reduceIte, reduceCtorEq, nA, nM, nS, nE, nL, nD]; try simp only [qa, zY]
      refine Ret.xv [0] ⟨⟨Nat.le_refl 1, rfl, by decide⟩, ?_⟩ (rs := [.int .i64 (d.getD i 0 : Nat), .bool true]) rfl rfl (by simp [xl]) ?_ ⟨?_, ?_⟩
      · simp only [qd _ _ (vc _), zK, ↓reduceIte, reduceCtorEq, nE, nB, nA]
      · intro j l; cases j <;> simp [zn, AO.ren]
      · rfl
      · simp only [qb _ _ (vc _), zL, ↓reduceIte, reduceCtorEq, nE, nA]
    · rw [if_neg hlt] at hf
      have hli : ¬ ((d.getD i 0 : Nat) : Int) < (N : Int) := by omega
      have hsub : qn .i64 (((d.getD i 0 : Nat) : Int) - (N : Int)) = ((d.getD i 0 - N : Nat) : Int) := by rw [wrap64 (by omega) (by omega)]; omega
      have h8 := W9 (show d.getD i 0 - N < 8 by omega)
      have h8' : d.getD i 0 - N < 8 := by omega
      simp (maxSteps := 3000000) only [qh, zH, ya, yh, hi16, hi16', hi17, qe, hdl, hel, hcx, hli, hsub, h8, h8', vg, hm, qgo, AV.one, iE, iN, iB, iC, iL, iD, iA, iS, iM, qa, zZ, ↓qp, ↓reduceIte, reduceCtorEq, nA, nM, nS, nE, nL, nD]; try simp only [qa, zY]
      exact hpost _ _ f (qt.qv [12, 6, 5, 4, 3, 2]) ⟨false, d.getD i 0 - N, _, hf, by omega, by simp [hm], rfl⟩ (Nat.lt_succ_self _)
  | f + 1, false, hf =>
    have hx := (hpe i hi).1
    have hcx : qn .i64 ((e.getD i 0 : Nat) : Int) = ((e.getD i 0 : Nat) : Int) := jr (by omega)
    rw [zr] at hf
    by_cases hlt : N ≤ e.getD i 0
    · rw [if_pos hlt] at hf
      simp only [Option.some.injEq, Prod.mk.injEq] at hf
      obtain ⟨rfl, rfl, rfl⟩ := hf
      have hli : (N : Int) ≤ ((e.getD i 0 : Nat) : Int) := by omega
      simp (maxSteps := 3000000) only [qh, zH, ya, yh, hi16, hi16', hi17, qe, hdl, hel, hcx, hli, iE, iN, iB, iC, iL, iD, iA, iS, iM, qa, zZ, ↓qp, ↓reduceIte, reduceCtorEq, nA, nM, nS, nE, nL, nD]; try simp only [qa, zY]
      refine Ret.xv [0] ⟨⟨Nat.le_refl 1, rfl, by decide⟩, ?_⟩ (rs := [.int .i64 (e.getD i 0 : Nat), .bool false]) rfl rfl (by simp [xl]) ?_ ⟨?_, ?_⟩
      · simp only [qd _ _ (vc _), zK, ↓reduceIte, reduceCtorEq, nE, nB, nA]
      · intro j l; cases j <;> simp [zn, AO.ren]
      · rfl
      · simp only [qb _ _ (vc _), zL, ↓reduceIte, reduceCtorEq, nE, nA]
    · rw [if_neg hlt] at hf
      have hli : ¬ (N : Int) ≤ ((e.getD i 0 : Nat) : Int) := by omega
      have hadd : qn .i64 ((N : Int) + ((e.getD i 0 : Nat) : Int)) = ((N + e.getD i 0 : Nat) : Int) := by rw [wrap64 (by omega) (by omega)]; rfl
      have h8 := W9 (show e.getD i 0 < 8 by omega)
      have h8' : e.getD i 0 < 8 := by omega
      simp (maxSteps := 3000000) only [qh, zH, ya, yh, hi16, hi16', hi17, qe, hdl, hel, hcx, hli, hadd, h8, h8', vg, hm, qgo, AV.one, iE, iN, iB, iC, iL, iD, iA, iS, iM, qa, zZ, ↓qp, ↓reduceIte, reduceCtorEq, nA, nM, nS, nE, nL, nD]; try simp only [qa, zY]
      exact hpost _ _ f (qt.qv [12, 6, 5, 4, 3, 2]) ⟨true, N + e.getD i 0, _, hf, by omega, by simp [hm], rfl⟩ (Nat.lt_succ_self _)
def Wj : List AV → Option (List Bool)
  | [] => some []
  | .bool b :: l => (Wj l).map (b :: ·)
  | _ => none
theorem Kq : ∀ l, Wj (bls l) = some l
  | [] => rfl
  | b :: l => by
    have := Kq l
    simp only [bls] at this
    simp only [bls, List.map_cons, Wj, this, Option.map_some]
theorem Ba : ∀ {l : List AV} {m : List Bool}, Wj l = some m → l = bls m
  | [], m, h => by simp only [Wj, Option.some.injEq] at h; subst h; rfl
  | .bool b :: l, m, h => by
    simp only [Wj, Option.map_eq_some_iff] at h
    obtain ⟨m', h1, rfl⟩ := h
    rw [Ba h1]; rfl
noncomputable def bh : BE := fun hp xs => match xs with
  | [.agg ld, .agg le, .int .i64 i, .bool u, .ptr b 0] => match hp[b]? with
    | some (.cells lm) => match vn ld, vn le, Wj lm with
      | some (n, d), some (n', e), some met => chk (((n' = n ∧ 0 ≤ n) ∧ isS n.toNat d = true ∧ isS n.toNat e = true) ∧ (0 ≤ i ∧ i < 2 * n) ∧ met.length = 8 ∧ u = decide (i < n)) (some (.tup [.int .i64 (pr n.toNat d e i.toNat : Nat), .bool (decide (pr n.toNat d e i.toNat < n.toNat))], hp.set b (.cells (bls (fol n.toNat d e u i.toNat met)))))
      | _, _, _ => none
    | _ => none
  | _ => none
theorem q1b : Am.Callee Try.prog 167 bh := Callee.fp fun hp xs v hp' he => by
  unfold bh at he
  split at he
  · rename_i ld le i u b
    split at he
    · rename_i lm hb
      split at he
      · rename_i n d n' e met hd1 he1 hm1
        obtain ⟨⟨⟨⟨a1, a2⟩, a3, a4⟩, a5, a6, a7⟩, he2⟩ := ql he
        simp only [Option.some.injEq, Prod.mk.injEq] at he2
        obtain ⟨rfl, rfl⟩ := he2
        obtain ⟨rfl, hd⟩ := zm hd1
        obtain ⟨rfl, he'⟩ := zm he1
        have hbl := Ba hm1
        subst hbl; subst a1
        obtain ⟨N, rfl⟩ : ∃ N : Nat, n' = N := ⟨n'.toNat, by omega⟩
        obtain ⟨k, rfl⟩ : ∃ k : Nat, i = k := ⟨i.toNat, by omega⟩
        simp only [Int.toNat_natCast] at a3 a4 ⊢
        have hu : u = decide (k < N) := by rw [a7]; congr 1; exact propext (by omega)
        subst hu
        obtain ⟨f, met', hf⟩ := Yh a3 a4 (i := k) (by omega) met
        have hfo := qh4 hf
        refine ⟨[(b, 0)], [.agg (dia N d), .agg (dia N e), .int .i64 k, .bool (decide (k < N)), .ptr 0 0], _, _, _, qjx N d e hd he' a3 a4 hf (by omega) a6, by simp [AV.ren, AV.zk, ofL, qb _ _ (qg _ _)], by simp [jc], ⟨⟨rfl, by simp only [AO.ren, qb _ _ (vc _)]; exact hb⟩, trivial⟩, rfl, ⟨qj _ _ (vc _), trivial⟩, ⟨qj _ _ (qg _ _), qj _ _ (qg _ _), trivial, trivial, by simp [AV.under], trivial⟩, by simp [AV.ren, AV.zk], ?_⟩
        simp [after, upd, AO.wr, AO.ren, qb _ _ (vc _), hfo]
      · cases he
    · cases he
  · cases he
noncomputable def B80 : za := (B79.put 167 (bh))
theorem qer : qo Try.prog B80 := (qsh.put (q1b))
def Qu (l : List AV) : Nat := l.countP fun v => match v with | .bool false => true | _ => false
theorem U5 : ∀ {met : List Bool} {k : Nat}, k < met.length → met.getD k false = false → Qu (bls (met.set k true)) < Qu (bls met)
  | b :: l, 0, _, h => by
    simp only [List.getD_cons_zero] at h
    subst h
    simp [Qu, bls]
  | b :: l, k + 1, hk, h => by
    have ih := U5 (met := l) (k := k) (by simpa using hk) (by simpa using h)
    simp only [Qu, bls] at ih
    simp only [Qu, bls, List.set_cons_succ, List.map_cons, List.countP_cons]
    omega
theorem qlo : ∀ {met : List Bool} {k : Nat}, Qu (bls (met.set k true)) ≤ Qu (bls met)
  | [], k => by simp [Qu, bls]
  | b :: l, 0 => by cases b <;> simp [Qu, bls]
  | b :: l, k + 1 => by
    have ih := qlo (met := l) (k := k)
    simp only [Qu, bls] at ih
    simp only [Qu, bls, List.set_cons_succ, List.map_cons, List.countP_cons]
    omega
theorem Gx {n : Nat} {d e : List Nat} {r : Nat × Bool × List Bool} : ∀ {f : Nat} {u : Bool} {i : Nat} {met : List Bool}, zr n d e f u i met = some r → r.2.2.length = met.length
  | 0, _, _, _, h => by simp [zr] at h
  | f + 1, true, i, met, h => by
    rw [zr] at h
    split at h
    · cases h; rfl
    · rw [Gx h, List.length_set]
  | f + 1, false, i, met, h => by
    rw [zr] at h
    split at h
    · cases h; rfl
    · rw [Gx h, List.length_set]
theorem qvc {n : Nat} {d e : List Nat} (hd : isS n d = true) (he : isS n e = true) {i : Nat} {u : Bool} (hi : i < 2 * n) (hu : u = decide (i < n)) (met : List Bool) : (fol n d e u i met).length = met.length := by
  subst hu
  obtain ⟨f, met', h⟩ := Yh hd he hi met
  rw [qh4 h]; exact Gx h
def InL (n : Nat) (d e : List Nat) (f g : Nat → Nat) (i x : Nat) (met : List Bool) : Prop :=
  met.length = 8 ∧ ((x = i ∧ ∀ y, mt met y ↔ Seen n d e i y) ∨ ∃ (T : Nat → Prop) (last : Nat), qgj (XX n d e) f g i T last ∧ x = g last ∧ ∀ y, mt met y ↔ Seen n d e i y ∨ T y)
theorem qzf {n : Nat} {d e : List Nat} {f g : Nat → Nat} (hf : Inv (XX n d e) f) (hg : Inv (XX n d e) g) (hn : n ≤ 8) {i x : Nat} {met : List Bool} (hi : i < n) (h0 : ¬ Seen n d e i i) (h : InL n d e f g i x met) (hx : ¬ mt met x) :
    XX n d e x ∧ XX n d e (f x) ∧ InL n d e f g i (g (f x)) ((met.set x true).set (f x) true) := by
  have hX : XX n d e i := ⟨hi, fun h => h0 (.inl h)⟩
  obtain ⟨hl, h⟩ := h
  have mt2 : ∀ {x y z : Nat}, x < n → y < n → (mt ((met.set x true).set y true) z ↔ z = y ∨ z = x ∨ mt met z) := fun {x y z} h1 h2 => by
    rw [uv (by rw [List.length_set]; omega), uv (by omega)]
  rcases h with ⟨rfl, hm⟩ | ⟨T, last, hT, rfl, hm⟩
  · have hfx := hf.mem _ hX
    refine ⟨hX, hfx, by rw [List.length_set, List.length_set]; exact hl, .inr ⟨_, _, qgj.start hf hX, rfl, fun y => ?_⟩⟩
    rw [mt2 hX.1 hfx.1, hm]
    constructor
    · rintro (h | h | h)
      · exact .inr (.inr h)
      · exact .inr (.inl h)
      · exact .inl h
    · rintro (h | h | h)
      · exact .inr (.inr h)
      · exact .inr (.inl h)
      · exact .inl h
  · have hT' : ¬ T (g last) := fun h => hx ((hm _).2 (.inr h))
    have hgl := hg.mem _ (Ring.mem hf hg hX (hT.ring _ hT.lm))
    have hfx := hf.mem _ hgl
    refine ⟨hgl, hfx, by rw [List.length_set, List.length_set]; exact hl, .inr ⟨_, _, (hT.next hf hg hX hT').1, rfl, fun y => ?_⟩⟩
    rw [mt2 hgl.1 hfx.1, hm]
    constructor
    · rintro (h | h | h | h)
      · exact .inr (.inr (.inl h))
      · exact .inr (.inl h)
      · exact .inl h
      · exact .inr (.inr (.inr h))
    · rintro (h | h | h | h)
      · exact .inr (.inr (.inl h))
      · exact .inr (.inl h)
      · exact .inl h
      · exact .inr (.inr (.inr h))
theorem qyq {n : Nat} {d e : List Nat} (hd : isS n d = true) (he : isS n e = true) {f g : Nat → Nat} (hf : Inv (XX n d e) f) (hg : Inv (XX n d e) g) (hR : ∀ i x, Ring f g i x ↔ Ring (dm n d) (em e) i x) {i x : Nat} {met : List Bool} (hi : i < n) (h0 : ¬ Seen n d e i i) (h : InL n d e f g i x met) (hx : mt met x) :
    ∀ y, mt met y ↔ Seen n d e (i + 1) y := by
  have hX : XX n d e i := ⟨hi, fun h => h0 (.inl h)⟩
  intro y
  rw [qq4 hi h0]
  obtain ⟨hl, ⟨rfl, hm⟩ | ⟨T, last, hT, rfl, hm⟩⟩ := h
  · exact absurd ((hm _).1 hx) h0
  · have hr : Ring f g i (g last) := .two (hT.ring _ hT.lm)
    have hT' : T (g last) := ((hm _).1 hx).resolve_left (U4 hd he hi h0 ((hR _ _).1 hr))
    have hs := (hT.stop hf hg hX hT').2
    rw [hm, hs, hR]
theorem ja : B80 167 = some (bh) := rfl
def Bi : AT := (.one (oF 17 0 2) (.one (oL 18 17) (.one (o0 19 (.build [(.bool false),(.bool false),(.bool false),(.bool false),(.bool false),(.bool false),(.bool false),(.bool false)] [])) (.one (oF 20 0 2) (.alt (oL 21 20) (.one (o0 22 (.build [.int .i64 0,.int .u8 0,.int .u8 0,.int .u8 0,.int .u8 0,.int .u8 0,.int .u8 0,.int .u8 0,.int .u8 0,.int .u8 0,.int .u8 0,.int .u8 0,.int .u8 0,.int .u8 0,.int .u8 0,.int .u8 0,.int .u8 0] [(0,1,.t 21)])) (.alt (o0 7 (.alloc [(.bool false),(.bool false),(.bool false),(.bool false),(.bool false),(.bool false),(.bool false),(.bool false)])) (.one (oD 8) (.one (oM 6 18) (.one (oS 8 7 19) (.one (oS 17 8 22) (.nil))))) (.alt (oD 8) (.one (o0 7 (.alloc [(.bool false),(.bool false),(.bool false),(.bool false),(.bool false),(.bool false),(.bool false),(.bool false)])) (.one (oM 6 18) (.one (oS 8 7 19) (.one (oS 17 8 22) (.nil))))) (.none)))) (.alt (o0 7 (.alloc [(.bool false),(.bool false),(.bool false),(.bool false),(.bool false),(.bool false),(.bool false),(.bool false)])) (.alt (oL 21 20) (.one (o0 22 (.build [.int .i64 0,.int .u8 0,.int .u8 0,.int .u8 0,.int .u8 0,.int .u8 0,.int .u8 0,.int .u8 0,.int .u8 0,.int .u8 0,.int .u8 0,.int .u8 0,.int .u8 0,.int .u8 0,.int .u8 0,.int .u8 0,.int .u8 0] [(0,1,.t 21)])) (.one (oD 8) (.one (oM 6 18) (.one (oS 8 7 19) (.one (oS 17 8 22) (.nil)))))) (.alt (oD 8) (.one (oM 6 18) (.alt (oL 21 20) (.one (o0 22 (.build [.int .i64 0,.int .u8 0,.int .u8 0,.int .u8 0,.int .u8 0,.int .u8 0,.int .u8 0,.int .u8 0,.int .u8 0,.int .u8 0,.int .u8 0,.int .u8 0,.int .u8 0,.int .u8 0,.int .u8 0,.int .u8 0,.int .u8 0] [(0,1,.t 21)])) (.one (oS 8 7 19) (.one (oS 17 8 22) (.nil)))) (.alt (oS 8 7 19) (.one (oL 21 20) (.one (o0 22 (.build [.int .i64 0,.int .u8 0,.int .u8 0,.int .u8 0,.int .u8 0,.int .u8 0,.int .u8 0,.int .u8 0,.int .u8 0,.int .u8 0,.int .u8 0,.int .u8 0,.int .u8 0,.int .u8 0,.int .u8 0,.int .u8 0,.int .u8 0] [(0,1,.t 21)])) (.one (oS 17 8 22) (.nil)))) (.none)))) (.none))) (.alt (oD 8) (.alt (oL 21 20) (.one (o0 22 (.build [.int .i64 0,.int .u8 0,.int .u8 0,.int .u8 0,.int .u8 0,.int .u8 0,.int .u8 0,.int .u8 0,.int .u8 0,.int .u8 0,.int .u8 0,.int .u8 0,.int .u8 0,.int .u8 0,.int .u8 0,.int .u8 0,.int .u8 0] [(0,1,.t 21)])) (.one (o0 7 (.alloc [(.bool false),(.bool false),(.bool false),(.bool false),(.bool false),(.bool false),(.bool false),(.bool false)])) (.one (oM 6 18) (.one (oS 8 7 19) (.one (oS 17 8 22) (.nil)))))) (.alt (o0 7 (.alloc [(.bool false),(.bool false),(.bool false),(.bool false),(.bool false),(.bool false),(.bool false),(.bool false)])) (.one (oM 6 18) (.alt (oL 21 20) (.one (o0 22 (.build [.int .i64 0,.int .u8 0,.int .u8 0,.int .u8 0,.int .u8 0,.int .u8 0,.int .u8 0,.int .u8 0,.int .u8 0,.int .u8 0,.int .u8 0,.int .u8 0,.int .u8 0,.int .u8 0,.int .u8 0,.int .u8 0,.int .u8 0] [(0,1,.t 21)])) (.one (oS 8 7 19) (.one (oS 17 8 22) (.nil)))) (.alt (oS 8 7 19) (.one (oL 21 20) (.one (o0 22 (.build [.int .i64 0,.int .u8 0,.int .u8 0,.int .u8 0,.int .u8 0,.int .u8 0,.int .u8 0,.int .u8 0,.int .u8 0,.int .u8 0,.int .u8 0,.int .u8 0,.int .u8 0,.int .u8 0,.int .u8 0,.int .u8 0,.int .u8 0] [(0,1,.t 21)])) (.one (oS 17 8 22) (.nil)))) (.none)))) (.none))) (.none))))))))
def Jg : AC := .seq (.seq (.region [oM 23 9,oM 24 6,oP 25 .lss 23 24]) (.cond 25 .skip (.exit 0))) (.seq (.block 1 (.seq (.region [oN 29 17 2,oN 30 17 3,oM 31 9,oC 32 167 [.t 29,.t 30,.t 31,(.c (.bool true)),.t 7],oM 28 32,oE 33 0 28,oE 34 1 28,oM 10 33,oM 11 34]) (.seq (.region [oM 35 9,oM 36 10,o0 37 (.conv .u8 (.t 36)),oF 38 1 8,o0 39 (.zz 16 1 (.t 38) (.t 35)),oT 39 37]) (.seq (.region [oN 41 17 2,oN 42 17 3,oM 43 6,oM 44 9,oP 45 .add 43 44,oC 46 167 [.t 41,.t 42,.t 45,(.c (.bool false)),.t 7],oM 40 46,oE 47 0 40,oE 48 1 40,oM 12 47,oM 13 48]) (.region [oM 49 6,oM 50 9,oP 51 .add 49 50,oM 52 12,o0 53 (.conv .u8 (.t 52)),oF 54 1 8,o0 55 (.zz 16 1 (.t 54) (.t 51)),oT 55 53]))))) (.region [oM 26 9,oK 27 .add 26 1,oM 9 27]))
def X3 : AC := .seq (.seq (.region [oM 67 16,o0 68 (.zz 8 1 (.t 7) (.t 67)),oL 69 68,o0 70 (.un .not (.t 69))]) (.cond 70 .skip (.exit 4))) (.block 5 (.seq (.region [oM 71 16,o0 72 (.zz 8 1 (.t 7) (.t 71)),⟨none,none,.op (.Zj (.t 72) (.c (.bool true)))⟩]) (.seq (.region [oM 73 6,oM 74 16,oP 75 .add 73 74,oF 76 1 2,o0 77 (.zz 16 1 (.t 76) (.t 75)),oL 78 77,o0 79 (.conv .i64 (.t 78)),oM 80 6,oP 81 .sub 79 80,oM 16 81]) (.seq (.region [oM 82 16,o0 83 (.zz 8 1 (.t 7) (.t 82)),⟨none,none,.op (.Zj (.t 83) (.c (.bool true)))⟩]) (.region [oM 84 16,oF 85 1 3,o0 86 (.zz 16 1 (.t 85) (.t 84)),oL 87 86,o0 88 (.conv .i64 (.t 87)),oM 16 88])))))
def X2 : AC := .region [oM 59 15,oK 60 .add 59 1,oM 15 60]
def km : AC := .seq (.seq (.region [oM 56 15,oM 57 6,oP 58 .lss 56 57]) (.cond 58 .skip (.exit 2))) (.seq (.block 3 (.seq (.seq (.region [oM 61 15,o0 62 (.zz 8 1 (.t 7) (.t 61)),oL 63 62]) (.cond 63 (.exit 3) .skip)) (.seq (.region [oM 64 14,oK 65 .add 64 1,oM 14 65]) (.seq (.region [oM 66 15,oM 16 66]) (.block 4 (.loop X3)))))) X2)
def Bq : AC := .seq (.region [oN 89 17 8,oM 90 14,oS 17 4 89,oM 5 90]) .ret
def Bk : AC := .seq (.region [oI 14 0]) (.seq (.seq (.region [oI 15 0]) (.block 2 (.loop km))) Bq)
def Bj : AC := .seq (.seq (.region [oI 9 0]) (.block 0 (.loop Jg))) Bk
def qc0 : AC := .seq (.region [o0 2 (.box (.t 0)),o0 3 (.box (.t 1)),oD 4,oI 5 0]) (.seq (.tree false Bi) Bj)
theorem qnd : zj Try.prog 140 = some ⟨91, qc0, [.wu 4 17, .slot 5]⟩ := by kernel_rfl
theorem qmc (N : Nat) (d e : List Nat) (hd : okD d) (he : okD e) (hds : isS N d = true) (hes : isS N e = true) :
    Am.Fn Try.prog 140 [.agg (dia N d), .agg (dia N e)] [] (fun v H' => v = .tup [.agg (dia N (xr N d e)), .int .i64 (lpN N d e N : Nat)] ∧ H' = []) := by
  refine Am.Fn.xm (R := fun v => v = _) qer mixed qnd (by simp) (by simp) ?_
  obtain ⟨hN, hpd, _⟩ := xg hds
  obtain ⟨_, hpe, _⟩ := xg hes
  have hdl := hd.1
  have hel := he.1
  have hb8 : [AV.bool false, .bool false, .bool false, .bool false, .bool false, .bool false, .bool false, .bool false] = bls (List.replicate 8 false) := rfl
  simp (maxSteps := 3000000) only [qh, zH, qc0, x7, zq, qe, hdl, hel, w9, iE, iN, iB, iC, iL, iD, iA, iS, iM, qa, zZ, ↓qp, ↓reduceIte, reduceCtorEq, nA, nM, nS, nE, nL, nD]; try simp only [qa, zY]
  refine WA.qfl qer (fun s => s = ⟨[(8, .ptr 4 0), (7, .ptr 3 0), (6, .int .i64 N), (5, .int .i64 0), (4, .ptr 2 0), (3, .ptr 1 0), (2, .ptr 0 0)], [.cells (dia N d), .cells (dia N e), .cells (dia 0 (List.replicate 16 0)), .cells (bls (List.replicate 8 false)), .cells (dia N (List.replicate 16 0))]⟩) ?_ ?_
  · have hov8 : over (bls (List.replicate 8 false)) 0 (bls (List.replicate 8 false)) = bls (List.replicate 8 false) := rfl
    have hl8 : (bls (List.replicate 8 false)).length = 8 := rfl
    have ho8 : (bls (List.replicate 8 false)).all AV.one = true := rfl
    unfold Bi
    simp (maxSteps := 3000000) only [qh, zH, bb, Qy, hb8, hov8, hl8, ho8, x7, zq, kx, qe, hdl, hel, w9, zx, xq xa xa, List.length_replicate, Nat.le_refl, iE, iN, iB, iC, iL, iD, iA, iS, iM, qa, zZ, ↓qp, ↓reduceIte, reduceCtorEq, nA, nM, nS, nE, nL, nD]; try simp only [qa, zY]
    repeat' (with_reducible refine And.intro ?_ ?_)
    all_goals first
      | exact ⟨_, qt.qv [8, 7, 6, 5, 4, 3, 2], rfl⟩
      | (refine ⟨_, qt.xv [0, 1, 2, 4, 3] [8, 7, 6, 5, 4, 3, 2] ⟨by decide, ?_⟩ ?_, ?_⟩
         · simp only [qd _ _ (qg _ _), qd _ _ (vc _), zK, ↓reduceIte, reduceCtorEq, nE, nB, nA]
         · simp only [qd _ _ (qg _ _), qd _ _ (vc _), zK, ↓reduceIte, reduceCtorEq, nE, nB, nA]
         · simp only [qb _ _ (qg _ _), qb _ _ (vc _), zL, ↓reduceIte, reduceCtorEq, nE, nA])
  rintro s rfl
  simp (maxSteps := 3000000) only [qh, zH, Bj, iE, iN, iB, iC, iL, iD, iA, iS, iM, qa, zZ, ↓qp, ↓reduceIte, reduceCtorEq, nA, nM, nS, nE, nL, nD]; try simp only [qa, zY]
  refine WA.xo qer (fun s => ∃ k : Nat, k ≤ N ∧ s = ⟨[(9, .int .i64 k), (8, .ptr 4 0), (7, .ptr 3 0), (6, .int .i64 N), (5, .int .i64 0), (4, .ptr 2 0), (3, .ptr 1 0), (2, .ptr 0 0)], [.cells (dia N d), .cells (dia N e), .cells (dia 0 (List.replicate 16 0)), .cells (bls (qgb N d e k)), .cells (dia N (Y5 N d e k))]⟩)
    (fun s => match get s.env 9 with | .int _ x => N - x.toNat | _ => 0) ⟨_, qt.qv [9, 8, 7, 6, 5, 4, 3, 2], 0, by omega, rfl⟩ ?_
  rintro s ⟨k, hk, rfl⟩
  have hw : qn .i64 ((k : Int) + 1) = ((k + 1 : Nat) : Int) := by rw [wrap64 (by omega) (by omega)]; rfl
  by_cases hlt : k < N
  · have hli : (k : Int) < (N : Int) := by omega
    have hk16 := wg N d e k
    have hmk := (Ju hds hes k hk).len
    have hx1 := qe7 hds hes (i := k) (by omega)
    have hx2 := qe7 hds hes (i := N + k) (by omega)
    have u1 : qn .u8 ((pr N d e k : Nat) : Int) = ((pr N d e k : Nat) : Int) := U2 (by omega)
    have u2 : qn .u8 ((pr N d e (N + k) : Nat) : Int) = ((pr N d e (N + k) : Nat) : Int) := U2 (by omega)
    have hadd : qn .i64 ((N : Int) + (k : Int)) = ((N + k : Nat) : Int) := by rw [wrap64 (by omega) (by omega)]; rfl
    obtain ⟨c1, c2⟩ := vl (show k < 16 by omega)
    obtain ⟨c3, c4⟩ := vl (show N + k < 16 by omega)
    have c5 : k < 16 := by omega
    have c6 : N + k < 16 := by omega
    have k1 : (0 : Int) ≤ (k : Int) ∧ (k : Int) < 2 * (N : Int) := by omega
    have k2 : (0 : Int) ≤ ((N + k : Nat) : Int) ∧ ((N + k : Nat) : Int) < 2 * (N : Int) := by omega
    have q1 : (true = decide ((k : Int) < (N : Int))) = True := by simp [hlt]
    have q2 : (false = decide (((N + k : Nat) : Int) < (N : Int))) = True := by simp; omega
    have hf1 : (fol N d e true k (qgb N d e k)).length = 8 := by rw [qvc hds hes (by omega) (by simp [hlt])]; exact hmk
    have q0 : (0 : Int) ≤ (N : Int) := by omega
    have hdo := qy (n := (N : Int)) hd
    have heo := qy (n := (N : Int)) he
    simp (maxSteps := 3000000) only [qh, zH, Jg, ja, bh, hw, hli, qe, hdl, hel, qw hdl, qw hel, hdo, heo, Kq, Int.toNat_natCast, hds, hes, k1, k2, q0, q1, q2, hmk, hf1, u1, u2, hadd, c1, c2, c3, c4, c5, c6, hk16, U3, List.length_set, vg, AV.one, and_self, true_and, and_true, iE, iN, iB, iC, iL, iD, iA, iS, iM, qa, zZ, ↓qp, ↓reduceIte, reduceCtorEq, nA, nM, nS, nE, nL, nD]; try simp only [qa, zY]
    refine ⟨_, qt.qv [9, 8, 7, 6, 5, 4, 3, 2], ⟨k + 1, by omega, ?_⟩, ?_⟩
    · simp only [zL, ↓reduceIte, reduceCtorEq, nE, nA]
      rfl
    · simp only [zL, ↓reduceIte, reduceCtorEq, nE, nA]; omega
  have hli : ¬ (k : Int) < (N : Int) := by omega
  obtain rfl : k = N := by omega
  simp (maxSteps := 3000000) only [qh, zH, Jg, Bk, ja, bh, hli, Int.lt_irrefl, iE, iN, iB, iC, iL, iD, iA, iS, iM, qa, zZ, ↓qp, ↓reduceIte, reduceCtorEq, nA, nM, nS, nE, nL, nD]; try simp only [qa, zY]
  refine WA.xo qer (fun s => ∃ (i : Nat) (met : List Bool), i ≤ k ∧ (met.length = 8 ∧ ∀ x, mt met x ↔ Seen k d e i x) ∧ s = ⟨[(15, .int .i64 i), (14, .int .i64 (lpN k d e i : Nat)), (8, .ptr 4 0), (7, .ptr 3 0), (6, .int .i64 k), (5, .int .i64 0), (4, .ptr 2 0), (3, .ptr 1 0), (2, .ptr 0 0)], [.cells (dia k d), .cells (dia k e), .cells (dia 0 (List.replicate 16 0)), .cells (bls met), .cells (dia k (xr k d e))]⟩)
    (fun s => match get s.env 15 with | .int _ x => k - x.toNat | _ => 0) ⟨_, qt.qv [15, 14, 8, 7, 6, 5, 4, 3, 2], 0, qgb k d e k, by omega, ⟨(Ju hds hes k (Nat.le_refl _)).len, fun x => ⟨.inl, fun h => h.elim id fun ⟨j, hj, _⟩ => absurd hj (Nat.not_lt_zero _)⟩⟩, rfl⟩ ?_
  clear hlt hli hw
  rintro s ⟨i, met, hi, ⟨hml, hmt⟩, rfl⟩
  have hw : qn .i64 ((i : Int) + 1) = ((i + 1 : Nat) : Int) := by rw [wrap64 (by omega) (by omega)]; rfl
  have hle := qjp k d e i
  have hw2 : qn .i64 (((lpN k d e i : Nat) : Int) + 1) = ((lpN k d e i + 1 : Nat) : Int) := by rw [wrap64 (by omega) (by omega)]; rfl
  by_cases hlt : i < k
  · have hli : (i : Int) < (k : Int) := by omega
    have g1 := W9 (show i < 8 by omega)
    have g2 : i < 8 := by omega
    have g3 := que (l := met) (i := i) (by omega)
    by_cases hs : Seen k d e i i
    · have hm1 : met.getD i false = true := (hmt i).2 hs
      simp (maxSteps := 3000000) only [qh, zH, km, X2, ja, bh, hw, hli, g1, g2, g3, hm1, vg, hml, iE, iN, iB, iC, iL, iD, iA, iS, iM, qa, zZ, ↓qp, ↓reduceIte, reduceCtorEq, nA, nM, nS, nE, nL, nD]; try simp only [qa, zY]
      refine ⟨_, qt.qv [15, 14, 8, 7, 6, 5, 4, 3, 2], ⟨i + 1, met, by omega, ⟨hml, fun x => by rw [hmt, qpc hds hes hs]⟩, ?_⟩, ?_⟩
      · simp only [zL, ↓reduceIte, reduceCtorEq, nE, nA]
        simp only [lpN, if_pos hs]
      · simp only [zL, ↓reduceIte, reduceCtorEq, nE, nA]; omega
    · have hm1 : met.getD i false = false := by
        cases h : met.getD i false with
        | false => rfl
        | true => exact absurd ((hmt i).1 h) hs
      simp (maxSteps := 3000000) only [qh, zH, km, ja, bh, hw, hw2, hli, g1, g2, g3, hm1, vg, hml, iE, iN, iB, iC, iL, iD, iA, iS, iM, qa, zZ, ↓qp, ↓reduceIte, reduceCtorEq, nA, nM, nS, nE, nL, nD]; try simp only [qa, zY]
      refine WA.xo qer (fun s => ∃ (x : Nat) (mm : List Bool), InL k d e (dm k d) (em e) i x mm ∧ s = ⟨[(16, .int .i64 x), (15, .int .i64 i), (14, .int .i64 (lpN k d e i + 1 : Nat)), (8, .ptr 4 0), (7, .ptr 3 0), (6, .int .i64 k), (5, .int .i64 0), (4, .ptr 2 0), (3, .ptr 1 0), (2, .ptr 0 0)], [.cells (dia k d), .cells (dia k e), .cells (dia 0 (List.replicate 16 0)), .cells (bls mm), .cells (dia k (xr k d e))]⟩)
        (fun s : St => match s.hp[3]? with | some (AO.cells l) => Qu l | _ => 0) ⟨_, qt.qv [16, 15, 14, 8, 7, 6, 5, 4, 3, 2], i, met, ⟨hml, .inl ⟨rfl, hmt⟩⟩, rfl⟩ ?_
      rintro s ⟨x, mm, hin, rfl⟩
      have hmm := hin.1
      have hdi := qbv hds hes
      have hei := qby hds hes
      have hxk : x < k := by
        rcases hin.2 with ⟨rfl, _⟩ | ⟨T, last, hT, rfl, _⟩
        · exact hlt
        · exact (hei.mem _ (Ring.mem hdi hei ⟨hlt, fun h => hs (.inl h)⟩ (hT.ring _ hT.lm))).1
      have g4 := W9 (show x < 8 by omega)
      have g5 : x < 8 := by omega
      have g6 := que (l := mm) (i := x) (by omega)
      by_cases hmx : mm.getD x false = true
      · have hst := qyq hds hes hdi hei (fun _ _ => Iff.rfl) hlt hs hin hmx
        simp (maxSteps := 3000000) only [qh, zH, X3, X2, ja, bh, hw, g4, g5, g6, hmx, vg, hmm, Bool.not_true, iE, iN, iB, iC, iL, iD, iA, iS, iM, qa, zZ, ↓qp, ↓reduceIte, reduceCtorEq, nA, nM, nS, nE, nL, nD]; try simp only [qa, zY]
        refine ⟨_, qt.qv [15, 14, 8, 7, 6, 5, 4, 3, 2], ⟨i + 1, mm, by omega, ⟨hmm, hst⟩, ?_⟩, ?_⟩
        · simp only [zL, ↓reduceIte, reduceCtorEq, nE, nA]
          simp only [lpN, if_neg hs]
        · simp only [zL, ↓reduceIte, reduceCtorEq, nE, nA]; omega
      · obtain ⟨y1, y2, y3⟩ := qzf hdi hei (by omega) hlt hs hin hmx
        have hmx' : mm.getD x false = false := by simpa using hmx
        obtain ⟨z1, z2, z3⟩ := qlc hds hes y1
        have hdx : dm k d x = d.getD (k + x) 0 - k := rfl
        have hyk := y2.1
        have hadd : qn .i64 ((k : Int) + (x : Int)) = ((k + x : Nat) : Int) := by rw [wrap64 (by omega) (by omega)]; rfl
        obtain ⟨c3, c4⟩ := vl (show k + x < 16 by omega)
        have c6 : k + x < 16 := by omega
        obtain ⟨c7, c8⟩ := vl (show dm k d x < 16 by omega)
        have c9 : dm k d x < 16 := by omega
        have g7 := W9 (show dm k d x < 8 by omega)
        have g8 : dm k d x < 8 := by omega
        have d1 := Xi (n := (k : Int)) (m := d) (i := k + x) (by omega)
        have d2 := Xi (n := (k : Int)) (m := e) (i := dm k d x) (by omega)
        have v1 : qn .i64 ((d.getD (k + x) 0 : Nat) : Int) = ((d.getD (k + x) 0 : Nat) : Int) := jr (by omega)
        have v2 : qn .i64 (((d.getD (k + x) 0 : Nat) : Int) - (k : Int)) = ((dm k d x : Nat) : Int) := by rw [wrap64 (by omega) (by omega)]; omega
        have v3 : qn .i64 ((e.getD (dm k d x) 0 : Nat) : Int) = ((e.getD (dm k d x) 0 : Nat) : Int) := jr (by have := qlc hds hes y2; omega)
        simp (maxSteps := 3000000) only [qh, zH, X3, ja, bh, g4, g5, g6, g7, g8, hmx', vg, qgo, hmm, List.length_set, hadd, c3, c4, c6, c7, c8, c9, d1, d2, v1, v2, v3, qe, hdl, hel, AV.one, Bool.not_false, iE, iN, iB, iC, iL, iD, iA, iS, iM, qa, zZ, ↓qp, ↓reduceIte, reduceCtorEq, nA, nM, nS, nE, nL, nD]; try simp only [qa, zY]
        refine ⟨_, qt.qv [16, 15, 14, 8, 7, 6, 5, 4, 3, 2], ⟨_, _, y3, ?_⟩, ?_⟩
        · simp only [zL, ↓reduceIte, reduceCtorEq, nE, nA]
          rfl
        · simp only [zL, ↓reduceIte, reduceCtorEq, nE, nA]
          have h1 := U5 (met := mm) (k := x) (by omega) hmx'
          have h2 := qlo (met := mm.set x true) (k := dm k d x)
          omega
  · have hli : ¬ (i : Int) < (k : Int) := by omega
    obtain rfl : i = k := by omega
    have hk16 := wg i d e i
    have hk16' : (xr i d e).length = 16 := hk16
    simp (maxSteps := 3000000) only [qh, zH, km, Bq, ja, bh, hli, qe, hk16', qw hk16', xq xa hk16', zx, List.length_replicate, Int.lt_irrefl, iE, iN, iB, iC, iL, iD, iA, iS, iM, qa, zZ, ↓qp, ↓reduceIte, reduceCtorEq, nA, nM, nS, nE, nL, nD]; try simp only [qa, zY]
    simp only [qg, Bool.and_self]
noncomputable def jl : List AV → Option AV
  | [.agg ld, .agg le] => match vn ld, vn le with
    | some (n, d), some (n', e) => chk ((n' = n ∧ 0 ≤ n) ∧ isS n.toNat d = true ∧ isS n.toNat e = true) (some (.tup [.agg (dia n (xr n.toNat d e)), .int .i64 (lpN n.toNat d e n.toNat : Nat)]))
    | _, _ => none
  | _ => none
theorem qjb {f : FuncId} (h : ∀ (N : Nat) d e, okD d → okD e → isS N d = true → isS N e = true → Am.Fn Try.prog f [.agg (dia N d), .agg (dia N e)] [] (fun v H' => v = .tup [.agg (dia N (xr N d e)), .int .i64 (lpN N d e N : Nat)] ∧ H' = [])) : Am.Callee Try.prog f (qk jl) := Am.Callee.plain fun xs v he => by
  unfold jl at he
  split at he
  · rename_i ld le
    split at he
    · rename_i n d n' e hd1 he1
      obtain ⟨⟨⟨a1, a2⟩, a3, a4⟩, he2⟩ := ql he
      cases he2
      obtain ⟨rfl, hd⟩ := zm hd1
      obtain ⟨rfl, he'⟩ := zm he1
      subst a1
      obtain ⟨N, rfl⟩ : ∃ N : Nat, n' = N := ⟨n'.toNat, by omega⟩
      simp only [Int.toNat_natCast] at a3 a4 ⊢
      exact ⟨by simp [AV.ze, AV.zo, qg], by simp [AV.ze, AV.zo, qg], h N d e hd he' a3 a4⟩
    · cases he
  · cases he
noncomputable def B81 : za := (B80.put 140 (qk jl))
theorem qni : qo Try.prog B81 := (qer.put (qjb qmc))
def qfc : AC := .skip
theorem qn4 : zj Try.prog 171 = some ⟨4, qfc, []⟩ := by kernel_rfl
theorem qpw (b : Bool) (i : Int) : Am.Fn Try.prog 171 [.bool b, .int .i64 i] [] (fun v H' => v = .tup [] ∧ H' = []) := by
  refine Am.Fn.xm (R := fun v => v = _) qni mixed qn4 (by simp) (by simp) ?_
  simp (maxSteps := 3000000) only [qh, zH, qfc, qa, iE, iN, iB, iC, iL, iD, iA, iS, iM, qa, zZ, ↓qp, ↓reduceIte, reduceCtorEq, nA, nM, nS, nE, nL, nD]; try simp only [qa, zY]
def gq : List AV → Option AV
  | [.bool _, .int .i64 _] => some (.tup [])
  | _ => none
theorem q7z : Am.Callee Try.prog 171 (qk gq) := Am.Callee.plain fun xs v he => by
  unfold gq at he
  split at he
  · cases he; exact ⟨rfl, rfl, qpw _ _⟩
  · cases he
def qe0 : AC := .region [oM 5 0,oM 6 1,o0 7 (.conv .u8 (.t 6)),oF 8 1 2,o0 9 (.zz 16 1 (.t 8) (.t 5)),oT 9 7]
theorem qqt : zj Try.prog 172 = some ⟨10, qe0, []⟩ := by kernel_rfl
theorem qot (n : Int) (m : List Nat) (hm : m.length = 16) (i v : Nat) (hi : i < 16) (hv : v < 256) : Am.Fn Try.prog 172 [.int .i64 i, .int .i64 v, .ptr 0 0] [.cells (dia n m)] (fun r H' => r = .tup [] ∧ H' = [.cells (dia n (m.set i v))]) := by
  refine Am.Fn.ofB qni mixed qqt (by simp [AV.qu, AV.under]) (fun j o hj => by
    match j, hj with
    | 0, hj => cases hj; exact qj _ _ (qg _ _)
    | j + 1, hj => simp at hj) ?_
  obtain ⟨c1, c2⟩ := vl hi
  have c3 : i < 16 := hi
  have hw : qn .u8 (v : Int) = (v : Int) := U2 hv
  simp (maxSteps := 3000000) only [qh, zH, qe0, qa, qe, hm, U3, c1, c2, c3, hw, AV.one, iE, iN, iB, iC, iL, iD, iA, iS, iM, qa, zZ, ↓qp, ↓reduceIte, reduceCtorEq, nA, nM, nS, nE, nL, nD]; try simp only [qa, zY]
  refine Ret.xv [0] ⟨⟨Nat.le_refl 1, rfl, by decide⟩, ?_⟩ (rs := []) rfl rfl (by simp [xl]) ?_ ⟨rfl, ?_⟩
  · simp only [qd _ _ (qg _ _), zK, ↓reduceIte, reduceCtorEq, nE, nB, nA]
  · intro j l; cases j <;> simp [zn, AO.ren]
  · simp only [qb _ _ (qg _ _), zL, ↓reduceIte, reduceCtorEq, nE, nA]
def Bo : BE := fun hp xs => match xs with
  | [.int .i64 i, .int .i64 v, .ptr b 0] => match hp[b]? with
    | some (.cells l) => match vn l with
      | some (n, m) => chk ((0 ≤ i ∧ i < 16) ∧ 0 ≤ v ∧ v < 256) (some (.tup [], hp.set b (.cells (dia n (m.set i.toNat v.toNat)))))
      | none => none
    | _ => none
  | _ => none
theorem q82 : Am.Callee Try.prog 172 Bo := Callee.fp fun hp xs v hp' he => by
  unfold Bo at he
  split at he
  · rename_i i v b
    split at he
    · rename_i l hb
      split at he
      · rename_i n m hd1
        obtain ⟨⟨⟨a1, a2⟩, a3, a4⟩, he2⟩ := ql he
        simp only [Option.some.injEq, Prod.mk.injEq] at he2
        obtain ⟨rfl, rfl⟩ := he2
        obtain ⟨rfl, hd⟩ := zm hd1
        obtain ⟨k, rfl⟩ : ∃ k : Nat, i = k := ⟨i.toNat, by omega⟩
        obtain ⟨w, rfl⟩ : ∃ w : Nat, v = w := ⟨v.toNat, by omega⟩
        simp only [Int.toNat_natCast]
        refine ⟨[(b, 0)], [.int .i64 k, .int .i64 w, .ptr 0 0], _, _, _, qot n m hd.1 k w (by omega) (by omega), by simp [AV.ren, AV.zk, ofL], by simp [jc], ⟨⟨rfl, by simp only [AO.ren, qb _ _ (qg _ _)]; exact hb⟩, trivial⟩, rfl, ⟨qj _ _ (qg _ _), trivial⟩, ⟨trivial, trivial, by simp [AV.under], trivial⟩, by simp [AV.ren, AV.zk], ?_⟩
        simp [after, upd, AO.wr, AO.ren, qb _ _ (qg _ _)]
      · cases he
    · cases he
  · cases he
def qey : AC := .region [oL 1 0,oK 2 .add 1 1,oT 0 2]
theorem qn9 : zj Try.prog 173 = some ⟨3, qey, []⟩ := by kernel_rfl
theorem qqx (k : Nat) (hk : k ≤ 1000) : Am.Fn Try.prog 173 [.ptr 0 0] [.cells [.int .i64 k]] (fun r H' => r = .tup [] ∧ H' = [.cells [.int .i64 (k + 1 : Nat)]]) := by
  refine Am.Fn.ofB qni mixed qn9 (by simp [AV.qu, AV.under]) (fun j o hj => by
    match j, hj with
    | 0, hj => cases hj; exact ⟨trivial, trivial⟩
    | j + 1, hj => simp at hj) ?_
  have hw : qn .i64 ((k : Int) + 1) = ((k + 1 : Nat) : Int) := by rw [wrap64 (by omega) (by omega)]; rfl
  simp (maxSteps := 3000000) only [qh, zH, qey, qa, hw, AV.one, iE, iN, iB, iC, iL, iD, iA, iS, iM, qa, zZ, ↓qp, ↓reduceIte, reduceCtorEq, nA, nM, nS, nE, nL, nD]; try simp only [qa, zY]
  refine Ret.xv [0] ⟨⟨Nat.le_refl 1, rfl, by decide⟩, ?_⟩ (rs := []) rfl rfl (by simp [xl]) ?_ ⟨rfl, ?_⟩
  · simp only [qd _ _ (qg _ _), zK, ↓reduceIte, reduceCtorEq, nE, nB, nA]
  · intro j l; cases j <;> simp [zn, AO.ren]
  · simp only [qb _ _ (qg _ _), zL, ↓reduceIte, reduceCtorEq, nE, nA]
def ue : BE := fun hp xs => match xs with
  | [.ptr b 0] => match hp[b]? with
    | some (.cells [.int .i64 k]) => chk (0 ≤ k ∧ k ≤ 1000) (some (.tup [], hp.set b (.cells [.int .i64 (k + 1)])))
    | _ => none
  | _ => none
theorem qx6 : Am.Callee Try.prog 173 ue := Callee.fp fun hp xs v hp' he => by
  unfold ue at he
  split at he
  · rename_i b
    split at he
    · rename_i k hb
      obtain ⟨⟨a1, a2⟩, he2⟩ := ql he
      simp only [Option.some.injEq, Prod.mk.injEq] at he2
      obtain ⟨rfl, rfl⟩ := he2
      obtain ⟨k', rfl⟩ : ∃ k' : Nat, k = k' := ⟨k.toNat, by omega⟩
      refine ⟨[(b, 0)], [.ptr 0 0], _, _, _, qqx k' (by omega), by simp [AV.ren, AV.zk, ofL], by simp [jc], ⟨⟨rfl, by simp only [AO.ren, AV.zk, AV.ren]; exact hb⟩, trivial⟩, rfl, ⟨⟨trivial, trivial⟩, trivial⟩, ⟨by simp [AV.under], trivial⟩, by simp [AV.ren, AV.zk], ?_⟩
      simp [after, upd, AO.wr, AO.ren, AV.zk, AV.ren]
    · cases he
  · cases he
noncomputable def B82 : za := (((B81.put 171 (qk gq)).put 172 (Bo)).put 173 (ue))
theorem qhu : qo Try.prog B82 := (((qni.put (q7z)).put (q82)).put (qx6))
def stk (a b : Nat) (met : List Bool) : List AV := .ptr a 0 :: .ptr b 0 :: (bls met ++ [.fn 171 [] []])
theorem vz {a b : Nat} {met : List Bool} : (stk a b met).length = met.length + 3 := by simp [stk, vg]
theorem Zc {a b : Nat} {met : List Bool} : (stk a b met)[0]? = some (.ptr a 0) := rfl
theorem Q5 {a b : Nat} {met : List Bool} : (stk a b met)[1]? = some (.ptr b 0) := rfl
theorem Z8 {a b : Nat} {met : List Bool} (h : met.length = 8) : (stk a b met)[10]? = some (.fn 171 [] []) := by
  simp [stk, List.getElem?_append, vg, h]
theorem qc4 {a b : Nat} {met : List Bool} {i : Nat} {v : Bool} (h : met.length = 8) (hi : i < 8) : (stk a b met).set (2 + i) (.bool v) = stk a b (met.set i v) := by
  rw [Nat.add_comm]
  simp [stk, List.set_append, vg, h, hi, qgo]
theorem q25 {a b : Nat} {met : List Bool} {i : Nat} (h : met.length = 8) (hi : i < 8) : (stk a b met)[2 + i]? = some (.bool (met.getD i false)) := by
  rw [Nat.add_comm]
  simp [stk, List.getElem?_append, vg, h, hi, bls]
theorem qtk {n : Nat} (met : List Bool) : AV.qu n (bls met) := qj _ _ (vc _)
theorem qrf {ρ : Ren} : ∀ (l l' : List AV), AV.zk ρ (l ++ l') = AV.zk ρ l ++ AV.zk ρ l'
  | [], _ => rfl
  | a :: l, l' => by simp [AV.zk, qrf l l']
theorem qf5 {n : Nat} : ∀ (l l' : List AV), AV.qu n l → AV.qu n l' → AV.qu n (l ++ l')
  | [], _, _, h => h
  | a :: l, l', h, h' => ⟨h.1, qf5 l l' h.2 h'⟩
theorem qdg {ids : List Nat} : ∀ (l l' : List AV), AV.xd ids l = true → AV.xd ids l' = true → AV.xd ids (l ++ l') = true
  | [], _, _, h => h
  | a :: l, l', h, h' => by
    simp only [AV.xd, List.cons_append, Bool.and_eq_true] at h ⊢
    exact ⟨h.1, qdg l l' h.2 h'⟩
theorem Yy {ρ : Ren} {a b : Nat} {met : List Bool} : AV.zk ρ (stk a b met) = (AV.ptr a 0).ren ρ :: (AV.ptr b 0).ren ρ :: (bls met ++ [.fn 171 [] []]) := by
  simp only [stk, AV.zk, qrf, qb _ _ (vc met)]
  simp [AV.zk, AV.ren]
theorem qll {n a b : Nat} {met : List Bool} (h1 : a < n) (h2 : b < n) : AV.qu n (stk a b met) := ⟨h1, h2, qf5 _ _ (qtk _) ⟨⟨trivial, trivial⟩, trivial⟩⟩
theorem qvl {x N : Nat} (h1 : N ≤ x) (h2 : x < 2 * N) : Int.tmod (x : Int) (N : Int) = ((x - N : Nat) : Int) := by
  show ((x % N : Nat) : Int) = _
  rw [Nat.mod_eq_sub_mod h1, Nat.mod_eq_of_lt (by omega)]
theorem qvk {x N : Nat} (h1 : x < N) : Int.tmod (x : Int) (N : Int) = (x : Int) := by
  show ((x % N : Nat) : Int) = _
  rw [Nat.mod_eq_of_lt h1]
theorem qbt {met : List Bool} : AV.xd [0, 1, 2] (stk 1 2 met) = true := by
  have h : AV.xd [0, 1, 2] (bls met ++ [.fn 171 [] []]) = true := qdg _ _ (qd _ _ (vc _)) rfl
  simp [stk, AV.xd, AV.within, h]
theorem ro3 {m m' l1 l2 : List AV} {hp : List AO} : ∀ (j : Nat) (l : List AV), (zn [0, 1, 2] (.cells m :: .ro l1 :: .ro l2 :: hp))[j]? = some (AO.ro l) → ∃ l', ([.cells m', .ro l1, .ro l2] : List AO)[j]? = some (AO.ro l')
  | 0, l, h => by simp [zn, AO.ren] at h
  | 1, l, h => ⟨_, rfl⟩
  | 2, l, h => ⟨_, rfl⟩
  | j + 3, l, h => by simp [zn] at h
def H3 (N : Nat) (d e : List Nat) (met : List Bool) : List AO := [.cells (stk 1 2 met), .ro (dia N d), .ro (dia N e)]
theorem qpv {N : Nat} {d e : List Nat} {met : List Bool} : ∀ (j : Nat) (o : AO), (H3 N d e met)[j]? = some o → o.under 3 := fun j o hj => by
  match j, hj with
  | 0, hj => cases hj; exact qll (by omega) (by omega)
  | 1, hj => cases hj; exact qj _ _ (qg _ _)
  | 2, hj => cases hj; exact qj _ _ (qg _ _)
  | j + 3, hj => simp [H3] at hj
theorem vv : B82 168 = some (Wp 1 g_n) := rfl
theorem yq : B82 171 = some (qk gq) := rfl
def xj : AC := .block 1 (.seq (.region [oM 17 0,o0 18 (.jy (.t 17)),oF 19 0 18,oL 20 19,oM 10 20]) (.seq (.seq (.region [oM 21 1]) (.cond 21 (.region [oM 22 0,o0 23 (.jy (.t 22)),oF 24 1 23,oL 25 24,oM 10 25]) .skip)) (.seq (.region [oM 26 0,o0 27 (.jy (.t 26)),oF 28 10 27,oL 29 28,oM 30 1,oM 31 2,⟨some 32,none,.call (.t 29) [.t 30,.t 31]⟩]) (.seq (.region [oM 33 10,oM 34 2,o0 35 (.jy (.t 33)),oF 36 1 35,o0 37 (.zz 16 1 (.t 36) (.t 34)),oL 38 37,o0 39 (.conv .i64 (.t 38)),oM 2 39]) (.seq (.seq (.region [oM 40 1,oM 41 2,oM 42 9,oP 43 .geq 41 42,o0 44 (.eqb false (.t 40) (.t 43))]) (.cond 44 (.seq (.region [oM 45 2,oM 8 45]) .ret) .skip)) (.seq (.region [oM 46 2,oM 47 9,oP 48 .rem 46 47,oM 11 48]) (.seq (.region [oM 49 0,oM 50 11,o0 51 (.jy (.t 49)),oF 52 2 51,o0 53 (.zz 8 1 (.t 52) (.t 50)),⟨none,none,.op (.Zj (.t 53) (.c (.bool true)))⟩]) (.seq (.seq (.region [oM 54 1,o0 55 (.un .not (.t 54)),oM 1 55]) (.seq (.region [oM 56 1]) (.cond 56 (.region [oM 57 11,oM 2 57]) (.region [oM 58 9,oM 59 11,oP 60 .add 58 59,oM 2 60])))) (.seq (.region [oM 61 11,oM 62 3,oP 63 .eql 61 62]) (.cond 63 (.seq (.region [oI 8 (-1)]) .ret) .skip))))))))))
def Zx : AC := .seq (.region [oI 8 0]) (.seq (.region [oM 12 0,o0 13 (.jy (.t 12)),oF 14 0 13,oL 15 14,oC 16 168 [.t 15],oM 9 16]) (.block 0 (.loop xj)))
theorem Yt : zj Try.prog 187 = some ⟨64, Zx, [.slot 8]⟩ := by kernel_rfl
theorem qrv (N : Nat) (d e : List Nat) (hd : okD d) (he : okD e) (hds : isS N d = true) (hes : isS N e = true) {f : Nat} {u : Bool} {i : Nat} {met : List Bool} {r : Nat} {s : Bool} {met' : List Bool} (hf : zr N d e f u i met = some (r, s, met')) (hi : i < 2 * N) (hm : met.length = 8) :
    Am.Fn Try.prog 187 [.ptr 0 0, .bool (!u), .int .i64 i, .int .i64 (-1)] (H3 N d e met) (fun v H' => v = .int .i64 r ∧ H' = H3 N d e met') := by
  refine Am.Fn.ofB qhu mixed Yt (by simp [AV.qu, AV.under, H3]) qpv ?_
  obtain ⟨hN, hpd, _⟩ := xg hds
  obtain ⟨_, hpe, _⟩ := xg hes
  have hdl := hd.1
  have hel := he.1
  unfold H3
  simp (maxSteps := 3000000) only [qh, zH, Zx, vv, yq, gq, g_n, vz, Zc, Q5, hm, qe, hdl, hel, w9, Be, iE, iN, iB, iC, iL, iD, iA, iS, iM, qa, zZ, ↓qp, ↓reduceIte, reduceCtorEq, nA, nM, nS, nE, nL, nD]; try simp only [qa, zY]
  refine qyr qhu (fun f st => ∃ (u : Bool) (i : Nat) (met : List Bool), zr N d e f u i met = some (r, s, met') ∧ i < 2 * N ∧ met.length = 8 ∧
      st = ⟨[(9, .int .i64 N), (0, .ptr 0 0), (1, .bool (!u)), (2, .int .i64 i), (3, .int .i64 (-1))], [.cells (stk 1 2 met), .ro (dia N d), .ro (dia N e)]⟩) ⟨_, qt.qv [9, 0, 1, 2, 3], f, u, i, met, hf, hi, hm, rfl⟩ ?_
  clear hf hi hm
  rintro k st ⟨u, i, met, hf, hi, hm, rfl⟩ post hpost
  obtain ⟨hi16, hi16'⟩ := vl (show i < 16 by omega)
  have hi17 : i < 16 := by omega
  have hN0 : (N : Int) ≠ 0 := by omega
  match k, u, hf with
  | 0, _, hf => simp [zr] at hf
  | f + 1, true, hf =>
    have hx := (hpd i hi).1
    have hcx : qn .i64 ((d.getD i 0 : Nat) : Int) = ((d.getD i 0 : Nat) : Int) := jr (by omega)
    have hdx := Xi (n := (N : Int)) (m := d) (i := i) (by omega)
    rw [zr] at hf
    by_cases hlt : d.getD i 0 < N
    · rw [if_pos hlt] at hf
      simp only [Option.some.injEq, Prod.mk.injEq] at hf
      obtain ⟨rfl, rfl, rfl⟩ := hf
      have hli : ((N : Int) ≤ ((d.getD i 0 : Nat) : Int)) ↔ False := iff_false_intro (by omega)
      simp (maxSteps := 3000000) only [qh, zH, xj, vv, yq, gq, g_n, Bool.not_true, Bool.not_false, vz, Zc, Q5, Z8 hm, hm, qe, hdl, hel, hi16, hi16', hi17, hcx, hdx, hli, decide_false, decide_true, beq_self_eq_true, bne_self_eq_false, Bool.true_beq, Bool.false_beq, AV.one, iE, iN, iB, iC, iL, iD, iA, iS, iM, qa, zZ, ↓qp, ↓reduceIte, reduceCtorEq, nA, nM, nS, nE, nL, nD]; try simp only [qa, zY]
      refine Ret.xv [0, 1, 2] ⟨⟨by simp, rfl, by decide⟩, ?_⟩ (rs := [.int .i64 (d.getD i 0 : Nat)]) rfl rfl (by simp [xl]) ?_ ⟨?_, ?_⟩
      · simp only [qd _ _ (qg _ _), qbt, zK, ↓reduceIte, reduceCtorEq, nE, nB, nA]
      · exact ro3
      · rfl
      · simp only [qb _ _ (qg _ _), Yy, zL, ↓reduceIte, reduceCtorEq, nE, nA]
        rfl
    · rw [if_neg hlt] at hf
      have hli : ((N : Int) ≤ ((d.getD i 0 : Nat) : Int)) ↔ True := iff_true_intro (by omega)
      have hrem := qvl (N := N) (x := d.getD i 0) (by omega) hx
      have h8 := W9 (show d.getD i 0 - N < 8 by omega)
      have h8' : d.getD i 0 - N < 8 := by omega
      have h10 : 2 + (d.getD i 0 - N) < 8 + 3 := by omega
      have hst : ((((d.getD i 0 - N : Nat) : Int)) == (-1 : Int)) = false := by rw [beq_eq_false_iff_ne]; omega
      simp (maxSteps := 3000000) only [qh, zH, xj, vv, yq, gq, g_n, Bool.not_true, Bool.not_false, vz, Zc, Q5, Z8 hm, qc4 hm h8', hm, qe, hdl, hel, hi16, hi16', hi17, hcx, hdx, hli, decide_false, decide_true, beq_self_eq_true, bne_self_eq_false, Bool.true_beq, Bool.false_beq, hrem, h8, h8', h10, hN0, hst, AV.one, iE, iN, iB, iC, iL, iD, iA, iS, iM, qa, zZ, ↓qp, ↓reduceIte, reduceCtorEq, nA, nM, nS, nE, nL, nD]; try simp only [qa, zY]
      exact hpost _ _ f (qt.qv [9, 0, 1, 2, 3]) ⟨false, d.getD i 0 - N, _, hf, by omega, by simp [hm], rfl⟩ (Nat.lt_succ_self _)
  | f + 1, false, hf =>
    have hx := (hpe i hi).1
    have hcx : qn .i64 ((e.getD i 0 : Nat) : Int) = ((e.getD i 0 : Nat) : Int) := jr (by omega)
    have hdx := Xi (n := (N : Int)) (m := e) (i := i) (by omega)
    rw [zr] at hf
    by_cases hlt : N ≤ e.getD i 0
    · rw [if_pos hlt] at hf
      simp only [Option.some.injEq, Prod.mk.injEq] at hf
      obtain ⟨rfl, rfl, rfl⟩ := hf
      have hli : ((N : Int) ≤ ((e.getD i 0 : Nat) : Int)) ↔ True := iff_true_intro (by omega)
      simp (maxSteps := 3000000) only [qh, zH, xj, vv, yq, gq, g_n, Bool.not_true, Bool.not_false, vz, Zc, Q5, Z8 hm, hm, qe, hdl, hel, hi16, hi16', hi17, hcx, hdx, hli, decide_false, decide_true, beq_self_eq_true, bne_self_eq_false, Bool.true_beq, Bool.false_beq, AV.one, iE, iN, iB, iC, iL, iD, iA, iS, iM, qa, zZ, ↓qp, ↓reduceIte, reduceCtorEq, nA, nM, nS, nE, nL, nD]; try simp only [qa, zY]
      refine Ret.xv [0, 1, 2] ⟨⟨by simp, rfl, by decide⟩, ?_⟩ (rs := [.int .i64 (e.getD i 0 : Nat)]) rfl rfl (by simp [xl]) ?_ ⟨?_, ?_⟩
      · simp only [qd _ _ (qg _ _), qbt, zK, ↓reduceIte, reduceCtorEq, nE, nB, nA]
      · exact ro3
      · rfl
      · simp only [qb _ _ (qg _ _), Yy, zL, ↓reduceIte, reduceCtorEq, nE, nA]
        rfl
    · rw [if_neg hlt] at hf
      have hli : ((N : Int) ≤ ((e.getD i 0 : Nat) : Int)) ↔ False := iff_false_intro (by omega)
      have hrem := qvk (N := N) (x := e.getD i 0) (by omega)
      have hadd : qn .i64 ((N : Int) + ((e.getD i 0 : Nat) : Int)) = ((N + e.getD i 0 : Nat) : Int) := by rw [wrap64 (by omega) (by omega)]; rfl
      have h8 := W9 (show e.getD i 0 < 8 by omega)
      have h8' : e.getD i 0 < 8 := by omega
      have h10 : 2 + e.getD i 0 < 8 + 3 := by omega
      have hst : (((e.getD i 0 : Nat) : Int) == (-1 : Int)) = false := by rw [beq_eq_false_iff_ne]; omega
      simp (maxSteps := 3000000) only [qh, zH, xj, vv, yq, gq, g_n, Bool.not_true, Bool.not_false, vz, Zc, Q5, Z8 hm, qc4 hm h8', hm, qe, hdl, hel, hi16, hi16', hi17, hcx, hdx, hli, decide_false, decide_true, beq_self_eq_true, bne_self_eq_false, Bool.true_beq, Bool.false_beq, hrem, hadd, h8, h8', h10, hN0, hst, AV.one, iE, iN, iB, iC, iL, iD, iA, iS, iM, qa, zZ, ↓qp, ↓reduceIte, reduceCtorEq, nA, nM, nS, nE, nL, nD]; try simp only [qa, zY]
      exact hpost _ _ f (qt.qv [9, 0, 1, 2, 3]) ⟨true, N + e.getD i 0, _, hf, by omega, by simp [hm], rfl⟩ (Nat.lt_succ_self _)
theorem y6 : B82 168 = some (Wp 1 g_n) := rfl
theorem ga : B82 171 = some (qk gq) := rfl
def InA (n : Nat) (d e : List Nat) (i x : Nat) (met : List Bool) : Prop :=
  met.length = 8 ∧ ((x = i ∧ ∀ y, mt met y ↔ Seen n d e i y) ∨ ∃ (T : Nat → Prop) (last : Nat), qgj (XX n d e) (em e) (dm n d) i T last ∧ x = dm n d last ∧ ¬ T x ∧ ∀ y, mt met y ↔ Seen n d e i y ∨ (T y ∧ y ≠ i) ∨ y = x)
def InB (n : Nat) (d e : List Nat) (i y : Nat) (met : List Bool) : Prop :=
  met.length = 8 ∧ ∃ (T : Nat → Prop), qgj (XX n d e) (em e) (dm n d) i T y ∧ ∀ z, mt met z ↔ Seen n d e i z ∨ (T z ∧ z ≠ i)
theorem qzb {n : Nat} {d e : List Nat} (hd : isS n d = true) (he : isS n e = true) (hn : n ≤ 8) {i x : Nat} {met : List Bool} (hi : i < n) (h0 : ¬ Seen n d e i i) (h : InA n d e i x met) :
    XX n d e x ∧ XX n d e (em e x) ∧ em e x ≠ i ∧ ¬ mt met (em e x) ∧ InB n d e i (em e x) (met.set (em e x) true) := by
  have hX : XX n d e i := ⟨hi, fun h => h0 (.inl h)⟩
  have hf := qby hd he
  have hg := qbv hd he
  obtain ⟨hl, ⟨rfl, hm⟩ | ⟨T, last, hT, rfl, hTx, hm⟩⟩ := h
  · have h1 := hf.mem _ hX
    have h2 : ¬ mt met (em e x) := fun h => U4 hd he hi h0 (.two .base) ((hm _).1 h)
    have h3 := hf.fix _ hX
    refine ⟨hX, h1, h3, h2, by rw [List.length_set]; exact hl, _, qgj.start hf hX, fun z => ?_⟩
    rw [uv (by have := h1.1; omega), hm]
    constructor
    · rintro (rfl | h)
      · exact .inr ⟨.inr rfl, h3⟩
      · exact .inl h
    · rintro (h | ⟨h | h, h'⟩)
      · exact .inr h
      · exact absurd h h'
      · exact .inl h
  · have hr := hT.ring _ hT.lm
    have h0' := hg.mem _ (Ring.mem hf hg hX hr)
    have h1 := hf.mem _ h0'
    obtain ⟨n1, n2, n3⟩ := hT.next hf hg hX hTx
    have h3 : em e (dm n d last) ≠ i := fun h => n2 (by rw [h]; exact hT.m0)
    have h4 : dm n d last ≠ i := fun h => hTx (by rw [h]; exact hT.m0)
    have h2 : ¬ mt met (em e (dm n d last)) := fun h => by
      rcases (hm _).1 h with h | ⟨h, _⟩ | h
      · exact U4 hd he hi h0 (Ring.swap (.one (.two hr))) h
      · exact n2 h
      · exact n3 h
    refine ⟨h0', h1, h3, h2, by rw [List.length_set]; exact hl, _, n1, fun z => ?_⟩
    rw [uv (by have := h1.1; omega), hm]
    constructor
    · rintro (rfl | h | ⟨h, h'⟩ | rfl)
      · exact .inr ⟨.inr (.inl rfl), h3⟩
      · exact .inl h
      · exact .inr ⟨.inr (.inr h), h'⟩
      · exact .inr ⟨.inl rfl, h4⟩
    · rintro (h | ⟨h | h | h, h'⟩)
      · exact .inr (.inl h)
      · exact .inr (.inr (.inr h))
      · exact .inl h
      · exact .inr (.inr (.inl ⟨h, h'⟩))
theorem q2d {n : Nat} {d e : List Nat} (hd : isS n d = true) (he : isS n e = true) (hn : n ≤ 8) {i y : Nat} {met : List Bool} (hi : i < n) (h0 : ¬ Seen n d e i i) (h : InB n d e i y met) :
    XX n d e y ∧ XX n d e (dm n d y) ∧ (dm n d y = i → ∀ z, mt (met.set i true) z ↔ Seen n d e i z ∨ Ring (dm n d) (em e) i z) ∧ (dm n d y ≠ i → ¬ mt met (dm n d y) ∧ InA n d e i (dm n d y) (met.set (dm n d y) true)) := by
  have hX : XX n d e i := ⟨hi, fun h => h0 (.inl h)⟩
  have hf := qby hd he
  have hg := qbv hd he
  obtain ⟨hl, T, hT, hm⟩ := h
  have hr := hT.ring _ hT.lm
  have hy := Ring.mem hf hg hX hr
  have h1 := hg.mem _ hy
  refine ⟨hy, h1, fun hk z => ?_, fun hk => ?_⟩
  · have hs := (hT.stop hf hg hX (by rw [hk]; exact hT.m0)).2
    rw [uv (by omega), hm]
    constructor
    · rintro (rfl | h | ⟨h, _⟩)
      · exact .inr .base
      · exact .inl h
      · exact .inr (Ring.swap ((hs _).1 h))
    · rintro (h | h)
      · exact .inr (.inl h)
      · by_cases e1 : z = i
        · exact .inl e1
        · exact .inr (.inr ⟨(hs _).2 (Ring.swap h), e1⟩)
  · have hnT : ¬ T (dm n d y) := fun h => hk (hT.stop hf hg hX h).1
    refine ⟨fun h => ?_, by rw [List.length_set]; exact hl, .inr ⟨T, y, hT, rfl, hnT, fun z => ?_⟩⟩
    · rcases (hm _).1 h with h | ⟨h, _⟩
      · exact U4 hd he hi h0 (Ring.swap (.two hr)) h
      · exact hnT h
    · rw [uv (by have := h1.1; omega), hm]
      constructor
      · rintro (h | h | h)
        · exact .inr (.inr h)
        · exact .inl h
        · exact .inr (.inl h)
      · rintro (h | h | h)
        · exact .inr (.inl h)
        · exact .inr (.inr h)
        · exact .inl h
open Classical in
noncomputable def Kw (n : Nat) (d e : List Nat) (i : Nat) (met : List Bool) : List Bool := (List.range 8).map fun z => decide (mt met z ∨ Ring (dm n d) (em e) i z)
theorem qyo {n : Nat} {d e : List Nat} {i : Nat} {met : List Bool} {z : Nat} (hz : z < 8) : mt (Kw n d e i met) z ↔ mt met z ∨ Ring (dm n d) (em e) i z := by
  conv => lhs; unfold mt Kw
  simp [List.getD_eq_getElem?_getD, hz]
theorem qyx {n : Nat} {d e : List Nat} {i : Nat} {met met' : List Bool} (hl : met'.length = 8) (h : ∀ z, mt met' z ↔ mt met z ∨ Ring (dm n d) (em e) i z) : met' = Kw n d e i met := by
  apply List.ext_getElem
  · simp [Kw, hl]
  · intro z h1 h2
    have h3 := h z
    have h4 : mt met' z ↔ met'[z] = true := by simp [mt, List.getD_eq_getElem?_getD, h1]
    simp only [Kw, List.getElem_map, List.getElem_range]
    rw [Bool.eq_iff_iff, ← h4, h3]
    simp
theorem qr7 (N : Nat) (d e : List Nat) (hd : okD d) (he : okD e) (hds : isS N d = true) (hes : isS N e = true) {i : Nat} {met : List Bool} (hi : i < N) (hm0 : met.length = 8) (hmt : ∀ x, mt met x ↔ Seen N d e i x) (h0 : ¬ Seen N d e i i) :
    Am.Fn Try.prog 187 [.ptr 0 0, .bool true, .int .i64 i, .int .i64 i] (H3 N d e met) (fun v H' => v = .int .i64 (-1) ∧ H' = H3 N d e (Kw N d e i met)) := by
  refine Am.Fn.ofB qhu mixed Yt (by simp [AV.qu, AV.under, H3]) qpv ?_
  obtain ⟨hN, hpd, _⟩ := xg hds
  obtain ⟨_, hpe, _⟩ := xg hes
  have hdl := hd.1
  have hel := he.1
  unfold H3
  simp (maxSteps := 3000000) only [qh, zH, Zx, y6, ga, gq, g_n, vz, Zc, Q5, hm0, qe, hdl, hel, w9, Be, iE, iN, iB, iC, iL, iD, iA, iS, iM, qa, zZ, ↓qp, ↓reduceIte, reduceCtorEq, nA, nM, nS, nE, nL, nD]; try simp only [qa, zY]
  refine qyr qhu (fun k st => (∃ (x : Nat) (mm : List Bool), k = Qu (bls mm) ∧ InA N d e i x mm ∧ st = ⟨[(9, .int .i64 N), (0, .ptr 0 0), (1, .bool true), (2, .int .i64 x), (3, .int .i64 i)], [.cells (stk 1 2 mm), .ro (dia N d), .ro (dia N e)]⟩) ∨
      ∃ (y : Nat) (mm : List Bool), k = Qu (bls mm) ∧ InB N d e i y mm ∧ st = ⟨[(9, .int .i64 N), (0, .ptr 0 0), (1, .bool false), (2, .int .i64 (N + y : Nat)), (3, .int .i64 i)], [.cells (stk 1 2 mm), .ro (dia N d), .ro (dia N e)]⟩)
    ⟨_, qt.qv [9, 0, 1, 2, 3], _, .inl ⟨i, met, rfl, ⟨hm0, .inl ⟨rfl, hmt⟩⟩, rfl⟩⟩ ?_
  have hN0 : (N : Int) ≠ 0 := by omega
  rintro k st (⟨x, mm, rfl, hA, rfl⟩ | ⟨y, mm, rfl, hB, rfl⟩) post hpost
  · obtain ⟨x1, x2, x3, x4, x5⟩ := qzb hds hes hN.2 hi h0 hA
    have hm := hA.1
    obtain ⟨z1, z2, z3⟩ := qlc hds hes x1
    have hxk := x1.1
    have hex : em e x = e.getD x 0 := rfl
    obtain ⟨hi16, hi16'⟩ := vl (show x < 16 by omega)
    have hi17 : x < 16 := by omega
    have hcx : qn .i64 ((e.getD x 0 : Nat) : Int) = ((e.getD x 0 : Nat) : Int) := jr (by omega)
    have hdx := Xi (n := (N : Int)) (m := e) (i := x) (by omega)
    have hli : ((N : Int) ≤ ((e.getD x 0 : Nat) : Int)) ↔ False := iff_false_intro (by omega)
    have hrem := qvk (N := N) (x := e.getD x 0) z3
    have hadd : qn .i64 ((N : Int) + ((e.getD x 0 : Nat) : Int)) = ((N + e.getD x 0 : Nat) : Int) := by rw [wrap64 (by omega) (by omega)]; rfl
    have h8 := W9 (show e.getD x 0 < 8 by omega)
    have h8' : e.getD x 0 < 8 := by omega
    have h10 : 2 + e.getD x 0 < 8 + 3 := by omega
    have hst : (((e.getD x 0 : Nat) : Int) == (i : Int)) = false := by rw [beq_eq_false_iff_ne]; rw [hex] at x3; omega
    simp (maxSteps := 3000000) only [qh, zH, xj, y6, ga, gq, g_n, Bool.not_true, Bool.not_false, vz, Zc, Q5, Z8 hm, qc4 hm h8', hm, qe, hdl, hel, hi16, hi16', hi17, hcx, hdx, hli, decide_false, decide_true, beq_self_eq_true, Bool.true_beq, Bool.false_beq, hrem, hadd, h8, h8', h10, hN0, hst, AV.one, iE, iN, iB, iC, iL, iD, iA, iS, iM, qa, zZ, ↓qp, ↓reduceIte, reduceCtorEq, nA, nM, nS, nE, nL, nD]; try simp only [qa, zY]
    have hlt := U5 (met := mm) (k := em e x) (by have := x2.1; omega) (by cases h : mm.getD (em e x) false with
      | false => rfl
      | true => exact absurd h x4)
    exact hpost _ _ _ (qt.qv [9, 0, 1, 2, 3]) (.inr ⟨em e x, _, rfl, x5, rfl⟩) hlt
  · obtain ⟨y1, y2, y3, y4⟩ := q2d hds hes hN.2 hi h0 hB
    have hm := hB.1
    obtain ⟨z1, z2, z3⟩ := qlc hds hes y1
    have hyk := y1.1
    have hdy : dm N d y = d.getD (N + y) 0 - N := rfl
    obtain ⟨hi16, hi16'⟩ := vl (show N + y < 16 by omega)
    have hi17 : N + y < 16 := by omega
    have hcx : qn .i64 ((d.getD (N + y) 0 : Nat) : Int) = ((d.getD (N + y) 0 : Nat) : Int) := jr (by omega)
    have hdx := Xi (n := (N : Int)) (m := d) (i := N + y) (by omega)
    have hli : ((N : Int) ≤ ((d.getD (N + y) 0 : Nat) : Int)) ↔ True := iff_true_intro (by omega)
    have hrem := qvl (N := N) (x := d.getD (N + y) 0) (by omega) (by omega)
    have h8 := W9 (show d.getD (N + y) 0 - N < 8 by omega)
    have h8' : d.getD (N + y) 0 - N < 8 := by omega
    have h10 : 2 + (d.getD (N + y) 0 - N) < 8 + 3 := by omega
    by_cases hk : dm N d y = i
    · have hst : ((((d.getD (N + y) 0 - N : Nat) : Int)) == (i : Int)) = true := by rw [beq_iff_eq]; omega
      simp (maxSteps := 3000000) only [qh, zH, xj, y6, ga, gq, g_n, Bool.not_true, Bool.not_false, vz, Zc, Q5, Z8 hm, qc4 hm h8', hm, qe, hdl, hel, hi16, hi16', hi17, hcx, hdx, hli, decide_false, decide_true, beq_self_eq_true, Bool.true_beq, Bool.false_beq, hrem, h8, h8', h10, hN0, hst, AV.one, iE, iN, iB, iC, iL, iD, iA, iS, iM, qa, zZ, ↓qp, ↓reduceIte, reduceCtorEq, nA, nM, nS, nE, nL, nD]; try simp only [qa, zY]
      have hL : mm.set (d.getD (N + y) 0 - N) true = Kw N d e i met := qyx (by rw [List.length_set]; exact hm) fun z => by
        rw [show d.getD (N + y) 0 - N = i from hk, y3 hk, hmt]
      refine Ret.xv [0, 1, 2] ⟨⟨by simp, rfl, by decide⟩, ?_⟩ (rs := [.int .i64 (-1)]) rfl rfl (by simp [xl]) ?_ ⟨?_, ?_⟩
      · simp only [qd _ _ (qg _ _), qbt, zK, ↓reduceIte, reduceCtorEq, nE, nB, nA]
      · exact ro3
      · rfl
      · simp only [qb _ _ (qg _ _), Yy, zL, ↓reduceIte, reduceCtorEq, nE, nA]
        rw [hL]; rfl
    · have hst : ((((d.getD (N + y) 0 - N : Nat) : Int)) == (i : Int)) = false := by rw [beq_eq_false_iff_ne]; omega
      obtain ⟨q1, q2⟩ := y4 hk
      simp (maxSteps := 3000000) only [qh, zH, xj, y6, ga, gq, g_n, Bool.not_true, Bool.not_false, vz, Zc, Q5, Z8 hm, qc4 hm h8', hm, qe, hdl, hel, hi16, hi16', hi17, hcx, hdx, hli, decide_false, decide_true, beq_self_eq_true, Bool.true_beq, Bool.false_beq, hrem, h8, h8', h10, hN0, hst, AV.one, iE, iN, iB, iC, iL, iD, iA, iS, iM, qa, zZ, ↓qp, ↓reduceIte, reduceCtorEq, nA, nM, nS, nE, nL, nD]; try simp only [qa, zY]
      have hlt := U5 (met := mm) (k := dm N d y) (by have := y2.1; omega) (by cases h : mm.getD (dm N d y) false with
        | false => rfl
        | true => exact absurd h q1)
      exact hpost _ _ _ (qt.qv [9, 0, 1, 2, 3]) (.inl ⟨dm N d y, _, rfl, q2, rfl⟩) hlt
def qo7 : List AV → Option (Nat × Nat × List Bool)
  | .ptr a 0 :: .ptr b 0 :: rest => match Wj (rest.take 8), rest.drop 8 with
    | some met, [.fn 171 [] []] => chk (met.length = 8) (some (a, b, met))
    | _, _ => none
  | _ => none
theorem qed {a b : Nat} {met : List Bool} (h : met.length = 8) : qo7 (stk a b met) = some (a, b, met) := by
  have h1 : (bls met).length = 8 := by rw [vg, h]
  have h2 : List.take 8 (bls met ++ [.fn 171 [] []]) = bls met := List.take_left' h1
  have h3 : List.drop 8 (bls met ++ [.fn 171 [] []]) = [.fn 171 [] []] := List.drop_left' h1
  simp only [stk, qo7, h2, h3, Kq, chk, h, if_true]
theorem qs3 {l : List AV} {a b : Nat} {met : List Bool} (h : qo7 l = some (a, b, met)) : l = stk a b met ∧ met.length = 8 := by
  unfold qo7 at h
  split at h
  · rename_i a' b' rest
    split at h
    · rename_i met' h1 h2
      obtain ⟨h3, h4⟩ := ql h
      simp only [Option.some.injEq, Prod.mk.injEq] at h4
      obtain ⟨rfl, rfl, rfl⟩ := h4
      refine ⟨?_, h3⟩
      have h5 := Ba h1
      conv => lhs; rw [← List.take_append_drop 8 rest, h5, h2]
      rfl
    · cases h
  · cases h
def rdD (hp : List AO) (b : Nat) : Option (Int × List Nat) := match rd hp b with
  | some L => vn (L.take 17)
  | none => none
open Classical in
noncomputable def uk : BE := fun hp xs => match xs with
  | [.ptr b 0, .bool w, .int .i64 i, .int .i64 st] => match hp[b]? with
    | some (.cells l) => match qo7 l with
      | some (b1, b2, met) => match rdD hp b1, rdD hp b2 with
        | some (n, d), some (n', e) => chk ((n' = n ∧ 0 ≤ n) ∧ (isS n.toNat d = true ∧ isS n.toNat e = true) ∧ b1 ≠ b ∧ b2 ≠ b)
          (if st = -1 then chk ((0 ≤ i ∧ i < 2 * n) ∧ w = decide (n ≤ i)) (some (.int .i64 (pr n.toNat d e i.toNat : Nat), hp.set b (.cells (stk b1 b2 (fol n.toNat d e (!w) i.toNat met)))))
          else chk ((st = i ∧ w = true ∧ 0 ≤ i ∧ i < n) ∧ (∀ x, mt met x ↔ Seen n.toNat d e i.toNat x) ∧ ¬ Seen n.toNat d e i.toNat i.toNat) (some (.int .i64 (-1), hp.set b (.cells (stk b1 b2 (Kw n.toNat d e i.toNat met))))))
        | _, _ => none
      | none => none
    | _ => none
  | _ => none
open Classical in
theorem qxq : Am.Callee Try.prog 187 uk := Callee.fp fun hp xs v hp' he => by
  unfold uk at he
  split at he
  · rename_i b w i st
    split at he
    · rename_i l hb
      split at he
      · rename_i b1 b2 met hs1
        obtain ⟨rfl, hm⟩ := qs3 hs1
        split at he
        · rename_i n d n' e hd1 he1
          obtain ⟨⟨⟨a1, a2⟩, ⟨a3, a4⟩, a5, a6⟩, he2⟩ := ql he
          subst a1
          obtain ⟨N, rfl⟩ : ∃ N : Nat, n' = N := ⟨n'.toNat, by omega⟩
          simp only [Int.toNat_natCast] at a3 a4 he2
          have rdd : ∀ {b : Nat} {m : List Nat}, rdD hp b = some ((N : Int), m) → okD m ∧ Fits hp (ofL [(b, 0)]) b 0 (.ro (dia N m)) ∧ ∃ L, rd hp b = some L ∧ 17 ≤ L.length ∧ L.take 17 = dia N m := fun {b m} h => by
            unfold rdD at h
            split at h
            · rename_i L hL
              obtain ⟨e1, hok⟩ := zm h
              have hlen : (dia (N : Int) m).length = 17 := by rw [qe, hok.1]
              have hLl : 17 ≤ L.length := by
                have := congrArg List.length e1
                rw [hlen, List.length_take] at this
                omega
              exact ⟨hok, ⟨L, hL, by rw [hlen]; omega, by rw [List.drop_zero, qb _ _ (qg _ _), hlen]; exact e1⟩, L, hL, hLl, e1⟩
            · cases h
          obtain ⟨hd, _, L1, r1, r2, r3⟩ := rdd hd1
          obtain ⟨he', _, L2, q1, q2, q3⟩ := rdd he1
          have hlen : ∀ {m : List Nat}, okD m → (dia (N : Int) m).length = 17 := fun h => by rw [qe, h.1]
          have hfit : qc7 hp (ofL [(b, 0), (b1, 0), (b2, 0)]) [(b, 0), (b1, 0), (b2, 0)] (H3 N d e met) :=
            ⟨⟨rfl, by rw [hb]; simp only [AO.ren, Yy]; simp [AV.ren, ofL, stk]⟩, ⟨L1, r1, by rw [hlen hd]; omega, by rw [List.drop_zero, qb _ _ (qg _ _), hlen hd]; exact r3⟩, ⟨L2, q1, by rw [hlen he']; omega, by rw [List.drop_zero, qb _ _ (qg _ _), hlen he']; exact q3⟩, trivial⟩
          have hap : ∀ met, W3 [(b, 0), (b1, 0), (b2, 0)] (H3 N d e met) = true := fun met => by simp [W3, H3, AO.wr, a5, a6]
          have hun : ∀ met, AO.qgt 3 (H3 N d e met) := fun met => ⟨qll (by omega) (by omega), qj _ _ (qg _ _), qj _ _ (qg _ _), trivial⟩
          split at he2
          · rename_i hst
            subst hst
            obtain ⟨⟨⟨c1, c2⟩, c3⟩, he3⟩ := ql he2
            simp only [Option.some.injEq, Prod.mk.injEq] at he3
            obtain ⟨rfl, rfl⟩ := he3
            obtain ⟨k, rfl⟩ : ∃ k : Nat, i = k := ⟨i.toNat, by omega⟩
            simp only [Int.toNat_natCast]
            have hw : w = !decide (k < N) := by
              rw [c3, Bool.eq_iff_iff]; simp
            obtain ⟨f, met', hf⟩ := Yh a3 a4 (i := k) (by omega) met
            have hfo := qh4 hf
            subst hw
            rw [Bool.not_not, hfo]
            refine ⟨[(b, 0), (b1, 0), (b2, 0)], [.ptr 0 0, .bool (!decide (k < N)), .int .i64 k, .int .i64 (-1)], H3 N d e met, _, _, qrv N d e hd he' a3 a4 hf (by omega) hm, by simp [AV.ren, AV.zk, ofL], by simp [jc], hfit, hap met, hun met, ⟨by simp [AV.under, H3], trivial, trivial, trivial, trivial⟩, by simp [AV.ren, AV.zk], ?_⟩
            simp [after, upd, AO.wr, AO.ren, H3, Yy, AV.ren, qb _ _ (qg _ _)]
            simp [Ren.ext, ofL, stk]
          · obtain ⟨⟨⟨c1, c2, c3, c4⟩, c5, c6⟩, he3⟩ := ql he2
            simp only [Option.some.injEq, Prod.mk.injEq] at he3
            obtain ⟨rfl, rfl⟩ := he3
            subst c1; subst c2
            obtain ⟨k, rfl⟩ : ∃ k : Nat, st = k := ⟨st.toNat, by omega⟩
            simp only [Int.toNat_natCast] at c5 c6 ⊢
            refine ⟨[(b, 0), (b1, 0), (b2, 0)], [.ptr 0 0, .bool true, .int .i64 k, .int .i64 k], H3 N d e met, _, _, qr7 N d e hd he' a3 a4 (by omega) hm c5 c6, by simp [AV.ren, AV.zk, ofL], by simp [jc], hfit, hap met, hun met, ⟨by simp [AV.under, H3], trivial, trivial, trivial, trivial⟩, by simp [AV.ren, AV.zk], ?_⟩
            simp [after, upd, AO.wr, AO.ren, H3, Yy, AV.ren, qb _ _ (qg _ _)]
            simp [Ren.ext, ofL, stk]
        · cases he
      · cases he
    · cases he
  · cases he
noncomputable def B83 : za := (B82.put 187 (uk))
theorem qm7 : qo Try.prog B83 := (qhu.put (qxq))
end Go.Proofs.Ytfhckbbgmblhbaa
