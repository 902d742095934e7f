/- Contracts: along the lines of two diagrams, the implementation. -/
import Derived.Test.YtkgoadglalpbfaaL3
namespace Go.Proofs.Ytkgoadglalpbfaa
open Go.Am Go.Dia
open Nat renaming reduceAdd → nA, reduceMul → nM, reduceSub → nS, reduceEqDiff → nE, reduceLT → nL, reduceLeDiff → nD, reduceBEq → nB
open Int renaming reduceEq → iE, reduceNe → iN, reduceBEq → iB, reduceBNe → iC, reduceLT → iL, reduceLE → iD, reduceAdd → iA, reduceSub → iS, reduceMul → iM
set_option linter.unusedSimpArgs false
set_option linter.unusedVariables false
set_option maxRecDepth 4000
set_option maxHeartbeats 1000000
def stk (a b : Nat) (met : List Bool) : List AV := .ptr a 0 :: .ptr b 0 :: (bls met ++ [.fn 145 [] []])
theorem ye {a b : Nat} {met : List Bool} : (stk a b met).length = met.length + 3 := by simp [stk, wg]
theorem Qn {a b : Nat} {met : List Bool} : (stk a b met)[0]? = some (.ptr a 0) := rfl
theorem Qy {a b : Nat} {met : List Bool} : (stk a b met)[1]? = some (.ptr b 0) := rfl
theorem Q2 {a b : Nat} {met : List Bool} (h : met.length = 8) : (stk a b met)[10]? = some (.fn 145 [] []) := by
  simp [stk, List.getElem?_append, wg, h]
theorem Ke {a b : Nat} {met : List Bool} {i : Nat} {v : Bool} (h : met.length = 8) (hi : i < 8) : (stk a b met).set (2 + i) (.bool v) = stk a b (met.set i v) := by
  rw [Nat.add_comm]
  simp [stk, List.set_append, wg, h, hi, qck]
theorem qur {a b : Nat} {met : List Bool} {i : Nat} (h : met.length = 8) (hi : i < 8) : (stk a b met)[2 + i]? = some (.bool (met.getD i false)) := by
  rw [Nat.add_comm]
  simp [stk, List.getElem?_append, wg, h, hi, bls]
theorem qmt {n : Nat} (met : List Bool) : AV.q7 n (bls met) := qk _ _ (wb _)
theorem qjz {ρ : Ren} : ∀ (l l' : List AV), AV.zt ρ (l ++ l') = AV.zt ρ l ++ AV.zt ρ l'
  | [], _ => rfl
  | a :: l, l' => by simp [AV.zt, qjz l l']
theorem qa8 {n : Nat} : ∀ (l l' : List AV), AV.q7 n l → AV.q7 n l' → AV.q7 n (l ++ l')
  | [], _, _, h => h
  | a :: l, l', h, h' => ⟨h.1, qa8 l l' h.2 h'⟩
theorem Ky {ids : List Nat} : ∀ (l l' : List AV), AV.x8 ids l = true → AV.x8 ids l' = true → AV.x8 ids (l ++ l') = true
  | [], _, _, h => h
  | a :: l, l', h, h' => by
    simp only [AV.x8, List.cons_append, Bool.and_eq_true] at h ⊢
    exact ⟨h.1, Ky l l' h.2 h'⟩
theorem Vw {ρ : Ren} {a b : Nat} {met : List Bool} : AV.zt ρ (stk a b met) = (AV.ptr a 0).ren ρ :: (AV.ptr b 0).ren ρ :: (bls met ++ [.fn 145 [] []]) := by
  simp only [stk, AV.zt, qjz, qd _ _ (wb met)]
  simp [AV.zt, AV.ren]
theorem qfj {n a b : Nat} {met : List Bool} (h1 : a < n) (h2 : b < n) : AV.q7 n (stk a b met) := ⟨h1, h2, qa8 _ _ (qmt _) ⟨⟨trivial, trivial⟩, trivial⟩⟩
theorem qn5 {x N : Nat} (h1 : N ≤ x) (h2 : x < 2 * N) : Int.tmod (x : Int) (N : Int) = ((x - N : Nat) : Int) := by
  show ((x % N : Nat) : Int) = _
  rw [Nat.mod_eq_sub_mod h1, Nat.mod_eq_of_lt (by omega)]
theorem qnh {x N : Nat} (h1 : x < N) : Int.tmod (x : Int) (N : Int) = (x : Int) := by
  show ((x % N : Nat) : Int) = _
  rw [Nat.mod_eq_of_lt h1]
theorem Gp {met : List Bool} : AV.x8 [0, 1, 2] (stk 1 2 met) = true := by
  have h : AV.x8 [0, 1, 2] (bls met ++ [.fn 145 [] []]) = true := Ky _ _ (qc _ _ (wb _)) rfl
  simp [stk, AV.x8, AV.within, h]
theorem ro3 {m m' l1 l2 : List AV} {hp : List AO} : ∀ (j : Nat) (l : List AV), (zi [0, 1, 2] (.cells m :: .ro l1 :: .ro l2 :: hp))[j]? = some (AO.ro l) → ∃ l', ([.cells m', .ro l1, .ro l2] : List AO)[j]? = some (AO.ro l')
  | 0, l, h => by simp [zi, AO.ren] at h
  | 1, l, h => ⟨_, rfl⟩
  | 2, l, h => ⟨_, rfl⟩
  | j + 3, l, h => by simp [zi] at h
def H3 (N : Nat) (d e : List Nat) (met : List Bool) : List AO := [.cells (stk 1 2 met), .ro (dia N d), .ro (dia N e)]
theorem qh6 {N : Nat} {d e : List Nat} {met : List Bool} : ∀ (j : Nat) (o : AO), (H3 N d e met)[j]? = some o → o.under 3 := fun j o hj => by
  match j, hj with
  | 0, hj => cases hj; exact qfj (by omega) (by omega)
  | 1, hj => cases hj; exact qk _ _ (qh _ _)
  | 2, hj => cases hj; exact qk _ _ (qh _ _)
  | j + 3, hj => simp [H3] at hj
theorem yb : B82 115 = some (Zm 1 g_n) := rfl
theorem uc : B82 145 = some (qu gp) := rfl
def x7 : AC := .block 1 (.seq (.region [oM 17 0,o0 18 (.j3 (.t 17)),oF 19 0 18,oL 20 19,oM 10 20]) (.seq (.seq (.region [oM 21 1]) (.cond 21 (.region [oM 22 0,o0 23 (.j3 (.t 22)),oF 24 1 23,oL 25 24,oM 10 25]) .skip)) (.seq (.region [oM 26 0,o0 27 (.j3 (.t 26)),oF 28 10 27,oL 29 28,oM 30 1,oM 31 2,⟨some 32,none,.call (.t 29) [.t 30,.t 31]⟩]) (.seq (.region [oM 33 10,oM 34 2,o0 35 (.j3 (.t 33)),oF 36 1 35,o0 37 (.ja 16 1 (.t 36) (.t 34)),oL 38 37,o0 39 (.conv .i64 (.t 38)),oM 2 39]) (.seq (.seq (.region [oM 40 1,oM 41 2,oM 42 9,oP 43 .geq 41 42,o0 44 (.eqb false (.t 40) (.t 43))]) (.cond 44 (.seq (.region [oM 45 2,oM 8 45]) .ret) .skip)) (.seq (.region [oM 46 2,oM 47 9,oP 48 .rem 46 47,oM 11 48]) (.seq (.region [oM 49 0,oM 50 11,o0 51 (.j3 (.t 49)),oF 52 2 51,o0 53 (.ja 8 1 (.t 52) (.t 50)),⟨none,none,.op (.Zc (.t 53) (.c (.bool true)))⟩]) (.seq (.seq (.region [oM 54 1,o0 55 (.un .not (.t 54)),oM 1 55]) (.seq (.region [oM 56 1]) (.cond 56 (.region [oM 57 11,oM 2 57]) (.region [oM 58 9,oM 59 11,oP 60 .add 58 59,oM 2 60])))) (.seq (.region [oM 61 11,oM 62 3,oP 63 .eql 61 62]) (.cond 63 (.seq (.region [oI 8 (-1)]) .ret) .skip))))))))))
def Za : AC := .seq (.region [oI 8 0]) (.seq (.region [oM 12 0,o0 13 (.j3 (.t 12)),oF 14 0 13,oL 15 14,oC 16 115 [.t 15],oM 9 16]) (.block 0 (.loop x7)))
theorem V0 : zy Try.prog 155 = some ⟨64, Za, [.slot 8]⟩ := by kernel_rfl
theorem qmw (N : Nat) (d e : List Nat) (hd : okD d) (he : okD e) (hds : isS N d = true) (hes : isS N e = true) {f : Nat} {u : Bool} {i : Nat} {met : List Bool} {r : Nat} {s : Bool} {met' : List Bool} (hf : zz N d e f u i met = some (r, s, met')) (hi : i < 2 * N) (hm : met.length = 8) :
    Am.Fn Try.prog 155 [.ptr 0 0, .bool (!u), .int .i64 i, .int .i64 (-1)] (H3 N d e met) (fun v H' => v = .int .i64 r ∧ H' = H3 N d e met') := by
  refine Am.Fn.ofB qcy mixed V0 (by simp [AV.q7, AV.under, H3]) qh6 ?_
  obtain ⟨hN, hpd, _⟩ := ji hds
  obtain ⟨_, hpe, _⟩ := ji hes
  have hdl := hd.1
  have hel := he.1
  unfold H3
  simp (maxSteps := 3000000) only [qf, zH, Za, yb, uc, gp, g_n, ye, Qn, Qy, hm, qe, hdl, hel, vu, Gn, iE, iN, iB, iC, iL, iD, iA, iS, iM, qb, zZ, ↓qp, ↓reduceIte, reduceCtorEq, nA, nM, nS, nE, nL, nD]; try simp only [qb, zY]
  refine qq4 qcy (fun f st => ∃ (u : Bool) (i : Nat) (met : List Bool), zz N d e f u i met = some (r, s, met') ∧ i < 2 * N ∧ met.length = 8 ∧
      st = ⟨[(9, .int .i64 N), (0, .ptr 0 0), (1, .bool (!u)), (2, .int .i64 i), (3, .int .i64 (-1))], [.cells (stk 1 2 met), .ro (dia N d), .ro (dia N e)]⟩) ⟨_, qz.zc [9, 0, 1, 2, 3], f, u, i, met, hf, hi, hm, rfl⟩ ?_
  clear hf hi hm
  rintro k st ⟨u, i, met, hf, hi, hm, rfl⟩ post hpost
  obtain ⟨hi16, hi16'⟩ := Xl (show i < 16 by omega)
  have hi17 : i < 16 := by omega
  have hN0 : (N : Int) ≠ 0 := by omega
  match k, u, hf with
  | 0, _, hf => simp [zz] at hf
  | f + 1, true, hf =>
    have hx := (hpd i hi).1
    have hcx : q8 .i64 ((d.getD i 0 : Nat) : Int) = ((d.getD i 0 : Nat) : Int) := yk (by omega)
    have hdx := Xn (n := (N : Int)) (m := d) (i := i) (by omega)
    rw [zz] at hf
    by_cases hlt : d.getD i 0 < N
    · rw [if_pos hlt] at hf
      simp only [Option.some.injEq, Prod.mk.injEq] at hf
      obtain ⟨rfl, rfl, rfl⟩ := hf
      have hli : ((N : Int) ≤ ((d.getD i 0 : Nat) : Int)) ↔ False := iff_false_intro (by omega)
      simp (maxSteps := 3000000) only [qf, zH, x7, yb, uc, gp, g_n, Bool.not_true, Bool.not_false, ye, Qn, Qy, Q2 hm, hm, qe, hdl, hel, hi16, hi16', hi17, hcx, hdx, hli, decide_false, decide_true, beq_self_eq_true, bne_self_eq_false, Bool.true_beq, Bool.false_beq, AV.one, iE, iN, iB, iC, iL, iD, iA, iS, iM, qb, zZ, ↓qp, ↓reduceIte, reduceCtorEq, nA, nM, nS, nE, nL, nD]; try simp only [qb, zY]
      refine Ret.zw [0, 1, 2] ⟨⟨by simp, rfl, by decide⟩, ?_⟩ (rs := [.int .i64 (d.getD i 0 : Nat)]) rfl rfl (by simp [xc]) ?_ ⟨?_, ?_⟩
      · simp only [qc _ _ (qh _ _), Gp, zK, ↓reduceIte, reduceCtorEq, nE, nB, nA]
      · exact ro3
      · rfl
      · simp only [qd _ _ (qh _ _), Vw, zL, ↓reduceIte, reduceCtorEq, nE, nA]
        rfl
    · rw [if_neg hlt] at hf
      have hli : ((N : Int) ≤ ((d.getD i 0 : Nat) : Int)) ↔ True := iff_true_intro (by omega)
      have hrem := qn5 (N := N) (x := d.getD i 0) (by omega) hx
      have h8 := J0 (show d.getD i 0 - N < 8 by omega)
      have h8' : d.getD i 0 - N < 8 := by omega
      have h10 : 2 + (d.getD i 0 - N) < 8 + 3 := by omega
      have hst : ((((d.getD i 0 - N : Nat) : Int)) == (-1 : Int)) = false := by rw [beq_eq_false_iff_ne]; omega
      simp (maxSteps := 3000000) only [qf, zH, x7, yb, uc, gp, g_n, Bool.not_true, Bool.not_false, ye, Qn, Qy, Q2 hm, Ke hm h8', hm, qe, hdl, hel, hi16, hi16', hi17, hcx, hdx, hli, decide_false, decide_true, beq_self_eq_true, bne_self_eq_false, Bool.true_beq, Bool.false_beq, hrem, h8, h8', h10, hN0, hst, AV.one, iE, iN, iB, iC, iL, iD, iA, iS, iM, qb, zZ, ↓qp, ↓reduceIte, reduceCtorEq, nA, nM, nS, nE, nL, nD]; try simp only [qb, zY]
      exact hpost _ _ f (qz.zc [9, 0, 1, 2, 3]) ⟨false, d.getD i 0 - N, _, hf, by omega, by simp [hm], rfl⟩ (Nat.lt_succ_self _)
  | f + 1, false, hf =>
    have hx := (hpe i hi).1
    have hcx : q8 .i64 ((e.getD i 0 : Nat) : Int) = ((e.getD i 0 : Nat) : Int) := yk (by omega)
    have hdx := Xn (n := (N : Int)) (m := e) (i := i) (by omega)
    rw [zz] at hf
    by_cases hlt : N ≤ e.getD i 0
    · rw [if_pos hlt] at hf
      simp only [Option.some.injEq, Prod.mk.injEq] at hf
      obtain ⟨rfl, rfl, rfl⟩ := hf
      have hli : ((N : Int) ≤ ((e.getD i 0 : Nat) : Int)) ↔ True := iff_true_intro (by omega)
      simp (maxSteps := 3000000) only [qf, zH, x7, yb, uc, gp, g_n, Bool.not_true, Bool.not_false, ye, Qn, Qy, Q2 hm, hm, qe, hdl, hel, hi16, hi16', hi17, hcx, hdx, hli, decide_false, decide_true, beq_self_eq_true, bne_self_eq_false, Bool.true_beq, Bool.false_beq, AV.one, iE, iN, iB, iC, iL, iD, iA, iS, iM, qb, zZ, ↓qp, ↓reduceIte, reduceCtorEq, nA, nM, nS, nE, nL, nD]; try simp only [qb, zY]
      refine Ret.zw [0, 1, 2] ⟨⟨by simp, rfl, by decide⟩, ?_⟩ (rs := [.int .i64 (e.getD i 0 : Nat)]) rfl rfl (by simp [xc]) ?_ ⟨?_, ?_⟩
      · simp only [qc _ _ (qh _ _), Gp, zK, ↓reduceIte, reduceCtorEq, nE, nB, nA]
      · exact ro3
      · rfl
      · simp only [qd _ _ (qh _ _), Vw, zL, ↓reduceIte, reduceCtorEq, nE, nA]
        rfl
    · rw [if_neg hlt] at hf
      have hli : ((N : Int) ≤ ((e.getD i 0 : Nat) : Int)) ↔ False := iff_false_intro (by omega)
      have hrem := qnh (N := N) (x := e.getD i 0) (by omega)
      have hadd : q8 .i64 ((N : Int) + ((e.getD i 0 : Nat) : Int)) = ((N + e.getD i 0 : Nat) : Int) := by rw [wrap64 (by omega) (by omega)]; rfl
      have h8 := J0 (show e.getD i 0 < 8 by omega)
      have h8' : e.getD i 0 < 8 := by omega
      have h10 : 2 + e.getD i 0 < 8 + 3 := by omega
      have hst : (((e.getD i 0 : Nat) : Int) == (-1 : Int)) = false := by rw [beq_eq_false_iff_ne]; omega
      simp (maxSteps := 3000000) only [qf, zH, x7, yb, uc, gp, g_n, Bool.not_true, Bool.not_false, ye, Qn, Qy, Q2 hm, Ke hm h8', hm, qe, hdl, hel, hi16, hi16', hi17, hcx, hdx, hli, decide_false, decide_true, beq_self_eq_true, bne_self_eq_false, Bool.true_beq, Bool.false_beq, hrem, hadd, h8, h8', h10, hN0, hst, AV.one, iE, iN, iB, iC, iL, iD, iA, iS, iM, qb, zZ, ↓qp, ↓reduceIte, reduceCtorEq, nA, nM, nS, nE, nL, nD]; try simp only [qb, zY]
      exact hpost _ _ f (qz.zc [9, 0, 1, 2, 3]) ⟨true, N + e.getD i 0, _, hf, by omega, by simp [hm], rfl⟩ (Nat.lt_succ_self _)
end Go.Proofs.Ytkgoadglalpbfaa
