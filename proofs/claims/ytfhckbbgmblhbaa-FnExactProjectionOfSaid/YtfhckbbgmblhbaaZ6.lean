/- Contracts of functions of the program, and plain laws, part 6: each text of this part is proved without further condition. -/
import Derived.Test.YtfhckbbgmblhbaaZ5
import Derived.Test.YtfhckbbgmblhbaaZ4
namespace Go.Proofs.Ytfhckbbgmblhbaa
open Go.Am Go.Dia
open Nat renaming reduceAdd → nA, reduceMul → nM, reduceSub → nS, reduceEqDiff → nE, reduceLT → nL, reduceLeDiff → nD, reduceBEq → nB
open Int renaming reduceEq → iE, reduceNe → iN, reduceBEq → iB, reduceBNe → iC, reduceLT → iL, reduceLE → iD, reduceAdd → iA, reduceSub → iS, reduceMul → iM
set_option linter.unusedSimpArgs false
set_option linter.unusedVariables false
set_option maxRecDepth 4000
set_option maxHeartbeats 2000000
noncomputable def uq : List AV → Option AV
  | [.int .i64 p, .int .i64 c] => chk (z6 p = true ∧ 0 ≤ c ∧ c ≤ p - 1) (some (.int .i64 (j8 p c : Nat)))
  | _ => none
theorem qkz {f : FuncId} (h : ∀ p c : Int, z6 p = true → 0 ≤ c ∧ c ≤ p - 1 → Am.Fn Try.prog f [.int .i64 p, .int .i64 c] [] (fun v H' => v = .int .i64 (j8 p c : Nat) ∧ H' = [])) : Am.Callee Try.prog f (qk uq) := Am.Callee.plain fun xs v he => by
  unfold uq at he
  split at he
  · rename_i p c
    obtain ⟨⟨h1, h2⟩, he⟩ := ql he
    cases he
    exact ⟨rfl, rfl, h p c h1 h2⟩
  · cases he
noncomputable def q6s : za := (q63.put 132 (qk uq))
theorem qm3 : qo Try.prog q6s := (qm5.put (qkz qqs))
theorem V0 : q6s 76 = some (qk X7) := rfl
def V7 (p c : Int) (n : Nat) : List Int := (List.range n).map fun i => chb p c (i + 1)
theorem Kt (p c : Int) (n : Nat) : (V7 p c n).length = n := by simp [V7]
theorem Gn {p c : Int} {n i : Nat} (h : i < n) : (V7 p c n).getD i 0 = chb p c (i + 1) := by simp [V7, h]
theorem qv1 (p c : Int) (n : Nat) : jf (V7 p c n) ++ [.int .i64 (chb p c (n + 1))] = jf (V7 p c (n + 1)) := by simp [V7, jf, List.range_succ]
def Z5 : AC := .seq (.seq (.region [oM 13 7,o0 14 (.len .slc (.t 13)),oM 15 2,oP 16 .leq 14 15]) (.cond 16 .skip (.exit 0))) (.block 1 (.seq (.region [oM 17 7,o0 18 (.len .slc (.t 17)),oM 8 18]) (.draw false [oM 19 7,oM 20 1,oM 21 7,oM 22 8,oK 23 .sub 22 1,oX 24 1 21 23,oL 25 24,oP 26 .mul 20 25,oM 27 7,oM 28 8,oK 29 .sub 28 2,oX 30 1 27 29,oL 31 30,oP 32 .sub 26 31,oM 33 0,oC 34 76 [.t 32,.t 33],o0 35 (.u6 1 [.int .i64 0] [(0,1,.t 34)]),o0 36 (.append 1 8 (.t 19) (.t 35)),oM 7 36])))
def Y9 : AC := .seq (.region [oM 37 7,oM 6 37]) .ret
def qa3 : AC := .seq (.region [o0 6 (.mov (.c (.v (.slice none 0 0))))]) (.seq (.region [oM 9 0,o0 10 (.bin .rem (.c (.int .i64 1)) (.t 9)),oM 11 1,o0 12 (.u6 2 [.int .i64 0,.int .i64 0] [(0,1,.t 10),(1,1,.t 11)]),oM 7 12]) (.seq (.block 0 (.loop Z5)) Y9))
theorem qjw : zj Try.prog 148 = some ⟨38, qa3, [.slot 6]⟩ := by kernel_rfl
theorem qkq (p c : Int) (K : Nat) (hp : 2 ≤ p ∧ p ≤ 97) (hc : 0 ≤ c ∧ c ≤ p - 1) (hK : K ≤ 1000) :
    Am.Fn Try.prog 148 [.int .i64 p, .int .i64 c, .int .i64 K] [] (fun v H' => v = .slc 0 0 (max 2 (K + 1)) false 0 ∧ H' = [.vec 1 (jf (V7 p c (max 2 (K + 1))))]) := by
  refine Am.Fn.ofW qm3 mixed qjw (by simp) (by simp) ?_
  have p1 : 0 < p ∧ p ≤ 1000000 := by omega
  have hp0 : ¬ p = 0 := by omega
  have t1 : Int.tmod 1 p = 1 := by rw [Int.tmod_eq_emod_of_nonneg (by omega)]; exact Int.emod_eq_of_lt (by omega) (by omega)
  have o1 : over [AV.int .i64 0, .int .i64 0] 0 [.int .i64 1] = [.int .i64 1, .int .i64 0] := rfl
  have o2 : over [AV.int .i64 1, .int .i64 0] 1 [.int .i64 c] = [.int .i64 1, .int .i64 c] := rfl
  have o3 : ([AV.int .i64 1, .int .i64 0] : List AV).length = 2 := rfl
  have o4 : ([AV.int .i64 0, .int .i64 0] : List AV).length = 2 := rfl
  simp (maxSteps := 3000000) only [qh, zH, qa3, V0, X7, hp0, t1, o1, o2, o3, o4, Nat.le_refl, iE, iN, iB, iC, iL, iD, iA, iS, iM, qa, zZ, ↓qp, ↓reduceIte, reduceCtorEq, nA, nM, nS, nE, nL, nD]; try simp only [qa, zY]
  have hcc : c.emod p = c := Int.emod_eq_of_lt hc.1 (by omega)
  refine WA.xo qm3 (fun s => ∃ L : Nat, 2 ≤ L ∧ L ≤ max 2 (K + 1) ∧ s = ⟨[(0, .int .i64 p), (1, .int .i64 c), (2, .int .i64 K), (7, .slc 0 0 L false 0)], [.vec 1 (jf (V7 p c L))]⟩)
    (fun s => match get s.env 7 with | .slc _ _ L _ _ => 1002 - L | _ => 0) ⟨_, qt.trans (qt.qv [0, 1, 2, 7]) (qt.vec 0 2 1 (by decide) rfl rfl rfl rfl), 2, by omega, by omega, ?_⟩ ?_
  · simp only [qv, zp, zV, ↓reduceIte, nE, reduceCtorEq, nB]
    have e2 : jf (V7 p c 2) = [.int .i64 1, .int .i64 c] := by
      have e3 : chb p c 2 = c := by
        show (c * 1 - 0).emod p = c
        rw [Int.mul_one, Int.sub_zero]; exact hcc
      show [AV.int .i64 1, .int .i64 (chb p c 2)] = _
      rw [e3]
    rw [e2]
  rintro s ⟨L, hL2, hL, rfl⟩
  have hlen := Kt p c L
  have hla := jd (V7 p c L)
  by_cases hlt : L ≤ K
  · have hli : (L : Int) ≤ (K : Int) := by omega
    have w1 : qn .i64 ((L : Int) - 1) = ((L - 1 : Nat) : Int) := by rw [wrap64 (by omega) (by omega)]; omega
    have w2 : qn .i64 ((L : Int) - 2) = ((L - 2 : Nat) : Int) := by rw [wrap64 (by omega) (by omega)]; omega
    have i1 : (0 : Int) ≤ ((L - 1 : Nat) : Int) ∧ ((L - 1 : Nat) : Int) < (L : Int) := by omega
    have i2 : (0 : Int) ≤ ((L - 2 : Nat) : Int) ∧ ((L - 2 : Nat) : Int) < (L : Int) := by omega
    have j1 : L - 1 < L := by omega
    have j2 : L - 2 < L := by omega
    have g1 : (V7 p c L).getD (L - 1) 0 = chb p c L := by rw [Gn j1]; congr 1; omega
    have g2 : (V7 p c L).getD (L - 2) 0 = chb p c (L - 1) := by rw [Gn j2]; congr 1; omega
    obtain ⟨v1, v2⟩ := qoi (c := c) hp hc (L - 1)
    have e1 : L - 1 + 1 = L := by omega
    rw [e1] at v1 v2
    have hn : (c * chb p c L - chb p c (L - 1)).emod p = chb p c (L + 1) := by
      obtain ⟨M, rfl⟩ : ∃ M, L = M + 1 := ⟨L - 1, by omega⟩
      rfl
    have hap := qv1 p c L
    have ht : List.take L (jf (V7 p c L)) = jf (V7 p c L) := by rw [List.take_of_length_le (by rw [hla, hlen]; exact Nat.le_refl _)]
    have o5 : over [AV.int .i64 0] 0 [.int .i64 (chb p c (L + 1))] = [.int .i64 (chb p c (L + 1))] := rfl
    have o6 : ([AV.int .i64 (chb p c (L + 1))] : List AV).length = 1 := rfl
    have o7 : List.take 1 [AV.int .i64 (chb p c (L + 1))] = [AV.int .i64 (chb p c (L + 1))] := rfl
    simp (maxSteps := 3000000) only [qh, zH, Z5, V0, X7, ht, o5, o6, o7, src, lim, qe1, Option.map_some, Option.map_none, Nat.one_mul, Nat.mul_one, Nat.le_refl, List.all_cons, List.all_nil, hli, w1, w2, i1, i2, j1, j2, hlen, hla, g1, g2, v1, v2, hn, p1, hap, and_self, iE, iN, iB, iC, iL, iD, iA, iS, iM, qa, zZ, ↓qp, ↓reduceIte, reduceCtorEq, nA, nM, nS, nE, nL, nD]; try simp only [qa, zY]
    refine ⟨⟨rfl, by omega⟩, _, qt.can [0, 1, 2, 7] (by simp only [Wz, zC, nB, nD, nA, nE, ↓reduceIte, reduceCtorEq]; rfl), ⟨L + 1, by omega, by omega, ?_⟩, ?_⟩
    · simp only [qb _ _ (qz _), zL, ↓reduceIte, reduceCtorEq, nE, nA]
    · simp only [zL, ↓reduceIte, reduceCtorEq, nE, nA]; omega
  · have hli : ¬ (L : Int) ≤ (K : Int) := by omega
    have hLe : L = max 2 (K + 1) := by omega
    simp (maxSteps := 3000000) only [qh, zH, Z5, Y9, V0, X7, hli, iE, iN, iB, iC, iL, iD, iA, iS, iM, qa, zZ, ↓qp, ↓reduceIte, reduceCtorEq, nA, nM, nS, nE, nL, nD]; try simp only [qa, zY]
    rw [← hLe]
    refine ⟨_, qt.refl _, ?_⟩
    refine Ret.xv [0] ⟨⟨by simp, rfl, by decide⟩, ?_⟩ (rs := [.slc 0 0 L false 0]) ?_ rfl (by simp [xl]) ?_ ⟨?_, ?_⟩
    · simp only [qd _ _ (qz _), zK, ↓reduceIte, reduceCtorEq, nE, nB, nA]
    · rfl
    · intro j l; cases j <;> simp [zn, AO.ren]
    · simp only [xl]
      simp only [zL, ↓reduceIte, reduceCtorEq, nE, nA]
    · simp only [qb _ _ (qz _), zL, ↓reduceIte, reduceCtorEq, nE, nA]
def Vh : List AV → Option (AV × List AO)
  | [.int .i64 p, .int .i64 c, .int .i64 k] => chk (((2 ≤ p ∧ p ≤ 97) ∧ (0 ≤ c ∧ c ≤ p - 1)) ∧ 0 ≤ k ∧ k ≤ 1000) (some (.slc 0 0 (max 2 (k.toNat + 1)) false 0, [.vec 1 (jf (V7 p c (max 2 (k.toNat + 1))))]))
  | _ => none
theorem q7s : Am.Callee Try.prog 148 (bu Vh) :=
  Am.Callee.new fun xs v H he => by
    unfold Vh at he
    split at he
    · rename_i p c k
      obtain ⟨⟨⟨h1, h2⟩, h3⟩, he⟩ := ql he
      obtain ⟨k, rfl⟩ : ∃ j : Nat, k = j := ⟨k.toNat, by omega⟩
      rw [Int.toNat_natCast] at he
      cases he
      have hfn := qkq p c k h1 h2 (by omega)
      exact ⟨rfl, hfn⟩
    · cases he
noncomputable def q6p : za := (q6s.put 148 (bu Vh))
theorem qmj : qo Try.prog q6p := (qm3.put (q7s))
theorem gn : q6p 148 = some (bu Vh) := rfl
theorem qiw (b k m : Nat) : AV.ren (Wy m) (.slc b 0 k false 0) = .slc (m + b) 0 k false 0 := rfl
def Z6 : AC := .seq (.block 1 (.seq (.region [oM 8 0,oM 9 1,oM 10 5,oC 11 148 [.t 8,.t 9,.t 10],oM 12 5,oX 13 1 11 12,oL 14 13,oK 15 .eql 14 0]) (.cond 15 (.seq (.region [oM 16 5,oM 4 16]) .ret) .skip))) (.region [oM 6 5,oK 7 .add 6 1,oM 5 7])
def qas : AC := .seq (.region [oI 4 0]) (.seq (.region [oI 5 1]) (.block 0 (.loop Z6)))
theorem qj7 : zj Try.prog 95 = some ⟨17, qas, [.slot 4]⟩ := by kernel_rfl
theorem qjz (p c : Int) (hp : z6 p = true) (hc : 0 ≤ c ∧ c ≤ p - 1) :
    Am.Fn Try.prog 95 [.int .i64 p, .int .i64 c] [] (fun v H' => v = .int .i64 (j8 p c : Nat) ∧ H' = []) := by
  refine Am.Fn.xm (R := fun v => v = _) qmj mixed qj7 (by simp) (by simp) ?_
  have hb := ui hp
  obtain ⟨z1, z2, z3⟩ := qc9 hp hc
  simp (maxSteps := 3000000) only [qh, zH, qas, gn, Vh, iE, iN, iB, iC, iL, iD, iA, iS, iM, qa, zZ, ↓qp, ↓reduceIte, reduceCtorEq, nA, nM, nS, nE, nL, nD]; try simp only [qa, zY]
  refine WA.xo qmj (fun s => ∃ m : Nat, 1 ≤ m ∧ m ≤ j8 p c ∧ s = ⟨[(0, .int .i64 p), (1, .int .i64 c), (5, .int .i64 m)], []⟩)
    (fun s => match get s.env 5 with | .int _ x => 101 - x.toNat | _ => 0) ⟨_, qt.qv [0, 1, 5], 1, by omega, by omega, rfl⟩ ?_
  rintro s ⟨m, hm, hmz, rfl⟩
  have hk : (0 : Int) ≤ (m : Int) ∧ (m : Int) ≤ 1000 := by omega
  have hlen := Kt p c (max 2 (m + 1))
  have hla := jd (V7 p c (max 2 (m + 1)))
  have hg : (V7 p c (max 2 (m + 1))).getD m 0 = chb p c (m + 1) := Gn (by omega)
  have i1 : (0 : Int) ≤ (m : Int) ∧ (m : Int) < ((max 2 (m + 1) : Nat) : Int) := by omega
  have i2 : m < max 2 (m + 1) := by omega
  by_cases h0 : chb p c (m + 1) = 0
  · have hq : (chb p c (m + 1) == 0) = true := by simp [h0]
    have e : m = j8 p c := by
      by_cases hlt : m < j8 p c
      · exact absurd h0 (z3 m hm hlt)
      · omega
    simp (maxSteps := 3000000) only [qh, zH, Z6, gn, Vh, hb, hc, hk, hq, hlen, hla, hg, i1, i2, qiw, ku, qb _ _ (qz _), Int.toNat_natCast, and_self, iE, iN, iB, iC, iL, iD, iA, iS, iM, qa, zZ, ↓qp, ↓reduceIte, reduceCtorEq, nA, nM, nS, nE, nL, nD]; try simp only [qa, zY]
    rw [e]
  · have hq : (chb p c (m + 1) == 0) = false := by simp [h0]
    have hlt : m < j8 p c := by
      by_cases e : m = j8 p c
      · subst e; exact absurd z2 h0
      · omega
    have hw : qn .i64 ((m : Int) + 1) = ((m + 1 : Nat) : Int) := by rw [wrap64 (by omega) (by omega)]; rfl
    simp (maxSteps := 3000000) only [qh, zH, Z6, gn, Vh, hb, hc, hk, hq, hlen, hla, hg, i1, i2, qiw, ku, qb _ _ (qz _), hw, Int.toNat_natCast, and_self, iE, iN, iB, iC, iL, iD, iA, iS, iM, qa, zZ, ↓qp, ↓reduceIte, reduceCtorEq, nA, nM, nS, nE, nL, nD]; try simp only [qa, zY]
    refine ⟨_, qt.can [0, 1, 5] (by simp only [Wz, zC, nB, nD, nA, nE, ↓reduceIte, reduceCtorEq]; rfl), ⟨m + 1, by omega, by omega, ?_⟩, ?_⟩
    · simp only [zL, ↓reduceIte, reduceCtorEq, nE, nA]
    · simp only [zL, ↓reduceIte, reduceCtorEq, nE, nA]; omega
noncomputable def q9p : za := (q6p.put 95 (qk uq))
theorem q4o : qo Try.prog q9p := (qmj.put (qkz qjz))
end Go.Proofs.Ytfhckbbgmblhbaa
namespace Go.Proofs.Ytfhckbbgmblhbaa
open Go.Am Go.Dia
open Nat renaming reduceAdd → nA, reduceMul → nM, reduceSub → nS, reduceEqDiff → nE, reduceLT → nL, reduceLeDiff → nD, reduceBEq → nB
open Int renaming reduceEq → iE, reduceNe → iN, reduceBEq → iB, reduceBNe → iC, reduceLT → iL, reduceLE → iD, reduceAdd → iA, reduceSub → iS, reduceMul → iM
set_option linter.unusedSimpArgs false
set_option linter.unusedVariables false
set_option maxRecDepth 4000
set_option maxHeartbeats 1000000
def Zt (p n : Int) (a : List (Int × List Nat × Int)) : List (Int × List Nat × Int) := chP p (n + 1) (xf n.toNat) (fun _ => 1) [] a
theorem Bc {p n : Int} {a : List (Int × List Nat × Int)} (hp : 2 ≤ p ∧ p ≤ 97) (hn : 1 ≤ n ∧ n ≤ 7) (h : xb p n a) : xb p (n + 1) (Zt p n a) ∧ (Zt p n a).length ≤ a.length := by
  have hg := Gu (p := p) (acc := []) (by omega) (qwd.qi2 (p := p) (n := n + 1) (fun t h => by cases h)) (qwo (by omega) hn h)
  refine ⟨hg.1, ?_⟩
  have := hg.2
  unfold Zt
  simpa using this
noncomputable def Ka (p c : Int) (i : Nat) : Int := (chb p c i * Vz p (chb p c (i + 1))).tmod p
noncomputable def jq (p c : Int) : Nat → List (Int × List Nat × Int)
  | 0 => [(1, wk 1, 1)]
  | k + 1 => qbm p ((k + 2 : Nat) : Int) (-(Ka p c (k + 1))) (Zt p ((k + 1 : Nat) : Int) (jq p c k))
      (MP p ((k + 2 : Nat) : Int) (vb p c ((k + 2 : Nat) : Int) (MP p ((k + 2 : Nat) : Int) (vb p c ((k + 2 : Nat) : Int) (Zt p ((k + 1 : Nat) : Int) (jq p c k)) [(((k + 2 : Nat) : Int), Xo (k + 2) k, 1)])) (Zt p ((k + 1 : Nat) : Int) (jq p c k))))
theorem Yi {p c : Int} (hp : 2 ≤ p ∧ p ≤ 97) (hc : 0 ≤ c ∧ c ≤ p - 1) : ∀ k : Nat, k ≤ 4 → xb p ((k + 1 : Nat) : Int) (jq p c k) ∧ (jq p c k).length ≤ 132
  | 0, _ => by
    have := q1k (p := p) (n := 1) (k := 1) (by omega) (by omega)
    exact ⟨this, by simp [jq]⟩
  | k + 1, hk => by
    have ih := Yi hp hc k (by omega)
    have hw := Bc hp (by omega) ih.1
    have e : ((k + 1 : Nat) : Int) + 1 = ((k + 2 : Nat) : Int) := by omega
    rw [e] at hw
    have hg : xb p ((k + 2 : Nat) : Int) [(((k + 2 : Nat) : Int), Xo (k + 2) k, 1)] := by
      have := qjq (p := p) (n := ((k + 2 : Nat) : Int)) (k := 1) (i := k) (by omega) (by omega) (by omega)
      rwa [Int.toNat_natCast] at this
    have h1 := (Un (c := c) hp hc hw.1 hg ⟨by omega, by simp⟩).1
    have l1 := Xy h1 (by omega)
    have h2 := (Un (c := c) hp hc h1 hw.1 ⟨by omega, by omega⟩).1
    have h3 := (qdq (k := -(Ka p c (k + 1))) (by omega) hw.1 h2).1
    exact ⟨h3, Xy h3 (by omega)⟩
noncomputable def qka : za := (q9p.put 149 (ko))
theorem qnz : qo Try.prog qka := (q4o.put (qtd))
end Go.Proofs.Ytfhckbbgmblhbaa
namespace Go.Proofs.Ytfhckbbgmblhbaa
open Go.Am Go.Dia
open Nat renaming reduceAdd → nA, reduceMul → nM, reduceSub → nS, reduceEqDiff → nE, reduceLT → nL, reduceLeDiff → nD, reduceBEq → nB
open Int renaming reduceEq → iE, reduceNe → iN, reduceBEq → iB, reduceBNe → iC, reduceLT → iL, reduceLE → iD, reduceAdd → iA, reduceSub → iS, reduceMul → iM
set_option linter.unusedSimpArgs false
set_option linter.unusedVariables false
set_option maxRecDepth 4000
set_option maxHeartbeats 2000000
theorem v8 : qka 149 = some (ko) := rfl
theorem gv : qka 148 = some (bu Vh) := rfl
theorem gr : qka 125 = some (qk Wl) := rfl
theorem Q3 : qka 72 = some (qk qbk) := rfl
theorem u9 : qka 90 = some (qjc) := rfl
theorem Vu : qka 124 = some (qbw) := rfl
theorem Z3 : qka 103 = some (bu wm) := rfl
theorem Vq : qka 88 = some (qk x9) := rfl
def Q4 : AC := .seq (.seq (.region [oM 21 9,oM 22 2,oP 23 .lss 21 22]) (.cond 23 .skip (.exit 0))) (.seq (.block 1 (.seq (.region [oC 26 149 [.t 7],oZ 10,oS 4 10 26]) (.seq (.region [oM 27 0,oM 28 1,oM 29 9,oK 30 .add 29 1,oM 31 9,oK 32 .sub 31 1,oC 33 125 [.t 30,.t 32],oC 34 103 [.t 27,.t 28,.t 33,(.c (.int .i64 1))],oZ 11,oS 4 11 34]) (.seq (.draw true [oM 35 8,oM 36 9,oK 37 .sub 36 1,oX 38 1 35 37,oL 39 38,oM 40 8,oM 41 9,oX 42 1 40 41,oL 43 42,oM 44 0,oM 47 0,oC 45 72 [.t 43,.t 44],oP 46 .mul 39 45,oP 48 .rem 46 47,oM 12 48]) (.draw true [oN 49 4 10,oN 50 4 10,oN 51 4 11,oN 53 4 10,oM 55 12,o0 56 (.un .neg (.t 55)),oC 52 90 [.t 50,.t 51],oC 54 90 [.t 52,.t 53],oC 57 124 [.t 49,.t 54,.t 56],oS 4 7 57]))))) (.region [oM 24 9,oK 25 .add 24 1,oM 9 25]))
def Wb : AC := .seq (.region [oN 58 4 7,oS 4 6 58]) .ret
def G8 : AC := .seq (.region [oZ 6]) (.seq (.region [oM 13 0,oM 14 1,oC 15 88 [(.c (.int .i64 1))],oC 16 103 [.t 13,.t 14,.t 15,(.c (.int .i64 1))],oM 17 0,oM 18 1,oM 19 2,oC 20 148 [.t 17,.t 18,.t 19],oZ 7,oS 4 7 16,oM 8 20]) (.seq (.seq (.region [oI 9 1]) (.block 0 (.loop Q4))) Wb))
theorem qg5 : zj Try.prog 96 = some ⟨59, G8, [.wu 6 4]⟩ := by kernel_rfl
theorem qi1 (p c : Int) (n : Nat) (hp : z6 p = true) (hc : 0 ≤ c ∧ c ≤ p - 1) (hn : 1 ≤ n ∧ n ≤ 5) (hz : n ≤ j8 p c) :
    Am.Fn Try.prog 96 [.int .i64 p, .int .i64 c, .int .i64 n] [] (fun v H' => v = elemV p c n 0 (jq p c (n - 1)).length ∧ H' = [.vec 18 (zc (jq p c (n - 1)))]) := by
  refine Am.Fn.ofW qnz mixed qg5 (by simp) (by simp) ?_
  have hb := ui hp
  have k1 : (1 : Int) ≤ 1 ∧ (1 : Int) ≤ p - 1 := by omega
  have p1 : 0 < p ∧ p ≤ 1000000 := by omega
  have hp0 : ¬ p = 0 := by omega
  have s1 := qu8 k1
  have n1 := q8s k1
  have hK : (0 : Int) ≤ (n : Int) ∧ (n : Int) ≤ 1000 := by omega
  have c1 : (0 : Int) ≤ 1 ∧ (1 : Int) ≤ 8 := by omega
  have hdu : vn (dia 1 (wk 1)) = some (1, wk 1) := qy (Vs (by omega))
  simp (maxSteps := 3000000) only [qh, zH, G8, v8, gv, gr, Q3, u9, Vu, Z3, Vq, Vh, Wl, qbk, ko, qjc, qbw, wm, x9, G4, elemV, ku, qb _ _ (qc _), qb _ _ (qg _ _), hb, hc, p1, s1, n1, hK, c1, hdu, qiw, ku, qb _ _ (qz _), List.length_singleton, Int.toNat_one, Int.toNat_natCast, and_self, iE, iN, iB, iC, iL, iD, iA, iS, iM, qa, zZ, ↓qp, ↓reduceIte, reduceCtorEq, nA, nM, nS, nE, nL, nD]; try simp only [qa, zY]
  refine ⟨rfl, ?_⟩
  refine WA.xo qnz (fun s => ∃ k : Nat, k + 1 ≤ n ∧ s = ⟨[(0, .int .i64 p), (1, .int .i64 c), (2, .int .i64 n), (6, .ptr 0 0), (7, .ptr 1 0), (8, .slc 3 0 (max 2 (n + 1)) false 0), (9, .int .i64 (k + 1 : Nat))], [q5e, .cells [.int .i64 p, .int .i64 c, .int .i64 (k + 1 : Nat), .slc 2 0 (jq p c k).length false 0], .vec 18 (zc (jq p c k)), .vec 1 (jf (V7 p c (max 2 (n + 1))))]⟩)
    (fun s => match get s.env 9 with | .int _ x => n - x.toNat | _ => 0) ⟨_, qt.can [0, 1, 2, 6, 7, 8, 9] (by simp only [Wz, zC, nB, nD, nA, nE, ↓reduceIte, reduceCtorEq]; rfl), 0, by omega, ?_⟩ ?_
  · simp only [qb _ _ (qc _), qb _ _ (qz _), zL, ↓reduceIte, reduceCtorEq, nE, nA]
    rfl
  rintro s ⟨k, hk, rfl⟩
  have hPg := Yi (c := c) hb hc k (by omega)
  by_cases hlt : k + 1 < n
  · have hli : ((k + 1 : Nat) : Int) < (n : Int) := by omega
    have e2 : ((k + 1 : Nat) : Int) + 1 = ((k + 2 : Nat) : Int) := by omega
    have hw1 : qn .i64 ((k + 2 : Nat) : Int) = ((k + 2 : Nat) : Int) := wrap64 (by omega) (by omega)
    have hw0 : qn .i64 (((k + 1 : Nat) : Int) - 1) = (k : Int) := by rw [wrap64 (by omega) (by omega)]; omega
    have q1 : (1 : Int) ≤ ((k + 1 : Nat) : Int) ∧ ((k + 1 : Nat) : Int) ≤ 7 := by omega
    have q2 : (0 : Int) ≤ ((k + 2 : Nat) : Int) ∧ ((k + 2 : Nat) : Int) ≤ 8 := by omega
    have hgen : ((k + 2 : Nat) : Int) ≤ 8 ∧ 0 ≤ (k : Int) ∧ (k : Int) + 1 < ((k + 2 : Nat) : Int) := by omega
    have hdg : vn (dia ((k + 2 : Nat) : Int) (Xo (k + 2) k)) = some (((k + 2 : Nat) : Int), Xo (k + 2) k) := qy (qgu (by omega) (by omega))
    have hcl := Kt p c (max 2 (n + 1))
    have hci := jd (V7 p c (max 2 (n + 1)))
    have g0 : (V7 p c (max 2 (n + 1))).getD k 0 = chb p c (k + 1) := Gn (by omega)
    have g1 : (V7 p c (max 2 (n + 1))).getD (k + 1) 0 = chb p c (k + 2) := Gn (by omega)
    have i0 : (0 : Int) ≤ (k : Int) ∧ (k : Int) < ((max 2 (n + 1) : Nat) : Int) := by omega
    have i1 : (0 : Int) ≤ ((k + 1 : Nat) : Int) ∧ ((k + 1 : Nat) : Int) < ((max 2 (n + 1) : Nat) : Int) := by omega
    have j0 : k < max 2 (n + 1) := by omega
    have j1 : k + 1 < max 2 (n + 1) := by omega
    have hnz : ¬ chb p c (k + 2) = 0 := (qc9 hp hc).2.2 (k + 1) (by omega) (by omega)
    have b1 := qb6 (c := c) hb (k + 1)
    have b2 := qb6 (c := c) hb (k + 2)
    have hoi : okI p (chb p c (k + 2)) := ⟨hp, by omega, b2.2⟩
    have hv := (qjl hoi.1 hoi.2).1
    have m1 : chb p c (k + 1) * Vz p (chb p c (k + 2)) ≤ 96 * 96 := Int.mul_le_mul (by omega) (by omega) (by omega) (by omega)
    have m0 : 0 ≤ chb p c (k + 1) * Vz p (chb p c (k + 2)) := Int.mul_nonneg b1.1 (by omega)
    have hwm : qn .i64 (chb p c (k + 1) * Vz p (chb p c (k + 2))) = chb p c (k + 1) * Vz p (chb p c (k + 2)) := wrap64 (by omega) (by omega)
    have hX : (chb p c (k + 1) * Vz p (chb p c (k + 2))).tmod p = Ka p c (k + 1) := rfl
    have hXb : 0 ≤ Ka p c (k + 1) ∧ Ka p c (k + 1) < p := ⟨Int.tmod_nonneg _ m0, Int.tmod_lt_of_pos _ (by omega)⟩
    have hwx : qn .i64 (0 - Ka p c (k + 1)) = -(Ka p c (k + 1)) := by rw [wrap64 (by omega) (by omega)]; omega
    have hxk : -1000001 ≤ -(Ka p c (k + 1)) ∧ -(Ka p c (k + 1)) ≤ 1000001 := by omega
    have hW0 := Bc hb q1 hPg.1
    rw [e2] at hW0
    have hWe : chP p ((k + 2 : Nat) : Int) (xf (k + 1)) (fun _ => 1) [] (jq p c k) = Zt p ((k + 1 : Nat) : Int) (jq p c k) := by rw [← e2]; rfl
    have hnext : jq p c (k + 1) = qbm p ((k + 2 : Nat) : Int) (-(Ka p c (k + 1))) (Zt p ((k + 1 : Nat) : Int) (jq p c k))
      (MP p ((k + 2 : Nat) : Int) (vb p c ((k + 2 : Nat) : Int) (MP p ((k + 2 : Nat) : Int) (vb p c ((k + 2 : Nat) : Int) (Zt p ((k + 1 : Nat) : Int) (jq p c k)) [(((k + 2 : Nat) : Int), Xo (k + 2) k, 1)])) (Zt p ((k + 1 : Nat) : Int) (jq p c k)))) := rfl
    have hGg : xb p ((k + 2 : Nat) : Int) [(((k + 2 : Nat) : Int), Xo (k + 2) k, 1)] := by
      have := qjq (p := p) (n := ((k + 2 : Nat) : Int)) (k := 1) (i := k) (by omega) (by omega) (by omega)
      rwa [Int.toNat_natCast] at this
    generalize Zt p ((k + 1 : Nat) : Int) (jq p c k) = W at *
    have hM1 := (Un (c := c) hb hc hW0.1 hGg ⟨by omega, by simp⟩).1
    have lM1 := Xy hM1 (by omega)
    generalize hM1e : MP p ((k + 2 : Nat) : Int) (vb p c ((k + 2 : Nat) : Int) W [(((k + 2 : Nat) : Int), Xo (k + 2) k, 1)]) = M1 at *
    have hM2 := (Un (c := c) hb hc hM1 hW0.1 ⟨by omega, by omega⟩).1
    have lM2 := Xy hM2 (by omega)
    generalize hM2e : MP p ((k + 2 : Nat) : Int) (vb p c ((k + 2 : Nat) : Int) M1 W) = M2 at *
    have tP := jx hPg.1.ok
    have tW := jx hW0.1.ok
    have tM1 := jx hM1.ok
    have tM2 := jx hM2.ok
    have tG : Ji 1 (zc _) = some _ := jx hGg.ok
    have dP := hPg.1.dec
    have dW := hW0.1.dec
    have dM1 := hM1.dec
    have dM2 := hM2.dec
    have dG := hGg.dec
    have lP : (jq p c k).length ≤ 100000 := by omega
    have lW : W.length ≤ 300 := by omega
    have lW2 : W.length ≤ 100000 := by omega
    have lM1' : M1.length ≤ 300 := by omega
    have lM2' : M2.length ≤ 100000 := by omega
    have l1 : (1 : Nat) ≤ 300 := by omega
    simp (maxSteps := 3000000) only [qh, zH, Q4, v8, gv, gr, Q3, u9, Vu, Z3, Vq, Vh, Wl, qbk, ko, qjc, qbw, wm, x9, G4, elemV, ku, qb _ _ (qc _), qb _ _ (qg _ _), hli, e2, hw1, hw0, q1, q2, hgen, hdg, hcl, hci, g0, g1, i0, i1, j0, j1, hoi, hwm, hX, hwx, hxk, hWe, ← hnext, hM1e, hM2e, tP, tW, tM1, tM2, tG, dP, dW, dM1, dM2, dG, lP, lW, lW2, lM1', lM2', l1, hb, hc, hp0, p1, s1, n1, List.length_singleton, Int.toNat_natCast, and_self, iE, iN, iB, iC, iL, iD, iA, iS, iM, qa, zZ, ↓qp, ↓reduceIte, reduceCtorEq, nA, nM, nS, nE, nL, nD]; try simp only [qa, zY]
    repeat' refine And.intro (by first | rfl | exact ⟨_, rfl⟩) ?_
    refine ⟨_, qt.can [0, 1, 2, 6, 7, 8, 9] (by simp only [Wz, zC, nB, nD, nA, nE, ↓reduceIte, reduceCtorEq]; rfl), ⟨k + 1, by omega, ?_⟩, ?_⟩
    · simp only [qb _ _ (qc _), qb _ _ (qz _), zL, ↓reduceIte, reduceCtorEq, nE, nA]
    · simp only [zL, ↓reduceIte, reduceCtorEq, nE, nA]; omega
  · have hli : ¬ ((k + 1 : Nat) : Int) < (n : Int) := by omega
    obtain rfl : n = k + 1 := by omega
    simp (maxSteps := 3000000) only [qh, zH, Q4, Wb, v8, gv, gr, Q3, u9, Vu, Z3, Vq, Vh, Wl, qbk, ko, qjc, qbw, wm, x9, G4, elemV, ku, qb _ _ (qc _), qb _ _ (qg _ _), hli, Int.lt_irrefl, Nat.add_sub_cancel, iE, iN, iB, iC, iL, iD, iA, iS, iM, qa, zZ, ↓qp, ↓reduceIte, reduceCtorEq, nA, nM, nS, nE, nL, nD]; try simp only [qa, zY]
    refine ⟨rfl, _, qt.refl _, ?_⟩
    refine Ret.xv [2] ⟨⟨by simp, rfl, by decide⟩, ?_⟩ (rs := [.agg [.int .i64 p, .int .i64 c, .int .i64 (k + 1 : Nat), .slc 2 0 (jq p c k).length false 0]]) ?_ rfl (by simp [xl]) ?_ ⟨?_, ?_⟩
    · simp only [qd _ _ (qc _), zK, ↓reduceIte, reduceCtorEq, nE, nB, nA]
    · rfl
    · intro j l; cases j <;> simp [zn, AO.ren]
    · simp only [xl]
      simp only [zL, ↓reduceIte, reduceCtorEq, nE, nA]
    · simp only [qb _ _ (qc _), zL, ↓reduceIte, reduceCtorEq, nE, nA]
noncomputable def K0 : List AV → Option (AV × List AO)
  | [.int .i64 p, .int .i64 c, .int .i64 n] => chk ((z6 p = true ∧ 0 ≤ c ∧ c ≤ p - 1) ∧ (1 ≤ n ∧ n ≤ 5) ∧ n ≤ j8 p c) (some (elemV p c n 0 (jq p c (n.toNat - 1)).length, [.vec 18 (zc (jq p c (n.toNat - 1)))]))
  | _ => none
theorem q69 : Am.Callee Try.prog 96 (bu K0) :=
  Am.Callee.new fun xs v H he => by
    unfold K0 at he
    split at he
    · rename_i p c n
      obtain ⟨⟨⟨h1, h2⟩, h3, h4⟩, he⟩ := ql he
      obtain ⟨n, rfl⟩ : ∃ j : Nat, n = j := ⟨n.toNat, by omega⟩
      rw [Int.toNat_natCast] at he
      cases he
      exact ⟨rfl, qi1 p c n h1 h2 (by omega) (by omega)⟩
    · cases he
noncomputable def qvo : za := (qka.put 96 (bu K0))
theorem qt1 : qo Try.prog qvo := (qnz.put (q69))
noncomputable def va (p c n : Int) : ER :=
  if ¬ ((z6 p = true ∧ 0 ≤ c ∧ c ≤ p - 1) ∧ 1 ≤ n ∧ n ≤ 5) then (0, 0, 0, [], 2) else if ¬ n ≤ j8 p c then (0, 0, 0, [], 5) else (p, c, n, jq p c (n.toNat - 1), 0)
theorem u0 : qvo 94 = some (qk Qn) := rfl
theorem wv : qvo 95 = some (qk uq) := rfl
theorem Jv : qvo 71 = some (qk uc) := rfl
theorem wt : qvo 96 = some (bu K0) := rfl
def yk : AC := .seq (.region [oZ 6,oI 7 0]) (.seq (.block 0 (.seq (.region [oM 9 0,oM 10 1,oC 11 94 [.t 9,.t 10],o0 12 (.un .not (.t 11)),oM 13 12,oG 14 13 false (.mov (.t 2)),⟨some 15,some (13,false),.call (.c (.fn 71 [] [])) [.t 14,(.c (.int .i64 1)),(.c (.int .i64 5))]⟩,oG 16 13 false (.un .not (.t 15)),o0 17 (.pick (.t 13) (.c (.bool true)) (.t 16)),oM 8 17]) (.cond 8 (.seq (.region [o0 18 (.build [.int .i64 0,.int .i64 0,.int .i64 0,(.v (.slice none 0 0))] []),oS 4 6 18,oI 7 2]) .ret) (.seq (.region [oM 20 2,oM 21 0,oM 22 1,oC 23 95 [.t 21,.t 22],oP 24 .gtr 20 23,oM 19 24]) (.cond 19 (.seq (.region [o0 25 (.build [.int .i64 0,.int .i64 0,.int .i64 0,(.v (.slice none 0 0))] []),oS 4 6 25,oI 7 5]) .ret) .skip))))) (.seq (.region [oM 26 0,oM 27 1,oM 28 2,oC 29 96 [.t 26,.t 27,.t 28],oS 4 6 29,oI 7 0]) .ret))
theorem qea : zj Try.prog 42 = some ⟨30, yk, [.wu 6 4, .slot 7]⟩ := by kernel_rfl
theorem qdp (p c n : Int) : Am.Fn Try.prog 42 [.int .i64 p, .int .i64 c, .int .i64 n] [] (qld (va p c n)) := by
  refine Am.Fn.ofW qt1 mixed qea (by simp) (by simp) ?_
  have nilR : ∀ (code : Int) (s : St), va p c n = (0, 0, 0, [], code) → Vk s [.wu 6 4, .slot 7] = some [.agg [.int .i64 0, .int .i64 0, .int .i64 0, .v (.slice none 0 0)], .int .i64 code] → Ret [.wu 6 4, .slot 7] [] (qld (va p c n)) s := fun code s he hr => by
    refine Ret.nil 18 (.tup [elemV 0 0 0 0 0, .int .i64 code]) hr ?_ (by simp) ?_ ?_
    · simp [xl, elemV, AV.ren, AV.zk]
    · exact ⟨⟨trivial, trivial, trivial, by simp [AV.under], trivial⟩, trivial, trivial⟩
    · rw [he]; exact ⟨rfl, rfl⟩
  by_cases hf : (z6 p = true ∧ 0 ≤ c ∧ c ≤ p - 1) ∧ 1 ≤ n ∧ n ≤ 5
  · obtain ⟨⟨h1, h2⟩, h3⟩ := hf
    have hP : (z6 p && decide (0 ≤ c ∧ c ≤ p - 1)) = true := by rw [h1, decide_eq_true h2]; rfl
    have hN : decide (1 ≤ n ∧ n ≤ 5) = true := decide_eq_true h3
    by_cases hz : n ≤ j8 p c
    · have hzl : ¬ ((j8 p c : Nat) : Int) < n := by omega
      have e : va p c n = (p, c, n, jq p c (n.toNat - 1), 0) := by unfold va; rw [if_neg (fun h => h ⟨⟨h1, h2⟩, h3⟩), if_neg (fun h => h hz)]
      simp (maxSteps := 3000000) only [qh, zH, yk, u0, wv, Jv, wt, Qn, uc, K0, uq, G4, elemV, ku, qb _ _ (qc _), qb _ _ (qg _ _), hP, hN, h1, h2, h3, hz, hzl, and_self, iE, iN, iB, iC, iL, iD, iA, iS, iM, qa, zZ, ↓qp, ↓reduceIte, reduceCtorEq, nA, nM, nS, nE, nL, nD]; try simp only [qa, zY]
      rw [e]
      unfold qld
      refine ⟨rfl, _, qt.refl _, ?_⟩
      generalize jq p c (n.toNat - 1) = L
      refine Ret.xv [1] ⟨⟨by simp, rfl, by decide⟩, ?_⟩ (rs := [.agg [.int .i64 p, .int .i64 c, .int .i64 n, .slc 1 0 L.length false 0], .int .i64 0]) rfl (by rfl) (by simp [xl]) ?_ ⟨?_, ?_⟩
      · simp only [qd _ _ (qc _), zK, ↓reduceIte, reduceCtorEq, nE, nB, nA]
      · intro j l; cases j <;> simp [zn, AO.ren]
      · simp only [xl]
        simp only [zL, ↓reduceIte, reduceCtorEq, nE, nA]
        rfl
      · simp only [qb _ _ (qc _), zL, ↓reduceIte, reduceCtorEq, nE, nA]
    · have hzl : ((j8 p c : Nat) : Int) < n := by omega
      have e : va p c n = (0, 0, 0, [], 5) := by unfold va; rw [if_neg (fun h => h ⟨⟨h1, h2⟩, h3⟩), if_pos hz]
      simp (maxSteps := 3000000) only [qh, zH, yk, u0, wv, Jv, wt, Qn, uc, K0, uq, G4, elemV, ku, qb _ _ (qc _), qb _ _ (qg _ _), hP, hN, h1, h2, h3, hzl, and_self, iE, iN, iB, iC, iL, iD, iA, iS, iM, qa, zZ, ↓qp, ↓reduceIte, reduceCtorEq, nA, nM, nS, nE, nL, nD]; try simp only [qa, zY]
      exact ⟨rfl, _, qt.refl _, nilR 5 _ e rfl⟩
  · have e : va p c n = (0, 0, 0, [], 2) := if_pos hf
    by_cases hP : z6 p = true ∧ 0 ≤ c ∧ c ≤ p - 1
    · have hP' : (z6 p && decide (0 ≤ c ∧ c ≤ p - 1)) = true := by rw [hP.1, decide_eq_true hP.2]; rfl
      have hN : decide (1 ≤ n ∧ n ≤ 5) = false := decide_eq_false fun h => hf ⟨hP, h⟩
      simp (maxSteps := 3000000) only [qh, zH, yk, u0, wv, Jv, wt, Qn, uc, K0, uq, G4, elemV, ku, qb _ _ (qc _), qb _ _ (qg _ _), hP', hN, and_self, iE, iN, iB, iC, iL, iD, iA, iS, iM, qa, zZ, ↓qp, ↓reduceIte, reduceCtorEq, nA, nM, nS, nE, nL, nD]; try simp only [qa, zY]
      exact ⟨rfl, _, qt.refl _, nilR 2 _ e rfl⟩
    · have hP' : (z6 p && decide (0 ≤ c ∧ c ≤ p - 1)) = false := by
        cases h1 : z6 p with
        | false => rfl
        | true => rw [Bool.true_and]; exact decide_eq_false fun h => hP ⟨h1, h⟩
      simp (maxSteps := 3000000) only [qh, zH, yk, u0, wv, Jv, wt, Qn, uc, K0, uq, G4, elemV, ku, qb _ _ (qc _), qb _ _ (qg _ _), hP', and_self, iE, iN, iB, iC, iL, iD, iA, iS, iM, qa, zZ, ↓qp, ↓reduceIte, reduceCtorEq, nA, nM, nS, nE, nL, nD]; try simp only [qa, zY]
      exact ⟨rfl, _, qt.refl _, nilR 2 _ e rfl⟩
noncomputable def Jw : List AV → Option (AV × List AO)
  | [.int .i64 p, .int .i64 c, .int .i64 n] => some (.tup [elemV (va p c n).1 (va p c n).2.1 (va p c n).2.2.1 0 (va p c n).2.2.2.1.length, .int .i64 (va p c n).2.2.2.2], [.vec 18 (zc (va p c n).2.2.2.1)])
  | _ => none
theorem q38 : Am.Callee Try.prog 42 (bu Jw) :=
  Am.Callee.new fun xs v H he => by
    unfold Jw at he
    split at he
    · rename_i p c n
      cases he
      exact ⟨rfl, qdp p c n⟩
    · cases he
noncomputable def qn1 : za := (qvo.put 42 (bu Jw))
theorem K6 : qo Try.prog qn1 := (qt1.put (q38))
end Go.Proofs.Ytfhckbbgmblhbaa
namespace Go.Proofs.Ytfhckbbgmblhbaa
open Go.Am Go.Dia
open Nat renaming reduceAdd → nA, reduceMul → nM, reduceSub → nS, reduceEqDiff → nE, reduceLT → nL, reduceLeDiff → nD, reduceBEq → nB
open Int renaming reduceEq → iE, reduceNe → iN, reduceBEq → iB, reduceBNe → iC, reduceLT → iL, reduceLE → iD, reduceAdd → iA, reduceSub → iS, reduceMul → iM
set_option linter.unusedSimpArgs false
set_option linter.unusedVariables false
set_option maxRecDepth 4000
set_option maxHeartbeats 2000000
end Go.Proofs.Ytfhckbbgmblhbaa
namespace Go.Proofs.Ytfhckbbgmblhbaa
open Go.Am Go.Dia
open Nat renaming reduceAdd → nA, reduceMul → nM, reduceSub → nS, reduceEqDiff → nE, reduceLT → nL, reduceLeDiff → nD, reduceBEq → nB
open Int renaming reduceEq → iE, reduceNe → iN, reduceBEq → iB, reduceBNe → iC, reduceLT → iL, reduceLE → iD, reduceAdd → iA, reduceSub → iS, reduceMul → iM
set_option linter.unusedSimpArgs false
set_option linter.unusedVariables false
set_option maxRecDepth 4000
set_option maxHeartbeats 2000000
open Classical in
noncomputable def qa4 (p c : Int) : Int := if z6 p = true ∧ 0 ≤ c ∧ c ≤ p - 1 then 0 else 2
theorem Jb : qn1 66 = some (qk uc) := rfl
theorem kr : qn1 137 = some (qk wi) := rfl
theorem Q7 : qn1 132 = some (qk uq) := rfl
def Ws : AC := .seq (.region [oI 4 0]) (.seq (.seq (.region [oM 5 0,oC 6 137 [.t 5],o0 7 (.un .not (.t 6)),oM 8 7,oG 9 8 false (.mov (.t 1)),oG 10 8 false (.mov (.t 0)),oG 11 8 false (.bin .sub (.t 10) (.c (.int .i64 1))),⟨some 12,some (8,false),.call (.c (.fn 66 [] [])) [.t 9,(.c (.int .i64 0)),.t 11]⟩,oG 13 8 false (.un .not (.t 12)),o0 14 (.pick (.t 8) (.c (.bool true)) (.t 13))]) (.cond 14 (.seq (.region [oI 4 2]) .ret) .skip)) (.seq (.region [oI 4 0]) .ret))
theorem qqf : zj Try.prog 131 = some ⟨15, Ws, [.slot 4]⟩ := by kernel_rfl
theorem qqg (p c : Int) : Am.Fn Try.prog 131 [.int .i64 p, .int .i64 c] [] (fun v H' => v = .int .i64 (qa4 p c) ∧ H' = []) := by
  refine Am.Fn.xm (R := fun v => v = _) K6 mixed qqf (by simp [AV.qu, AV.under]) (by simp) ?_
  cases hP : z6 p with
  | false =>
    have e : qa4 p c = 2 := by unfold qa4; rw [if_neg (by simp [hP])]
    simp (maxSteps := 3000000) only [qh, zH, Ws, Jb, kr, Q7, uc, wi, uq, hP, e, iE, iN, iB, iC, iL, iD, iA, iS, iM, qa, zZ, ↓qp, ↓reduceIte, reduceCtorEq, nA, nM, nS, nE, nL, nD]; try simp only [qa, zY]
  | true =>
    have hb := ui hP
    have hw : qn .i64 (p - 1) = p - 1 := wrap64 (by omega) (by omega)
    by_cases hc : 0 ≤ c ∧ c ≤ p - 1
    · have e : qa4 p c = 0 := by unfold qa4; rw [if_pos ⟨hP, hc⟩]
      simp (maxSteps := 3000000) only [qh, zH, Ws, Jb, kr, Q7, uc, wi, uq, hP, hw, hc, e, and_self, iE, iN, iB, iC, iL, iD, iA, iS, iM, qa, zZ, ↓qp, ↓reduceIte, reduceCtorEq, nA, nM, nS, nE, nL, nD]; try simp only [qa, zY]
    · have e : qa4 p c = 2 := by unfold qa4; rw [if_neg fun h => hc h.2]
      simp (maxSteps := 3000000) only [qh, zH, Ws, Jb, kr, Q7, uc, wi, uq, hP, hw, hc, e, iE, iN, iB, iC, iL, iD, iA, iS, iM, qa, zZ, ↓qp, ↓reduceIte, reduceCtorEq, nA, nM, nS, nE, nL, nD]; try simp only [qa, zY]
noncomputable def Wi : List AV → Option AV
  | [.int .i64 p, .int .i64 c] => some (.int .i64 (qa4 p c))
  | _ => none
theorem q37 : Am.Callee Try.prog 131 (qk Wi) := Am.Callee.plain fun xs v he => by
  unfold Wi at he
  split at he
  · rename_i p c
    cases he
    exact ⟨rfl, rfl, qqg p c⟩
  · cases he
noncomputable def qxh : za := (qn1.put 131 (qk Wi))
theorem qus : qo Try.prog qxh := (K6.put (q37))
theorem kl : qxh 66 = some (qk uc) := rfl
theorem ua : qxh 137 = some (qk wi) := rfl
theorem u4 : qxh 132 = some (qk uq) := rfl
theorem u3 : qxh 131 = some (qk Wi) := rfl
open Classical in
noncomputable def Vg (p c n : Int) : Int := if ¬ ((z6 p = true ∧ 0 ≤ c ∧ c ≤ p - 1) ∧ 1 ≤ n ∧ n ≤ 5) then 2 else if ¬ n ≤ j8 p c then 5 else 0
def Zk : AC := .seq (.region [oI 6 0]) (.seq (.block 0 (.seq (.region [oM 8 0,oM 9 1,oC 10 131 [.t 8,.t 9],oK 11 .neq 10 0,oM 12 11,oG 13 12 false (.mov (.t 2)),⟨some 14,some (12,false),.call (.c (.fn 66 [] [])) [.t 13,(.c (.int .i64 1)),(.c (.int .i64 5))]⟩,oG 15 12 false (.un .not (.t 14)),o0 16 (.pick (.t 12) (.c (.bool true)) (.t 15)),oM 7 16]) (.cond 7 (.seq (.region [oI 6 2]) .ret) (.seq (.region [oM 18 2,oM 19 0,oM 20 1,oC 21 132 [.t 19,.t 20],oP 22 .gtr 18 21,oM 17 22]) (.cond 17 (.seq (.region [oI 6 5]) .ret) .skip))))) (.seq (.region [oI 6 0]) .ret))
theorem qno : zj Try.prog 77 = some ⟨23, Zk, [.slot 6]⟩ := by kernel_rfl
theorem qnm (p c n : Int) : Am.Fn Try.prog 77 [.int .i64 p, .int .i64 c, .int .i64 n] [] (fun v H' => v = .int .i64 (Vg p c n) ∧ H' = []) := by
  refine Am.Fn.xm (R := fun v => v = _) qus mixed qno (by simp [AV.qu, AV.under]) (by simp) ?_
  by_cases hf : z6 p = true ∧ 0 ≤ c ∧ c ≤ p - 1
  · have hC : qa4 p c = 0 := if_pos hf
    obtain ⟨hP, hc⟩ := hf
    by_cases hn : 1 ≤ n ∧ n ≤ 5
    · by_cases hz : n ≤ j8 p c
      · have e : Vg p c n = 0 := by unfold Vg; rw [if_neg (fun h => h ⟨⟨hP, hc⟩, hn⟩), if_neg (fun h => h hz)]
        have hzl : ¬ ((j8 p c : Nat) : Int) < n := by omega
        simp (maxSteps := 3000000) only [qh, zH, Zk, kl, ua, u4, u3, Wi, uc, wi, uq, hC, hn, hP, hc, hzl, e, and_self, iE, iN, iB, iC, iL, iD, iA, iS, iM, qa, zZ, ↓qp, ↓reduceIte, reduceCtorEq, nA, nM, nS, nE, nL, nD]; try simp only [qa, zY]
      · have e : Vg p c n = 5 := by unfold Vg; rw [if_neg (fun h => h ⟨⟨hP, hc⟩, hn⟩), if_pos hz]
        have hzl : ((j8 p c : Nat) : Int) < n := by omega
        simp (maxSteps := 3000000) only [qh, zH, Zk, kl, ua, u4, u3, Wi, uc, wi, uq, hC, hn, hP, hc, hzl, e, and_self, iE, iN, iB, iC, iL, iD, iA, iS, iM, qa, zZ, ↓qp, ↓reduceIte, reduceCtorEq, nA, nM, nS, nE, nL, nD]; try simp only [qa, zY]
    · have e : Vg p c n = 2 := by unfold Vg; rw [if_pos fun h => hn h.2]
      simp (maxSteps := 3000000) only [qh, zH, Zk, kl, ua, u4, u3, Wi, uc, wi, uq, hC, hn, hP, hc, e, and_self, iE, iN, iB, iC, iL, iD, iA, iS, iM, qa, zZ, ↓qp, ↓reduceIte, reduceCtorEq, nA, nM, nS, nE, nL, nD]; try simp only [qa, zY]
  · have hC : qa4 p c = 2 := if_neg hf
    have e : Vg p c n = 2 := by unfold Vg; rw [if_pos fun h => hf h.1]
    simp (maxSteps := 3000000) only [qh, zH, Zk, kl, ua, u4, u3, Wi, uc, wi, uq, hC, e, iE, iN, iB, iC, iL, iD, iA, iS, iM, qa, zZ, ↓qp, ↓reduceIte, reduceCtorEq, nA, nM, nS, nE, nL, nD]; try simp only [qa, zY]
noncomputable def Jy : List AV → Option AV
  | [.int .i64 p, .int .i64 c, .int .i64 n] => some (.int .i64 (Vg p c n))
  | _ => none
theorem q33 : Am.Callee Try.prog 77 (qk Jy) := Am.Callee.plain fun xs v he => by
  unfold Jy at he
  split at he
  · rename_i p c n
    cases he
    exact ⟨rfl, rfl, qnm p c n⟩
  · cases he
end Go.Proofs.Ytfhckbbgmblhbaa
namespace Go.Proofs.Ytfhckbbgmblhbaa
open Go.Am Go.Dia
open Nat renaming reduceAdd → nA, reduceMul → nM, reduceSub → nS, reduceEqDiff → nE, reduceLT → nL, reduceLeDiff → nD, reduceBEq → nB
open Int renaming reduceEq → iE, reduceNe → iN, reduceBEq → iB, reduceBNe → iC, reduceLT → iL, reduceLE → iD, reduceAdd → iA, reduceSub → iS, reduceMul → iM
set_option linter.unusedSimpArgs false
set_option linter.unusedVariables false
set_option maxRecDepth 4000
set_option maxHeartbeats 1000000
def dOf (s : List UInt8) : List Nat := match Yv s with
  | some q => q.2
  | none => List.replicate 16 0
def qf (n : Nat) : List (List Nat) := (brs (2 * n) 0).map dOf
def qmt (n : Nat) : Bool := Nat.ble (brs (2 * n) 0).length 132 && (Nat.ble 1 (brs (2 * n) 0).length && (brs (2 * n) 0).all fun s => isI n (dOf s) && (j5 n (dOf s) == s) && ((dOf s).length == 16) && (dOf s).all fun x => Nat.blt x 256)
theorem q8z : qmt 1 = true := by kernel_rfl
theorem q8a : qmt 2 = true := by kernel_rfl
theorem q9e : qmt 3 = true := by kernel_rfl
theorem q8m : qmt 4 = true := by kernel_rfl
theorem q8q : qmt 5 = true := by kernel_rfl
theorem q8w : qmt 6 = true := by kernel_rfl
theorem qu1 {n : Nat} (h : 1 ≤ n ∧ n ≤ 6) : qmt n = true := by
  rcases (show n = 1 ∨ n = 2 ∨ n = 3 ∨ n = 4 ∨ n = 5 ∨ n = 6 by omega) with rfl | rfl | rfl | rfl | rfl | rfl
  · exact q8z
  · exact q8a
  · exact q9e
  · exact q8m
  · exact q8q
  · exact q8w
theorem Vw {n : Nat} (h : 1 ≤ n ∧ n ≤ 6) : 1 ≤ (qf n).length ∧ (qf n).length ≤ 132 := by
  have h0 := qu1 h
  simp only [qmt, Bool.and_eq_true] at h0
  rw [qf, List.length_map]
  exact ⟨Nat.le_of_ble_eq_true h0.2.1, Nat.le_of_ble_eq_true h0.1⟩
theorem qsx {n : Nat} (h : 1 ≤ n ∧ n ≤ 6) {s : List UInt8} (hs : s ∈ brs (2 * n) 0) : isS n (dOf s) = true ∧ j5 n (dOf s) = s ∧ okD (dOf s) ∧ Yv s = some (n, dOf s) := by
  have h0 := qu1 h
  simp only [qmt, Bool.and_eq_true, List.all_eq_true] at h0
  have h1 := h0.2.2 s hs
  simp only [Bool.and_eq_true, beq_iff_eq] at h1
  obtain ⟨⟨⟨h1, h2⟩, h3⟩, h4⟩ := h1
  refine ⟨by rw [Vx n _ h3]; exact h1, h2, ⟨h3, fun x hx => ?_⟩, ?_⟩
  · have := h4 x hx
    simp only [Nat.blt] at this
    exact Nat.le_of_ble_eq_true this
  · simp only [isI, Bool.and_eq_true, beq_iff_eq] at h1
    have h5 := h1.2.2
    rwa [h2] at h5
theorem V6 {n : Nat} (h : 1 ≤ n ∧ n ≤ 6) {m : List Nat} (hm : m ∈ qf n) : isS n m = true ∧ okD m := by
  obtain ⟨s, hs, rfl⟩ := List.mem_map.1 hm
  have := qsx h hs
  exact ⟨this.1, this.2.2.1⟩
theorem qcc {n : Nat} {m : List Nat} (hs : isS n m = true) (hm : m.length = 16) : m ∈ qf n := by
  refine List.mem_map.2 ⟨_, qq1 hs hm, ?_⟩
  rw [Vx n m hm] at hs
  simp only [isI, Bool.and_eq_true, beq_iff_eq] at hs
  unfold dOf
  rw [hs.2.2]
theorem qrw : ∀ (r o : Nat), (brs r o).Pairwise fun a b => Op.bytesLess a b = true
  | 0, o => by simp only [brs]; split <;> simp
  | r + 1, o => by
    have hc : ∀ (x : UInt8) (a b : List UInt8), Op.bytesLess a b = true → Op.bytesLess (x :: a) (x :: b) = true := fun x a b h => by simp [Op.bytesLess, h]
    have hd : ∀ (a b : List UInt8), Op.bytesLess (40 :: a) (41 :: b) = true := fun a b => by simp [Op.bytesLess]
    simp only [brs]
    refine List.pairwise_append.2 ⟨List.pairwise_map.2 ((qrw r (o + 1)).imp fun {a b} h => hc _ _ _ h), ?_, ?_⟩
    · split
      · exact List.pairwise_map.2 ((qrw r (o - 1)).imp fun {a b} h => hc _ _ _ h)
      · exact .nil
    · intro a ha b hb
      obtain ⟨a, _, rfl⟩ := List.mem_map.1 ha
      split at hb
      · obtain ⟨b, _, rfl⟩ := List.mem_map.1 hb
        exact hd a b
      · cases hb
theorem qme {n : Nat} (h : 1 ≤ n ∧ n ≤ 6) : (qf n).Pairwise fun a b => Op.bytesLess (j5 n a) (j5 n b) = true := by
  refine List.pairwise_map.2 (List.Pairwise.imp_of_mem ?_ (qrw (2 * n) 0))
  intro a b ha hb hlt
  rwa [(qsx h ha).2.1, (qsx h hb).2.1]
theorem Xa {n : Nat} (h : 1 ≤ n ∧ n ≤ 6) : (qf n).Nodup := (qme h).imp fun {a b} hlt e => by
  subst e; rw [y0] at hlt; cases hlt
theorem qs8 {n : Nat} (h : 1 ≤ n ∧ n ≤ 6) {m : List Nat} (hm : m ∈ qf n) {j : Nat} (hj : j < (qf n).length) :
    Op.bytesLess (j5 n (qf n)[j]) (j5 n m) = decide (j < (qf n).idxOf m) := by
  have hi : (qf n).idxOf m < (qf n).length := List.idxOf_lt_length_of_mem hm
  have hg : (qf n)[(qf n).idxOf m] = m := List.getElem_idxOf hi
  have hu := List.pairwise_iff_getElem.1 (qme h)
  rcases Nat.lt_trichotomy j ((qf n).idxOf m) with hlt | he | hgt
  · rw [decide_eq_true hlt]
    have := hu j _ hj hi hlt
    rwa [hg] at this
  · rw [decide_eq_false (by omega)]
    have e : (qf n)[j] = m := by
      have : (qf n)[j] = (qf n)[(qf n).idxOf m] := by congr 1
      rw [this, hg]
    rw [e, y0]
  · rw [decide_eq_false (by omega)]
    have := hu _ j hi hj hgt
    rw [hg] at this
    exact K1 _ _ this
theorem G9 {L : List (List Nat)} {f : List Nat → Int} {d : List Nat} (hd : d ∈ L) (hn : L.Nodup) (v : Int) : (L.map f).set (L.idxOf d) v = L.map fun m => if m = d then v else f m := by
  induction L with
  | nil => cases hd
  | cons x l ih =>
    have hn' := List.nodup_cons.1 hn
    rw [List.idxOf_cons]
    by_cases e : x = d
    · subst e
      simp only [beq_self_eq_true, cond_true, List.map_cons, List.set_cons_zero, if_true]
      congr 1
      refine List.map_congr_left fun m hm => ?_
      rw [if_neg (by rintro rfl; exact hn'.1 hm)]
    · have hne : (x == d) = false := beq_false_of_ne e
      have hd' : d ∈ l := by
        rcases List.mem_cons.1 hd with h | h
        · exact absurd h.symm e
        · exact h
      simp only [hne, cond_false, List.map_cons, List.set_cons_succ, ih hd' hn'.2, if_neg e]
theorem qfm {L : List (List Nat)} {f : List Nat → Int} {d : List Nat} (hd : d ∈ L) : (L.map f).getD (L.idxOf d) 0 = f d := by
  have hi := List.idxOf_lt_length_of_mem hd
  rw [List.getD_eq_getElem?_getD, List.getElem?_map, List.getElem?_eq_getElem hi, List.getElem_idxOf hi]; rfl
theorem k9 {L : List (List Nat)} {f : List Nat → Int} {i : Nat} (h : i < L.length) : (L.map f).getD i 0 = f L[i] := by
  rw [List.getD_eq_getElem?_getD, List.getElem?_map, List.getElem?_eq_getElem h]; rfl
theorem qm0 {L : List (List Nat)} (hn : L.Nodup) {i : Nat} (h : i < L.length) : L.idxOf L[i] = i := by
  have hm : L[i] ∈ L := List.getElem_mem h
  have h1 := List.idxOf_lt_length_of_mem hm
  have h2 : L[L.idxOf L[i]] = L[i] := List.getElem_idxOf h1
  exact (List.getElem_inj hn).1 h2
def atR (L : List (List Nat)) (v : List Int) (m : List Nat) : Int := v.getD (L.idxOf m) 0
theorem qu2 {L : List (List Nat)} (hn : L.Nodup) {v : List Int} (hl : v.length = L.length) : v = L.map (atR L v) := by
  refine List.ext_getElem (by simp [hl]) fun i h1 h2 => ?_
  rw [List.getElem_map]
  unfold atR
  rw [qm0 hn (by omega), List.getD_eq_getElem?_getD, List.getElem?_eq_getElem h1]; rfl
theorem qt4 {L : List (List Nat)} {f : List Nat → Int} {d : List Nat} (hd : d ∈ L) : atR L (L.map f) d = f d := qfm hd
def Zs (f : List Nat → Int) : List (List Nat) → Int
  | [] => 0
  | d :: l => f d + Zs f l
def Jh (f : List Nat → Int) : List (Int × List Nat × Int) → Int
  | [] => 0
  | t :: l => f t.2.1 * t.2.2 + Jh f l
theorem qod {f : List Nat → Int} : ∀ {a b : List (List Nat)}, Zs f (a ++ b) = Zs f a + Zs f b
  | [], b => by simp [Zs]
  | d :: a, b => by simp only [List.cons_append, Zs, qod (a := a)]; omega
theorem K3 {f : List Nat → Int} {L : List (List Nat)} {i : Nat} (h : i < L.length) : Zs f (L.take (i + 1)) = Zs f (L.take i) + f L[i] := by
  rw [List.take_succ_eq_append_getElem h, qod]; simp [Zs]
theorem Xf {f g : List Nat → Int} : ∀ {L : List (List Nat)}, (∀ d ∈ L, f d = g d) → Zs f L = Zs g L
  | [], _ => rfl
  | d :: l, h => by
    simp only [Zs, h d (List.mem_cons_self ..), Xf (L := l) fun e he => h e (List.mem_cons_of_mem _ he)]
theorem qk0 {f g : List Nat → Int} : ∀ {L : List (List Nat)}, Zs (fun d => f d + g d) L = Zs f L + Zs g L
  | [] => rfl
  | d :: l => by simp only [Zs, qk0 (L := l)]; omega
theorem qaf {f : List Nat → Int} {L : List (List Nat)} (h : ∀ d ∈ L, f d = 0) : Zs f L = 0 := by
  induction L with
  | nil => rfl
  | cons d l ih =>
    simp only [Zs, h d (List.mem_cons_self ..), ih fun e he => h e (List.mem_cons_of_mem _ he)]; rfl
theorem qoh {g : List Nat → Int} {e : List Nat} {x : Int} : ∀ {L : List (List Nat)}, L.Nodup → e ∈ L → Zs (fun d => g d * (if e = d then x else 0)) L = g e * x
  | d :: l, hn, he => by
    have hn' := List.nodup_cons.1 hn
    simp only [Zs]
    by_cases h : e = d
    · subst h
      rw [if_pos rfl, qaf fun d hd => by rw [if_neg (by rintro rfl; exact hn'.1 hd), Int.mul_zero]]
      omega
    · have he' : e ∈ l := by
        rcases List.mem_cons.1 he with h' | h'
        · exact absurd h' h
        · exact h'
      rw [if_neg h, Int.mul_zero, qoh hn'.2 he']; omega
theorem qgm {g : List Nat → Int} {L : List (List Nat)} (hn : L.Nodup) : ∀ {a : List (Int × List Nat × Int)}, (∀ t ∈ a, t.2.1 ∈ L) → Zs (fun d => g d * cf d a) L = Jh g a
  | [], _ => by
    simp only [cf, Jh]
    exact qaf fun d _ => Int.mul_zero _
  | t :: a, h => by
    have ih := qgm (g := g) hn (a := a) fun u hu => h u (List.mem_cons_of_mem _ hu)
    have h1 := qoh (g := g) (x := t.2.2) hn (h t (List.mem_cons_self ..))
    simp only [cf, Jh]
    rw [← ih, ← h1, ← qk0]
    exact Xf fun d _ => by rw [Int.mul_add]
theorem qo6 {f : List Nat → Int} {x : Int} : ∀ {a : List (Int × List Nat × Int)}, Jh (fun d => f d * x) a = Jh f a * x
  | [] => by simp [Jh]
  | t :: l => by
    simp only [Jh, qo6 (a := l), Int.add_mul]
    rw [Int.mul_right_comm]
theorem qg1 {p n : Int} {N : Nat} (hN : 1 ≤ N ∧ N ≤ 6) (hn : n = N) {a : List (Int × List Nat × Int)} (h : xb p n a) : ∀ t ∈ a, t.2.1 ∈ qf N := fun t ht => by
  have h1 := h.dia t ht
  subst hn
  rw [Int.toNat_natCast] at h1
  exact qcc h1.2 (h.ok t ht).1
theorem qnc {p x y : Int} (hx : 0 ≤ x ∧ x ≤ p - 1) (hy : 0 ≤ y ∧ y ≤ p - 1) (h : p ∣ x - y) : x = y := by
  obtain ⟨q, hq⟩ := h
  have : q = 0 := by
    rcases Int.lt_trichotomy q 0 with hl | hl | hl
    · exfalso
      have : p * q ≤ p * (-1) := Int.mul_le_mul_of_nonneg_left (by omega) (by omega)
      omega
    · exact hl
    · exfalso
      have : p * 1 ≤ p * q := Int.mul_le_mul_of_nonneg_left (by omega) (by omega)
      omega
  subst this
  omega
theorem qgx {p : Int} (hp : 0 < p) (x : Int) : 0 ≤ x.emod p ∧ x.emod p ≤ p - 1 := ⟨Int.emod_nonneg _ (by omega), Int.le_sub_one_of_lt (Int.emod_lt_of_pos _ hp)⟩
def vq (N : Nat) (a : List (Int × List Nat × Int)) : List Int := (qf N).map fun m => cf m a
def qee (n : Int) (a : List (Int × List Nat × Int)) (L : List (List Nat)) : List (Int × List Nat × Int) := L.filterMap fun m => if cf m a = 0 then none else some (n, m, cf m a)
theorem qzv {p : Int} {N : Nat} (hp : 0 < p) (hN : 1 ≤ N ∧ N ≤ 6) {a : List (Int × List Nat × Int)} (h : xb p (N : Int) a) : qee (N : Int) a (qf N) = a := by
  have hmem : ∀ t ∈ qee (N : Int) a (qf N), t.1 = (N : Int) ∧ t.2.1 ∈ qf N ∧ t.2.2 = cf t.2.1 a ∧ cf t.2.1 a ≠ 0 := fun t ht => by
    obtain ⟨m, hm, e⟩ := List.mem_filterMap.1 ht
    split at e
    · cases e
    · rename_i hne
      cases e
      exact ⟨rfl, hm, rfl, hne⟩
  have hup : upT (qee (N : Int) a (qf N)) := by
    unfold qee upT
    refine List.Pairwise.filterMap _ ?_ (qme hN)
    intro x y hlt t ht u hu
    split at ht
    · cases ht
    · split at hu
      · cases hu
      · cases ht; cases hu
        unfold ltT txt
        rwa [Int.toNat_natCast]
  refine K5 hup h.up ((List.perm_ext_iff_of_nodup (qca hup) (qca h.up)).2 fun t => ?_)
  rw [(b7 h hp t.2.1).2 t rfl]
  constructor
  · intro ht
    obtain ⟨h1, _, h3, h4⟩ := hmem t ht
    exact ⟨h1, h3, h4⟩
  · rintro ⟨h1, h3, h4⟩
    have ht : t ∈ a := ((b7 h hp t.2.1).2 t rfl).2 ⟨h1, h3, h4⟩
    refine List.mem_filterMap.2 ⟨t.2.1, qg1 hN rfl h t ht, ?_⟩
    rw [if_neg h4, ← h3, ← h1]
theorem Vi {N : Nat} {a : List (Int × List Nat × Int)} : (vq N a).length = (qf N).length := by simp [vq]
theorem qgn {p n : Int} (hp : 0 < p) {N : Nat} {a : List (Int × List Nat × Int)} (h : xb p n a) : ∀ x ∈ vq N a, 0 ≤ x ∧ x ≤ p - 1 := fun x hx => by
  obtain ⟨m, _, rfl⟩ := List.mem_map.1 hx
  exact (b7 h hp m).1
noncomputable def wM (p c : Int) (N : Nat) (m d e : List Nat) : Int := if xr N d e = m then xt p c (lpN N d e N) else 0
theorem qpt {p c : Int} {N : Nat} {m : List Nat} {t : Int × List Nat × Int} : ∀ {b : List (Int × List Nat × Int)}, p ∣ Xr id (fun _ => 1) m (b.map (prT p c (N : Int) t)) - Jh (wM p c N m t.2.1) b * t.2.2
  | [] => by simp [Xr, Jh]
  | u :: b => by
    have ih := qpt (p := p) (c := c) (N := N) (m := m) (t := t) (b := b)
    have hd : p ∣ (if xr N t.2.1 u.2.1 = m then ((t.2.2 * u.2.2).emod p * xt p c (lpN N t.2.1 u.2.1 N)) * 1 else 0) - wM p c N m t.2.1 u.2.1 * u.2.2 * t.2.2 := by
      unfold wM
      split
      · obtain ⟨q, hq⟩ := kh p (t.2.2 * u.2.2)
        refine ⟨q * xt p c (lpN N t.2.1 u.2.1 N), ?_⟩
        rw [← Int.mul_assoc, ← hq, Int.sub_mul, Int.mul_one, Int.mul_assoc (xt p c _), Int.mul_comm (xt p c _), Int.mul_comm u.2.2]
      · simp
    have e : Xr id (fun _ => 1) m ((u :: b).map (prT p c (N : Int) t)) = (if xr N t.2.1 u.2.1 = m then ((t.2.2 * u.2.2).emod p * xt p c (lpN N t.2.1 u.2.1 N)) * 1 else 0) + Xr id (fun _ => 1) m (b.map (prT p c (N : Int) t)) := by
      simp only [List.map_cons, Xr, prT, id, Int.toNat_natCast]
    rw [e]
    simp only [Jh, Int.add_mul]
    exact uu hd ih (by omega)
theorem qpf {φ : List Nat → List Nat} {κ : List Nat → Int} {m : List Nat} : ∀ {a b : List (Int × List Nat × Int)}, Xr φ κ m (a ++ b) = Xr φ κ m a + Xr φ κ m b
  | [], b => by simp [Xr]
  | t :: a, b => by simp only [List.cons_append, Xr, qpf (a := a)]; omega
theorem qrh {p c : Int} {N : Nat} {m : List Nat} {b : List (Int × List Nat × Int)} : ∀ {a : List (Int × List Nat × Int)}, p ∣ Xr id (fun _ => 1) m (vb p c (N : Int) a b) - Jh (fun d => Jh (wM p c N m d) b) a
  | [] => by simp [Xr, Jh, vb]
  | t :: a => by
    have ih := qrh (p := p) (c := c) (N := N) (m := m) (b := b) (a := a)
    have h1 := qpt (p := p) (c := c) (N := N) (m := m) (t := t) (b := b)
    have e : vb p c (N : Int) (t :: a) b = b.map (prT p c (N : Int) t) ++ vb p c (N : Int) a b := rfl
    rw [e, qpf]
    simp only [Jh]
    exact uu h1 ih (by omega)
noncomputable def qcp (p c : Int) (N : Nat) (f g : List Nat → Int) (m : List Nat) (d : List Nat) (L : List (List Nat)) : Int := Zs (fun e => wM p c N m d e * (f d * g e)) L
noncomputable def allM (p c : Int) (N : Nat) (f g : List Nat → Int) (m : List Nat) (L : List (List Nat)) : Int := Zs (fun d => qcp p c N f g m d (qf N)) L
theorem q39 {p c : Int} {N : Nat} (hN : 1 ≤ N ∧ N ≤ 6) {m : List Nat} {a b : List (Int × List Nat × Int)} (ha : ∀ t ∈ a, t.2.1 ∈ qf N) (hb : ∀ t ∈ b, t.2.1 ∈ qf N) :
    allM p c N (fun d => cf d a) (fun d => cf d b) m (qf N) = Jh (fun d => Jh (wM p c N m d) b) a := by
  have hn := Xa hN
  rw [← qgm hn ha]
  refine Xf fun d _ => ?_
  rw [← qo6, ← qgm hn hb]
  refine Xf fun e _ => ?_
  rw [Int.mul_assoc]
noncomputable def qd1 (p c : Int) (N : Nat) (v w : List Int) : List Int := (qf N).map fun m => (allM p c N (atR (qf N) v) (atR (qf N) w) m (qf N)).emod p
theorem allM_congr {p c : Int} {N : Nat} {f g f' g' : List Nat → Int} {m : List Nat} (hf : ∀ d ∈ qf N, f d = f' d) (hg : ∀ d ∈ qf N, g d = g' d) : allM p c N f g m (qf N) = allM p c N f' g' m (qf N) :=
  Xf fun d hd => Xf fun e he => by rw [hf d hd, hg e he]
theorem qlu {p c : Int} {N : Nat} (hp : 2 ≤ p ∧ p ≤ 97) (hc : 0 ≤ c ∧ c ≤ p - 1) (hN : 1 ≤ N ∧ N ≤ 6) {a b : List (Int × List Nat × Int)} (ha : xb p (N : Int) a) (hb : xb p (N : Int) b) :
    qd1 p c N (vq N a) (vq N b) = vq N (MP p (N : Int) (vb p c (N : Int) a b)) := by
  unfold qd1
  refine List.map_congr_left fun m hm => ?_
  have hla : a.length ≤ 132 := Xy ha (by omega)
  have hlb : b.length ≤ 132 := Xy hb (by omega)
  have hg := (Un (c := c) hp hc ha hb ⟨by omega, by omega⟩).1
  rw [allM_congr (f' := fun d => cf d a) (g' := fun d => cf d b) (fun d hd => qt4 hd) (fun d hd => qt4 hd), q39 hN (qg1 hN rfl ha) (qg1 hN rfl hb)]
  have h1 := qrh (p := p) (c := c) (N := N) (m := m) (b := b) (a := a)
  have h2 := qi4 (p := p) (n := (N : Int)) (φ := id) (κ := fun _ => 1) (m := m) (acc := []) (a := vb p c (N : Int) a b) (by simp)
  have h3 := kh p (Jh (fun d => Jh (wM p c N m d) b) a)
  refine qnc (qgx (by omega) _) (b7 hg (by omega) m).1 ?_
  have h4 := W1 h3 h2 (z := (Jh (fun d => Jh (wM p c N m d) b) a).emod p - Jh (fun d => Jh (wM p c N m d) b) a - (cf m (chP p (N : Int) id (fun _ => 1) [] (vb p c (N : Int) a b)) - (cf m [] + Xr id (fun _ => 1) m (vb p c (N : Int) a b)))) rfl
  refine W1 h4 h1 ?_
  simp only [MP, cf]
  omega
noncomputable def Xl (p c : Int) (N : Nat) (v w : List Int) (i k : Nat) : List Int :=
  (qf N).map fun m => (allM p c N (atR (qf N) v) (atR (qf N) w) m ((qf N).take i) + qcp p c N (atR (qf N) v) (atR (qf N) w) m ((qf N).getD i []) ((qf N).take k)).emod p
theorem q2h {p c : Int} {N : Nat} {v w : List Int} {i k : Nat} : (Xl p c N v w i k).length = (qf N).length := by simp [Xl]
theorem qtl {p c : Int} {N : Nat} {v w : List Int} (hp : 0 < p) : Xl p c N v w 0 0 = List.replicate (qf N).length 0 := by
  unfold Xl allM qcp
  refine List.ext_getElem (by simp) fun i h1 h2 => ?_
  simp only [List.getElem_map, List.take_zero, Zs, List.getElem_replicate]
  exact Int.zero_emod _
theorem q08 {p c : Int} {N : Nat} {v w : List Int} : Xl p c N v w (qf N).length 0 = qd1 p c N v w := by
  unfold Xl qd1
  refine List.map_congr_left fun m hm => ?_
  rw [List.take_length]
  unfold qcp
  simp only [List.take_zero, Zs, Int.add_zero]
theorem qih {L : List (List Nat)} {i : Nat} (h : i < L.length) : L.getD i [] = L[i] := by
  rw [List.getD_eq_getElem?_getD, List.getElem?_eq_getElem h]; rfl
theorem qq9 {p c : Int} {N : Nat} {v w : List Int} {i : Nat} (h : i < (qf N).length) : Xl p c N v w i (qf N).length = Xl p c N v w (i + 1) 0 := by
  unfold Xl
  refine List.map_congr_left fun m hm => ?_
  unfold allM
  rw [K3 h, List.take_length, qih h]
  simp only [qcp, List.take_zero, Zs, Int.add_zero]
theorem q3i {p c : Int} {N : Nat} {v w : List Int} {i k : Nat} (h : i < (qf N).length) (hz : atR (qf N) v (qf N)[i] = 0) : Xl p c N v w i k = Xl p c N v w (i + 1) 0 := by
  rw [← qq9 h]
  unfold Xl
  refine List.map_congr_left fun m hm => ?_
  have h1 : ∀ L, qcp p c N (atR (qf N) v) (atR (qf N) w) m (qf N)[i] L = 0 := fun L => qaf fun e _ => by rw [hz, Int.zero_mul, Int.mul_zero]
  rw [qih h, h1, h1]
theorem qw5 {p c : Int} {N : Nat} {v w : List Int} {i k : Nat} (h : k < (qf N).length) (hz : atR (qf N) w (qf N)[k] = 0) : Xl p c N v w i k = Xl p c N v w i (k + 1) := by
  unfold Xl
  refine List.map_congr_left fun m hm => ?_
  unfold qcp
  rw [K3 h, hz, Int.mul_zero, Int.mul_zero, Int.add_zero]
theorem qwu {p a x y : Int} (h : p ∣ x - y) : (a.emod p + x).emod p = (a + y).emod p := by
  obtain ⟨q, hq⟩ := kh p a
  obtain ⟨r, hr⟩ := h
  have : a.emod p + x = (a + y) + p * (q + r) := by rw [Int.mul_add]; omega
  rw [this]
  exact Int.add_mul_emod_self_left _ _ _
theorem qyu {p c : Int} {N : Nat} (hN : 1 ≤ N ∧ N ≤ 6) {v w : List Int} {i k : Nat} (hi : i < (qf N).length) (hk : k < (qf N).length) (hin : xr N (qf N)[i] (qf N)[k] ∈ qf N) {x : Int}
    (hx : p ∣ x - xt p c (lpN N (qf N)[i] (qf N)[k] N) * (atR (qf N) v (qf N)[i] * atR (qf N) w (qf N)[k])) :
    (Xl p c N v w i k).set ((qf N).idxOf (xr N (qf N)[i] (qf N)[k])) (((Xl p c N v w i k).getD ((qf N).idxOf (xr N (qf N)[i] (qf N)[k])) 0 + x).emod p) = Xl p c N v w i (k + 1) := by
  have hn := Xa hN
  unfold Xl
  rw [qfm hin, G9 hin hn]
  refine List.map_congr_left fun m hm => ?_
  rw [qih hi]
  have e : qcp p c N (atR (qf N) v) (atR (qf N) w) m (qf N)[i] ((qf N).take (k + 1)) = qcp p c N (atR (qf N) v) (atR (qf N) w) m (qf N)[i] ((qf N).take k) + wM p c N m (qf N)[i] (qf N)[k] * (atR (qf N) v (qf N)[i] * atR (qf N) w (qf N)[k]) := K3 hk
  rw [e]
  split
  · rename_i hm'
    subst hm'
    rw [← Int.add_assoc]
    refine qwu ?_
    unfold wM
    rw [if_pos rfl]
    exact hx
  · rename_i hm'
    have : wM p c N m (qf N)[i] (qf N)[k] = 0 := by
      unfold wM
      rw [if_neg fun h => hm' h.symm]
    rw [this, Int.zero_mul, Int.add_zero]
theorem q1j {p c y : Int} {j : Nat} : ((y * xt p c j).emod p * c).emod p = (y * xt p c (j + 1)).emod p := by
  have e : xt p c (j + 1) = (xt p c j * c).emod p := rfl
  rw [e]
  obtain ⟨q, hq⟩ := kh p (y * xt p c j)
  obtain ⟨r, hr⟩ := kh p (xt p c j * c)
  have h1 : (y * xt p c j).emod p = y * xt p c j + p * q := by omega
  have h2 : (xt p c j * c).emod p = xt p c j * c + p * r := by omega
  have h3 : (y * xt p c j).emod p * c = y * (xt p c j * c) + p * (q * c) := by rw [h1, Int.add_mul, Int.mul_assoc, Int.mul_assoc]
  have h4 : y * (xt p c j * c).emod p = y * (xt p c j * c) + p * (y * r) := by rw [h2, Int.mul_add, Int.mul_left_comm y p r]
  rw [h3, h4]
  have h5 : ∀ z : Int, (y * (xt p c j * c) + p * z).emod p = (y * (xt p c j * c)).emod p := fun z => Int.add_mul_emod_self_left _ _ _
  rw [h5, h5]
theorem q3p {p c : Int} {N : Nat} {v w : List Int} {i k : Nat} (hp : 0 < p) (j : Nat) : 0 ≤ (Xl p c N v w i k).getD j 0 ∧ (Xl p c N v w i k).getD j 0 ≤ p - 1 := by
  unfold Xl
  rw [List.getD_eq_getElem?_getD, List.getElem?_map]
  cases (qf N)[j]? with
  | none => simp; omega
  | some m => exact qgx hp _
def uK (N : Nat) (m : List Nat) : Nat → List Nat
  | 0 => List.replicate 16 0
  | i + 1 => ((uK N m i).set (wd N i) (wd N (m.getD i 0))).set (wd N (m.getD i 0)) (wd N i)
def u2 (N : Nat) (m : List Nat) : Nat → List Nat
  | 0 => uK N m (2 * N)
  | i + 1 => ((u2 N m i).set (rt N i) (rt N (1 - i))).set (rt N (1 - i)) (rt N i)
def ndB : List (List Nat) → Bool
  | [] => true
  | x :: l => (l.all fun y => !(x == y)) && ndB l
theorem q0k : ∀ {l : List (List Nat)}, ndB l = true → l.Nodup
  | [], _ => .nil
  | x :: l, h => by
    simp only [ndB, Bool.and_eq_true, List.all_eq_true] at h
    refine List.nodup_cons.2 ⟨fun hx => ?_, q0k h.2⟩
    have := h.1 x hx
    simp at this
def qlq (N : Nat) : Bool := ((qf N).all fun m => u2 N m 2 == xf N m) && ndB ((qf N).map (xf N))
theorem q65 : qlq 1 = true := by kernel_rfl
theorem q6t : qlq 2 = true := by kernel_rfl
theorem q6u : qlq 3 = true := by kernel_rfl
theorem q6h : qlq 4 = true := by kernel_rfl
theorem qov {N : Nat} (h : 1 ≤ N ∧ N ≤ 4) : (∀ m ∈ qf N, u2 N m 2 = xf N m) ∧ ((qf N).map (xf N)).Nodup := by
  have h0 : qlq N = true := by
    rcases (show N = 1 ∨ N = 2 ∨ N = 3 ∨ N = 4 by omega) with rfl | rfl | rfl | rfl
    · exact q65
    · exact q6t
    · exact q6u
    · exact q6h
  simp only [qlq, Bool.and_eq_true, List.all_eq_true] at h0
  exact ⟨fun m hm => eq_of_beq (h0.1 m hm), q0k h0.2⟩
def eR (N : Nat) (a : List (Int × List Nat × Int)) (i : Nat) : List Int := (qf (N + 1)).map fun m => Zs (fun d => (if xf N d = m then 1 else 0) * cf d a) ((qf N).take i)
theorem q7l {N i : Nat} {a : List (Int × List Nat × Int)} : (eR N a i).length = (qf (N + 1)).length := by simp [eR]
theorem qn6 {N : Nat} {a : List (Int × List Nat × Int)} : eR N a 0 = List.replicate (qf (N + 1)).length 0 := by
  unfold eR
  refine List.ext_getElem (by simp) fun i h1 h2 => ?_
  simp only [List.getElem_map, List.take_zero, Zs, List.getElem_replicate]
theorem qrs {N i : Nat} (hN : 1 ≤ N ∧ N ≤ 4) (hi : i < (qf N).length) : ∀ d ∈ (qf N).take i, xf N d ≠ xf N (qf N)[i] := fun d hd e => by
  obtain ⟨j, hj, rfl⟩ := List.getElem_of_mem hd
  rw [List.length_take] at hj
  rw [List.getElem_take] at e
  have hn := (qov hN).2
  have h1 : ((qf N).map (xf N))[j]'(by rw [List.length_map]; omega) = ((qf N).map (xf N))[i]'(by rw [List.length_map]; omega) := by
    rw [List.getElem_map, List.getElem_map, e]
  have := (List.getElem_inj hn).1 h1
  omega
theorem quf {N : Nat} (hN : 1 ≤ N ∧ N ≤ 4) {m : List Nat} (hm : m ∈ qf N) : xf N m ∈ qf (N + 1) := by
  have h1 := V6 (n := N) (by omega) hm
  have h2 := qia (n := N) (by omega) h1.1
  exact qcc h2.1 h2.2.1
theorem q0n {N i : Nat} (hN : 1 ≤ N ∧ N ≤ 4) {a : List (Int × List Nat × Int)} (hi : i < (qf N).length) : (eR N a i).set ((qf (N + 1)).idxOf (xf N (qf N)[i])) (cf (qf N)[i] a) = eR N a (i + 1) := by
  unfold eR
  rw [G9 (quf hN (List.getElem_mem hi)) (Xa (by omega))]
  refine List.map_congr_left fun m hm => ?_
  rw [K3 hi]
  split
  · rename_i e
    subst e
    rw [if_pos rfl, qaf fun d hd => by rw [if_neg (qrs hN hi d hd), Int.zero_mul]]
    omega
  · rename_i e
    rw [if_neg fun h => e h.symm]
    omega
theorem q5u {p n : Int} {N : Nat} (hN : 1 ≤ N ∧ N ≤ 4) (hp : 0 < p) {a : List (Int × List Nat × Int)} (h : xb p n a) : ∀ i, i ≤ (qf N).length → ∀ x ∈ eR N a i, 0 ≤ x ∧ x ≤ p - 1
  | 0, _, x, hx => by
    rw [qn6] at hx
    rw [List.eq_of_mem_replicate hx]; omega
  | i + 1, hi, x, hx => by
    rw [← q0n hN (by omega)] at hx
    rcases List.mem_or_eq_of_mem_set hx with hx | rfl
    · exact q5u hN hp h i (by omega) x hx
    · exact (b7 h hp _).1
theorem qlk {φ : List Nat → List Nat} {m : List Nat} : ∀ {a : List (Int × List Nat × Int)}, Jh (fun d => if φ d = m then 1 else 0) a = Xr φ (fun _ => 1) m a
  | [] => rfl
  | t :: l => by
    simp only [Jh, Xr, qlk (a := l)]
    split <;> omega
theorem q7j {p : Int} {N : Nat} (hN : 1 ≤ N ∧ N ≤ 4) (hp : 2 ≤ p ∧ p ≤ 97) {a : List (Int × List Nat × Int)} (h : xb p (N : Int) a) : eR N a (qf N).length = vq (N + 1) (Zt p (N : Int) a) := by
  have hg := (Bc hp (by omega) h).1
  have hb := q5u hN (by omega) h (qf N).length (Nat.le_refl _)
  unfold eR vq at *
  refine List.map_congr_left fun m hm => ?_
  have hx := hb _ (List.mem_map.2 ⟨m, hm, rfl⟩)
  refine qnc hx (b7 hg (by omega) m).1 ?_
  rw [List.take_length, qgm (Xa (by omega)) (qg1 (by omega) rfl h), qlk]
  have h2 := qi4 (p := p) (n := (N : Int) + 1) (φ := xf N) (κ := fun _ => 1) (m := m) (acc := []) (a := a) (by simp)
  have e : Zt p (N : Int) a = chP p ((N : Int) + 1) (xf N) (fun _ => 1) [] a := by unfold Zt; rw [Int.toNat_natCast]
  rw [e]
  exact W1 (Int.dvd_zero p) h2 (by simp only [cf]; omega)
theorem q36 {N : Nat} : List.replicate (qf N).length (0 : Int) = (qf N).map fun _ => 0 := by
  refine List.ext_getElem (by simp) fun i h1 h2 => ?_
  simp
theorem row_one {N : Nat} (hN : 1 ≤ N ∧ N ≤ 6) {m : List Nat} (hm : m ∈ qf N) : (List.replicate (qf N).length (0 : Int)).set ((qf N).idxOf m) 1 = vq N [((N : Int), m, 1)] := by
  rw [q36, G9 hm (Xa hN)]
  refine List.map_congr_left fun d hd => ?_
  simp only [cf]
  by_cases e : d = m
  · rw [if_pos e, if_pos e.symm]; rfl
  · rw [if_neg e, if_neg fun h => e h.symm]; rfl
theorem qy2 {p c : Int} (hp : 2 ≤ p ∧ p ≤ 97) {N : Nat} {X : Int} {a b : List (Int × List Nat × Int)} (ha : xb p (N : Int) a) (hb : xb p (N : Int) b) {i : Nat} (hi : i < (qf N).length) :
    (vq N (qbm p (N : Int) (-X) a b)).getD i 0 = ((vq N a).getD i 0 - X * (vq N b).getD i 0).emod p := by
  unfold vq
  rw [k9 hi, k9 hi, k9 hi]
  have hg := (qdq (k := -X) (by omega) ha hb).1
  have h1 := qmg (p := p) (n := (N : Int)) (k := -X) (m := (qf N)[i]) (acc := a) (b := b) (fun t ht => (ha.dia t ht).1)
  refine qnc (b7 hg (by omega) _).1 (qgx (by omega) _) ?_
  have h2 := kh p (cf (qf N)[i] a - X * cf (qf N)[i] b)
  refine W1 h1 h2 ?_
  rw [Int.neg_mul]
  omega
def qeb (v w : List Int) (i : Nat) : List Int := v.take i ++ w.drop i
theorem q0j {v w : List Int} {i : Nat} (h : v.length = w.length) : (qeb v w i).length = w.length := by
  unfold qeb; rw [List.length_append, List.length_take, List.length_drop]; omega
theorem q1w {v w : List Int} {i : Nat} (h : v.length = w.length) (hi : i < w.length) : (qeb v w i).getD i 0 = w.getD i 0 := by
  unfold qeb
  rw [List.getD_eq_getElem?_getD, List.getD_eq_getElem?_getD, List.getElem?_append_right (by rw [List.length_take]; omega), List.length_take, List.getElem?_drop]
  congr 2; omega
theorem q2i {v w : List Int} {i : Nat} (h : v.length = w.length) (hi : i < w.length) : (qeb v w i).set i (v.getD i 0) = qeb v w (i + 1) := by
  have hv : i < v.length := by omega
  unfold qeb
  rw [List.set_append_right _ _ (by rw [List.length_take]; omega), List.length_take, show i - min i v.length = 0 by omega, List.drop_eq_getElem_cons hi, List.set_cons_zero, List.take_succ_eq_append_getElem hv, List.append_assoc,
    List.getD_eq_getElem?_getD, List.getElem?_eq_getElem hv]
  rfl
theorem q2n {v w : List Int} (h : v.length = w.length) : qeb v w w.length = v := by
  unfold qeb; rw [List.drop_length, List.append_nil, ← h, List.take_length]
theorem qvq {p c : Int} {k : Nat} : jq p c (k + 1) = qbm p ((k + 2 : Nat) : Int) (-(Ka p c (k + 1))) (Zt p ((k + 1 : Nat) : Int) (jq p c k))
      (MP p ((k + 2 : Nat) : Int) (vb p c ((k + 2 : Nat) : Int) (MP p ((k + 2 : Nat) : Int) (vb p c ((k + 2 : Nat) : Int) (Zt p ((k + 1 : Nat) : Int) (jq p c k)) [(((k + 2 : Nat) : Int), Xo (k + 2) k, 1)])) (Zt p ((k + 1 : Nat) : Int) (jq p c k)))) := rfl
noncomputable def Uh (p c : Int) (n : Nat) : List Int := vq n (jq p c (n - 1))
theorem qzz {p c : Int} : Uh p c 1 = [1] := by
  have h : qf 1 = [wk 1] := by kernel_rfl
  unfold Uh vq
  rw [h]
  simp [jq, cf]
end Go.Proofs.Ytfhckbbgmblhbaa
namespace Go.Proofs.Ytfhckbbgmblhbaa
open Go.Am Go.Dia
open Nat renaming reduceAdd → nA, reduceMul → nM, reduceSub → nS, reduceEqDiff → nE, reduceLT → nL, reduceLeDiff → nD, reduceBEq → nB
open Int renaming reduceEq → iE, reduceNe → iN, reduceBEq → iB, reduceBNe → iC, reduceLT → iL, reduceLE → iD, reduceAdd → iA, reduceSub → iS, reduceMul → iM
set_option linter.unusedSimpArgs false
set_option linter.unusedVariables false
set_option maxRecDepth 4000
set_option maxHeartbeats 2000000
def qgc (n l a i : Int) : Int := if i < n then l + i else a + l + i - n
def qbp (n l a i : Int) : Prop := (0 ≤ n ∧ n ≤ 100) ∧ (0 ≤ l ∧ l ≤ 100) ∧ (0 ≤ a ∧ a ≤ 100) ∧ 0 ≤ i ∧ i ≤ 100
instance {n l a i : Int} : Decidable (qbp n l a i) := inferInstanceAs (Decidable (_ ∧ _))
def Bd : AC := .seq (.region [oI 8 0]) (.seq (.seq (.region [oM 9 3,oM 10 0,oP 11 .lss 9 10]) (.cond 11 (.seq (.region [oM 12 1,oM 13 3,oP 14 .add 12 13,oM 8 14]) .ret) .skip)) (.seq (.region [oM 15 2,oM 16 1,oP 17 .add 15 16,oM 18 3,oP 19 .add 17 18,oM 20 0,oP 21 .sub 19 20,oM 8 21]) .ret))
theorem qm2 : zj Try.prog 166 = some ⟨22, Bd, [.slot 8]⟩ := by kernel_rfl
theorem qmm (n l a i : Int) (h : qbp n l a i) : Am.Fn Try.prog 166 [.int .i64 n, .int .i64 l, .int .i64 a, .int .i64 i] [] (fun v H' => v = .int .i64 (qgc n l a i) ∧ H' = []) := by
  refine Am.Fn.xm (R := fun v => v = _) K6 mixed qm2 (by simp [AV.qu, AV.under]) (by simp) ?_
  obtain ⟨h1, h2, h3, h4⟩ := h
  have w1 : qn .i64 (l + i) = l + i := wrap64 (by omega) (by omega)
  have w2 : qn .i64 (a + l) = a + l := wrap64 (by omega) (by omega)
  have w3 : qn .i64 (a + l + i) = a + l + i := wrap64 (by omega) (by omega)
  have w4 : qn .i64 (a + l + i - n) = a + l + i - n := wrap64 (by omega) (by omega)
  by_cases hi : i < n
  · have e : qgc n l a i = l + i := if_pos hi
    simp (maxSteps := 3000000) only [qh, zH, Bd, hi, w1, w2, w3, w4, e, iE, iN, iB, iC, iL, iD, iA, iS, iM, qa, zZ, ↓qp, ↓reduceIte, reduceCtorEq, nA, nM, nS, nE, nL, nD]; try simp only [qa, zY]
  · have e : qgc n l a i = a + l + i - n := if_neg hi
    simp (maxSteps := 3000000) only [qh, zH, Bd, hi, w1, w2, w3, w4, e, iE, iN, iB, iC, iL, iD, iA, iS, iM, qa, zZ, ↓qp, ↓reduceIte, reduceCtorEq, nA, nM, nS, nE, nL, nD]; try simp only [qa, zY]
def qcs : List AV → Option AV
  | [.int .i64 n, .int .i64 l, .int .i64 a, .int .i64 i] => chk (qbp n l a i) (some (.int .i64 (qgc n l a i)))
  | _ => none
theorem q8b : Am.Callee Try.prog 166 (qk qcs) := Am.Callee.plain fun xs v he => by
  unfold qcs at he
  split at he
  · rename_i n l a i
    obtain ⟨h1, he⟩ := ql he
    cases he
    exact ⟨rfl, rfl, qmm n l a i h1⟩
  · cases he
noncomputable def q1s : za := ((qxh.put 77 (qk Jy)).put 166 (qk qcs))
theorem qgs : qo Try.prog q1s := ((qus.put (q33)).put (q8b))
theorem uf : q1s 91 = some (qk Gz) := rfl
theorem we : q1s 139 = some (qk j4) := rfl
theorem vu : q1s 166 = some (qk qcs) := rfl
theorem qla : okD (List.replicate 16 0) := ⟨by simp, by intro x hx; simp at hx; omega⟩
theorem qt2 {N : Nat} {m : List Nat} (hN : 1 ≤ N ∧ N ≤ 7) (hs : isS N m = true) : ∀ i, i ≤ 2 * N → okD (uK N m i)
  | 0, _ => qla
  | i + 1, hi => by
    have hb := qiq hs (show i < 2 * N by omega)
    exact Xv (qt2 hN hs i (by omega)) (by unfold wd; split <;> omega) (by unfold wd; split <;> omega)
theorem q00 {N : Nat} {m : List Nat} (hN : 1 ≤ N ∧ N ≤ 7) (hs : isS N m = true) : ∀ i, i ≤ 2 → okD (u2 N m i)
  | 0, _ => qt2 hN hs _ (Nat.le_refl _)
  | i + 1, hi => Xv (q00 hN hs i (by omega)) (by unfold rt; split <;> omega) (by unfold rt; split <;> omega)
def gu : AC := .seq (.seq (.region [oM 35 8,oF 36 0 2,oL 37 36,o0 38 (.bin .mul (.c (.int .i64 2)) (.t 37)),oP 39 .lss 35 38]) (.cond 39 .skip (.exit 1))) (.seq (.block 2 (.draw true [oN 42 17 7,oF 43 0 2,oL 44 43,oM 45 6,oM 46 8,oF 48 0 2,oL 49 48,oM 50 6,oM 51 8,oF 52 1 2,o0 53 (.zz 16 1 (.t 52) (.t 51)),oL 54 53,o0 55 (.conv .i64 (.t 54)),oC 47 166 [.t 44,(.c (.int .i64 0)),.t 45,.t 46],oC 56 166 [.t 49,(.c (.int .i64 0)),.t 50,.t 55],oC 57 139 [.t 42,.t 47,.t 56],oS 17 7 57])) (.region [oM 40 8,oK 41 .add 40 1,oM 8 41]))
def gm : AC := .seq (.seq (.region [oM 58 9,oF 59 0 3,oL 60 59,o0 61 (.bin .mul (.c (.int .i64 2)) (.t 60)),oP 62 .lss 58 61]) (.cond 62 .skip (.exit 3))) (.seq (.block 4 (.draw true [oN 65 17 7,oF 66 0 3,oL 67 66,oF 68 0 2,oL 69 68,oM 70 6,oM 71 9,oF 73 0 3,oL 74 73,oF 75 0 2,oL 76 75,oM 77 6,oM 78 9,oF 79 1 3,o0 80 (.zz 16 1 (.t 79) (.t 78)),oL 81 80,o0 82 (.conv .i64 (.t 81)),oC 72 166 [.t 67,.t 69,.t 70,.t 71],oC 83 166 [.t 74,.t 76,.t 77,.t 82],oC 84 139 [.t 65,.t 72,.t 83],oS 17 7 84])) (.region [oM 63 9,oK 64 .add 63 1,oM 9 64]))
def gp : AC := .seq (.region [oN 85 17 7,oS 17 4 85,oI 5 0]) .ret
def Jq : AC := .seq (.seq (.region [oI 9 0]) (.block 3 (.loop gm))) gp
def Uc : AC := .seq (.region [o0 2 (.box (.t 0)),o0 3 (.box (.t 1)),oD 4,oI 5 0]) (.seq (.block 0 (.seq (.region [oN 11 17 2,oC 12 91 [.t 11],o0 13 (.un .not (.t 12)),oM 14 13,oG 15 14 false (.Yb 17 (.t 3)),⟨some 16,some (14,false),.call (.c (.fn 91 [] [])) [.t 15]⟩,oG 17 14 false (.un .not (.t 16)),o0 18 (.pick (.t 14) (.c (.bool true)) (.t 17)),oM 10 18]) (.cond 10 (.seq (.region [o0 19 (.build [.int .i64 0,.int .u8 0,.int .u8 0,.int .u8 0,.int .u8 0,.int .u8 0,.int .u8 0,.int .u8 0,.int .u8 0,.int .u8 0,.int .u8 0,.int .u8 0,.int .u8 0,.int .u8 0,.int .u8 0,.int .u8 0,.int .u8 0] []),oS 17 4 19,oI 5 1]) .ret) (.seq (.region [oF 21 0 2,oL 22 21,oF 23 0 3,oL 24 23,oP 25 .add 22 24,oK 26 .gtr 25 8,oM 20 26]) (.cond 20 (.seq (.region [o0 27 (.build [.int .i64 0,.int .u8 0,.int .u8 0,.int .u8 0,.int .u8 0,.int .u8 0,.int .u8 0,.int .u8 0,.int .u8 0,.int .u8 0,.int .u8 0,.int .u8 0,.int .u8 0,.int .u8 0,.int .u8 0,.int .u8 0,.int .u8 0] []),oS 17 4 27,oI 5 3]) .ret) .skip))))) (.seq (.region [oF 28 0 2,oL 29 28,oF 30 0 3,oL 31 30,oP 32 .add 29 31,oM 6 32]) (.seq (.region [oM 33 6,o0 34 (.build [.int .i64 0,.int .u8 0,.int .u8 0,.int .u8 0,.int .u8 0,.int .u8 0,.int .u8 0,.int .u8 0,.int .u8 0,.int .u8 0,.int .u8 0,.int .u8 0,.int .u8 0,.int .u8 0,.int .u8 0,.int .u8 0,.int .u8 0] [(0,1,.t 33)]),oD 7,oS 17 7 34]) (.seq (.seq (.region [oI 8 0]) (.block 1 (.loop gu))) Jq))))
theorem qet : zj Try.prog 135 = some ⟨86, Uc, [.wu 4 17, .slot 5]⟩ := by kernel_rfl
theorem qxg (N : Nat) (m : List Nat) (hN : 1 ≤ N ∧ N ≤ 7) (hm : okD m) (hs : isS N m = true) :
    Am.Fn Try.prog 135 [.agg (dia N m), .agg (dia 1 (wk 1))] [] (fun v H' => v = .tup [.agg (dia ((N + 1 : Nat) : Int) (u2 N m 2)), .int .i64 0] ∧ H' = []) := by
  refine Am.Fn.xm (R := fun v => v = _) qgs mixed qet (by simp [AV.qu, AV.under, qj _ _ (qg _ _)]) (by simp) ?_
  have hml := hm.1
  have hu := Vs (n := 1) (by omega)
  have hul := hu.1
  have hus : isS 1 (wk 1) = true := by kernel_rfl
  have h1 : qn .i64 ((N : Int) + 1) = ((N + 1 : Nat) : Int) := by rw [wrap64 (by omega) (by omega)]; rfl
  have h2 : qn .i64 (2 * (N : Int)) = ((2 * N : Nat) : Int) := by rw [wrap64 (by omega) (by omega)]; rfl
  have h8 : ¬ (8 : Int) < ((N + 1 : Nat) : Int) := by omega
  have hn0 : (0 : Int) ≤ (N : Int) := by omega
  simp (maxSteps := 3000000) only [qh, zH, Uc, uf, we, vu, Gz, qcs, j4, qy hm, qy hu, hs, hus, h1, h2, h8, hn0, x7, zq, kx, qe, hml, hul, w9, zx, xq xa xa, List.length_replicate, Int.toNat_natCast, Int.toNat_one, qw hml, qw hul, and_self, iE, iN, iB, iC, iL, iD, iA, iS, iM, qa, zZ, ↓qp, ↓reduceIte, reduceCtorEq, nA, nM, nS, nE, nL, nD]; try simp only [qa, zY]
  refine WA.xo qgs (fun s => ∃ i : Nat, i ≤ 2 * N ∧ s = ⟨[(2, .ptr 0 0), (3, .ptr 1 0), (4, .ptr 2 0), (5, .int .i64 0), (6, .int .i64 (N + 1 : Nat)), (7, .ptr 3 0), (8, .int .i64 i)], [.cells (dia N m), .cells (dia 1 (wk 1)), .cells (dia 0 (List.replicate 16 0)), .cells (dia ((N + 1 : Nat) : Int) (uK N m i))]⟩)
    (fun s => match get s.env 8 with | .int _ x => 2 * N - x.toNat | _ => 0) ⟨_, qt.qv [2, 3, 4, 5, 6, 7, 8], 0, by omega, rfl⟩ ?_
  rintro s ⟨i, hi, rfl⟩
  have hw : qn .i64 ((i : Int) + 1) = ((i + 1 : Nat) : Int) := by rw [wrap64 (by omega) (by omega)]; rfl
  have hkk := qt2 hN hs i hi
  by_cases hlt : i < 2 * N
  · have hli : (i : Int) < ((2 * N : Nat) : Int) := by omega
    have hb := qiq hs hlt
    obtain ⟨hi16, hi16'⟩ := vl (show i < 16 by omega)
    have hi17 : i < 16 := by omega
    have hnext : uK N m (i + 1) = ((uK N m i).set (wd N i) (wd N (m.getD i 0))).set (wd N (m.getD i 0)) (wd N i) := rfl
    have hk2 := qt2 hN hs (i + 1) (by omega)
    have a1 : wd N i < 16 := by unfold wd; split <;> omega
    have b1 : wd N (m.getD i 0) < 16 := by unfold wd; split <;> omega
    generalize hx : m.getD i 0 = x at hb b1 hnext
    have hcv : qn .i64 (x : Int) = (x : Int) := jr (by omega)
    have s1 : qbp (N : Int) 0 ((N + 1 : Nat) : Int) (i : Int) := ⟨by omega, by omega, by omega, by omega⟩
    have s2 : qbp (N : Int) 0 ((N + 1 : Nat) : Int) (x : Int) := ⟨by omega, by omega, by omega, by omega⟩
    have m1 : qgc (N : Int) 0 ((N + 1 : Nat) : Int) (i : Int) = (wd N i : Nat) := by unfold qgc wd; split <;> split <;> omega
    have m2 : qgc (N : Int) 0 ((N + 1 : Nat) : Int) (x : Int) = (wd N x : Nat) := by unfold qgc wd; split <;> split <;> omega
    have j1 : (0 : Int) ≤ ((wd N i : Nat) : Int) ∧ ((wd N i : Nat) : Int) < 16 := by omega
    have j2 : (0 : Int) ≤ ((wd N x : Nat) : Int) ∧ ((wd N x : Nat) : Int) < 16 := by omega
    rw [hnext] at hk2
    simp (maxSteps := 3000000) only [qh, zH, gu, uf, we, vu, Gz, qcs, j4, hw, h2, hli, hx, hcv, s1, s2, m1, m2, j1, j2, qy hkk, hi16, hi16', hi17, AV.one, qe, hml, hkk.1, hk2.1, qw hkk.1, qw hk2.1, xq hkk.1 hk2.1, zx, Int.toNat_natCast, and_self, iE, iN, iB, iC, iL, iD, iA, iS, iM, qa, zZ, ↓qp, ↓reduceIte, reduceCtorEq, nA, nM, nS, nE, nL, nD]; try simp only [qa, zY]
    repeat' refine And.intro (by first | rfl | exact ⟨_, rfl⟩) ?_
    refine ⟨_, qt.qv [2, 3, 4, 5, 6, 7, 8], ⟨i + 1, by omega, ?_⟩, ?_⟩
    · simp only [zL, ↓reduceIte, reduceCtorEq, nE, nA]; rw [hnext]
    · simp only [zL, ↓reduceIte, reduceCtorEq, nE, nA]; omega
  · have hli : ¬ (i : Int) < ((2 * N : Nat) : Int) := by omega
    obtain rfl : i = 2 * N := by omega
    have h22 : qn .i64 2 = 2 := wrap64 (by omega) (by omega)
    simp (maxSteps := 3000000) only [qh, zH, gu, gp, Jq, uf, we, vu, Gz, qcs, j4, h2, hli, Int.lt_irrefl, iE, iN, iB, iC, iL, iD, iA, iS, iM, qa, zZ, ↓qp, ↓reduceIte, reduceCtorEq, nA, nM, nS, nE, nL, nD]; try simp only [qa, zY]
    refine WA.xo qgs (fun s => ∃ i : Nat, i ≤ 2 ∧ s = ⟨[(2, .ptr 0 0), (3, .ptr 1 0), (4, .ptr 2 0), (5, .int .i64 0), (6, .int .i64 (N + 1 : Nat)), (7, .ptr 3 0), (9, .int .i64 i)], [.cells (dia N m), .cells (dia 1 (wk 1)), .cells (dia 0 (List.replicate 16 0)), .cells (dia ((N + 1 : Nat) : Int) (u2 N m i))]⟩)
      (fun s => match get s.env 9 with | .int _ x => 2 - x.toNat | _ => 0) ⟨_, qt.qv [2, 3, 4, 5, 6, 7, 9], 0, by omega, rfl⟩ ?_
    clear hw hkk hi
    rintro s ⟨i, hi, rfl⟩
    have hw : qn .i64 ((i : Int) + 1) = ((i + 1 : Nat) : Int) := by rw [wrap64 (by omega) (by omega)]; rfl
    have hkk := q00 hN hs i hi
    by_cases hlt : i < 2
    · have hli : (i : Int) < 2 := by omega
      have hnext : u2 N m (i + 1) = ((u2 N m i).set (rt N i) (rt N (1 - i))).set (rt N (1 - i)) (rt N i) := rfl
      have hk2 := q00 hN hs (i + 1) (by omega)
      have a1 : rt N i < 16 := by unfold rt; split <;> omega
      have b1 : rt N (1 - i) < 16 := by unfold rt; split <;> omega
      have hx : (wk 1).getD i 0 = 1 - i := by
        rcases (show i = 0 ∨ i = 1 by omega) with rfl | rfl <;> rfl
      obtain ⟨hi16, hi16'⟩ := vl (show i < 16 by omega)
      have hi17 : i < 16 := by omega
      have hcv : qn .i64 ((1 - i : Nat) : Int) = ((1 - i : Nat) : Int) := jr (by omega)
      have s1 : qbp 1 (N : Int) ((N + 1 : Nat) : Int) (i : Int) := ⟨by omega, by omega, by omega, by omega⟩
      have s2 : qbp 1 (N : Int) ((N + 1 : Nat) : Int) ((1 - i : Nat) : Int) := ⟨by omega, by omega, by omega, by omega⟩
      have m1 : qgc 1 (N : Int) ((N + 1 : Nat) : Int) (i : Int) = (rt N i : Nat) := by unfold qgc rt; split <;> split <;> omega
      have m2 : qgc 1 (N : Int) ((N + 1 : Nat) : Int) ((1 - i : Nat) : Int) = (rt N (1 - i) : Nat) := by unfold qgc rt; split <;> split <;> omega
      have j1 : (0 : Int) ≤ ((rt N i : Nat) : Int) ∧ ((rt N i : Nat) : Int) < 16 := by omega
      have j2 : (0 : Int) ≤ ((rt N (1 - i) : Nat) : Int) ∧ ((rt N (1 - i) : Nat) : Int) < 16 := by omega
      rw [hnext] at hk2
      simp (maxSteps := 3000000) only [qh, zH, gm, uf, we, vu, Gz, qcs, j4, hw, h22, hli, hx, hcv, s1, s2, m1, m2, j1, j2, qy hkk, hi16, hi16', hi17, AV.one, qe, hul, hkk.1, hk2.1, qw hkk.1, qw hk2.1, xq hkk.1 hk2.1, zx, Int.toNat_natCast, and_self, iE, iN, iB, iC, iL, iD, iA, iS, iM, qa, zZ, ↓qp, ↓reduceIte, reduceCtorEq, nA, nM, nS, nE, nL, nD]; try simp only [qa, zY]
      repeat' refine And.intro (by first | rfl | exact ⟨_, rfl⟩) ?_
      refine ⟨_, qt.qv [2, 3, 4, 5, 6, 7, 9], ⟨i + 1, by omega, ?_⟩, ?_⟩
      · simp only [zL, ↓reduceIte, reduceCtorEq, nE, nA]; rw [hnext]
      · simp only [zL, ↓reduceIte, reduceCtorEq, nE, nA]; omega
    · have hli : ¬ (i : Int) < 2 := by omega
      have ei : i = 2 := by omega
      simp (maxSteps := 3000000) only [qh, zH, gm, gp, uf, we, vu, Gz, qcs, j4, h22, hli, qe, hkk.1, qw hkk.1, xq xa hkk.1, zx, List.length_replicate, Int.lt_irrefl, iE, iN, iB, iC, iL, iD, iA, iS, iM, qa, zZ, ↓qp, ↓reduceIte, reduceCtorEq, nA, nM, nS, nE, nL, nD]; try simp only [qa, zY]
      subst ei
      first | exact ⟨by simp only [AV.ze, AV.zo, qg, Bool.and_self], rfl⟩ | trace_state
noncomputable def qcj : List AV → Option AV
  | [.agg d, .agg e] => match vn d, vn e with
    | some (n, m), some (n', m') => chk ((n' = 1 ∧ m' = wk 1) ∧ isS n.toNat m = true ∧ 1 ≤ n ∧ n ≤ 7) (some (.tup [.agg (dia (n + 1) (u2 n.toNat m 2)), .int .i64 0]))
    | _, _ => none
  | _ => none
theorem q9s : Am.Callee Try.prog 135 (qk qcj) := Am.Callee.plain fun xs v he => by
  unfold qcj at he
  split at he
  · rename_i d e
    split at he
    · rename_i n m n' m' h1 h2
      obtain ⟨⟨⟨e1, e2⟩, e3, e4⟩, he⟩ := ql he
      cases he
      obtain ⟨rfl, hm⟩ := zm h1
      obtain ⟨rfl, hm'⟩ := zm h2
      subst e1 e2
      obtain ⟨N, rfl⟩ : ∃ N : Nat, n = N := ⟨n.toNat, by omega⟩
      rw [Int.toNat_natCast] at e3 ⊢
      exact ⟨by simp [AV.ze, AV.zo, qg], by simp [AV.ze, AV.zo, qg], qxg N m (by omega) hm e3⟩
    · cases he
  · cases he
noncomputable def q9b : za := (q1s.put 135 (qk qcj))
theorem q44 : qo Try.prog q9b := (qgs.put (q9s))
def strs (l : List (List UInt8)) : List AV := l.map AV.str
theorem jk : ∀ l : List (List UInt8), AV.ze (strs l) = true
  | [] => rfl
  | x :: l => by
    have ih := jk l
    simp only [strs, List.map_cons, AV.ze, AV.zo, Bool.true_and]
    exact ih
theorem qe5 (l : List (List UInt8)) : (strs l).length = l.length := by simp [strs]
def qbo : List AV → Option (List (List UInt8))
  | [] => some []
  | .str s :: r => match qbo r with
    | some l => some (s :: l)
    | none => none
  | _ => none
theorem Wt : ∀ l : List (List UInt8), qbo (strs l) = some l
  | [] => rfl
  | x :: l => by
    have ih := Wt l
    simp only [strs, List.map_cons, qbo] at ih ⊢
    rw [ih]
theorem qfn : ∀ {l : List AV} {m : List (List UInt8)}, qbo l = some m → l = strs m
  | [], m, h => by cases h; rfl
  | a :: l, m, h => by
    cases a <;> (try (simp only [qbo, reduceCtorEq] at h; done))
    simp only [qbo] at h
    split at h
    · rename_i r hr
      cases h
      rw [qfn hr]; rfl
    · cases h
def txs (t : List UInt8) (o r : Nat) : List (List UInt8) := (brs (o + 2 * r) o).map (t ++ ·)
theorem qmu : ∀ r o, (brs r o).length ≤ 2 ^ r
  | 0, o => by simp only [brs]; split <;> simp
  | r + 1, o => by
    have h1 := qmu r (o + 1)
    have h2 := qmu r (o - 1)
    simp only [brs, List.length_append, List.length_map]
    rw [Nat.pow_succ]
    split
    · rw [List.length_map]; omega
    · rw [List.length_nil]; omega
theorem qul {t : List UInt8} {o r : Nat} : (txs t o r).length ≤ 2 ^ (o + 2 * r) := by rw [txs, List.length_map]; exact qmu _ _
theorem qqd {t : List UInt8} : txs t 0 0 = [t] := by simp [txs, brs]
theorem Jt {t : List UInt8} {x : UInt8} {l : List (List UInt8)} : (l.map (x :: ·)).map (t ++ ·) = l.map ((t ++ [x]) ++ ·) := by
  rw [List.map_map]
  exact List.map_congr_left fun y _ => by simp
theorem qqw {t : List UInt8} {o r : Nat} (ho : 0 < o) (hr : 0 < r) : txs t o r = txs (t ++ [40]) (o + 1) (r - 1) ++ txs (t ++ [41]) (o - 1) r := by
  obtain ⟨o, rfl⟩ : ∃ j, o = j + 1 := ⟨o - 1, by omega⟩
  obtain ⟨r, rfl⟩ : ∃ j, r = j + 1 := ⟨r - 1, by omega⟩
  unfold txs
  rw [show o + 1 + 2 * (r + 1) = (o + 2 * r + 2) + 1 by omega, show o + 1 + 1 + 2 * (r + 1 - 1) = o + 2 * r + 2 by omega, show o + 1 - 1 + 2 * (r + 1) = o + 2 * r + 2 by omega]
  rw [show brs (o + 2 * r + 2 + 1) (o + 1) = (brs (o + 2 * r + 2) (o + 1 + 1)).map (40 :: ·) ++ (if 0 < o + 1 then (brs (o + 2 * r + 2) (o + 1 - 1)).map (41 :: ·) else []) from rfl, if_pos (by omega), List.map_append, Jt, Jt]
theorem qp0 {t : List UInt8} {r : Nat} (hr : 0 < r) : txs t 0 r = txs (t ++ [40]) 1 (r - 1) := by
  obtain ⟨r, rfl⟩ : ∃ j, r = j + 1 := ⟨r - 1, by omega⟩
  unfold txs
  rw [show 0 + 2 * (r + 1) = (2 * r + 1) + 1 by omega, show 1 + 2 * (r + 1 - 1) = 2 * r + 1 by omega]
  rw [show brs (2 * r + 1 + 1) 0 = (brs (2 * r + 1) 1).map (40 :: ·) ++ (if 0 < 0 then (brs (2 * r + 1) (0 - 1)).map (41 :: ·) else []) from rfl, if_neg (by omega), List.append_nil, Jt]
theorem ql7 {t : List UInt8} {o : Nat} (ho : 0 < o) : txs t o 0 = txs (t ++ [41]) (o - 1) 0 := by
  obtain ⟨o, rfl⟩ : ∃ j, o = j + 1 := ⟨o - 1, by omega⟩
  unfold txs
  rw [show o + 1 + 2 * 0 = o + 1 by omega, show o + 1 - 1 + 2 * 0 = o by omega, Nat.add_sub_cancel]
  rw [show brs (o + 1) (o + 1) = (brs o (o + 1 + 1)).map (40 :: ·) ++ (if 0 < o + 1 then (brs o (o + 1 - 1)).map (41 :: ·) else []) from rfl, if_pos (by omega), Nat.add_sub_cancel, qn2 (show o < o + 1 + 1 by omega), List.map_nil, List.nil_append, Jt]
def Gd (M k j : Nat) (o r : Int) : Prop := 0 ≤ o ∧ 0 ≤ r ∧ o.toNat + 2 * r.toNat < M ∧ (M ≤ 20 ∧ j + (o.toNat + 2 * r.toNat) ≤ 100) ∧ k + 2 ^ (o.toNat + 2 * r.toNat) ≤ 1000000
instance {M k j : Nat} {o r : Int} : Decidable (Gd M k j o r) := inferInstanceAs (Decidable (_ ∧ _))
noncomputable def vf (M : Nat) : BE := fun hp xs => match xs with
  | [.v (.slice none 0 0), .str t, .int .i64 o, .int .i64 r] => chk (Gd M 0 t.length o r) (some (.slc hp.length 0 (txs t o.toNat r.toNat).length false 0, hp ++ [.vec 1 (strs (txs t o.toNat r.toNat))]))
  | [.slc b 0 k false 0, .str t, .int .i64 o, .int .i64 r] => match hp[b]? with
    | some (.vec 1 l) => match qbo l with
      | some ls => chk (ls.length = k ∧ Gd M ls.length t.length o r) (some (.slc hp.length 0 (ls ++ txs t o.toNat r.toNat).length false 0, hp.set b .dead ++ [.vec 1 (strs (ls ++ txs t o.toNat r.toNat))]))
      | none => none
    | _ => none
  | _ => none
theorem quy {M : Nat} (h1 : ∀ (t : List UInt8) (o r : Nat), Gd M 0 t.length o r → Am.Fn Try.prog 133 [.v (.slice none 0 0), .str t, .int .i64 o, .int .i64 r] [] (fun v H' => v = .slc 0 0 (txs t o r).length false 0 ∧ H' = [.vec 1 (strs (txs t o r))]))
    (h2 : ∀ (ls : List (List UInt8)) (t : List UInt8) (o r : Nat), Gd M ls.length t.length o r → Am.Fn Try.prog 133 [.slc 0 0 ls.length false 0, .str t, .int .i64 o, .int .i64 r] [.vec 1 (strs ls)] (fun v H' => v = .slc 1 0 (ls ++ txs t o r).length false 0 ∧ H' = [.dead, .vec 1 (strs (ls ++ txs t o r))])) :
    Am.Callee Try.prog 133 (vf M) := Callee.fp fun hp xs v hp' he => by
  unfold vf at he
  split at he
  · rename_i t o r
    obtain ⟨a1, he⟩ := ql he
    simp only [Option.some.injEq, Prod.mk.injEq] at he
    obtain ⟨rfl, rfl⟩ := he
    obtain ⟨o, rfl⟩ : ∃ j : Nat, o = j := ⟨o.toNat, by have := a1.1; omega⟩
    obtain ⟨r, rfl⟩ : ∃ j : Nat, r = j := ⟨r.toNat, by have := a1.2.1; omega⟩
    refine ⟨[], [.v (.slice none 0 0), .str t, .int .i64 o, .int .i64 r], _, _, _, h1 t o r a1, by simp [AV.ren, AV.zk], rfl, trivial, rfl, trivial, ⟨trivial, trivial, trivial, trivial, trivial⟩, by simp [AV.ren, AV.zk, Ren.ext], ?_⟩
    simp [after, upd, AO.wr, AO.ren, qb _ _ (jk _)]
  · rename_i b k t o r
    split at he
    · rename_i l hb
      split at he
      · rename_i ls hls
        have h9 := ql he
        clear he
        obtain ⟨⟨k1, a1⟩, he⟩ := h9
        subst k1
        simp only [Option.some.injEq, Prod.mk.injEq] at he
        obtain ⟨rfl, rfl⟩ := he
        obtain rfl := qfn hls
        obtain ⟨o, rfl⟩ : ∃ j : Nat, o = j := ⟨o.toNat, by have := a1.1; omega⟩
        obtain ⟨r, rfl⟩ : ∃ j : Nat, r = j := ⟨r.toNat, by have := a1.2.1; omega⟩
        refine ⟨[(b, 0)], [.slc 0 0 ls.length false 0, .str t, .int .i64 o, .int .i64 r], _, _, _, h2 ls t o r a1, by simp [AV.ren, AV.zk, ofL], rfl, ⟨⟨rfl, by simp only [AO.ren, qb _ _ (jk _)]; exact hb⟩, trivial⟩, rfl, ⟨qj _ _ (jk _), trivial⟩, ⟨by simp [AV.under], trivial, trivial, trivial, trivial⟩, by simp [AV.ren, AV.zk, Ren.ext], ?_⟩
        simp [after, upd, AO.wr, AO.ren, qb _ _ (jk _)]
      · cases he
    · cases he
  · cases he
noncomputable def BT (M : Nat) : za := qn1.put 133 (vf M)
theorem qfy (M : Nat) : BT M 133 = some (vf M) := rfl
theorem q5h {M : Nat} (h : Am.Callee Try.prog 133 (vf M)) : qo Try.prog (BT M) := K6.put h
theorem qum {M k j o r : Nat} (h : Gd (M + 1) k j o r) : o + 2 * r ≤ M ∧ (M + 1 ≤ 20 ∧ j + (o + 2 * r) ≤ 100) ∧ k + 2 ^ (o + 2 * r) ≤ 1000000 := by
  obtain ⟨_, _, h3, h4, h5⟩ := h
  rw [Int.toNat_natCast, Int.toNat_natCast] at h3 h4 h5
  exact ⟨by omega, h4, h5⟩
theorem Jz {M k j o r : Nat} (h1 : o + 2 * r < M) (h2 : M ≤ 20 ∧ j + (o + 2 * r) ≤ 100) (h3 : k + 2 ^ (o + 2 * r) ≤ 1000000) : Gd M k j (o : Int) (r : Int) := ⟨by omega, by omega, by rw [Int.toNat_natCast, Int.toNat_natCast]; exact h1, by rw [Int.toNat_natCast, Int.toNat_natCast]; exact h2, by rw [Int.toNat_natCast, Int.toNat_natCast]; exact h3⟩
theorem Xm {t : List UInt8} {x : UInt8} : (t ++ [x]).length = t.length + 1 := by simp
theorem qgr {o r : Nat} (h : 0 < o + 2 * r) : 2 ^ (o + 2 * r) = 2 ^ (o + 2 * r - 1) + 2 ^ (o + 2 * r - 1) := by
  rw [show o + 2 * r = (o + 2 * r - 1) + 1 by omega, Nat.pow_succ, Nat.add_sub_cancel]; omega
def vm : AC := .seq (.region [o0 8 (.mov (.c (.v (.slice none 0 0))))]) (.seq (.seq (.region [oM 9 2,oK 10 .eql 9 0,oM 11 10,oG 12 11 true (.mov (.t 3)),oG 13 11 true (.bin .eql (.t 12) (.c (.int .i64 0))),o0 14 (.pick (.t 11) (.t 13) (.c (.bool false)))]) (.cond 14 (.seq (.region [oM 15 0,oM 16 1,o0 17 (.u6 1 [(.str [])] [(0,1,.t 16)]),o0 18 (.append 1 16 (.t 15) (.t 17)),oM 8 18]) .ret) .skip)) (.seq (.seq (.region [oM 19 3,oK 20 .gtr 19 0]) (.cond 20 (.region [oM 21 0,oM 22 1,o0 23 (.bin .add (.t 22) (.c (.str [40]))),oM 24 2,oK 25 .add 24 1,oM 26 3,oK 27 .sub 26 1,oC 28 133 [.t 21,.t 23,.t 25,.t 27],oM 0 28]) .skip)) (.seq (.seq (.region [oM 29 2,oK 30 .gtr 29 0]) (.cond 30 (.region [oM 31 0,oM 32 1,o0 33 (.bin .add (.t 32) (.c (.str [41]))),oM 34 2,oK 35 .sub 34 1,oM 36 3,oC 37 133 [.t 31,.t 33,.t 35,.t 36],oM 0 37]) .skip)) (.seq (.region [oM 38 0,oM 8 38]) .ret))))
theorem qdi : zj Try.prog 133 = some ⟨39, vm, [.slot 8]⟩ := by kernel_rfl
theorem qz2 (M : Nat) (ih : Am.Callee Try.prog 133 (vf M)) (t : List UInt8) (o r : Nat) (h : Gd (M + 1) 0 t.length o r) :
    Am.Fn Try.prog 133 [.v (.slice none 0 0), .str t, .int .i64 o, .int .i64 r] [] (fun v H' => v = .slc 0 0 (txs t o r).length false 0 ∧ H' = [.vec 1 (strs (txs t o r))]) := by
  refine Am.Fn.ofW (q5h ih) mixed qdi (by simp [AV.qu, AV.under]) (by simp) ?_
  obtain ⟨a1, ⟨a2, a4⟩, a3⟩ := qum h
  have w1 : qn .i64 ((o : Int) + 1) = ((o + 1 : Nat) : Int) := by rw [wrap64 (by omega) (by omega)]; rfl
  have tl : t.length ≤ 9223372036854775806 := by omega
  have fin : ∀ (s : St) (i : Nat) (L : List (List UInt8)), L = txs t o r → get s.env 8 = .slc i 0 L.length false 0 → s.hp[i]? = some (.vec 1 (strs L)) → ∃ s', qt 0 s s' ∧ Ret [.slot 8] [] (fun v H' => v = .slc 0 0 (txs t o r).length false 0 ∧ H' = [.vec 1 (strs (txs t o r))]) s' := fun s i L e h1 h2 => by
    subst e
    have hk : zn [i] s.hp = [.vec 1 (strs (txs t o r))] := by simp [zn, h2, AO.ren, qb _ _ (jk _)]
    have hi : ([i] : List Nat).idxOf i = 0 := by simp
    refine ⟨_, qt.refl _, Ret.xv [i] ⟨⟨by simp, rfl, by simp⟩, fun j hj => ?_⟩ (rs := [.slc i 0 (txs t o r).length false 0]) ?_ ?_ (by simp [xl]) ?_ ⟨?_, hk⟩⟩
    · rw [List.mem_singleton.1 hj, h2]
      exact qd _ _ (jk _)
    · simp only [Vk, h1]
    · simp [xl, AV.within]
    · intro j l
      rw [hk]
      cases j <;> simp
    · simp [xl, AV.ren, yr]
  by_cases ho : 0 < o
  · have e1 : (o : Int) = 0 ↔ False := iff_false_intro (by omega)
    have e2 : (0 : Int) < (o : Int) := by omega
    have w2 : qn .i64 ((o : Int) - 1) = ((o - 1 : Nat) : Int) := by rw [wrap64 (by omega) (by omega)]; omega
    have p1 := qgr (show 0 < o + 2 * r by omega)
    have q2 : o - 1 + 2 * r = o + 2 * r - 1 := by omega
    by_cases hr : 0 < r
    · have e3 : (0 : Int) < (r : Int) := by omega
      have w3 : qn .i64 ((r : Int) - 1) = ((r - 1 : Nat) : Int) := by rw [wrap64 (by omega) (by omega)]; omega
      have q1 : o + 1 + 2 * (r - 1) = o + 2 * r - 1 := by omega
      have k1 : Gd M 0 (t ++ [40]).length ((o + 1 : Nat) : Int) ((r - 1 : Nat) : Int) := Jz (by omega) ⟨by omega, by rw [Xm]; omega⟩ (by rw [q1]; omega)
      have hl := qul (t := t ++ [40]) (o := o + 1) (r := r - 1)
      rw [q1] at hl
      have k2 : Gd M (txs (t ++ [40]) (o + 1) (r - 1)).length (t ++ [41]).length ((o - 1 : Nat) : Int) (r : Int) := Jz (by omega) ⟨by omega, by rw [Xm]; omega⟩ (by rw [q2]; omega)
      have b1 := Wt (txs (t ++ [40]) (o + 1) (r - 1))
      have hb := qqw (t := t) ho hr
      simp (maxSteps := 3000000) only [qh, zH, vm, qfy, vf, e1, e2, e3, w1, w2, w3, k1, k2, b1, tl, Int.toNat_natCast, and_self, iE, iN, iB, iC, iL, iD, iA, iS, iM, qa, zZ, ↓qp, ↓reduceIte, reduceCtorEq, nA, nM, nS, nE, nL, nD]; try simp only [qa, zY]
      exact fin _ 1 _ hb.symm rfl rfl
    · have r0 : r = 0 := by omega
      have e3 : (0 : Int) < (r : Int) ↔ False := iff_false_intro (by omega)
      have k2 : Gd M 0 (t ++ [41]).length ((o - 1 : Nat) : Int) (r : Int) := Jz (by omega) ⟨by omega, by rw [Xm]; omega⟩ (by rw [q2]; omega)
      have hb : txs t o r = txs (t ++ [41]) (o - 1) r := by subst r0; exact ql7 ho
      simp (maxSteps := 3000000) only [qh, zH, vm, qfy, vf, e1, e2, e3, w1, w2, k2, tl, Int.toNat_natCast, Int.lt_irrefl, and_self, iE, iN, iB, iC, iL, iD, iA, iS, iM, qa, zZ, ↓qp, ↓reduceIte, reduceCtorEq, nA, nM, nS, nE, nL, nD]; try simp only [qa, zY]
      exact fin _ 0 _ hb.symm rfl rfl
  · have o0 : o = 0 := by omega
    have e1 : (o : Int) = 0 ↔ True := iff_true_intro (by omega)
    have e2 : (0 : Int) < (o : Int) ↔ False := iff_false_intro (by omega)
    by_cases hr : 0 < r
    · have e3 : (0 : Int) < (r : Int) := by omega
      have e4 : (r : Int) = 0 ↔ False := iff_false_intro (by omega)
      have p1 := qgr (show 0 < o + 2 * r by omega)
      have w3 : qn .i64 ((r : Int) - 1) = ((r - 1 : Nat) : Int) := by rw [wrap64 (by omega) (by omega)]; omega
      have q1 : o + 1 + 2 * (r - 1) = o + 2 * r - 1 := by omega
      have k1 : Gd M 0 (t ++ [40]).length ((o + 1 : Nat) : Int) ((r - 1 : Nat) : Int) := Jz (by omega) ⟨by omega, by rw [Xm]; omega⟩ (by rw [q1]; omega)
      have hb : txs t o r = txs (t ++ [40]) (o + 1) (r - 1) := by subst o0; exact qp0 hr
      simp (maxSteps := 3000000) only [qh, zH, vm, qfy, vf, e1, e2, e3, e4, w1, w3, k1, tl, Int.toNat_natCast, Int.lt_irrefl, and_self, iE, iN, iB, iC, iL, iD, iA, iS, iM, qa, zZ, ↓qp, ↓reduceIte, reduceCtorEq, nA, nM, nS, nE, nL, nD]; try simp only [qa, zY]
      exact fin _ 0 _ hb.symm rfl rfl
    · have r0 : r = 0 := by omega
      have e3 : (0 : Int) < (r : Int) ↔ False := iff_false_intro (by omega)
      have e4 : (r : Int) = 0 ↔ True := iff_true_intro (by omega)
      have hb : txs t o r = [t] := by subst o0; subst r0; exact qqd
      have hs : src [AO.cells (over [AV.str []] 0 [AV.str t])] 1 (.slc 0 0 1 true 1) = some (1, [.str t]) := rfl
      simp (maxSteps := 3000000) only [qh, zH, vm, qfy, e1, e2, e3, e4, hs, Int.toNat_natCast, and_self, iE, iN, iB, iC, iL, iD, iA, iS, iM, qa, zZ, ↓qp, ↓reduceIte, reduceCtorEq, nA, nM, nS, nE, nL, nD]; try simp only [qa, zY]
      exact ⟨rfl, fin _ 1 _ hb.symm rfl rfl⟩
theorem qz4 (M : Nat) (ih : Am.Callee Try.prog 133 (vf M)) (ls : List (List UInt8)) (t : List UInt8) (o r : Nat) (h : Gd (M + 1) ls.length t.length o r) :
    Am.Fn Try.prog 133 [.slc 0 0 ls.length false 0, .str t, .int .i64 o, .int .i64 r] [.vec 1 (strs ls)] (fun v H' => v = .slc 1 0 (ls ++ txs t o r).length false 0 ∧ H' = [.dead, .vec 1 (strs (ls ++ txs t o r))]) := by
  refine Am.Fn.ofW (q5h ih) mixed qdi (by simp [AV.qu, AV.under]) ?_ ?_
  · intro j q hj
    cases j with
    | zero => simp only [List.getElem?_cons_zero, Option.some.injEq] at hj; subst hj; exact qj _ _ (jk _)
    | succ j => simp at hj
  obtain ⟨a1, ⟨a2, a4⟩, a3⟩ := qum h
  have w1 : qn .i64 ((o : Int) + 1) = ((o + 1 : Nat) : Int) := by rw [wrap64 (by omega) (by omega)]; rfl
  have tl : t.length ≤ 9223372036854775806 := by omega
  have b0 := Wt ls
  have g1 : 1 ≤ 2 ^ (o + 2 * r - 1) := Nat.one_le_two_pow
  have g2 : 1 ≤ 2 ^ (o + 2 * r) := Nat.one_le_two_pow
  have hlen := qe5 ls
  have fin : ∀ (s : St) (i : Nat) (L : List (List UInt8)), L = ls ++ txs t o r → 0 < i → get s.env 8 = .slc i 0 L.length false 0 → s.hp[0]? = some .dead → s.hp[i]? = some (.vec 1 (strs L)) → ∃ s', qt [AO.vec 1 (strs ls)].length s s' ∧ Ret [.slot 8] [.vec 1 (strs ls)] (fun v H' => v = .slc 1 0 (ls ++ txs t o r).length false 0 ∧ H' = [.dead, .vec 1 (strs (ls ++ txs t o r))]) s' := fun s i L e hi h1 h0 h2 => by
    subst e
    have hk : zn [0, i] s.hp = [.dead, .vec 1 (strs (ls ++ txs t o r))] := by simp [zn, h0, h2, AO.ren, qb _ _ (jk _)]
    have hne : (0 : Nat) ≠ i := by omega
    refine ⟨_, qt.refl _, Ret.xv [0, i] ⟨⟨by simp, rfl, by simp; omega⟩, fun j hj => ?_⟩ (rs := [.slc i 0 (ls ++ txs t o r).length false 0]) ?_ ?_ (by simp [xl]) ?_ ⟨?_, hk⟩⟩
    · rcases List.mem_cons.1 hj with rfl | hj
      · rw [h0]; rfl
      · rw [List.mem_singleton.1 hj, h2]
        exact qd _ _ (jk _)
    · simp only [Vk, h1]
    · simp [xl, AV.within]
    · intro j l
      rw [hk]
      match j with
      | 0 => simp
      | 1 => simp
      | j + 2 => simp
    · simp [xl, AV.ren, yr, List.idxOf_cons, beq_false_of_ne hne]
  by_cases ho : 0 < o
  · have e1 : (o : Int) = 0 ↔ False := iff_false_intro (by omega)
    have e2 : (0 : Int) < (o : Int) := by omega
    have w2 : qn .i64 ((o : Int) - 1) = ((o - 1 : Nat) : Int) := by rw [wrap64 (by omega) (by omega)]; omega
    have p1 := qgr (show 0 < o + 2 * r by omega)
    have q2 : o - 1 + 2 * r = o + 2 * r - 1 := by omega
    by_cases hr : 0 < r
    · have e3 : (0 : Int) < (r : Int) := by omega
      have w3 : qn .i64 ((r : Int) - 1) = ((r - 1 : Nat) : Int) := by rw [wrap64 (by omega) (by omega)]; omega
      have q1 : o + 1 + 2 * (r - 1) = o + 2 * r - 1 := by omega
      have k1 : Gd M ls.length (t ++ [40]).length ((o + 1 : Nat) : Int) ((r - 1 : Nat) : Int) := Jz (by omega) ⟨by omega, by rw [Xm]; omega⟩ (by rw [q1]; omega)
      have hl := qul (t := t ++ [40]) (o := o + 1) (r := r - 1)
      rw [q1] at hl
      have k2 : Gd M (ls ++ txs (t ++ [40]) (o + 1) (r - 1)).length (t ++ [41]).length ((o - 1 : Nat) : Int) (r : Int) := Jz (by omega) ⟨by omega, by rw [Xm]; omega⟩ (by rw [q2, List.length_append]; omega)
      have b1 := Wt (ls ++ txs (t ++ [40]) (o + 1) (r - 1))
      have hb : ls ++ txs (t ++ [40]) (o + 1) (r - 1) ++ txs (t ++ [41]) (o - 1) r = ls ++ txs t o r := by rw [List.append_assoc, ← qqw ho hr]
      simp (maxSteps := 3000000) only [qh, zH, vm, qfy, vf, e1, e2, e3, w1, w2, w3, k1, k2, b0, b1, tl, Int.toNat_natCast, and_self, iE, iN, iB, iC, iL, iD, iA, iS, iM, qa, zZ, ↓qp, ↓reduceIte, reduceCtorEq, nA, nM, nS, nE, nL, nD]; try simp only [qa, zY]
      exact fin _ 2 _ hb (by omega) rfl rfl rfl
    · have r0 : r = 0 := by omega
      have e3 : (0 : Int) < (r : Int) ↔ False := iff_false_intro (by omega)
      have k2 : Gd M ls.length (t ++ [41]).length ((o - 1 : Nat) : Int) (r : Int) := Jz (by omega) ⟨by omega, by rw [Xm]; omega⟩ (by rw [q2]; omega)
      have hb : ls ++ txs (t ++ [41]) (o - 1) r = ls ++ txs t o r := by subst r0; rw [ql7 ho]
      simp (maxSteps := 3000000) only [qh, zH, vm, qfy, vf, e1, e2, e3, w1, w2, k2, b0, tl, Int.toNat_natCast, Int.lt_irrefl, and_self, iE, iN, iB, iC, iL, iD, iA, iS, iM, qa, zZ, ↓qp, ↓reduceIte, reduceCtorEq, nA, nM, nS, nE, nL, nD]; try simp only [qa, zY]
      exact fin _ 1 _ hb (by omega) rfl rfl rfl
  · have o0 : o = 0 := by omega
    have e1 : (o : Int) = 0 ↔ True := iff_true_intro (by omega)
    have e2 : (0 : Int) < (o : Int) ↔ False := iff_false_intro (by omega)
    by_cases hr : 0 < r
    · have e3 : (0 : Int) < (r : Int) := by omega
      have e4 : (r : Int) = 0 ↔ False := iff_false_intro (by omega)
      have p1 := qgr (show 0 < o + 2 * r by omega)
      have w3 : qn .i64 ((r : Int) - 1) = ((r - 1 : Nat) : Int) := by rw [wrap64 (by omega) (by omega)]; omega
      have q1 : o + 1 + 2 * (r - 1) = o + 2 * r - 1 := by omega
      have k1 : Gd M ls.length (t ++ [40]).length ((o + 1 : Nat) : Int) ((r - 1 : Nat) : Int) := Jz (by omega) ⟨by omega, by rw [Xm]; omega⟩ (by rw [q1]; omega)
      have hb : ls ++ txs (t ++ [40]) (o + 1) (r - 1) = ls ++ txs t o r := by subst o0; rw [qp0 hr]
      simp (maxSteps := 3000000) only [qh, zH, vm, qfy, vf, e1, e2, e3, e4, w1, w3, k1, b0, tl, Int.toNat_natCast, Int.lt_irrefl, and_self, iE, iN, iB, iC, iL, iD, iA, iS, iM, qa, zZ, ↓qp, ↓reduceIte, reduceCtorEq, nA, nM, nS, nE, nL, nD]; try simp only [qa, zY]
      exact fin _ 1 _ hb (by omega) rfl rfl rfl
    · have r0 : r = 0 := by omega
      have e3 : (0 : Int) < (r : Int) ↔ False := iff_false_intro (by omega)
      have e4 : (r : Int) = 0 ↔ True := iff_true_intro (by omega)
      have hb : ls ++ [t] = ls ++ txs t o r := by subst o0; subst r0; rw [qqd]
      have hs : src [AO.vec 1 (strs ls), AO.cells (over [AV.str []] 0 [AV.str t])] 1 (.slc 1 0 1 true 1) = some (1, [.str t]) := rfl
      have hbd : (ls.length + 1) * 16 ≤ 1099511627776 := by omega
      have htk : List.take ls.length (strs ls) = strs ls := List.take_of_length_le (by omega)
      have hst : strs ls ++ [.str t] = strs (ls ++ [t]) := by simp [strs]
      have hl1 : (ls ++ [t]).length = ls.length + 1 := by simp
      simp (maxSteps := 3000000) only [qh, zH, vm, qfy, e1, e2, e3, e4, hs, hlen, hbd, htk, hst, Nat.mul_one, Nat.le_refl, Int.toNat_natCast, and_self, iE, iN, iB, iC, iL, iD, iA, iS, iM, qa, zZ, ↓qp, ↓reduceIte, reduceCtorEq, nA, nM, nS, nE, nL, nD]; try simp only [qa, zY]
      exact ⟨rfl, fin _ 2 _ hb (by omega) (by rw [hl1]; rfl) rfl rfl⟩
theorem qbx : ∀ M, M ≤ 20 → Am.Callee Try.prog 133 (vf M)
  | 0, _ => quy (fun t o r h => absurd h.2.2.1 (by omega)) (fun ls t o r h => absurd h.2.2.1 (by omega))
  | M + 1, h => quy (fun t o r h1 => qz2 M (qbx M (by omega)) t o r h1) (fun ls t o r h1 => qz4 M (qbx M (by omega)) ls t o r h1)
end Go.Proofs.Ytfhckbbgmblhbaa
