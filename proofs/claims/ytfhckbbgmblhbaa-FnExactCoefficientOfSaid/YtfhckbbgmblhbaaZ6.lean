/- Contracts of functions of the program, and plain laws, part 6: each text of this part is proved without further condition. -/
import Derived.Test.YtfhckbbgmblhbaaZ5
import Derived.Test.YtfhckbbgmblhbaaZ4
namespace Go.Proofs.Ytfhckbbgmblhbaa
open Go.Am Go.Dia
open Nat renaming reduceAdd → nA, reduceMul → nM, reduceSub → nS, reduceEqDiff → nE, reduceLT → nL, reduceLeDiff → nD, reduceBEq → nB
open Int renaming reduceEq → iE, reduceNe → iN, reduceBEq → iB, reduceBNe → iC, reduceLT → iL, reduceLE → iD, reduceAdd → iA, reduceSub → iS, reduceMul → iM
set_option linter.unusedSimpArgs false
set_option linter.unusedVariables false
set_option maxRecDepth 4000
set_option maxHeartbeats 2000000
noncomputable def bq : List AV → Option AV
  | [.int .i64 p, .int .i64 c] => chk (z7 p = true ∧ 0 ≤ c ∧ c ≤ p - 1) (some (.int .i64 (vh p c : Nat)))
  | _ => none
theorem qme {f : FuncId} (h : ∀ p c : Int, z7 p = true → 0 ≤ c ∧ c ≤ p - 1 → Am.Fn Try.prog f [.int .i64 p, .int .i64 c] [] (fun v H' => v = .int .i64 (vh p c : Nat) ∧ H' = [])) : Am.Callee Try.prog f (qj bq) := Am.Callee.plain fun xs v he => by
  unfold bq at he
  split at he
  · rename_i p c
    obtain ⟨⟨h1, h2⟩, he⟩ := ql he
    cases he
    exact ⟨rfl, rfl, h p c h1 h2⟩
  · cases he
noncomputable def q66 : zc := (q8g.put 132 (qj bq))
theorem qoi : qp Try.prog q66 := (qoa.put (qme qo3))
theorem Wl : q66 76 = some (qj J3) := rfl
def Wz (p c : Int) (n : Nat) : List Int := (List.range n).map fun i => chb p c (i + 1)
theorem Kx (p c : Int) (n : Nat) : (Wz p c n).length = n := by simp [Wz]
theorem K4 {p c : Int} {n i : Nat} (h : i < n) : (Wz p c n).getD i 0 = chb p c (i + 1) := by simp [Wz, h]
theorem qye (p c : Int) (n : Nat) : jk (Wz p c n) ++ [.int .i64 (chb p c (n + 1))] = jk (Wz p c (n + 1)) := by simp [Wz, jk, List.range_succ]
def Xt : AC := .seq (.seq (.region [oM 13 7,o0 14 (.len .slc (.t 13)),oM 15 2,oP 16 .leq 14 15]) (.cond 16 .skip (.exit 0))) (.block 1 (.seq (.region [oM 17 7,o0 18 (.len .slc (.t 17)),oM 8 18]) (.draw false [oM 19 7,oM 20 1,oM 21 7,oM 22 8,oK 23 .sub 22 1,oX 24 1 21 23,oL 25 24,oP 26 .mul 20 25,oM 27 7,oM 28 8,oK 29 .sub 28 2,oX 30 1 27 29,oL 31 30,oP 32 .sub 26 31,oM 33 0,oC 34 76 [.t 32,.t 33],o0 35 (.um 1 [.int .i64 0] [(0,1,.t 34)]),o0 36 (.append 1 8 (.t 19) (.t 35)),oM 7 36])))
def Un : AC := .seq (.region [oM 37 7,oM 6 37]) .ret
def qbe : AC := .seq (.region [o0 6 (.mov (.c (.v (.slice none 0 0))))]) (.seq (.region [oM 9 0,o0 10 (.bin .rem (.c (.int .i64 1)) (.t 9)),oM 11 1,o0 12 (.um 2 [.int .i64 0,.int .i64 0] [(0,1,.t 10),(1,1,.t 11)]),oM 7 12]) (.seq (.block 0 (.loop Xt)) Un))
theorem qk2 : zl Try.prog 148 = some ⟨38, qbe, [.slot 6]⟩ := by kernel_rfl
theorem qkv (p c : Int) (K : Nat) (hp : 2 ≤ p ∧ p ≤ 97) (hc : 0 ≤ c ∧ c ≤ p - 1) (hK : K ≤ 1000) :
    Am.Fn Try.prog 148 [.int .i64 p, .int .i64 c, .int .i64 K] [] (fun v H' => v = .slc 0 0 (max 2 (K + 1)) false 0 ∧ H' = [.vec 1 (jk (Wz p c (max 2 (K + 1))))]) := by
  refine Am.Fn.ofW qoi mixed qk2 (by simp) (by simp) ?_
  have p1 : 0 < p ∧ p ≤ 1000000 := by omega
  have hp0 : ¬ p = 0 := by omega
  have t1 : Int.tmod 1 p = 1 := by rw [Int.tmod_eq_emod_of_nonneg (by omega)]; exact Int.emod_eq_of_lt (by omega) (by omega)
  have o1 : over [AV.int .i64 0, .int .i64 0] 0 [.int .i64 1] = [.int .i64 1, .int .i64 0] := rfl
  have o2 : over [AV.int .i64 1, .int .i64 0] 1 [.int .i64 c] = [.int .i64 1, .int .i64 c] := rfl
  have o3 : ([AV.int .i64 1, .int .i64 0] : List AV).length = 2 := rfl
  have o4 : ([AV.int .i64 0, .int .i64 0] : List AV).length = 2 := rfl
  simp (maxSteps := 3000000) only [qh, zH, qbe, Wl, J3, hp0, t1, o1, o2, o3, o4, Nat.le_refl, iE, iN, iB, iC, iL, iD, iA, iS, iM, qa, zZ, ↓qq, ↓reduceIte, reduceCtorEq, nA, nM, nS, nE, nL, nD]; try simp only [qa, zY]
  have hcc : c.emod p = c := Int.emod_eq_of_lt hc.1 (by omega)
  refine WA.xr qoi (fun s => ∃ L : Nat, 2 ≤ L ∧ L ≤ max 2 (K + 1) ∧ s = ⟨[(0, .int .i64 p), (1, .int .i64 c), (2, .int .i64 K), (7, .slc 0 0 L false 0)], [.vec 1 (jk (Wz p c L))]⟩)
    (fun s => match get s.env 7 with | .slc _ _ L _ _ => 1002 - L | _ => 0) ⟨_, qw.trans (qw.qx [0, 1, 2, 7]) (qw.vec 0 2 1 (by decide) rfl rfl rfl rfl), 2, by omega, by omega, ?_⟩ ?_
  · simp only [qx, zs, zV, ↓reduceIte, nE, reduceCtorEq, nB]
    have e2 : jk (Wz p c 2) = [.int .i64 1, .int .i64 c] := by
      have e3 : chb p c 2 = c := by
        show (c * 1 - 0).emod p = c
        rw [Int.mul_one, Int.sub_zero]; exact hcc
      show [AV.int .i64 1, .int .i64 (chb p c 2)] = _
      rw [e3]
    rw [e2]
  rintro s ⟨L, hL2, hL, rfl⟩
  have hlen := Kx p c L
  have hla := jg (Wz p c L)
  by_cases hlt : L ≤ K
  · have hli : (L : Int) ≤ (K : Int) := by omega
    have w1 : qo .i64 ((L : Int) - 1) = ((L - 1 : Nat) : Int) := by rw [wrap64 (by omega) (by omega)]; omega
    have w2 : qo .i64 ((L : Int) - 2) = ((L - 2 : Nat) : Int) := by rw [wrap64 (by omega) (by omega)]; omega
    have i1 : (0 : Int) ≤ ((L - 1 : Nat) : Int) ∧ ((L - 1 : Nat) : Int) < (L : Int) := by omega
    have i2 : (0 : Int) ≤ ((L - 2 : Nat) : Int) ∧ ((L - 2 : Nat) : Int) < (L : Int) := by omega
    have j1 : L - 1 < L := by omega
    have j2 : L - 2 < L := by omega
    have g1 : (Wz p c L).getD (L - 1) 0 = chb p c L := by rw [K4 j1]; congr 1; omega
    have g2 : (Wz p c L).getD (L - 2) 0 = chb p c (L - 1) := by rw [K4 j2]; congr 1; omega
    obtain ⟨v1, v2⟩ := qq1 (c := c) hp hc (L - 1)
    have e1 : L - 1 + 1 = L := by omega
    rw [e1] at v1 v2
    have hn : (c * chb p c L - chb p c (L - 1)).emod p = chb p c (L + 1) := by
      obtain ⟨M, rfl⟩ : ∃ M, L = M + 1 := ⟨L - 1, by omega⟩
      rfl
    have hap := qye p c L
    have ht : List.take L (jk (Wz p c L)) = jk (Wz p c L) := by rw [List.take_of_length_le (by rw [hla, hlen]; exact Nat.le_refl _)]
    have o5 : over [AV.int .i64 0] 0 [.int .i64 (chb p c (L + 1))] = [.int .i64 (chb p c (L + 1))] := rfl
    have o6 : ([AV.int .i64 (chb p c (L + 1))] : List AV).length = 1 := rfl
    have o7 : List.take 1 [AV.int .i64 (chb p c (L + 1))] = [AV.int .i64 (chb p c (L + 1))] := rfl
    simp (maxSteps := 3000000) only [qh, zH, Xt, Wl, J3, ht, o5, o6, o7, src, lim, qgs, Option.map_some, Option.map_none, Nat.one_mul, Nat.mul_one, Nat.le_refl, List.all_cons, List.all_nil, hli, w1, w2, i1, i2, j1, j2, hlen, hla, g1, g2, v1, v2, hn, p1, hap, and_self, iE, iN, iB, iC, iL, iD, iA, iS, iM, qa, zZ, ↓qq, ↓reduceIte, reduceCtorEq, nA, nM, nS, nE, nL, nD]; try simp only [qa, zY]
    refine ⟨⟨rfl, by omega⟩, _, qw.can [0, 1, 2, 7] (by simp only [Wc, zC, nB, nD, nA, nE, ↓reduceIte, reduceCtorEq]; rfl), ⟨L + 1, by omega, by omega, ?_⟩, ?_⟩
    · simp only [qb _ _ (q9 _), zL, ↓reduceIte, reduceCtorEq, nE, nA]
    · simp only [zL, ↓reduceIte, reduceCtorEq, nE, nA]; omega
  · have hli : ¬ (L : Int) ≤ (K : Int) := by omega
    have hLe : L = max 2 (K + 1) := by omega
    simp (maxSteps := 3000000) only [qh, zH, Xt, Un, Wl, J3, hli, iE, iN, iB, iC, iL, iD, iA, iS, iM, qa, zZ, ↓qq, ↓reduceIte, reduceCtorEq, nA, nM, nS, nE, nL, nD]; try simp only [qa, zY]
    rw [← hLe]
    refine ⟨_, qw.refl _, ?_⟩
    refine Ret.x7 [0] ⟨⟨by simp, rfl, by decide⟩, ?_⟩ (rs := [.slc 0 0 L false 0]) ?_ rfl (by simp [xl]) ?_ ⟨?_, ?_⟩
    · simp only [qg _ _ (q9 _), zK, ↓reduceIte, reduceCtorEq, nE, nB, nA]
    · rfl
    · intro j l; cases j <;> simp [zo, AO.ren]
    · simp only [xl]
      simp only [zL, ↓reduceIte, reduceCtorEq, nE, nA]
    · simp only [qb _ _ (q9 _), zL, ↓reduceIte, reduceCtorEq, nE, nA]
def V6 : List AV → Option (AV × List AO)
  | [.int .i64 p, .int .i64 c, .int .i64 k] => chk (((2 ≤ p ∧ p ≤ 97) ∧ (0 ≤ c ∧ c ≤ p - 1)) ∧ 0 ≤ k ∧ k ≤ 1000) (some (.slc 0 0 (max 2 (k.toNat + 1)) false 0, [.vec 1 (jk (Wz p c (max 2 (k.toNat + 1))))]))
  | _ => none
theorem q77 : Am.Callee Try.prog 148 (gq V6) :=
  Am.Callee.new fun xs v H he => by
    unfold V6 at he
    split at he
    · rename_i p c k
      obtain ⟨⟨⟨h1, h2⟩, h3⟩, he⟩ := ql he
      obtain ⟨k, rfl⟩ : ∃ j : Nat, k = j := ⟨k.toNat, by omega⟩
      rw [Int.toNat_natCast] at he
      cases he
      have hfn := qkv p c k h1 h2 (by omega)
      exact ⟨rfl, hfn⟩
    · cases he
noncomputable def q8m : zc := (q66.put 148 (gq V6))
theorem qmz : qp Try.prog q8m := (qoi.put (q77))
theorem Qd : q8m 148 = some (gq V6) := rfl
theorem qia (b k m : Nat) : AV.ren (J4 m) (.slc b 0 k false 0) = .slc (m + b) 0 k false 0 := rfl
def Ja : AC := .seq (.block 1 (.seq (.region [oM 8 0,oM 9 1,oM 10 5,oC 11 148 [.t 8,.t 9,.t 10],oM 12 5,oX 13 1 11 12,oL 14 13,oK 15 .eql 14 0]) (.cond 15 (.seq (.region [oM 16 5,oM 4 16]) .ret) .skip))) (.region [oM 6 5,oK 7 .add 6 1,oM 5 7])
def qbw : AC := .seq (.region [oI 4 0]) (.seq (.region [oI 5 1]) (.block 0 (.loop Ja)))
theorem qkx : zl Try.prog 95 = some ⟨17, qbw, [.slot 4]⟩ := by kernel_rfl
theorem qkc (p c : Int) (hp : z7 p = true) (hc : 0 ≤ c ∧ c ≤ p - 1) :
    Am.Fn Try.prog 95 [.int .i64 p, .int .i64 c] [] (fun v H' => v = .int .i64 (vh p c : Nat) ∧ H' = []) := by
  refine Am.Fn.xf (R := fun v => v = _) qmz mixed qkx (by simp) (by simp) ?_
  have hb := gu hp
  obtain ⟨z1, z2, z3⟩ := qcy hp hc
  simp (maxSteps := 3000000) only [qh, zH, qbw, Qd, V6, iE, iN, iB, iC, iL, iD, iA, iS, iM, qa, zZ, ↓qq, ↓reduceIte, reduceCtorEq, nA, nM, nS, nE, nL, nD]; try simp only [qa, zY]
  refine WA.xr qmz (fun s => ∃ m : Nat, 1 ≤ m ∧ m ≤ vh p c ∧ s = ⟨[(0, .int .i64 p), (1, .int .i64 c), (5, .int .i64 m)], []⟩)
    (fun s => match get s.env 5 with | .int _ x => 101 - x.toNat | _ => 0) ⟨_, qw.qx [0, 1, 5], 1, by omega, by omega, rfl⟩ ?_
  rintro s ⟨m, hm, hmz, rfl⟩
  have hk : (0 : Int) ≤ (m : Int) ∧ (m : Int) ≤ 1000 := by omega
  have hlen := Kx p c (max 2 (m + 1))
  have hla := jg (Wz p c (max 2 (m + 1)))
  have hg : (Wz p c (max 2 (m + 1))).getD m 0 = chb p c (m + 1) := K4 (by omega)
  have i1 : (0 : Int) ≤ (m : Int) ∧ (m : Int) < ((max 2 (m + 1) : Nat) : Int) := by omega
  have i2 : m < max 2 (m + 1) := by omega
  by_cases h0 : chb p c (m + 1) = 0
  · have hq : (chb p c (m + 1) == 0) = true := by simp [h0]
    have e : m = vh p c := by
      by_cases hlt : m < vh p c
      · exact absurd h0 (z3 m hm hlt)
      · omega
    simp (maxSteps := 3000000) only [qh, zH, Ja, Qd, V6, hb, hc, hk, hq, hlen, hla, hg, i1, i2, qia, ki, qb _ _ (q9 _), Int.toNat_natCast, and_self, iE, iN, iB, iC, iL, iD, iA, iS, iM, qa, zZ, ↓qq, ↓reduceIte, reduceCtorEq, nA, nM, nS, nE, nL, nD]; try simp only [qa, zY]
    rw [e]
  · have hq : (chb p c (m + 1) == 0) = false := by simp [h0]
    have hlt : m < vh p c := by
      by_cases e : m = vh p c
      · subst e; exact absurd z2 h0
      · omega
    have hw : qo .i64 ((m : Int) + 1) = ((m + 1 : Nat) : Int) := by rw [wrap64 (by omega) (by omega)]; rfl
    simp (maxSteps := 3000000) only [qh, zH, Ja, Qd, V6, hb, hc, hk, hq, hlen, hla, hg, i1, i2, qia, ki, qb _ _ (q9 _), hw, Int.toNat_natCast, and_self, iE, iN, iB, iC, iL, iD, iA, iS, iM, qa, zZ, ↓qq, ↓reduceIte, reduceCtorEq, nA, nM, nS, nE, nL, nD]; try simp only [qa, zY]
    refine ⟨_, qw.can [0, 1, 5] (by simp only [Wc, zC, nB, nD, nA, nE, ↓reduceIte, reduceCtorEq]; rfl), ⟨m + 1, by omega, by omega, ?_⟩, ?_⟩
    · simp only [zL, ↓reduceIte, reduceCtorEq, nE, nA]
    · simp only [zL, ↓reduceIte, reduceCtorEq, nE, nA]; omega
noncomputable def q9i : zc := (q8m.put 95 (qj bq))
theorem q4b : qp Try.prog q9i := (qmz.put (qme qkc))
end Go.Proofs.Ytfhckbbgmblhbaa
namespace Go.Proofs.Ytfhckbbgmblhbaa
open Go.Am Go.Dia
open Nat renaming reduceAdd → nA, reduceMul → nM, reduceSub → nS, reduceEqDiff → nE, reduceLT → nL, reduceLeDiff → nD, reduceBEq → nB
open Int renaming reduceEq → iE, reduceNe → iN, reduceBEq → iB, reduceBNe → iC, reduceLT → iL, reduceLE → iD, reduceAdd → iA, reduceSub → iS, reduceMul → iM
set_option linter.unusedSimpArgs false
set_option linter.unusedVariables false
set_option maxRecDepth 4000
set_option maxHeartbeats 1000000
def Xq (p n : Int) (a : List (Int × List Nat × Int)) : List (Int × List Nat × Int) := chP p (n + 1) (xi n.toNat) (fun _ => 1) [] a
theorem Ba {p n : Int} {a : List (Int × List Nat × Int)} (hp : 2 ≤ p ∧ p ≤ 97) (hn : 1 ≤ n ∧ n ≤ 7) (h : xd p n a) : xd p (n + 1) (Xq p n a) ∧ (Xq p n a).length ≤ a.length := by
  have hg := G7 (p := p) (acc := []) (by omega) (qw7.qg8 (p := p) (n := n + 1) (fun t h => by cases h)) (qya (by omega) hn h)
  refine ⟨hg.1, ?_⟩
  have := hg.2
  unfold Xq
  simpa using this
noncomputable def Ke (p c : Int) (i : Nat) : Int := (chb p c i * Wq p (chb p c (i + 1))).tmod p
noncomputable def vl (p c : Int) : Nat → List (Int × List Nat × Int)
  | 0 => [(1, yh 1, 1)]
  | k + 1 => qcd p ((k + 2 : Nat) : Int) (-(Ke p c (k + 1))) (Xq p ((k + 1 : Nat) : Int) (vl p c k))
      (MP p ((k + 2 : Nat) : Int) (vk p c ((k + 2 : Nat) : Int) (MP p ((k + 2 : Nat) : Int) (vk p c ((k + 2 : Nat) : Int) (Xq p ((k + 1 : Nat) : Int) (vl p c k)) [(((k + 2 : Nat) : Int), Jo (k + 2) k, 1)])) (Xq p ((k + 1 : Nat) : Int) (vl p c k))))
theorem qaz {p c : Int} (hp : 2 ≤ p ∧ p ≤ 97) (hc : 0 ≤ c ∧ c ≤ p - 1) : ∀ k : Nat, k ≤ 4 → xd p ((k + 1 : Nat) : Int) (vl p c k) ∧ (vl p c k).length ≤ 132
  | 0, _ => by
    have := qzj (p := p) (n := 1) (k := 1) (by omega) (by omega)
    exact ⟨this, by simp [vl]⟩
  | k + 1, hk => by
    have ih := qaz hp hc k (by omega)
    have hw := Ba hp (by omega) ih.1
    have e : ((k + 1 : Nat) : Int) + 1 = ((k + 2 : Nat) : Int) := by omega
    rw [e] at hw
    have hg : xd p ((k + 2 : Nat) : Int) [(((k + 2 : Nat) : Int), Jo (k + 2) k, 1)] := by
      have := qim (p := p) (n := ((k + 2 : Nat) : Int)) (k := 1) (i := k) (by omega) (by omega) (by omega)
      rwa [Int.toNat_natCast] at this
    have h1 := (Br (c := c) hp hc hw.1 hg ⟨by omega, by simp⟩).1
    have l1 := Jn h1 (by omega)
    have h2 := (Br (c := c) hp hc h1 hw.1 ⟨by omega, by omega⟩).1
    have h3 := (qex (k := -(Ke p c (k + 1))) (by omega) hw.1 h2).1
    exact ⟨h3, Jn h3 (by omega)⟩
noncomputable def qk3 : zc := (q9i.put 149 (Q3))
theorem qnc : qp Try.prog qk3 := (q4b.put (qt3))
end Go.Proofs.Ytfhckbbgmblhbaa
namespace Go.Proofs.Ytfhckbbgmblhbaa
open Go.Am Go.Dia
open Nat renaming reduceAdd → nA, reduceMul → nM, reduceSub → nS, reduceEqDiff → nE, reduceLT → nL, reduceLeDiff → nD, reduceBEq → nB
open Int renaming reduceEq → iE, reduceNe → iN, reduceBEq → iB, reduceBNe → iC, reduceLT → iL, reduceLE → iD, reduceAdd → iA, reduceSub → iS, reduceMul → iM
set_option linter.unusedSimpArgs false
set_option linter.unusedVariables false
set_option maxRecDepth 4000
set_option maxHeartbeats 2000000
theorem wu : qk3 149 = some (Q3) := rfl
theorem Qa : qk3 148 = some (gq V6) := rfl
theorem Qf : qk3 125 = some (qj W5) := rfl
theorem Xd : qk3 72 = some (qj qcg) := rfl
theorem kh : qk3 90 = some (qi6) := rfl
theorem Wx : qk3 124 = some (qch) := rfl
theorem X0 : qk3 103 = some (gq ye) := rfl
theorem V7 : qk3 88 = some (qj je) := rfl
def Zn : AC := .seq (.seq (.region [oM 21 9,oM 22 2,oP 23 .lss 21 22]) (.cond 23 .skip (.exit 0))) (.seq (.block 1 (.seq (.region [oC 26 149 [.t 7],oZ 10,oS 4 10 26]) (.seq (.region [oM 27 0,oM 28 1,oM 29 9,oK 30 .add 29 1,oM 31 9,oK 32 .sub 31 1,oC 33 125 [.t 30,.t 32],oC 34 103 [.t 27,.t 28,.t 33,(.c (.int .i64 1))],oZ 11,oS 4 11 34]) (.seq (.draw true [oM 35 8,oM 36 9,oK 37 .sub 36 1,oX 38 1 35 37,oL 39 38,oM 40 8,oM 41 9,oX 42 1 40 41,oL 43 42,oM 44 0,oM 47 0,oC 45 72 [.t 43,.t 44],oP 46 .mul 39 45,oP 48 .rem 46 47,oM 12 48]) (.draw true [oN 49 4 10,oN 50 4 10,oN 51 4 11,oN 53 4 10,oM 55 12,o0 56 (.un .neg (.t 55)),oC 52 90 [.t 50,.t 51],oC 54 90 [.t 52,.t 53],oC 57 124 [.t 49,.t 54,.t 56],oS 4 7 57]))))) (.region [oM 24 9,oK 25 .add 24 1,oM 9 25]))
def Yb : AC := .seq (.region [oN 58 4 7,oS 4 6 58]) .ret
def K6 : AC := .seq (.region [oZ 6]) (.seq (.region [oM 13 0,oM 14 1,oC 15 88 [(.c (.int .i64 1))],oC 16 103 [.t 13,.t 14,.t 15,(.c (.int .i64 1))],oM 17 0,oM 18 1,oM 19 2,oC 20 148 [.t 17,.t 18,.t 19],oZ 7,oS 4 7 16,oM 8 20]) (.seq (.seq (.region [oI 9 1]) (.block 0 (.loop Zn))) Yb))
theorem qjc : zl Try.prog 96 = some ⟨59, K6, [.yn 6 4]⟩ := by kernel_rfl
theorem qjp (p c : Int) (n : Nat) (hp : z7 p = true) (hc : 0 ≤ c ∧ c ≤ p - 1) (hn : 1 ≤ n ∧ n ≤ 5) (hz : n ≤ vh p c) :
    Am.Fn Try.prog 96 [.int .i64 p, .int .i64 c, .int .i64 n] [] (fun v H' => v = elemV p c n 0 (vl p c (n - 1)).length ∧ H' = [.vec 18 (xc (vl p c (n - 1)))]) := by
  refine Am.Fn.ofW qnc mixed qjc (by simp) (by simp) ?_
  have hb := gu hp
  have k1 : (1 : Int) ≤ 1 ∧ (1 : Int) ≤ p - 1 := by omega
  have p1 : 0 < p ∧ p ≤ 1000000 := by omega
  have hp0 : ¬ p = 0 := by omega
  have s1 := qus k1
  have n1 := zai k1
  have hK : (0 : Int) ≤ (n : Int) ∧ (n : Int) ≤ 1000 := by omega
  have c1 : (0 : Int) ≤ 1 ∧ (1 : Int) ≤ 8 := by omega
  have hdu : vi (dia 1 (yh 1)) = some (1, yh 1) := qy (Wy (by omega))
  simp (maxSteps := 3000000) only [qh, zH, K6, wu, Qa, Qf, Xd, kh, Wx, X0, V7, V6, W5, qcg, Q3, qi6, qch, ye, je, Yv, elemV, ki, qb _ _ (qe _), qb _ _ (qd _ _), hb, hc, p1, s1, n1, hK, c1, hdu, qia, ki, qb _ _ (q9 _), List.length_singleton, Int.toNat_one, Int.toNat_natCast, and_self, iE, iN, iB, iC, iL, iD, iA, iS, iM, qa, zZ, ↓qq, ↓reduceIte, reduceCtorEq, nA, nM, nS, nE, nL, nD]; try simp only [qa, zY]
  refine ⟨rfl, ?_⟩
  refine WA.xr qnc (fun s => ∃ k : Nat, k + 1 ≤ n ∧ s = ⟨[(0, .int .i64 p), (1, .int .i64 c), (2, .int .i64 n), (6, .ptr 0 0), (7, .ptr 1 0), (8, .slc 3 0 (max 2 (n + 1)) false 0), (9, .int .i64 (k + 1 : Nat))], [q79, .cells [.int .i64 p, .int .i64 c, .int .i64 (k + 1 : Nat), .slc 2 0 (vl p c k).length false 0], .vec 18 (xc (vl p c k)), .vec 1 (jk (Wz p c (max 2 (n + 1))))]⟩)
    (fun s => match get s.env 9 with | .int _ x => n - x.toNat | _ => 0) ⟨_, qw.can [0, 1, 2, 6, 7, 8, 9] (by simp only [Wc, zC, nB, nD, nA, nE, ↓reduceIte, reduceCtorEq]; rfl), 0, by omega, ?_⟩ ?_
  · simp only [qb _ _ (qe _), qb _ _ (q9 _), zL, ↓reduceIte, reduceCtorEq, nE, nA]
    rfl
  rintro s ⟨k, hk, rfl⟩
  have hPg := qaz (c := c) hb hc k (by omega)
  by_cases hlt : k + 1 < n
  · have hli : ((k + 1 : Nat) : Int) < (n : Int) := by omega
    have e2 : ((k + 1 : Nat) : Int) + 1 = ((k + 2 : Nat) : Int) := by omega
    have hw1 : qo .i64 ((k + 2 : Nat) : Int) = ((k + 2 : Nat) : Int) := wrap64 (by omega) (by omega)
    have hw0 : qo .i64 (((k + 1 : Nat) : Int) - 1) = (k : Int) := by rw [wrap64 (by omega) (by omega)]; omega
    have q1 : (1 : Int) ≤ ((k + 1 : Nat) : Int) ∧ ((k + 1 : Nat) : Int) ≤ 7 := by omega
    have q2 : (0 : Int) ≤ ((k + 2 : Nat) : Int) ∧ ((k + 2 : Nat) : Int) ≤ 8 := by omega
    have hgen : ((k + 2 : Nat) : Int) ≤ 8 ∧ 0 ≤ (k : Int) ∧ (k : Int) + 1 < ((k + 2 : Nat) : Int) := by omega
    have hdg : vi (dia ((k + 2 : Nat) : Int) (Jo (k + 2) k)) = some (((k + 2 : Nat) : Int), Jo (k + 2) k) := qy (qho (by omega) (by omega))
    have hcl := Kx p c (max 2 (n + 1))
    have hci := jg (Wz p c (max 2 (n + 1)))
    have g0 : (Wz p c (max 2 (n + 1))).getD k 0 = chb p c (k + 1) := K4 (by omega)
    have g1 : (Wz p c (max 2 (n + 1))).getD (k + 1) 0 = chb p c (k + 2) := K4 (by omega)
    have i0 : (0 : Int) ≤ (k : Int) ∧ (k : Int) < ((max 2 (n + 1) : Nat) : Int) := by omega
    have i1 : (0 : Int) ≤ ((k + 1 : Nat) : Int) ∧ ((k + 1 : Nat) : Int) < ((max 2 (n + 1) : Nat) : Int) := by omega
    have j0 : k < max 2 (n + 1) := by omega
    have j1 : k + 1 < max 2 (n + 1) := by omega
    have hnz : ¬ chb p c (k + 2) = 0 := (qcy hp hc).2.2 (k + 1) (by omega) (by omega)
    have b1 := qcb (c := c) hb (k + 1)
    have b2 := qcb (c := c) hb (k + 2)
    have hoi : okI p (chb p c (k + 2)) := ⟨hp, by omega, b2.2⟩
    have hv := (qjv hoi.1 hoi.2).1
    have m1 : chb p c (k + 1) * Wq p (chb p c (k + 2)) ≤ 96 * 96 := Int.mul_le_mul (by omega) (by omega) (by omega) (by omega)
    have m0 : 0 ≤ chb p c (k + 1) * Wq p (chb p c (k + 2)) := Int.mul_nonneg b1.1 (by omega)
    have hwm : qo .i64 (chb p c (k + 1) * Wq p (chb p c (k + 2))) = chb p c (k + 1) * Wq p (chb p c (k + 2)) := wrap64 (by omega) (by omega)
    have hX : (chb p c (k + 1) * Wq p (chb p c (k + 2))).tmod p = Ke p c (k + 1) := rfl
    have hXb : 0 ≤ Ke p c (k + 1) ∧ Ke p c (k + 1) < p := ⟨Int.tmod_nonneg _ m0, Int.tmod_lt_of_pos _ (by omega)⟩
    have hwx : qo .i64 (0 - Ke p c (k + 1)) = -(Ke p c (k + 1)) := by rw [wrap64 (by omega) (by omega)]; omega
    have hxk : -1000001 ≤ -(Ke p c (k + 1)) ∧ -(Ke p c (k + 1)) ≤ 1000001 := by omega
    have hW0 := Ba hb q1 hPg.1
    rw [e2] at hW0
    have hWe : chP p ((k + 2 : Nat) : Int) (xi (k + 1)) (fun _ => 1) [] (vl p c k) = Xq p ((k + 1 : Nat) : Int) (vl p c k) := by rw [← e2]; rfl
    have hnext : vl p c (k + 1) = qcd p ((k + 2 : Nat) : Int) (-(Ke p c (k + 1))) (Xq p ((k + 1 : Nat) : Int) (vl p c k))
      (MP p ((k + 2 : Nat) : Int) (vk p c ((k + 2 : Nat) : Int) (MP p ((k + 2 : Nat) : Int) (vk p c ((k + 2 : Nat) : Int) (Xq p ((k + 1 : Nat) : Int) (vl p c k)) [(((k + 2 : Nat) : Int), Jo (k + 2) k, 1)])) (Xq p ((k + 1 : Nat) : Int) (vl p c k)))) := rfl
    have hGg : xd p ((k + 2 : Nat) : Int) [(((k + 2 : Nat) : Int), Jo (k + 2) k, 1)] := by
      have := qim (p := p) (n := ((k + 2 : Nat) : Int)) (k := 1) (i := k) (by omega) (by omega) (by omega)
      rwa [Int.toNat_natCast] at this
    generalize Xq p ((k + 1 : Nat) : Int) (vl p c k) = W at *
    have hM1 := (Br (c := c) hb hc hW0.1 hGg ⟨by omega, by simp⟩).1
    have lM1 := Jn hM1 (by omega)
    generalize hM1e : MP p ((k + 2 : Nat) : Int) (vk p c ((k + 2 : Nat) : Int) W [(((k + 2 : Nat) : Int), Jo (k + 2) k, 1)]) = M1 at *
    have hM2 := (Br (c := c) hb hc hM1 hW0.1 ⟨by omega, by omega⟩).1
    have lM2 := Jn hM2 (by omega)
    generalize hM2e : MP p ((k + 2 : Nat) : Int) (vk p c ((k + 2 : Nat) : Int) M1 W) = M2 at *
    have tP := kr hPg.1.ok
    have tW := kr hW0.1.ok
    have tM1 := kr hM1.ok
    have tM2 := kr hM2.ok
    have tG : qa3 1 (xc _) = some _ := kr hGg.ok
    have dP := hPg.1.dec
    have dW := hW0.1.dec
    have dM1 := hM1.dec
    have dM2 := hM2.dec
    have dG := hGg.dec
    have lP : (vl p c k).length ≤ 100000 := by omega
    have lW : W.length ≤ 300 := by omega
    have lW2 : W.length ≤ 100000 := by omega
    have lM1' : M1.length ≤ 300 := by omega
    have lM2' : M2.length ≤ 100000 := by omega
    have l1 : (1 : Nat) ≤ 300 := by omega
    simp (maxSteps := 3000000) only [qh, zH, Zn, wu, Qa, Qf, Xd, kh, Wx, X0, V7, V6, W5, qcg, Q3, qi6, qch, ye, je, Yv, elemV, ki, qb _ _ (qe _), qb _ _ (qd _ _), hli, e2, hw1, hw0, q1, q2, hgen, hdg, hcl, hci, g0, g1, i0, i1, j0, j1, hoi, hwm, hX, hwx, hxk, hWe, ← hnext, hM1e, hM2e, tP, tW, tM1, tM2, tG, dP, dW, dM1, dM2, dG, lP, lW, lW2, lM1', lM2', l1, hb, hc, hp0, p1, s1, n1, List.length_singleton, Int.toNat_natCast, and_self, iE, iN, iB, iC, iL, iD, iA, iS, iM, qa, zZ, ↓qq, ↓reduceIte, reduceCtorEq, nA, nM, nS, nE, nL, nD]; try simp only [qa, zY]
    repeat' refine And.intro (by first | rfl | exact ⟨_, rfl⟩) ?_
    refine ⟨_, qw.can [0, 1, 2, 6, 7, 8, 9] (by simp only [Wc, zC, nB, nD, nA, nE, ↓reduceIte, reduceCtorEq]; rfl), ⟨k + 1, by omega, ?_⟩, ?_⟩
    · simp only [qb _ _ (qe _), qb _ _ (q9 _), zL, ↓reduceIte, reduceCtorEq, nE, nA]
    · simp only [zL, ↓reduceIte, reduceCtorEq, nE, nA]; omega
  · have hli : ¬ ((k + 1 : Nat) : Int) < (n : Int) := by omega
    obtain rfl : n = k + 1 := by omega
    simp (maxSteps := 3000000) only [qh, zH, Zn, Yb, wu, Qa, Qf, Xd, kh, Wx, X0, V7, V6, W5, qcg, Q3, qi6, qch, ye, je, Yv, elemV, ki, qb _ _ (qe _), qb _ _ (qd _ _), hli, Int.lt_irrefl, Nat.add_sub_cancel, iE, iN, iB, iC, iL, iD, iA, iS, iM, qa, zZ, ↓qq, ↓reduceIte, reduceCtorEq, nA, nM, nS, nE, nL, nD]; try simp only [qa, zY]
    refine ⟨rfl, _, qw.refl _, ?_⟩
    refine Ret.x7 [2] ⟨⟨by simp, rfl, by decide⟩, ?_⟩ (rs := [.agg [.int .i64 p, .int .i64 c, .int .i64 (k + 1 : Nat), .slc 2 0 (vl p c k).length false 0]]) ?_ rfl (by simp [xl]) ?_ ⟨?_, ?_⟩
    · simp only [qg _ _ (qe _), zK, ↓reduceIte, reduceCtorEq, nE, nB, nA]
    · rfl
    · intro j l; cases j <;> simp [zo, AO.ren]
    · simp only [xl]
      simp only [zL, ↓reduceIte, reduceCtorEq, nE, nA]
    · simp only [qb _ _ (qe _), zL, ↓reduceIte, reduceCtorEq, nE, nA]
noncomputable def Ko : List AV → Option (AV × List AO)
  | [.int .i64 p, .int .i64 c, .int .i64 n] => chk ((z7 p = true ∧ 0 ≤ c ∧ c ≤ p - 1) ∧ (1 ≤ n ∧ n ≤ 5) ∧ n ≤ vh p c) (some (elemV p c n 0 (vl p c (n.toNat - 1)).length, [.vec 18 (xc (vl p c (n.toNat - 1)))]))
  | _ => none
theorem q7k : Am.Callee Try.prog 96 (gq Ko) :=
  Am.Callee.new fun xs v H he => by
    unfold Ko at he
    split at he
    · rename_i p c n
      obtain ⟨⟨⟨h1, h2⟩, h3, h4⟩, he⟩ := ql he
      obtain ⟨n, rfl⟩ : ∃ j : Nat, n = j := ⟨n.toNat, by omega⟩
      rw [Int.toNat_natCast] at he
      cases he
      exact ⟨rfl, qjp p c n h1 h2 (by omega) (by omega)⟩
    · cases he
noncomputable def qw3 : zc := (qk3.put 96 (gq Ko))
theorem qv4 : qp Try.prog qw3 := (qnc.put (q7k))
noncomputable def bp (p c n : Int) : ER :=
  if ¬ ((z7 p = true ∧ 0 ≤ c ∧ c ≤ p - 1) ∧ 1 ≤ n ∧ n ≤ 5) then (0, 0, 0, [], 2) else if ¬ n ≤ vh p c then (0, 0, 0, [], 5) else (p, c, n, vl p c (n.toNat - 1), 0)
theorem gh : qw3 94 = some (qj Ze) := rfl
theorem yo : qw3 95 = some (qj bq) := rfl
theorem Vp : qw3 71 = some (qj wc) := rfl
theorem yj : qw3 96 = some (gq Ko) := rfl
def ub : AC := .seq (.region [oZ 6,oI 7 0]) (.seq (.block 0 (.seq (.region [oM 9 0,oM 10 1,oC 11 94 [.t 9,.t 10],o0 12 (.un .not (.t 11)),oM 13 12,oG 14 13 false (.mov (.t 2)),⟨some 15,some (13,false),.call (.c (.fn 71 [] [])) [.t 14,(.c (.int .i64 1)),(.c (.int .i64 5))]⟩,oG 16 13 false (.un .not (.t 15)),o0 17 (.pick (.t 13) (.c (.bool true)) (.t 16)),oM 8 17]) (.cond 8 (.seq (.region [o0 18 (.build [.int .i64 0,.int .i64 0,.int .i64 0,(.v (.slice none 0 0))] []),oS 4 6 18,oI 7 2]) .ret) (.seq (.region [oM 20 2,oM 21 0,oM 22 1,oC 23 95 [.t 21,.t 22],oP 24 .gtr 20 23,oM 19 24]) (.cond 19 (.seq (.region [o0 25 (.build [.int .i64 0,.int .i64 0,.int .i64 0,(.v (.slice none 0 0))] []),oS 4 6 25,oI 7 5]) .ret) .skip))))) (.seq (.region [oM 26 0,oM 27 1,oM 28 2,oC 29 96 [.t 26,.t 27,.t 28],oS 4 6 29,oI 7 0]) .ret))
theorem qfb : zl Try.prog 42 = some ⟨30, ub, [.yn 6 4, .slot 7]⟩ := by kernel_rfl
theorem qe9 (p c n : Int) : Am.Fn Try.prog 42 [.int .i64 p, .int .i64 c, .int .i64 n] [] (q0x (bp p c n)) := by
  refine Am.Fn.ofW qv4 mixed qfb (by simp) (by simp) ?_
  have nilR : ∀ (code : Int) (s : St), bp p c n = (0, 0, 0, [], code) → Wh s [.yn 6 4, .slot 7] = some [.agg [.int .i64 0, .int .i64 0, .int .i64 0, .v (.slice none 0 0)], .int .i64 code] → Ret [.yn 6 4, .slot 7] [] (q0x (bp p c n)) s := fun code s he hr => by
    refine Ret.nil 18 (.tup [elemV 0 0 0 0 0, .int .i64 code]) hr ?_ (by simp) ?_ ?_
    · simp [xl, elemV, AV.ren, AV.zp]
    · exact ⟨⟨trivial, trivial, trivial, by simp [AV.under], trivial⟩, trivial, trivial⟩
    · rw [he]; exact ⟨rfl, rfl⟩
  by_cases hf : (z7 p = true ∧ 0 ≤ c ∧ c ≤ p - 1) ∧ 1 ≤ n ∧ n ≤ 5
  · obtain ⟨⟨h1, h2⟩, h3⟩ := hf
    have hP : (z7 p && decide (0 ≤ c ∧ c ≤ p - 1)) = true := by rw [h1, decide_eq_true h2]; rfl
    have hN : decide (1 ≤ n ∧ n ≤ 5) = true := decide_eq_true h3
    by_cases hz : n ≤ vh p c
    · have hzl : ¬ ((vh p c : Nat) : Int) < n := by omega
      have e : bp p c n = (p, c, n, vl p c (n.toNat - 1), 0) := by unfold bp; rw [if_neg (fun h => h ⟨⟨h1, h2⟩, h3⟩), if_neg (fun h => h hz)]
      simp (maxSteps := 3000000) only [qh, zH, ub, gh, yo, Vp, yj, Ze, wc, Ko, bq, Yv, elemV, ki, qb _ _ (qe _), qb _ _ (qd _ _), hP, hN, h1, h2, h3, hz, hzl, and_self, iE, iN, iB, iC, iL, iD, iA, iS, iM, qa, zZ, ↓qq, ↓reduceIte, reduceCtorEq, nA, nM, nS, nE, nL, nD]; try simp only [qa, zY]
      rw [e]
      unfold q0x
      refine ⟨rfl, _, qw.refl _, ?_⟩
      generalize vl p c (n.toNat - 1) = L
      refine Ret.x7 [1] ⟨⟨by simp, rfl, by decide⟩, ?_⟩ (rs := [.agg [.int .i64 p, .int .i64 c, .int .i64 n, .slc 1 0 L.length false 0], .int .i64 0]) rfl (by rfl) (by simp [xl]) ?_ ⟨?_, ?_⟩
      · simp only [qg _ _ (qe _), zK, ↓reduceIte, reduceCtorEq, nE, nB, nA]
      · intro j l; cases j <;> simp [zo, AO.ren]
      · simp only [xl]
        simp only [zL, ↓reduceIte, reduceCtorEq, nE, nA]
        rfl
      · simp only [qb _ _ (qe _), zL, ↓reduceIte, reduceCtorEq, nE, nA]
    · have hzl : ((vh p c : Nat) : Int) < n := by omega
      have e : bp p c n = (0, 0, 0, [], 5) := by unfold bp; rw [if_neg (fun h => h ⟨⟨h1, h2⟩, h3⟩), if_pos hz]
      simp (maxSteps := 3000000) only [qh, zH, ub, gh, yo, Vp, yj, Ze, wc, Ko, bq, Yv, elemV, ki, qb _ _ (qe _), qb _ _ (qd _ _), hP, hN, h1, h2, h3, hzl, and_self, iE, iN, iB, iC, iL, iD, iA, iS, iM, qa, zZ, ↓qq, ↓reduceIte, reduceCtorEq, nA, nM, nS, nE, nL, nD]; try simp only [qa, zY]
      exact ⟨rfl, _, qw.refl _, nilR 5 _ e rfl⟩
  · have e : bp p c n = (0, 0, 0, [], 2) := if_pos hf
    by_cases hP : z7 p = true ∧ 0 ≤ c ∧ c ≤ p - 1
    · have hP' : (z7 p && decide (0 ≤ c ∧ c ≤ p - 1)) = true := by rw [hP.1, decide_eq_true hP.2]; rfl
      have hN : decide (1 ≤ n ∧ n ≤ 5) = false := decide_eq_false fun h => hf ⟨hP, h⟩
      simp (maxSteps := 3000000) only [qh, zH, ub, gh, yo, Vp, yj, Ze, wc, Ko, bq, Yv, elemV, ki, qb _ _ (qe _), qb _ _ (qd _ _), hP', hN, and_self, iE, iN, iB, iC, iL, iD, iA, iS, iM, qa, zZ, ↓qq, ↓reduceIte, reduceCtorEq, nA, nM, nS, nE, nL, nD]; try simp only [qa, zY]
      exact ⟨rfl, _, qw.refl _, nilR 2 _ e rfl⟩
    · have hP' : (z7 p && decide (0 ≤ c ∧ c ≤ p - 1)) = false := by
        cases h1 : z7 p with
        | false => rfl
        | true => rw [Bool.true_and]; exact decide_eq_false fun h => hP ⟨h1, h⟩
      simp (maxSteps := 3000000) only [qh, zH, ub, gh, yo, Vp, yj, Ze, wc, Ko, bq, Yv, elemV, ki, qb _ _ (qe _), qb _ _ (qd _ _), hP', and_self, iE, iN, iB, iC, iL, iD, iA, iS, iM, qa, zZ, ↓qq, ↓reduceIte, reduceCtorEq, nA, nM, nS, nE, nL, nD]; try simp only [qa, zY]
      exact ⟨rfl, _, qw.refl _, nilR 2 _ e rfl⟩
noncomputable def Jd : List AV → Option (AV × List AO)
  | [.int .i64 p, .int .i64 c, .int .i64 n] => some (.tup [elemV (bp p c n).1 (bp p c n).2.1 (bp p c n).2.2.1 0 (bp p c n).2.2.2.1.length, .int .i64 (bp p c n).2.2.2.2], [.vec 18 (xc (bp p c n).2.2.2.1)])
  | _ => none
theorem q5w : Am.Callee Try.prog 42 (gq Jd) :=
  Am.Callee.new fun xs v H he => by
    unfold Jd at he
    split at he
    · rename_i p c n
      cases he
      exact ⟨rfl, qe9 p c n⟩
    · cases he
noncomputable def qnw : zc := (qw3.put 42 (gq Jd))
theorem W0 : qp Try.prog qnw := (qv4.put (q5w))
def ju : AC := .seq (.region [oP 13 .lss 12 11]) (.seq (.cond 13 .skip (.exit 0)) (.seq (.block 1 (.seq (.region [oX 14 18 10 12,oN 15 18 14,o0 6 (.alloc [.int .i64 0,.int .u8 0,.int .u8 0,.int .u8 0,.int .u8 0,.int .u8 0,.int .u8 0,.int .u8 0,.int .u8 0,.int .u8 0,.int .u8 0,.int .u8 0,.int .u8 0,.int .u8 0,.int .u8 0,.int .u8 0,.int .u8 0,.int .i64 0]),oS 18 6 15]) (.seq (.region [oF 16 0 6,oN 17 17 16,oN 18 17 3,o0 19 (.eqs false [.int,.int,.int,.int,.int,.int,.int,.int,.int,.int,.int,.int,.int,.int,.int,.int,.int] (.t 17) (.t 18))]) (.cond 19 (.seq (.region [oF 20 17 6,oL 21 20,oM 4 21]) .ret) .skip)))) (.region [oK 22 .add 12 1,oM 12 22])))
def jn : AC := .seq (.region [oI 4 0]) .ret
def Q8 : AC := .seq (.region [o0 3 (.box (.t 1)),oI 4 0]) (.seq (.seq (.region [oM 7 0,o0 8 (.jx (.t 7)),oF 9 3 8,oL 10 9,o0 11 (.len .slc (.t 10)),oI 12 0]) (.block 0 (.loop ju))) jn)
theorem Uu : zl Try.prog 87 = some ⟨23, Q8, [.slot 4]⟩ := by kernel_rfl
theorem qwv (p c n : Int) (m : List Nat) (ts : List (Int × List Nat × Int)) (hm : okD m) (hg : xd p n ts) (hl : ts.length ≤ 300) :
    Am.Fn Try.prog 87 [.ptr 1 0, .agg (dia n m)] [.ro (xc ts), .ro (elC p c n ts.length)] (fun v H' => v = .int .i64 (cf m ts) ∧ H' = [.ro (xc ts), .ro (elC p c n ts.length)]) := by
  refine Am.Fn.xf (R := fun v => v = _) W0 mixed Uu (by simp [AV.qv, AV.under, qk _ _ (qd _ _)]) ?_ ?_
  · intro j o hj
    match j, hj with
    | 0, hj => cases hj; exact qk _ _ (qe _)
    | 1, hj => cases hj; exact ⟨trivial, trivial, trivial, by simp [AV.under], trivial⟩
    | j + 2, hj => simp at hj
  have hal := xe hg.ok
  have hap := qps (fun t ht => (hg.dia t ht).1) hg.up
  simp (maxSteps := 3000000) only [qh, zH, Q8, qa, elC, hal, iE, iN, iB, iC, iL, iD, iA, iS, iM, qa, zZ, ↓qq, ↓reduceIte, reduceCtorEq, nA, nM, nS, nE, nL, nD]; try simp only [qa, zY]
  refine WA.xr W0 (fun s => ∃ k : Nat, k ≤ ts.length ∧ (∀ t ∈ ts.take k, t.2.1 ≠ m) ∧ s = ⟨[(0, .ptr 1 0), (3, .ptr 2 0), (4, .int .i64 0), (10, .slc 0 0 ts.length false 0), (11, .int .i64 ts.length), (12, .int .i64 k)], [.ro (xc ts), .ro [.int .i64 p, .int .i64 c, .int .i64 n, .slc 0 0 ts.length false 0], .cells (dia n m)]⟩)
    (fun s => match get s.env 12 with | .int _ x => ts.length - x.toNat | _ => 0) ⟨_, qw.qx [0, 3, 4, 10, 11, 12], 0, by omega, (by simp), rfl⟩ ?_
  rintro s ⟨k, hk, hno, rfl⟩
  by_cases hlt : k < ts.length
  · have hw : qo .i64 ((k : Int) + 1) = ((k + 1 : Nat) : Int) := by rw [wrap64 (by omega) (by omega)]; rfl
    have hli : (k : Int) < (ts.length : Int) := by omega
    have hk0 : (0 : Int) ≤ k := by omega
    have hg0 := Zr hg.ok hlt
    have hok := hg.ok _ (List.getElem_mem hlt)
    have hsz := hg.dia _ (List.getElem_mem hlt)
    have hov := Jt (t := (0, List.replicate 16 0, 0)) (u := ts[k]) (by simp) hok.1
    have htl := x6 hok
    have htd := Uk hok
    have htf := Qx hok
    rw [hsz.1] at htd
    have hb1 : k * 18 < ts.length * 18 := by omega
    have hb2 : k * 18 + 18 ≤ ts.length * 18 := by omega
    have hdl := qc (n := n) (m := m)
    by_cases he : ts[k].2.1 = m
    · have hq : jw [.int, .int, .int, .int, .int, .int, .int, .int, .int, .int, .int, .int, .int, .int, .int, .int, .int] (dia n ts[k].2.1) (dia n m) = some true := by
        rw [Uz hok.1 hm.1]; simp [he]
      have hcf : ts[k].2.2 = cf m ts := by rw [← he]; exact (qok hap _ (List.getElem_mem hlt)).symm
      simp (maxSteps := 3000000) only [qh, zH, ju, jn, qa, hli, hk0, hal, hb1, hb2, hg0, Qm, htl, htd, htf, Qh, vb, hov, hw, hq, qc, hm.1, qn hm.1, List.length_replicate, Nat.le_refl, and_self, iE, iN, iB, iC, iL, iD, iA, iS, iM, qa, zZ, ↓qq, ↓reduceIte, reduceCtorEq, nA, nM, nS, nE, nL, nD]; try simp only [qa, zY]
      exact ⟨⟨_, rfl⟩, by rw [hcf]⟩
    · have hq : jw [.int, .int, .int, .int, .int, .int, .int, .int, .int, .int, .int, .int, .int, .int, .int, .int, .int] (dia n ts[k].2.1) (dia n m) = some false := by
        rw [Uz hok.1 hm.1]; simp [he]
      simp (maxSteps := 3000000) only [qh, zH, ju, jn, qa, hli, hk0, hal, hb1, hb2, hg0, Qm, htl, htd, htf, Qh, vb, hov, hw, hq, qc, hm.1, qn hm.1, List.length_replicate, Nat.le_refl, and_self, iE, iN, iB, iC, iL, iD, iA, iS, iM, qa, zZ, ↓qq, ↓reduceIte, reduceCtorEq, nA, nM, nS, nE, nL, nD]; try simp only [qa, zY]
      refine ⟨_, qw.can [0, 3, 4, 10, 11, 12] (by simp only [Wc, zC, nB, nD, nA, nE, ↓reduceIte, reduceCtorEq]; rfl), ⟨k + 1, by omega, fun t ht => ?_, ?_⟩, ?_⟩
      · rw [List.take_succ_eq_append_getElem hlt] at ht
        rcases List.mem_append.1 ht with ht | ht
        · exact hno t ht
        · rw [List.mem_singleton] at ht; subst ht; exact he
      · simp only [qb _ _ (qe _), zL, ↓reduceIte, reduceCtorEq, nE, nA]
      · simp only [zL, ↓reduceIte, reduceCtorEq, nE, nA]; omega
  · have hli : ¬ (k : Int) < (ts.length : Int) := by omega
    obtain rfl : k = ts.length := by omega
    rw [List.take_length] at hno
    simp (maxSteps := 3000000) only [qh, zH, ju, jn, qa, hli, Int.lt_irrefl, qhe hno, iE, iN, iB, iC, iL, iD, iA, iS, iM, qa, zZ, ↓qq, ↓reduceIte, reduceCtorEq, nA, nM, nS, nE, nL, nD]; try simp only [qa, zY]
    exact ⟨_, rfl⟩
open Classical in
noncomputable def Jf : BE := fun hp xs => match xs with
  | [.ptr b 0, .agg d] => match rd hp b, vi d with
    | some (.int .i64 p :: .int .i64 c :: .int .i64 n :: .slc ba 0 la false 0 :: _), some (n', m) => match rd hp ba with
      | some L => match qa3 la L with
        | some a => chk ((n' = n ∧ la ≤ 300) ∧ Ux p n a) (some (.int .i64 (cf m a), hp))
        | none => none
      | none => none
    | _, _ => none
  | _ => none
theorem q3l : Am.Callee Try.prog 87 Jf := Callee.fp fun hp xs v hp' he => by
  unfold Jf at he
  split at he
  · rename_i b d
    split at he
    · rename_i p c n ba la L0 n' m hL0 hd
      split at he
      · rename_i L hL
        split at he
        · rename_i a h1
          obtain ⟨⟨⟨a1, a2⟩, a3⟩, he2⟩ := ql he
          simp only [Option.some.injEq, Prod.mk.injEq] at he2
          obtain ⟨rfl, rfl⟩ := he2
          obtain ⟨e1, e2, e3, e4⟩ := kz h1
          have g1 := xe e2
          have hgg := a3.qg8 e2
          obtain ⟨rfl, hm⟩ := zi hd
          subst a1
          have hfn := qwv p c n' m a hm hgg (by omega)
          refine ⟨[(ba, 0), (b, 0)], [.ptr 1 0, .agg (dia n' m)], _, _, _, hfn, by simp [AV.ren, AV.zp, ofL, qb _ _ (qd _ _)], rfl,
            ⟨⟨L, hL, by omega, by rw [List.drop_zero, qb _ _ (qe _), g1, e1]; exact e3⟩, ⟨_, hL0, by simp, by simp [AV.zp, AV.ren, ofL, e1]⟩, trivial⟩, rfl,
            ⟨qk _ _ (qe _), ⟨trivial, trivial, trivial, by simp [AV.under], trivial⟩, trivial⟩, ⟨by simp [AV.under], qk _ _ (qd _ _), trivial⟩, by simp [AV.ren], ?_⟩
          simp [after, upd, AO.wr]
        · cases he
      · cases he
    · cases he
  · cases he
end Go.Proofs.Ytfhckbbgmblhbaa
namespace Go.Proofs.Ytfhckbbgmblhbaa
open Go.Am Go.Dia
open Nat renaming reduceAdd → nA, reduceMul → nM, reduceSub → nS, reduceEqDiff → nE, reduceLT → nL, reduceLeDiff → nD, reduceBEq → nB
open Int renaming reduceEq → iE, reduceNe → iN, reduceBEq → iB, reduceBNe → iC, reduceLT → iL, reduceLE → iD, reduceAdd → iA, reduceSub → iS, reduceMul → iM
set_option linter.unusedSimpArgs false
set_option linter.unusedVariables false
set_option maxRecDepth 4000
set_option maxHeartbeats 2000000
open Classical in
noncomputable def qbf (p c : Int) : Int := if z7 p = true ∧ 0 ≤ c ∧ c ≤ p - 1 then 0 else 2
theorem J7 : qnw 66 = some (qj wc) := rfl
theorem Qw : qnw 137 = some (qj ya) := rfl
theorem Z5 : qnw 132 = some (qj bq) := rfl
def Yh : AC := .seq (.region [oI 4 0]) (.seq (.seq (.region [oM 5 0,oC 6 137 [.t 5],o0 7 (.un .not (.t 6)),oM 8 7,oG 9 8 false (.mov (.t 1)),oG 10 8 false (.mov (.t 0)),oG 11 8 false (.bin .sub (.t 10) (.c (.int .i64 1))),⟨some 12,some (8,false),.call (.c (.fn 66 [] [])) [.t 9,(.c (.int .i64 0)),.t 11]⟩,oG 13 8 false (.un .not (.t 12)),o0 14 (.pick (.t 8) (.c (.bool true)) (.t 13))]) (.cond 14 (.seq (.region [oI 4 2]) .ret) .skip)) (.seq (.region [oI 4 0]) .ret))
theorem qq5 : zl Try.prog 131 = some ⟨15, Yh, [.slot 4]⟩ := by kernel_rfl
theorem qo9 (p c : Int) : Am.Fn Try.prog 131 [.int .i64 p, .int .i64 c] [] (fun v H' => v = .int .i64 (qbf p c) ∧ H' = []) := by
  refine Am.Fn.xf (R := fun v => v = _) W0 mixed qq5 (by simp [AV.qv, AV.under]) (by simp) ?_
  cases hP : z7 p with
  | false =>
    have e : qbf p c = 2 := by unfold qbf; rw [if_neg (by simp [hP])]
    simp (maxSteps := 3000000) only [qh, zH, Yh, J7, Qw, Z5, wc, ya, bq, hP, e, iE, iN, iB, iC, iL, iD, iA, iS, iM, qa, zZ, ↓qq, ↓reduceIte, reduceCtorEq, nA, nM, nS, nE, nL, nD]; try simp only [qa, zY]
  | true =>
    have hb := gu hP
    have hw : qo .i64 (p - 1) = p - 1 := wrap64 (by omega) (by omega)
    by_cases hc : 0 ≤ c ∧ c ≤ p - 1
    · have e : qbf p c = 0 := by unfold qbf; rw [if_pos ⟨hP, hc⟩]
      simp (maxSteps := 3000000) only [qh, zH, Yh, J7, Qw, Z5, wc, ya, bq, hP, hw, hc, e, and_self, iE, iN, iB, iC, iL, iD, iA, iS, iM, qa, zZ, ↓qq, ↓reduceIte, reduceCtorEq, nA, nM, nS, nE, nL, nD]; try simp only [qa, zY]
    · have e : qbf p c = 2 := by unfold qbf; rw [if_neg fun h => hc h.2]
      simp (maxSteps := 3000000) only [qh, zH, Yh, J7, Qw, Z5, wc, ya, bq, hP, hw, hc, e, iE, iN, iB, iC, iL, iD, iA, iS, iM, qa, zZ, ↓qq, ↓reduceIte, reduceCtorEq, nA, nM, nS, nE, nL, nD]; try simp only [qa, zY]
noncomputable def W4 : List AV → Option AV
  | [.int .i64 p, .int .i64 c] => some (.int .i64 (qbf p c))
  | _ => none
theorem q5p : Am.Callee Try.prog 131 (qj W4) := Am.Callee.plain fun xs v he => by
  unfold W4 at he
  split at he
  · rename_i p c
    cases he
    exact ⟨rfl, rfl, qo9 p c⟩
  · cases he
noncomputable def qxe : zc := (qnw.put 131 (qj W4))
theorem qv0 : qp Try.prog qxe := (W0.put (q5p))
theorem Qr : qxe 66 = some (qj wc) := rfl
theorem u0 : qxe 137 = some (qj ya) := rfl
theorem gm : qxe 132 = some (qj bq) := rfl
theorem gb : qxe 131 = some (qj W4) := rfl
open Classical in
noncomputable def Qj (p c n : Int) : Int := if ¬ ((z7 p = true ∧ 0 ≤ c ∧ c ≤ p - 1) ∧ 1 ≤ n ∧ n ≤ 5) then 2 else if ¬ n ≤ vh p c then 5 else 0
def Xn : AC := .seq (.region [oI 6 0]) (.seq (.block 0 (.seq (.region [oM 8 0,oM 9 1,oC 10 131 [.t 8,.t 9],oK 11 .neq 10 0,oM 12 11,oG 13 12 false (.mov (.t 2)),⟨some 14,some (12,false),.call (.c (.fn 66 [] [])) [.t 13,(.c (.int .i64 1)),(.c (.int .i64 5))]⟩,oG 15 12 false (.un .not (.t 14)),o0 16 (.pick (.t 12) (.c (.bool true)) (.t 15)),oM 7 16]) (.cond 7 (.seq (.region [oI 6 2]) .ret) (.seq (.region [oM 18 2,oM 19 0,oM 20 1,oC 21 132 [.t 19,.t 20],oP 22 .gtr 18 21,oM 17 22]) (.cond 17 (.seq (.region [oI 6 5]) .ret) .skip))))) (.seq (.region [oI 6 0]) .ret))
theorem qnp : zl Try.prog 77 = some ⟨23, Xn, [.slot 6]⟩ := by kernel_rfl
theorem qns (p c n : Int) : Am.Fn Try.prog 77 [.int .i64 p, .int .i64 c, .int .i64 n] [] (fun v H' => v = .int .i64 (Qj p c n) ∧ H' = []) := by
  refine Am.Fn.xf (R := fun v => v = _) qv0 mixed qnp (by simp [AV.qv, AV.under]) (by simp) ?_
  by_cases hf : z7 p = true ∧ 0 ≤ c ∧ c ≤ p - 1
  · have hC : qbf p c = 0 := if_pos hf
    obtain ⟨hP, hc⟩ := hf
    by_cases hn : 1 ≤ n ∧ n ≤ 5
    · by_cases hz : n ≤ vh p c
      · have e : Qj p c n = 0 := by unfold Qj; rw [if_neg (fun h => h ⟨⟨hP, hc⟩, hn⟩), if_neg (fun h => h hz)]
        have hzl : ¬ ((vh p c : Nat) : Int) < n := by omega
        simp (maxSteps := 3000000) only [qh, zH, Xn, Qr, u0, gm, gb, W4, wc, ya, bq, hC, hn, hP, hc, hzl, e, and_self, iE, iN, iB, iC, iL, iD, iA, iS, iM, qa, zZ, ↓qq, ↓reduceIte, reduceCtorEq, nA, nM, nS, nE, nL, nD]; try simp only [qa, zY]
      · have e : Qj p c n = 5 := by unfold Qj; rw [if_neg (fun h => h ⟨⟨hP, hc⟩, hn⟩), if_pos hz]
        have hzl : ((vh p c : Nat) : Int) < n := by omega
        simp (maxSteps := 3000000) only [qh, zH, Xn, Qr, u0, gm, gb, W4, wc, ya, bq, hC, hn, hP, hc, hzl, e, and_self, iE, iN, iB, iC, iL, iD, iA, iS, iM, qa, zZ, ↓qq, ↓reduceIte, reduceCtorEq, nA, nM, nS, nE, nL, nD]; try simp only [qa, zY]
    · have e : Qj p c n = 2 := by unfold Qj; rw [if_pos fun h => hn h.2]
      simp (maxSteps := 3000000) only [qh, zH, Xn, Qr, u0, gm, gb, W4, wc, ya, bq, hC, hn, hP, hc, e, and_self, iE, iN, iB, iC, iL, iD, iA, iS, iM, qa, zZ, ↓qq, ↓reduceIte, reduceCtorEq, nA, nM, nS, nE, nL, nD]; try simp only [qa, zY]
  · have hC : qbf p c = 2 := if_neg hf
    have e : Qj p c n = 2 := by unfold Qj; rw [if_pos fun h => hf h.1]
    simp (maxSteps := 3000000) only [qh, zH, Xn, Qr, u0, gm, gb, W4, wc, ya, bq, hC, e, iE, iN, iB, iC, iL, iD, iA, iS, iM, qa, zZ, ↓qq, ↓reduceIte, reduceCtorEq, nA, nM, nS, nE, nL, nD]; try simp only [qa, zY]
noncomputable def Jh : List AV → Option AV
  | [.int .i64 p, .int .i64 c, .int .i64 n] => some (.int .i64 (Qj p c n))
  | _ => none
theorem q43 : Am.Callee Try.prog 77 (qj Jh) := Am.Callee.plain fun xs v he => by
  unfold Jh at he
  split at he
  · rename_i p c n
    cases he
    exact ⟨rfl, rfl, qns p c n⟩
  · cases he
end Go.Proofs.Ytfhckbbgmblhbaa
namespace Go.Proofs.Ytfhckbbgmblhbaa
open Go.Am Go.Dia
open Nat renaming reduceAdd → nA, reduceMul → nM, reduceSub → nS, reduceEqDiff → nE, reduceLT → nL, reduceLeDiff → nD, reduceBEq → nB
open Int renaming reduceEq → iE, reduceNe → iN, reduceBEq → iB, reduceBNe → iC, reduceLT → iL, reduceLE → iD, reduceAdd → iA, reduceSub → iS, reduceMul → iM
set_option linter.unusedSimpArgs false
set_option linter.unusedVariables false
set_option maxRecDepth 4000
set_option maxHeartbeats 1000000
def dOf (s : List UInt8) : List Nat := match vg s with
  | some q => q.2
  | none => List.replicate 16 0
def qf (n : Nat) : List (List Nat) := (brs (2 * n) 0).map dOf
def qm3 (n : Nat) : Bool := Nat.ble (brs (2 * n) 0).length 132 && (Nat.ble 1 (brs (2 * n) 0).length && (brs (2 * n) 0).all fun s => isI n (dOf s) && (ja n (dOf s) == s) && ((dOf s).length == 16) && (dOf s).all fun x => Nat.blt x 256)
theorem q94 : qm3 1 = true := by kernel_rfl
theorem zat : qm3 2 = true := by kernel_rfl
theorem q97 : qm3 3 = true := by kernel_rfl
theorem q98 : qm3 4 = true := by kernel_rfl
theorem q9k : qm3 5 = true := by kernel_rfl
theorem q9t : qm3 6 = true := by kernel_rfl
theorem qvk {n : Nat} (h : 1 ≤ n ∧ n ≤ 6) : qm3 n = true := by
  rcases (show n = 1 ∨ n = 2 ∨ n = 3 ∨ n = 4 ∨ n = 5 ∨ n = 6 by omega) with rfl | rfl | rfl | rfl | rfl | rfl
  · exact q94
  · exact zat
  · exact q97
  · exact q98
  · exact q9k
  · exact q9t
theorem Ui {n : Nat} (h : 1 ≤ n ∧ n ≤ 6) : 1 ≤ (qf n).length ∧ (qf n).length ≤ 132 := by
  have h0 := qvk h
  simp only [qm3, Bool.and_eq_true] at h0
  rw [qf, List.length_map]
  exact ⟨Nat.le_of_ble_eq_true h0.2.1, Nat.le_of_ble_eq_true h0.1⟩
theorem qs8 {n : Nat} (h : 1 ≤ n ∧ n ≤ 6) {s : List UInt8} (hs : s ∈ brs (2 * n) 0) : isS n (dOf s) = true ∧ ja n (dOf s) = s ∧ okD (dOf s) ∧ vg s = some (n, dOf s) := by
  have h0 := qvk h
  simp only [qm3, Bool.and_eq_true, List.all_eq_true] at h0
  have h1 := h0.2.2 s hs
  simp only [Bool.and_eq_true, beq_iff_eq] at h1
  obtain ⟨⟨⟨h1, h2⟩, h3⟩, h4⟩ := h1
  refine ⟨by rw [Xu n _ h3]; exact h1, h2, ⟨h3, fun x hx => ?_⟩, ?_⟩
  · have := h4 x hx
    simp only [Nat.blt] at this
    exact Nat.le_of_ble_eq_true this
  · simp only [isI, Bool.and_eq_true, beq_iff_eq] at h1
    have h5 := h1.2.2
    rwa [h2] at h5
theorem Wo {n : Nat} (h : 1 ≤ n ∧ n ≤ 6) {m : List Nat} (hm : m ∈ qf n) : isS n m = true ∧ okD m := by
  obtain ⟨s, hs, rfl⟩ := List.mem_map.1 hm
  have := qs8 h hs
  exact ⟨this.1, this.2.2.1⟩
theorem qad {n : Nat} {m : List Nat} (hs : isS n m = true) (hm : m.length = 16) : m ∈ qf n := by
  refine List.mem_map.2 ⟨_, qrx hs hm, ?_⟩
  rw [Xu n m hm] at hs
  simp only [isI, Bool.and_eq_true, beq_iff_eq] at hs
  unfold dOf
  rw [hs.2.2]
theorem qtn : ∀ (r o : Nat), (brs r o).Pairwise fun a b => Op.bytesLess a b = true
  | 0, o => by simp only [brs]; split <;> simp
  | r + 1, o => by
    have hc : ∀ (x : UInt8) (a b : List UInt8), Op.bytesLess a b = true → Op.bytesLess (x :: a) (x :: b) = true := fun x a b h => by simp [Op.bytesLess, h]
    have hd : ∀ (a b : List UInt8), Op.bytesLess (40 :: a) (41 :: b) = true := fun a b => by simp [Op.bytesLess]
    simp only [brs]
    refine List.pairwise_append.2 ⟨List.pairwise_map.2 ((qtn r (o + 1)).imp fun {a b} h => hc _ _ _ h), ?_, ?_⟩
    · split
      · exact List.pairwise_map.2 ((qtn r (o - 1)).imp fun {a b} h => hc _ _ _ h)
      · exact .nil
    · intro a ha b hb
      obtain ⟨a, _, rfl⟩ := List.mem_map.1 ha
      split at hb
      · obtain ⟨b, _, rfl⟩ := List.mem_map.1 hb
        exact hd a b
      · cases hb
theorem qv2 {n : Nat} (h : 1 ≤ n ∧ n ≤ 6) : (qf n).Pairwise fun a b => Op.bytesLess (ja n a) (ja n b) = true := by
  refine List.pairwise_map.2 (List.Pairwise.imp_of_mem ?_ (qtn (2 * n) 0))
  intro a b ha hb hlt
  rwa [(qs8 h ha).2.1, (qs8 h hb).2.1]
theorem X2 {n : Nat} (h : 1 ≤ n ∧ n ≤ 6) : (qf n).Nodup := (qv2 h).imp fun {a b} hlt e => by
  subst e; rw [uz] at hlt; cases hlt
theorem quh {n : Nat} (h : 1 ≤ n ∧ n ≤ 6) {m : List Nat} (hm : m ∈ qf n) {j : Nat} (hj : j < (qf n).length) :
    Op.bytesLess (ja n (qf n)[j]) (ja n m) = decide (j < (qf n).idxOf m) := by
  have hi : (qf n).idxOf m < (qf n).length := List.idxOf_lt_length_of_mem hm
  have hg : (qf n)[(qf n).idxOf m] = m := List.getElem_idxOf hi
  have hu := List.pairwise_iff_getElem.1 (qv2 h)
  rcases Nat.lt_trichotomy j ((qf n).idxOf m) with hlt | he | hgt
  · rw [decide_eq_true hlt]
    have := hu j _ hj hi hlt
    rwa [hg] at this
  · rw [decide_eq_false (by omega)]
    have e : (qf n)[j] = m := by
      have : (qf n)[j] = (qf n)[(qf n).idxOf m] := by congr 1
      rw [this, hg]
    rw [e, uz]
  · rw [decide_eq_false (by omega)]
    have := hu _ j hi hj hgt
    rw [hg] at this
    exact qag _ _ this
theorem Kw {L : List (List Nat)} {f : List Nat → Int} {d : List Nat} (hd : d ∈ L) (hn : L.Nodup) (v : Int) : (L.map f).set (L.idxOf d) v = L.map fun m => if m = d then v else f m := by
  induction L with
  | nil => cases hd
  | cons x l ih =>
    have hn' := List.nodup_cons.1 hn
    rw [List.idxOf_cons]
    by_cases e : x = d
    · subst e
      simp only [beq_self_eq_true, cond_true, List.map_cons, List.set_cons_zero, if_true]
      congr 1
      refine List.map_congr_left fun m hm => ?_
      rw [if_neg (by rintro rfl; exact hn'.1 hm)]
    · have hne : (x == d) = false := beq_false_of_ne e
      have hd' : d ∈ l := by
        rcases List.mem_cons.1 hd with h | h
        · exact absurd h.symm e
        · exact h
      simp only [hne, cond_false, List.map_cons, List.set_cons_succ, ih hd' hn'.2, if_neg e]
theorem qaj {L : List (List Nat)} {f : List Nat → Int} {d : List Nat} (hd : d ∈ L) : (L.map f).getD (L.idxOf d) 0 = f d := by
  have hi := List.idxOf_lt_length_of_mem hd
  rw [List.getD_eq_getElem?_getD, List.getElem?_map, List.getElem?_eq_getElem hi, List.getElem_idxOf hi]; rfl
theorem X6 {L : List (List Nat)} {f : List Nat → Int} {i : Nat} (h : i < L.length) : (L.map f).getD i 0 = f L[i] := by
  rw [List.getD_eq_getElem?_getD, List.getElem?_map, List.getElem?_eq_getElem h]; rfl
theorem qn1 {L : List (List Nat)} (hn : L.Nodup) {i : Nat} (h : i < L.length) : L.idxOf L[i] = i := by
  have hm : L[i] ∈ L := List.getElem_mem h
  have h1 := List.idxOf_lt_length_of_mem hm
  have h2 : L[L.idxOf L[i]] = L[i] := List.getElem_idxOf h1
  exact (List.getElem_inj hn).1 h2
def atR (L : List (List Nat)) (v : List Int) (m : List Nat) : Int := v.getD (L.idxOf m) 0
theorem qvm {L : List (List Nat)} (hn : L.Nodup) {v : List Int} (hl : v.length = L.length) : v = L.map (atR L v) := by
  refine List.ext_getElem (by simp [hl]) fun i h1 h2 => ?_
  rw [List.getElem_map]
  unfold atR
  rw [qn1 hn (by omega), List.getD_eq_getElem?_getD, List.getElem?_eq_getElem h1]; rfl
theorem qvl {L : List (List Nat)} {f : List Nat → Int} {d : List Nat} (hd : d ∈ L) : atR L (L.map f) d = f d := qaj hd
def Xo (f : List Nat → Int) : List (List Nat) → Int
  | [] => 0
  | d :: l => f d + Xo f l
def Va (f : List Nat → Int) : List (Int × List Nat × Int) → Int
  | [] => 0
  | t :: l => f t.2.1 * t.2.2 + Va f l
theorem qp9 {f : List Nat → Int} : ∀ {a b : List (List Nat)}, Xo f (a ++ b) = Xo f a + Xo f b
  | [], b => by simp [Xo]
  | d :: a, b => by simp only [List.cons_append, Xo, qp9 (a := a)]; omega
theorem qa1 {f : List Nat → Int} {L : List (List Nat)} {i : Nat} (h : i < L.length) : Xo f (L.take (i + 1)) = Xo f (L.take i) + f L[i] := by
  rw [List.take_succ_eq_append_getElem h, qp9]; simp [Xo]
theorem X7 {f g : List Nat → Int} : ∀ {L : List (List Nat)}, (∀ d ∈ L, f d = g d) → Xo f L = Xo g L
  | [], _ => rfl
  | d :: l, h => by
    simp only [Xo, h d (List.mem_cons_self ..), X7 (L := l) fun e he => h e (List.mem_cons_of_mem _ he)]
theorem qk9 {f g : List Nat → Int} : ∀ {L : List (List Nat)}, Xo (fun d => f d + g d) L = Xo f L + Xo g L
  | [] => rfl
  | d :: l => by simp only [Xo, qk9 (L := l)]; omega
theorem qao {f : List Nat → Int} {L : List (List Nat)} (h : ∀ d ∈ L, f d = 0) : Xo f L = 0 := by
  induction L with
  | nil => rfl
  | cons d l ih =>
    simp only [Xo, h d (List.mem_cons_self ..), ih fun e he => h e (List.mem_cons_of_mem _ he)]; rfl
theorem qo7 {g : List Nat → Int} {e : List Nat} {x : Int} : ∀ {L : List (List Nat)}, L.Nodup → e ∈ L → Xo (fun d => g d * (if e = d then x else 0)) L = g e * x
  | d :: l, hn, he => by
    have hn' := List.nodup_cons.1 hn
    simp only [Xo]
    by_cases h : e = d
    · subst h
      rw [if_pos rfl, qao fun d hd => by rw [if_neg (by rintro rfl; exact hn'.1 hd), Int.mul_zero]]
      omega
    · have he' : e ∈ l := by
        rcases List.mem_cons.1 he with h' | h'
        · exact absurd h' h
        · exact h'
      rw [if_neg h, Int.mul_zero, qo7 hn'.2 he']; omega
theorem qhk {g : List Nat → Int} {L : List (List Nat)} (hn : L.Nodup) : ∀ {a : List (Int × List Nat × Int)}, (∀ t ∈ a, t.2.1 ∈ L) → Xo (fun d => g d * cf d a) L = Va g a
  | [], _ => by
    simp only [cf, Va]
    exact qao fun d _ => Int.mul_zero _
  | t :: a, h => by
    have ih := qhk (g := g) hn (a := a) fun u hu => h u (List.mem_cons_of_mem _ hu)
    have h1 := qo7 (g := g) (x := t.2.2) hn (h t (List.mem_cons_self ..))
    simp only [cf, Va]
    rw [← ih, ← h1, ← qk9]
    exact X7 fun d _ => by rw [Int.mul_add]
theorem qq2 {f : List Nat → Int} {x : Int} : ∀ {a : List (Int × List Nat × Int)}, Va (fun d => f d * x) a = Va f a * x
  | [] => by simp [Va]
  | t :: l => by
    simp only [Va, qq2 (a := l), Int.add_mul]
    rw [Int.mul_right_comm]
theorem qni {p n : Int} {N : Nat} (hN : 1 ≤ N ∧ N ≤ 6) (hn : n = N) {a : List (Int × List Nat × Int)} (h : xd p n a) : ∀ t ∈ a, t.2.1 ∈ qf N := fun t ht => by
  have h1 := h.dia t ht
  subst hn
  rw [Int.toNat_natCast] at h1
  exact qad h1.2 (h.ok t ht).1
theorem qm0 {p x y : Int} (hx : 0 ≤ x ∧ x ≤ p - 1) (hy : 0 ≤ y ∧ y ≤ p - 1) (h : p ∣ x - y) : x = y := by
  obtain ⟨q, hq⟩ := h
  have : q = 0 := by
    rcases Int.lt_trichotomy q 0 with hl | hl | hl
    · exfalso
      have : p * q ≤ p * (-1) := Int.mul_le_mul_of_nonneg_left (by omega) (by omega)
      omega
    · exact hl
    · exfalso
      have : p * 1 ≤ p * q := Int.mul_le_mul_of_nonneg_left (by omega) (by omega)
      omega
  subst this
  omega
theorem qhn {p : Int} (hp : 0 < p) (x : Int) : 0 ≤ x.emod p ∧ x.emod p ≤ p - 1 := ⟨Int.emod_nonneg _ (by omega), Int.le_sub_one_of_lt (Int.emod_lt_of_pos _ hp)⟩
def wb (N : Nat) (a : List (Int × List Nat × Int)) : List Int := (qf N).map fun m => cf m a
theorem Wj {N : Nat} {a : List (Int × List Nat × Int)} : (wb N a).length = (qf N).length := by simp [wb]
theorem qhq {p n : Int} (hp : 0 < p) {N : Nat} {a : List (Int × List Nat × Int)} (h : xd p n a) : ∀ x ∈ wb N a, 0 ≤ x ∧ x ≤ p - 1 := fun x hx => by
  obtain ⟨m, _, rfl⟩ := List.mem_map.1 hx
  exact (Xm h hp m).1
noncomputable def wM (p c : Int) (N : Nat) (m d e : List Nat) : Int := if xt N d e = m then xv p c (lpN N d e N) else 0
theorem qrg {p c : Int} {N : Nat} {m : List Nat} {t : Int × List Nat × Int} : ∀ {b : List (Int × List Nat × Int)}, p ∣ Js id (fun _ => 1) m (b.map (prT p c (N : Int) t)) - Va (wM p c N m t.2.1) b * t.2.2
  | [] => by simp [Js, Va]
  | u :: b => by
    have ih := qrg (p := p) (c := c) (N := N) (m := m) (t := t) (b := b)
    have hd : p ∣ (if xt N t.2.1 u.2.1 = m then ((t.2.2 * u.2.2).emod p * xv p c (lpN N t.2.1 u.2.1 N)) * 1 else 0) - wM p c N m t.2.1 u.2.1 * u.2.2 * t.2.2 := by
      unfold wM
      split
      · obtain ⟨q, hq⟩ := Qv p (t.2.2 * u.2.2)
        refine ⟨q * xv p c (lpN N t.2.1 u.2.1 N), ?_⟩
        rw [← Int.mul_assoc, ← hq, Int.sub_mul, Int.mul_one, Int.mul_assoc (xv p c _), Int.mul_comm (xv p c _), Int.mul_comm u.2.2]
      · simp
    have e : Js id (fun _ => 1) m ((u :: b).map (prT p c (N : Int) t)) = (if xt N t.2.1 u.2.1 = m then ((t.2.2 * u.2.2).emod p * xv p c (lpN N t.2.1 u.2.1 N)) * 1 else 0) + Js id (fun _ => 1) m (b.map (prT p c (N : Int) t)) := by
      simp only [List.map_cons, Js, prT, id, Int.toNat_natCast]
    rw [e]
    simp only [Va, Int.add_mul]
    exact br hd ih (by omega)
theorem qqo {φ : List Nat → List Nat} {κ : List Nat → Int} {m : List Nat} : ∀ {a b : List (Int × List Nat × Int)}, Js φ κ m (a ++ b) = Js φ κ m a + Js φ κ m b
  | [], b => by simp [Js]
  | t :: a, b => by simp only [List.cons_append, Js, qqo (a := a)]; omega
theorem qpu {p c : Int} {N : Nat} {m : List Nat} {b : List (Int × List Nat × Int)} : ∀ {a : List (Int × List Nat × Int)}, p ∣ Js id (fun _ => 1) m (vk p c (N : Int) a b) - Va (fun d => Va (wM p c N m d) b) a
  | [] => by simp [Js, Va, vk]
  | t :: a => by
    have ih := qpu (p := p) (c := c) (N := N) (m := m) (b := b) (a := a)
    have h1 := qrg (p := p) (c := c) (N := N) (m := m) (t := t) (b := b)
    have e : vk p c (N : Int) (t :: a) b = b.map (prT p c (N : Int) t) ++ vk p c (N : Int) a b := rfl
    rw [e, qqo]
    simp only [Va]
    exact br h1 ih (by omega)
noncomputable def qdx (p c : Int) (N : Nat) (f g : List Nat → Int) (m : List Nat) (d : List Nat) (L : List (List Nat)) : Int := Xo (fun e => wM p c N m d e * (f d * g e)) L
noncomputable def allM (p c : Int) (N : Nat) (f g : List Nat → Int) (m : List Nat) (L : List (List Nat)) : Int := Xo (fun d => qdx p c N f g m d (qf N)) L
theorem q35 {p c : Int} {N : Nat} (hN : 1 ≤ N ∧ N ≤ 6) {m : List Nat} {a b : List (Int × List Nat × Int)} (ha : ∀ t ∈ a, t.2.1 ∈ qf N) (hb : ∀ t ∈ b, t.2.1 ∈ qf N) :
    allM p c N (fun d => cf d a) (fun d => cf d b) m (qf N) = Va (fun d => Va (wM p c N m d) b) a := by
  have hn := X2 hN
  rw [← qhk hn ha]
  refine X7 fun d _ => ?_
  rw [← qq2, ← qhk hn hb]
  refine X7 fun e _ => ?_
  rw [Int.mul_assoc]
noncomputable def qfo (p c : Int) (N : Nat) (v w : List Int) : List Int := (qf N).map fun m => (allM p c N (atR (qf N) v) (atR (qf N) w) m (qf N)).emod p
theorem allM_congr {p c : Int} {N : Nat} {f g f' g' : List Nat → Int} {m : List Nat} (hf : ∀ d ∈ qf N, f d = f' d) (hg : ∀ d ∈ qf N, g d = g' d) : allM p c N f g m (qf N) = allM p c N f' g' m (qf N) :=
  X7 fun d hd => X7 fun e he => by rw [hf d hd, hg e he]
theorem qlc {p c : Int} {N : Nat} (hp : 2 ≤ p ∧ p ≤ 97) (hc : 0 ≤ c ∧ c ≤ p - 1) (hN : 1 ≤ N ∧ N ≤ 6) {a b : List (Int × List Nat × Int)} (ha : xd p (N : Int) a) (hb : xd p (N : Int) b) :
    qfo p c N (wb N a) (wb N b) = wb N (MP p (N : Int) (vk p c (N : Int) a b)) := by
  unfold qfo
  refine List.map_congr_left fun m hm => ?_
  have hla : a.length ≤ 132 := Jn ha (by omega)
  have hlb : b.length ≤ 132 := Jn hb (by omega)
  have hg := (Br (c := c) hp hc ha hb ⟨by omega, by omega⟩).1
  rw [allM_congr (f' := fun d => cf d a) (g' := fun d => cf d b) (fun d hd => qvl hd) (fun d hd => qvl hd), q35 hN (qni hN rfl ha) (qni hN rfl hb)]
  have h1 := qpu (p := p) (c := c) (N := N) (m := m) (b := b) (a := a)
  have h2 := qix (p := p) (n := (N : Int)) (φ := id) (κ := fun _ => 1) (m := m) (acc := []) (a := vk p c (N : Int) a b) (by simp)
  have h3 := Qv p (Va (fun d => Va (wM p c N m d) b) a)
  refine qm0 (qhn (by omega) _) (Xm hg (by omega) m).1 ?_
  have h4 := Ys h3 h2 (z := (Va (fun d => Va (wM p c N m d) b) a).emod p - Va (fun d => Va (wM p c N m d) b) a - (cf m (chP p (N : Int) id (fun _ => 1) [] (vk p c (N : Int) a b)) - (cf m [] + Js id (fun _ => 1) m (vk p c (N : Int) a b)))) rfl
  refine Ys h4 h1 ?_
  simp only [MP, cf]
  omega
noncomputable def Ji (p c : Int) (N : Nat) (v w : List Int) (i k : Nat) : List Int :=
  (qf N).map fun m => (allM p c N (atR (qf N) v) (atR (qf N) w) m ((qf N).take i) + qdx p c N (atR (qf N) v) (atR (qf N) w) m ((qf N).getD i []) ((qf N).take k)).emod p
theorem q29 {p c : Int} {N : Nat} {v w : List Int} {i k : Nat} : (Ji p c N v w i k).length = (qf N).length := by simp [Ji]
theorem qs6 {p c : Int} {N : Nat} {v w : List Int} (hp : 0 < p) : Ji p c N v w 0 0 = List.replicate (qf N).length 0 := by
  unfold Ji allM qdx
  refine List.ext_getElem (by simp) fun i h1 h2 => ?_
  simp only [List.getElem_map, List.take_zero, Xo, List.getElem_replicate]
  exact Int.zero_emod _
theorem qys {p c : Int} {N : Nat} {v w : List Int} : Ji p c N v w (qf N).length 0 = qfo p c N v w := by
  unfold Ji qfo
  refine List.map_congr_left fun m hm => ?_
  rw [List.take_length]
  unfold qdx
  simp only [List.take_zero, Xo, Int.add_zero]
theorem qhv {L : List (List Nat)} {i : Nat} (h : i < L.length) : L.getD i [] = L[i] := by
  rw [List.getD_eq_getElem?_getD, List.getElem?_eq_getElem h]; rfl
theorem qpd {p c : Int} {N : Nat} {v w : List Int} {i : Nat} (h : i < (qf N).length) : Ji p c N v w i (qf N).length = Ji p c N v w (i + 1) 0 := by
  unfold Ji
  refine List.map_congr_left fun m hm => ?_
  unfold allM
  rw [qa1 h, List.take_length, qhv h]
  simp only [qdx, List.take_zero, Xo, Int.add_zero]
theorem q48 {p c : Int} {N : Nat} {v w : List Int} {i k : Nat} (h : i < (qf N).length) (hz : atR (qf N) v (qf N)[i] = 0) : Ji p c N v w i k = Ji p c N v w (i + 1) 0 := by
  rw [← qpd h]
  unfold Ji
  refine List.map_congr_left fun m hm => ?_
  have h1 : ∀ L, qdx p c N (atR (qf N) v) (atR (qf N) w) m (qf N)[i] L = 0 := fun L => qao fun e _ => by rw [hz, Int.zero_mul, Int.mul_zero]
  rw [qhv h, h1, h1]
theorem qxp {p c : Int} {N : Nat} {v w : List Int} {i k : Nat} (h : k < (qf N).length) (hz : atR (qf N) w (qf N)[k] = 0) : Ji p c N v w i k = Ji p c N v w i (k + 1) := by
  unfold Ji
  refine List.map_congr_left fun m hm => ?_
  unfold qdx
  rw [qa1 h, hz, Int.mul_zero, Int.mul_zero, Int.add_zero]
theorem qwo {p a x y : Int} (h : p ∣ x - y) : (a.emod p + x).emod p = (a + y).emod p := by
  obtain ⟨q, hq⟩ := Qv p a
  obtain ⟨r, hr⟩ := h
  have : a.emod p + x = (a + y) + p * (q + r) := by rw [Int.mul_add]; omega
  rw [this]
  exact Int.add_mul_emod_self_left _ _ _
theorem q2l {p c : Int} {N : Nat} (hN : 1 ≤ N ∧ N ≤ 6) {v w : List Int} {i k : Nat} (hi : i < (qf N).length) (hk : k < (qf N).length) (hin : xt N (qf N)[i] (qf N)[k] ∈ qf N) {x : Int}
    (hx : p ∣ x - xv p c (lpN N (qf N)[i] (qf N)[k] N) * (atR (qf N) v (qf N)[i] * atR (qf N) w (qf N)[k])) :
    (Ji p c N v w i k).set ((qf N).idxOf (xt N (qf N)[i] (qf N)[k])) (((Ji p c N v w i k).getD ((qf N).idxOf (xt N (qf N)[i] (qf N)[k])) 0 + x).emod p) = Ji p c N v w i (k + 1) := by
  have hn := X2 hN
  unfold Ji
  rw [qaj hin, Kw hin hn]
  refine List.map_congr_left fun m hm => ?_
  rw [qhv hi]
  have e : qdx p c N (atR (qf N) v) (atR (qf N) w) m (qf N)[i] ((qf N).take (k + 1)) = qdx p c N (atR (qf N) v) (atR (qf N) w) m (qf N)[i] ((qf N).take k) + wM p c N m (qf N)[i] (qf N)[k] * (atR (qf N) v (qf N)[i] * atR (qf N) w (qf N)[k]) := qa1 hk
  rw [e]
  split
  · rename_i hm'
    subst hm'
    rw [← Int.add_assoc]
    refine qwo ?_
    unfold wM
    rw [if_pos rfl]
    exact hx
  · rename_i hm'
    have : wM p c N m (qf N)[i] (qf N)[k] = 0 := by
      unfold wM
      rw [if_neg fun h => hm' h.symm]
    rw [this, Int.zero_mul, Int.add_zero]
theorem q1j {p c y : Int} {j : Nat} : ((y * xv p c j).emod p * c).emod p = (y * xv p c (j + 1)).emod p := by
  have e : xv p c (j + 1) = (xv p c j * c).emod p := rfl
  rw [e]
  obtain ⟨q, hq⟩ := Qv p (y * xv p c j)
  obtain ⟨r, hr⟩ := Qv p (xv p c j * c)
  have h1 : (y * xv p c j).emod p = y * xv p c j + p * q := by omega
  have h2 : (xv p c j * c).emod p = xv p c j * c + p * r := by omega
  have h3 : (y * xv p c j).emod p * c = y * (xv p c j * c) + p * (q * c) := by rw [h1, Int.add_mul, Int.mul_assoc, Int.mul_assoc]
  have h4 : y * (xv p c j * c).emod p = y * (xv p c j * c) + p * (y * r) := by rw [h2, Int.mul_add, Int.mul_left_comm y p r]
  rw [h3, h4]
  have h5 : ∀ z : Int, (y * (xv p c j * c) + p * z).emod p = (y * (xv p c j * c)).emod p := fun z => Int.add_mul_emod_self_left _ _ _
  rw [h5, h5]
theorem q5e {p c : Int} {N : Nat} {v w : List Int} {i k : Nat} (hp : 0 < p) (j : Nat) : 0 ≤ (Ji p c N v w i k).getD j 0 ∧ (Ji p c N v w i k).getD j 0 ≤ p - 1 := by
  unfold Ji
  rw [List.getD_eq_getElem?_getD, List.getElem?_map]
  cases (qf N)[j]? with
  | none => simp; omega
  | some m => exact qhn hp _
def uK (N : Nat) (m : List Nat) : Nat → List Nat
  | 0 => List.replicate 16 0
  | i + 1 => ((uK N m i).set (wd N i) (wd N (m.getD i 0))).set (wd N (m.getD i 0)) (wd N i)
def u2 (N : Nat) (m : List Nat) : Nat → List Nat
  | 0 => uK N m (2 * N)
  | i + 1 => ((u2 N m i).set (rt N i) (rt N (1 - i))).set (rt N (1 - i)) (rt N i)
def ndB : List (List Nat) → Bool
  | [] => true
  | x :: l => (l.all fun y => !(x == y)) && ndB l
theorem q1s : ∀ {l : List (List Nat)}, ndB l = true → l.Nodup
  | [], _ => .nil
  | x :: l, h => by
    simp only [ndB, Bool.and_eq_true, List.all_eq_true] at h
    refine List.nodup_cons.2 ⟨fun hx => ?_, q1s h.2⟩
    have := h.1 x hx
    simp at this
def qls (N : Nat) : Bool := ((qf N).all fun m => u2 N m 2 == xi N m) && ndB ((qf N).map (xi N))
theorem q7c : qls 1 = true := by kernel_rfl
theorem q8z : qls 2 = true := by kernel_rfl
theorem q7b : qls 3 = true := by kernel_rfl
theorem q7r : qls 4 = true := by kernel_rfl
theorem qpr {N : Nat} (h : 1 ≤ N ∧ N ≤ 4) : (∀ m ∈ qf N, u2 N m 2 = xi N m) ∧ ((qf N).map (xi N)).Nodup := by
  have h0 : qls N = true := by
    rcases (show N = 1 ∨ N = 2 ∨ N = 3 ∨ N = 4 by omega) with rfl | rfl | rfl | rfl
    · exact q7c
    · exact q8z
    · exact q7b
    · exact q7r
  simp only [qls, Bool.and_eq_true, List.all_eq_true] at h0
  exact ⟨fun m hm => eq_of_beq (h0.1 m hm), q1s h0.2⟩
def eR (N : Nat) (a : List (Int × List Nat × Int)) (i : Nat) : List Int := (qf (N + 1)).map fun m => Xo (fun d => (if xi N d = m then 1 else 0) * cf d a) ((qf N).take i)
theorem q7g {N i : Nat} {a : List (Int × List Nat × Int)} : (eR N a i).length = (qf (N + 1)).length := by simp [eR]
theorem qpn {N : Nat} {a : List (Int × List Nat × Int)} : eR N a 0 = List.replicate (qf (N + 1)).length 0 := by
  unfold eR
  refine List.ext_getElem (by simp) fun i h1 h2 => ?_
  simp only [List.getElem_map, List.take_zero, Xo, List.getElem_replicate]
theorem qti {N i : Nat} (hN : 1 ≤ N ∧ N ≤ 4) (hi : i < (qf N).length) : ∀ d ∈ (qf N).take i, xi N d ≠ xi N (qf N)[i] := fun d hd e => by
  obtain ⟨j, hj, rfl⟩ := List.getElem_of_mem hd
  rw [List.length_take] at hj
  rw [List.getElem_take] at e
  have hn := (qpr hN).2
  have h1 : ((qf N).map (xi N))[j]'(by rw [List.length_map]; omega) = ((qf N).map (xi N))[i]'(by rw [List.length_map]; omega) := by
    rw [List.getElem_map, List.getElem_map, e]
  have := (List.getElem_inj hn).1 h1
  omega
theorem qvo {N : Nat} (hN : 1 ≤ N ∧ N ≤ 4) {m : List Nat} (hm : m ∈ qf N) : xi N m ∈ qf (N + 1) := by
  have h1 := Wo (n := N) (by omega) hm
  have h2 := qjs (n := N) (by omega) h1.1
  exact qad h2.1 h2.2.1
theorem q20 {N i : Nat} (hN : 1 ≤ N ∧ N ≤ 4) {a : List (Int × List Nat × Int)} (hi : i < (qf N).length) : (eR N a i).set ((qf (N + 1)).idxOf (xi N (qf N)[i])) (cf (qf N)[i] a) = eR N a (i + 1) := by
  unfold eR
  rw [Kw (qvo hN (List.getElem_mem hi)) (X2 (by omega))]
  refine List.map_congr_left fun m hm => ?_
  rw [qa1 hi]
  split
  · rename_i e
    subst e
    rw [if_pos rfl, qao fun d hd => by rw [if_neg (qti hN hi d hd), Int.zero_mul]]
    omega
  · rename_i e
    rw [if_neg fun h => e h.symm]
    omega
theorem q6q {p n : Int} {N : Nat} (hN : 1 ≤ N ∧ N ≤ 4) (hp : 0 < p) {a : List (Int × List Nat × Int)} (h : xd p n a) : ∀ i, i ≤ (qf N).length → ∀ x ∈ eR N a i, 0 ≤ x ∧ x ≤ p - 1
  | 0, _, x, hx => by
    rw [qpn] at hx
    rw [List.eq_of_mem_replicate hx]; omega
  | i + 1, hi, x, hx => by
    rw [← q20 hN (by omega)] at hx
    rcases List.mem_or_eq_of_mem_set hx with hx | rfl
    · exact q6q hN hp h i (by omega) x hx
    · exact (Xm h hp _).1
theorem qmf {φ : List Nat → List Nat} {m : List Nat} : ∀ {a : List (Int × List Nat × Int)}, Va (fun d => if φ d = m then 1 else 0) a = Js φ (fun _ => 1) m a
  | [] => rfl
  | t :: l => by
    simp only [Va, Js, qmf (a := l)]
    split <;> omega
theorem q8v {p : Int} {N : Nat} (hN : 1 ≤ N ∧ N ≤ 4) (hp : 2 ≤ p ∧ p ≤ 97) {a : List (Int × List Nat × Int)} (h : xd p (N : Int) a) : eR N a (qf N).length = wb (N + 1) (Xq p (N : Int) a) := by
  have hg := (Ba hp (by omega) h).1
  have hb := q6q hN (by omega) h (qf N).length (Nat.le_refl _)
  unfold eR wb at *
  refine List.map_congr_left fun m hm => ?_
  have hx := hb _ (List.mem_map.2 ⟨m, hm, rfl⟩)
  refine qm0 hx (Xm hg (by omega) m).1 ?_
  rw [List.take_length, qhk (X2 (by omega)) (qni (by omega) rfl h), qmf]
  have h2 := qix (p := p) (n := (N : Int) + 1) (φ := xi N) (κ := fun _ => 1) (m := m) (acc := []) (a := a) (by simp)
  have e : Xq p (N : Int) a = chP p ((N : Int) + 1) (xi N) (fun _ => 1) [] a := by unfold Xq; rw [Int.toNat_natCast]
  rw [e]
  exact Ys (Int.dvd_zero p) h2 (by simp only [cf]; omega)
theorem q4a {N : Nat} : List.replicate (qf N).length (0 : Int) = (qf N).map fun _ => 0 := by
  refine List.ext_getElem (by simp) fun i h1 h2 => ?_
  simp
theorem row_one {N : Nat} (hN : 1 ≤ N ∧ N ≤ 6) {m : List Nat} (hm : m ∈ qf N) : (List.replicate (qf N).length (0 : Int)).set ((qf N).idxOf m) 1 = wb N [((N : Int), m, 1)] := by
  rw [q4a, Kw hm (X2 hN)]
  refine List.map_congr_left fun d hd => ?_
  simp only [cf]
  by_cases e : d = m
  · rw [if_pos e, if_pos e.symm]; rfl
  · rw [if_neg e, if_neg fun h => e h.symm]; rfl
theorem q1v {p c : Int} (hp : 2 ≤ p ∧ p ≤ 97) {N : Nat} {X : Int} {a b : List (Int × List Nat × Int)} (ha : xd p (N : Int) a) (hb : xd p (N : Int) b) {i : Nat} (hi : i < (qf N).length) :
    (wb N (qcd p (N : Int) (-X) a b)).getD i 0 = ((wb N a).getD i 0 - X * (wb N b).getD i 0).emod p := by
  unfold wb
  rw [X6 hi, X6 hi, X6 hi]
  have hg := (qex (k := -X) (by omega) ha hb).1
  have h1 := qn4 (p := p) (n := (N : Int)) (k := -X) (m := (qf N)[i]) (acc := a) (b := b) (fun t ht => (ha.dia t ht).1)
  refine qm0 (Xm hg (by omega) _).1 (qhn (by omega) _) ?_
  have h2 := Qv p (cf (qf N)[i] a - X * cf (qf N)[i] b)
  refine Ys h1 h2 ?_
  rw [Int.neg_mul]
  omega
def qe0 (v w : List Int) (i : Nat) : List Int := v.take i ++ w.drop i
theorem q1n {v w : List Int} {i : Nat} (h : v.length = w.length) : (qe0 v w i).length = w.length := by
  unfold qe0; rw [List.length_append, List.length_take, List.length_drop]; omega
theorem q0s {v w : List Int} {i : Nat} (h : v.length = w.length) (hi : i < w.length) : (qe0 v w i).getD i 0 = w.getD i 0 := by
  unfold qe0
  rw [List.getD_eq_getElem?_getD, List.getD_eq_getElem?_getD, List.getElem?_append_right (by rw [List.length_take]; omega), List.length_take, List.getElem?_drop]
  congr 2; omega
theorem qzy {v w : List Int} {i : Nat} (h : v.length = w.length) (hi : i < w.length) : (qe0 v w i).set i (v.getD i 0) = qe0 v w (i + 1) := by
  have hv : i < v.length := by omega
  unfold qe0
  rw [List.set_append_right _ _ (by rw [List.length_take]; omega), List.length_take, show i - min i v.length = 0 by omega, List.drop_eq_getElem_cons hi, List.set_cons_zero, List.take_succ_eq_append_getElem hv, List.append_assoc,
    List.getD_eq_getElem?_getD, List.getElem?_eq_getElem hv]
  rfl
theorem q21 {v w : List Int} (h : v.length = w.length) : qe0 v w w.length = v := by
  unfold qe0; rw [List.drop_length, List.append_nil, ← h, List.take_length]
theorem qws {p c : Int} {k : Nat} : vl p c (k + 1) = qcd p ((k + 2 : Nat) : Int) (-(Ke p c (k + 1))) (Xq p ((k + 1 : Nat) : Int) (vl p c k))
      (MP p ((k + 2 : Nat) : Int) (vk p c ((k + 2 : Nat) : Int) (MP p ((k + 2 : Nat) : Int) (vk p c ((k + 2 : Nat) : Int) (Xq p ((k + 1 : Nat) : Int) (vl p c k)) [(((k + 2 : Nat) : Int), Jo (k + 2) k, 1)])) (Xq p ((k + 1 : Nat) : Int) (vl p c k)))) := rfl
noncomputable def Gz (p c : Int) (n : Nat) : List Int := wb n (vl p c (n - 1))
theorem qzw {p c : Int} : Gz p c 1 = [1] := by
  have h : qf 1 = [yh 1] := by kernel_rfl
  unfold Gz wb
  rw [h]
  simp [vl, cf]
end Go.Proofs.Ytfhckbbgmblhbaa
namespace Go.Proofs.Ytfhckbbgmblhbaa
open Go.Am Go.Dia
open Nat renaming reduceAdd → nA, reduceMul → nM, reduceSub → nS, reduceEqDiff → nE, reduceLT → nL, reduceLeDiff → nD, reduceBEq → nB
open Int renaming reduceEq → iE, reduceNe → iN, reduceBEq → iB, reduceBNe → iC, reduceLT → iL, reduceLE → iD, reduceAdd → iA, reduceSub → iS, reduceMul → iM
set_option linter.unusedSimpArgs false
set_option linter.unusedVariables false
set_option maxRecDepth 4000
set_option maxHeartbeats 2000000
def qg0 (n l a i : Int) : Int := if i < n then l + i else a + l + i - n
def qb2 (n l a i : Int) : Prop := (0 ≤ n ∧ n ≤ 100) ∧ (0 ≤ l ∧ l ≤ 100) ∧ (0 ≤ a ∧ a ≤ 100) ∧ 0 ≤ i ∧ i ≤ 100
instance {n l a i : Int} : Decidable (qb2 n l a i) := inferInstanceAs (Decidable (_ ∧ _))
def U4 : AC := .seq (.region [oI 8 0]) (.seq (.seq (.region [oM 9 3,oM 10 0,oP 11 .lss 9 10]) (.cond 11 (.seq (.region [oM 12 1,oM 13 3,oP 14 .add 12 13,oM 8 14]) .ret) .skip)) (.seq (.region [oM 15 2,oM 16 1,oP 17 .add 15 16,oM 18 3,oP 19 .add 17 18,oM 20 0,oP 21 .sub 19 20,oM 8 21]) .ret))
theorem qn6 : zl Try.prog 166 = some ⟨22, U4, [.slot 8]⟩ := by kernel_rfl
theorem qmq (n l a i : Int) (h : qb2 n l a i) : Am.Fn Try.prog 166 [.int .i64 n, .int .i64 l, .int .i64 a, .int .i64 i] [] (fun v H' => v = .int .i64 (qg0 n l a i) ∧ H' = []) := by
  refine Am.Fn.xf (R := fun v => v = _) W0 mixed qn6 (by simp [AV.qv, AV.under]) (by simp) ?_
  obtain ⟨h1, h2, h3, h4⟩ := h
  have w1 : qo .i64 (l + i) = l + i := wrap64 (by omega) (by omega)
  have w2 : qo .i64 (a + l) = a + l := wrap64 (by omega) (by omega)
  have w3 : qo .i64 (a + l + i) = a + l + i := wrap64 (by omega) (by omega)
  have w4 : qo .i64 (a + l + i - n) = a + l + i - n := wrap64 (by omega) (by omega)
  by_cases hi : i < n
  · have e : qg0 n l a i = l + i := if_pos hi
    simp (maxSteps := 3000000) only [qh, zH, U4, hi, w1, w2, w3, w4, e, iE, iN, iB, iC, iL, iD, iA, iS, iM, qa, zZ, ↓qq, ↓reduceIte, reduceCtorEq, nA, nM, nS, nE, nL, nD]; try simp only [qa, zY]
  · have e : qg0 n l a i = a + l + i - n := if_neg hi
    simp (maxSteps := 3000000) only [qh, zH, U4, hi, w1, w2, w3, w4, e, iE, iN, iB, iC, iL, iD, iA, iS, iM, qa, zZ, ↓qq, ↓reduceIte, reduceCtorEq, nA, nM, nS, nE, nL, nD]; try simp only [qa, zY]
def qdd : List AV → Option AV
  | [.int .i64 n, .int .i64 l, .int .i64 a, .int .i64 i] => chk (qb2 n l a i) (some (.int .i64 (qg0 n l a i)))
  | _ => none
theorem q91 : Am.Callee Try.prog 166 (qj qdd) := Am.Callee.plain fun xs v he => by
  unfold qdd at he
  split at he
  · rename_i n l a i
    obtain ⟨h1, he⟩ := ql he
    cases he
    exact ⟨rfl, rfl, qmq n l a i h1⟩
  · cases he
noncomputable def q1k : zc := ((qxe.put 77 (qj Jh)).put 166 (qj qdd))
theorem qht : qp Try.prog q1k := ((qv0.put (q43)).put (q91))
theorem bc : q1k 91 = some (qj yd) := rfl
theorem yg : q1k 139 = some (qj vd) := rfl
theorem wm : q1k 166 = some (qj qdd) := rfl
theorem qli : okD (List.replicate 16 0) := ⟨by simp, by intro x hx; simp at hx; omega⟩
theorem qur {N : Nat} {m : List Nat} (hN : 1 ≤ N ∧ N ≤ 7) (hs : isS N m = true) : ∀ i, i ≤ 2 * N → okD (uK N m i)
  | 0, _ => qli
  | i + 1, hi => by
    have hb := qiq hs (show i < 2 * N by omega)
    exact Jq (qur hN hs i (by omega)) (by unfold wd; split <;> omega) (by unfold wd; split <;> omega)
theorem q2x {N : Nat} {m : List Nat} (hN : 1 ≤ N ∧ N ≤ 7) (hs : isS N m = true) : ∀ i, i ≤ 2 → okD (u2 N m i)
  | 0, _ => qur hN hs _ (Nat.le_refl _)
  | i + 1, hi => Jq (q2x hN hs i (by omega)) (by unfold rt; split <;> omega) (by unfold rt; split <;> omega)
def k9 : AC := .seq (.seq (.region [oM 35 8,oF 36 0 2,oL 37 36,o0 38 (.bin .mul (.c (.int .i64 2)) (.t 37)),oP 39 .lss 35 38]) (.cond 39 .skip (.exit 1))) (.seq (.block 2 (.draw true [oN 42 17 7,oF 43 0 2,oL 44 43,oM 45 6,oM 46 8,oF 48 0 2,oL 49 48,oM 50 6,oM 51 8,oF 52 1 2,o0 53 (.xa 16 1 (.t 52) (.t 51)),oL 54 53,o0 55 (.conv .i64 (.t 54)),oC 47 166 [.t 44,(.c (.int .i64 0)),.t 45,.t 46],oC 56 166 [.t 49,(.c (.int .i64 0)),.t 50,.t 55],oC 57 139 [.t 42,.t 47,.t 56],oS 17 7 57])) (.region [oM 40 8,oK 41 .add 40 1,oM 8 41]))
def Qc : AC := .seq (.seq (.region [oM 58 9,oF 59 0 3,oL 60 59,o0 61 (.bin .mul (.c (.int .i64 2)) (.t 60)),oP 62 .lss 58 61]) (.cond 62 .skip (.exit 3))) (.seq (.block 4 (.draw true [oN 65 17 7,oF 66 0 3,oL 67 66,oF 68 0 2,oL 69 68,oM 70 6,oM 71 9,oF 73 0 3,oL 74 73,oF 75 0 2,oL 76 75,oM 77 6,oM 78 9,oF 79 1 3,o0 80 (.xa 16 1 (.t 79) (.t 78)),oL 81 80,o0 82 (.conv .i64 (.t 81)),oC 72 166 [.t 67,.t 69,.t 70,.t 71],oC 83 166 [.t 74,.t 76,.t 77,.t 82],oC 84 139 [.t 65,.t 72,.t 83],oS 17 7 84])) (.region [oM 63 9,oK 64 .add 63 1,oM 9 64]))
def Qg : AC := .seq (.region [oN 85 17 7,oS 17 4 85,oI 5 0]) .ret
def Vh : AC := .seq (.seq (.region [oI 9 0]) (.block 3 (.loop Qc))) Qg
def Uc : AC := .seq (.region [o0 2 (.box (.t 0)),o0 3 (.box (.t 1)),oD 4,oI 5 0]) (.seq (.block 0 (.seq (.region [oN 11 17 2,oC 12 91 [.t 11],o0 13 (.un .not (.t 12)),oM 14 13,oG 15 14 false (.V4 17 (.t 3)),⟨some 16,some (14,false),.call (.c (.fn 91 [] [])) [.t 15]⟩,oG 17 14 false (.un .not (.t 16)),o0 18 (.pick (.t 14) (.c (.bool true)) (.t 17)),oM 10 18]) (.cond 10 (.seq (.region [o0 19 (.build [.int .i64 0,.int .u8 0,.int .u8 0,.int .u8 0,.int .u8 0,.int .u8 0,.int .u8 0,.int .u8 0,.int .u8 0,.int .u8 0,.int .u8 0,.int .u8 0,.int .u8 0,.int .u8 0,.int .u8 0,.int .u8 0,.int .u8 0] []),oS 17 4 19,oI 5 1]) .ret) (.seq (.region [oF 21 0 2,oL 22 21,oF 23 0 3,oL 24 23,oP 25 .add 22 24,oK 26 .gtr 25 8,oM 20 26]) (.cond 20 (.seq (.region [o0 27 (.build [.int .i64 0,.int .u8 0,.int .u8 0,.int .u8 0,.int .u8 0,.int .u8 0,.int .u8 0,.int .u8 0,.int .u8 0,.int .u8 0,.int .u8 0,.int .u8 0,.int .u8 0,.int .u8 0,.int .u8 0,.int .u8 0,.int .u8 0] []),oS 17 4 27,oI 5 3]) .ret) .skip))))) (.seq (.region [oF 28 0 2,oL 29 28,oF 30 0 3,oL 31 30,oP 32 .add 29 31,oM 6 32]) (.seq (.region [oM 33 6,o0 34 (.build [.int .i64 0,.int .u8 0,.int .u8 0,.int .u8 0,.int .u8 0,.int .u8 0,.int .u8 0,.int .u8 0,.int .u8 0,.int .u8 0,.int .u8 0,.int .u8 0,.int .u8 0,.int .u8 0,.int .u8 0,.int .u8 0,.int .u8 0] [(0,1,.t 33)]),oD 7,oS 17 7 34]) (.seq (.seq (.region [oI 8 0]) (.block 1 (.loop k9))) Vh))))
theorem qe7 : zl Try.prog 135 = some ⟨86, Uc, [.yn 4 17, .slot 5]⟩ := by kernel_rfl
theorem qx2 (N : Nat) (m : List Nat) (hN : 1 ≤ N ∧ N ≤ 7) (hm : okD m) (hs : isS N m = true) :
    Am.Fn Try.prog 135 [.agg (dia N m), .agg (dia 1 (yh 1))] [] (fun v H' => v = .tup [.agg (dia ((N + 1 : Nat) : Int) (u2 N m 2)), .int .i64 0] ∧ H' = []) := by
  refine Am.Fn.xf (R := fun v => v = _) qht mixed qe7 (by simp [AV.qv, AV.under, qk _ _ (qd _ _)]) (by simp) ?_
  have hml := hm.1
  have hu := Wy (n := 1) (by omega)
  have hul := hu.1
  have hus : isS 1 (yh 1) = true := by kernel_rfl
  have h1 : qo .i64 ((N : Int) + 1) = ((N + 1 : Nat) : Int) := by rw [wrap64 (by omega) (by omega)]; rfl
  have h2 : qo .i64 (2 * (N : Int)) = ((2 * N : Nat) : Int) := by rw [wrap64 (by omega) (by omega)]; rfl
  have h8 : ¬ (8 : Int) < ((N + 1 : Nat) : Int) := by omega
  have hn0 : (0 : Int) ≤ (N : Int) := by omega
  simp (maxSteps := 3000000) only [qh, zH, Uc, bc, yg, wm, yd, qdd, vd, qy hm, qy hu, hs, hus, h1, h2, h8, hn0, zk, zf, kc, qc, hml, hul, y7, za, zn qt qt, List.length_replicate, Int.toNat_natCast, Int.toNat_one, qn hml, qn hul, and_self, iE, iN, iB, iC, iL, iD, iA, iS, iM, qa, zZ, ↓qq, ↓reduceIte, reduceCtorEq, nA, nM, nS, nE, nL, nD]; try simp only [qa, zY]
  refine WA.xr qht (fun s => ∃ i : Nat, i ≤ 2 * N ∧ s = ⟨[(2, .ptr 0 0), (3, .ptr 1 0), (4, .ptr 2 0), (5, .int .i64 0), (6, .int .i64 (N + 1 : Nat)), (7, .ptr 3 0), (8, .int .i64 i)], [.cells (dia N m), .cells (dia 1 (yh 1)), .cells (dia 0 (List.replicate 16 0)), .cells (dia ((N + 1 : Nat) : Int) (uK N m i))]⟩)
    (fun s => match get s.env 8 with | .int _ x => 2 * N - x.toNat | _ => 0) ⟨_, qw.qx [2, 3, 4, 5, 6, 7, 8], 0, by omega, rfl⟩ ?_
  rintro s ⟨i, hi, rfl⟩
  have hw : qo .i64 ((i : Int) + 1) = ((i + 1 : Nat) : Int) := by rw [wrap64 (by omega) (by omega)]; rfl
  have hkk := qur hN hs i hi
  by_cases hlt : i < 2 * N
  · have hli : (i : Int) < ((2 * N : Nat) : Int) := by omega
    have hb := qiq hs hlt
    obtain ⟨hi16, hi16'⟩ := v7 (show i < 16 by omega)
    have hi17 : i < 16 := by omega
    have hnext : uK N m (i + 1) = ((uK N m i).set (wd N i) (wd N (m.getD i 0))).set (wd N (m.getD i 0)) (wd N i) := rfl
    have hk2 := qur hN hs (i + 1) (by omega)
    have a1 : wd N i < 16 := by unfold wd; split <;> omega
    have b1 : wd N (m.getD i 0) < 16 := by unfold wd; split <;> omega
    generalize hx : m.getD i 0 = x at hb b1 hnext
    have hcv : qo .i64 (x : Int) = (x : Int) := ji (by omega)
    have s1 : qb2 (N : Int) 0 ((N + 1 : Nat) : Int) (i : Int) := ⟨by omega, by omega, by omega, by omega⟩
    have s2 : qb2 (N : Int) 0 ((N + 1 : Nat) : Int) (x : Int) := ⟨by omega, by omega, by omega, by omega⟩
    have m1 : qg0 (N : Int) 0 ((N + 1 : Nat) : Int) (i : Int) = (wd N i : Nat) := by unfold qg0 wd; split <;> split <;> omega
    have m2 : qg0 (N : Int) 0 ((N + 1 : Nat) : Int) (x : Int) = (wd N x : Nat) := by unfold qg0 wd; split <;> split <;> omega
    have j1 : (0 : Int) ≤ ((wd N i : Nat) : Int) ∧ ((wd N i : Nat) : Int) < 16 := by omega
    have j2 : (0 : Int) ≤ ((wd N x : Nat) : Int) ∧ ((wd N x : Nat) : Int) < 16 := by omega
    rw [hnext] at hk2
    simp (maxSteps := 3000000) only [qh, zH, k9, bc, yg, wm, yd, qdd, vd, hw, h2, hli, hx, hcv, s1, s2, m1, m2, j1, j2, qy hkk, hi16, hi16', hi17, AV.one, qc, hml, hkk.1, hk2.1, qn hkk.1, qn hk2.1, zn hkk.1 hk2.1, za, Int.toNat_natCast, and_self, iE, iN, iB, iC, iL, iD, iA, iS, iM, qa, zZ, ↓qq, ↓reduceIte, reduceCtorEq, nA, nM, nS, nE, nL, nD]; try simp only [qa, zY]
    repeat' refine And.intro (by first | rfl | exact ⟨_, rfl⟩) ?_
    refine ⟨_, qw.qx [2, 3, 4, 5, 6, 7, 8], ⟨i + 1, by omega, ?_⟩, ?_⟩
    · simp only [zL, ↓reduceIte, reduceCtorEq, nE, nA]; rw [hnext]
    · simp only [zL, ↓reduceIte, reduceCtorEq, nE, nA]; omega
  · have hli : ¬ (i : Int) < ((2 * N : Nat) : Int) := by omega
    obtain rfl : i = 2 * N := by omega
    have h22 : qo .i64 2 = 2 := wrap64 (by omega) (by omega)
    simp (maxSteps := 3000000) only [qh, zH, k9, Qg, Vh, bc, yg, wm, yd, qdd, vd, h2, hli, Int.lt_irrefl, iE, iN, iB, iC, iL, iD, iA, iS, iM, qa, zZ, ↓qq, ↓reduceIte, reduceCtorEq, nA, nM, nS, nE, nL, nD]; try simp only [qa, zY]
    refine WA.xr qht (fun s => ∃ i : Nat, i ≤ 2 ∧ s = ⟨[(2, .ptr 0 0), (3, .ptr 1 0), (4, .ptr 2 0), (5, .int .i64 0), (6, .int .i64 (N + 1 : Nat)), (7, .ptr 3 0), (9, .int .i64 i)], [.cells (dia N m), .cells (dia 1 (yh 1)), .cells (dia 0 (List.replicate 16 0)), .cells (dia ((N + 1 : Nat) : Int) (u2 N m i))]⟩)
      (fun s => match get s.env 9 with | .int _ x => 2 - x.toNat | _ => 0) ⟨_, qw.qx [2, 3, 4, 5, 6, 7, 9], 0, by omega, rfl⟩ ?_
    clear hw hkk hi
    rintro s ⟨i, hi, rfl⟩
    have hw : qo .i64 ((i : Int) + 1) = ((i + 1 : Nat) : Int) := by rw [wrap64 (by omega) (by omega)]; rfl
    have hkk := q2x hN hs i hi
    by_cases hlt : i < 2
    · have hli : (i : Int) < 2 := by omega
      have hnext : u2 N m (i + 1) = ((u2 N m i).set (rt N i) (rt N (1 - i))).set (rt N (1 - i)) (rt N i) := rfl
      have hk2 := q2x hN hs (i + 1) (by omega)
      have a1 : rt N i < 16 := by unfold rt; split <;> omega
      have b1 : rt N (1 - i) < 16 := by unfold rt; split <;> omega
      have hx : (yh 1).getD i 0 = 1 - i := by
        rcases (show i = 0 ∨ i = 1 by omega) with rfl | rfl <;> rfl
      obtain ⟨hi16, hi16'⟩ := v7 (show i < 16 by omega)
      have hi17 : i < 16 := by omega
      have hcv : qo .i64 ((1 - i : Nat) : Int) = ((1 - i : Nat) : Int) := ji (by omega)
      have s1 : qb2 1 (N : Int) ((N + 1 : Nat) : Int) (i : Int) := ⟨by omega, by omega, by omega, by omega⟩
      have s2 : qb2 1 (N : Int) ((N + 1 : Nat) : Int) ((1 - i : Nat) : Int) := ⟨by omega, by omega, by omega, by omega⟩
      have m1 : qg0 1 (N : Int) ((N + 1 : Nat) : Int) (i : Int) = (rt N i : Nat) := by unfold qg0 rt; split <;> split <;> omega
      have m2 : qg0 1 (N : Int) ((N + 1 : Nat) : Int) ((1 - i : Nat) : Int) = (rt N (1 - i) : Nat) := by unfold qg0 rt; split <;> split <;> omega
      have j1 : (0 : Int) ≤ ((rt N i : Nat) : Int) ∧ ((rt N i : Nat) : Int) < 16 := by omega
      have j2 : (0 : Int) ≤ ((rt N (1 - i) : Nat) : Int) ∧ ((rt N (1 - i) : Nat) : Int) < 16 := by omega
      rw [hnext] at hk2
      simp (maxSteps := 3000000) only [qh, zH, Qc, bc, yg, wm, yd, qdd, vd, hw, h22, hli, hx, hcv, s1, s2, m1, m2, j1, j2, qy hkk, hi16, hi16', hi17, AV.one, qc, hul, hkk.1, hk2.1, qn hkk.1, qn hk2.1, zn hkk.1 hk2.1, za, Int.toNat_natCast, and_self, iE, iN, iB, iC, iL, iD, iA, iS, iM, qa, zZ, ↓qq, ↓reduceIte, reduceCtorEq, nA, nM, nS, nE, nL, nD]; try simp only [qa, zY]
      repeat' refine And.intro (by first | rfl | exact ⟨_, rfl⟩) ?_
      refine ⟨_, qw.qx [2, 3, 4, 5, 6, 7, 9], ⟨i + 1, by omega, ?_⟩, ?_⟩
      · simp only [zL, ↓reduceIte, reduceCtorEq, nE, nA]; rw [hnext]
      · simp only [zL, ↓reduceIte, reduceCtorEq, nE, nA]; omega
    · have hli : ¬ (i : Int) < 2 := by omega
      have ei : i = 2 := by omega
      simp (maxSteps := 3000000) only [qh, zH, Qc, Qg, bc, yg, wm, yd, qdd, vd, h22, hli, qc, hkk.1, qn hkk.1, zn qt hkk.1, za, List.length_replicate, Int.lt_irrefl, iE, iN, iB, iC, iL, iD, iA, iS, iM, qa, zZ, ↓qq, ↓reduceIte, reduceCtorEq, nA, nM, nS, nE, nL, nD]; try simp only [qa, zY]
      subst ei
      first | exact ⟨by simp only [AV.zg, AV.zq, qd, Bool.and_self], rfl⟩ | trace_state
noncomputable def qeb : List AV → Option AV
  | [.agg d, .agg e] => match vi d, vi e with
    | some (n, m), some (n', m') => chk ((n' = 1 ∧ m' = yh 1) ∧ isS n.toNat m = true ∧ 1 ≤ n ∧ n ≤ 7) (some (.tup [.agg (dia (n + 1) (u2 n.toNat m 2)), .int .i64 0]))
    | _, _ => none
  | _ => none
theorem zan : Am.Callee Try.prog 135 (qj qeb) := Am.Callee.plain fun xs v he => by
  unfold qeb at he
  split at he
  · rename_i d e
    split at he
    · rename_i n m n' m' h1 h2
      obtain ⟨⟨⟨e1, e2⟩, e3, e4⟩, he⟩ := ql he
      cases he
      obtain ⟨rfl, hm⟩ := zi h1
      obtain ⟨rfl, hm'⟩ := zi h2
      subst e1 e2
      obtain ⟨N, rfl⟩ : ∃ N : Nat, n = N := ⟨n.toNat, by omega⟩
      rw [Int.toNat_natCast] at e3 ⊢
      exact ⟨by simp [AV.zg, AV.zq, qd], by simp [AV.zg, AV.zq, qd], qx2 N m (by omega) hm e3⟩
    · cases he
  · cases he
noncomputable def zah : zc := (q1k.put 135 (qj qeb))
theorem q5h : qp Try.prog zah := (qht.put (zan))
end Go.Proofs.Ytfhckbbgmblhbaa
