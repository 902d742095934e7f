/- Contracts of functions of the program, and plain laws, part 6: each text of this part is proved without further condition. -/
import Derived.Test.YtfhckbbgmblhbaaZ5
import Derived.Test.YtfhckbbgmblhbaaZ3
namespace Go.Proofs.Ytfhckbbgmblhbaa
open Go.Am Go.Dia
open Nat renaming reduceAdd → nA, reduceMul → nM, reduceSub → nS, reduceEqDiff → nE, reduceLT → nL, reduceLeDiff → nD, reduceBEq → nB
open Int renaming reduceEq → iE, reduceNe → iN, reduceBEq → iB, reduceBNe → iC, reduceLT → iL, reduceLE → iD, reduceAdd → iA, reduceSub → iS, reduceMul → iM
set_option linter.unusedSimpArgs false
set_option linter.unusedVariables false
set_option maxRecDepth 4000
set_option maxHeartbeats 2000000
noncomputable def u6 : List AV → Option AV
  | [.int .i64 p, .int .i64 c] => chk (zx p = true ∧ 0 ≤ c ∧ c ≤ p - 1) (some (.int .i64 (jv p c : Nat)))
  | _ => none
theorem qke {f : FuncId} (h : ∀ p c : Int, zx p = true → 0 ≤ c ∧ c ≤ p - 1 → Am.Fn Try.prog f [.int .i64 p, .int .i64 c] [] (fun v H' => v = .int .i64 (jv p c : Nat) ∧ H' = [])) : Am.Callee Try.prog f (qk u6) := Am.Callee.plain fun xs v he => by
  unfold u6 at he
  split at he
  · rename_i p c
    obtain ⟨⟨h1, h2⟩, he⟩ := qm he
    cases he
    exact ⟨rfl, rfl, h p c h1 h2⟩
  · cases he
noncomputable def q6p : zb := (q5c.put 132 (qk u6))
theorem qmp : qo Try.prog q6p := (ql1.put (qke qqh))
theorem Wf : q6p 76 = some (qk Jq) := rfl
def Wl (p c : Int) (n : Nat) : List Int := (List.range n).map fun i => chb p c (i + 1)
theorem Gv (p c : Int) (n : Nat) : (Wl p c n).length = n := by simp [Wl]
theorem Ks {p c : Int} {n i : Nat} (h : i < n) : (Wl p c n).getD i 0 = chb p c (i + 1) := by simp [Wl, h]
theorem qvb (p c : Int) (n : Nat) : jk (Wl p c n) ++ [.int .i64 (chb p c (n + 1))] = jk (Wl p c (n + 1)) := by simp [Wl, jk, List.range_succ]
def Xp : AC := .seq (.seq (.region [oM 13 7,o0 14 (.len .slc (.t 13)),oM 15 2,oP 16 .leq 14 15]) (.cond 16 .skip (.exit 0))) (.block 1 (.seq (.region [oM 17 7,o0 18 (.len .slc (.t 17)),oM 8 18]) (.draw false [oM 19 7,oM 20 1,oM 21 7,oM 22 8,oK 23 .sub 22 1,oX 24 1 21 23,oL 25 24,oP 26 .mul 20 25,oM 27 7,oM 28 8,oK 29 .sub 28 2,oX 30 1 27 29,oL 31 30,oP 32 .sub 26 31,oM 33 0,oC 34 76 [.t 32,.t 33],o0 35 (.gi 1 [.int .i64 0] [(0,1,.t 34)]),o0 36 (.append 1 8 (.t 19) (.t 35)),oM 7 36])))
def Y4 : AC := .seq (.region [oM 37 7,oM 6 37]) .ret
def qat : AC := .seq (.region [o0 6 (.mov (.c (.v (.slice none 0 0))))]) (.seq (.region [oM 9 0,o0 10 (.bin .rem (.c (.int .i64 1)) (.t 9)),oM 11 1,o0 12 (.gi 2 [.int .i64 0,.int .i64 0] [(0,1,.t 10),(1,1,.t 11)]),oM 7 12]) (.seq (.block 0 (.loop Xp)) Y4))
theorem qju : zh Try.prog 148 = some ⟨38, qat, [.slot 6]⟩ := by kernel_rfl
theorem qjk (p c : Int) (K : Nat) (hp : 2 ≤ p ∧ p ≤ 97) (hc : 0 ≤ c ∧ c ≤ p - 1) (hK : K ≤ 1000) :
    Am.Fn Try.prog 148 [.int .i64 p, .int .i64 c, .int .i64 K] [] (fun v H' => v = .slc 0 0 (max 2 (K + 1)) false 0 ∧ H' = [.vec 1 (jk (Wl p c (max 2 (K + 1))))]) := by
  refine Am.Fn.ofW qmp mixed qju (by simp) (by simp) ?_
  have p1 : 0 < p ∧ p ≤ 1000000 := by omega
  have hp0 : ¬ p = 0 := by omega
  have t1 : Int.tmod 1 p = 1 := by rw [Int.tmod_eq_emod_of_nonneg (by omega)]; exact Int.emod_eq_of_lt (by omega) (by omega)
  have o1 : over [AV.int .i64 0, .int .i64 0] 0 [.int .i64 1] = [.int .i64 1, .int .i64 0] := rfl
  have o2 : over [AV.int .i64 1, .int .i64 0] 1 [.int .i64 c] = [.int .i64 1, .int .i64 c] := rfl
  have o3 : ([AV.int .i64 1, .int .i64 0] : List AV).length = 2 := rfl
  have o4 : ([AV.int .i64 0, .int .i64 0] : List AV).length = 2 := rfl
  simp (maxSteps := 3000000) only [qf, zH, qat, Wf, Jq, hp0, t1, o1, o2, o3, o4, Nat.le_refl, iE, iN, iB, iC, iL, iD, iA, iS, iM, qa, zZ, ↓qp, ↓reduceIte, reduceCtorEq, nA, nM, nS, nE, nL, nD]; try simp only [qa, zY]
  have hcc : c.emod p = c := Int.emod_eq_of_lt hc.1 (by omega)
  refine WA.xo qmp (fun s => ∃ L : Nat, 2 ≤ L ∧ L ≤ max 2 (K + 1) ∧ s = ⟨[(0, .int .i64 p), (1, .int .i64 c), (2, .int .i64 K), (7, .slc 0 0 L false 0)], [.vec 1 (jk (Wl p c L))]⟩)
    (fun s => match get s.env 7 with | .slc _ _ L _ _ => 1002 - L | _ => 0) ⟨_, qu.trans (qu.qv [0, 1, 2, 7]) (qu.vec 0 2 1 (by decide) rfl rfl rfl rfl), 2, by omega, by omega, ?_⟩ ?_
  · simp only [qv, zu, zV, ↓reduceIte, nE, reduceCtorEq, nB]
    have e2 : jk (Wl p c 2) = [.int .i64 1, .int .i64 c] := by
      have e3 : chb p c 2 = c := by
        show (c * 1 - 0).emod p = c
        rw [Int.mul_one, Int.sub_zero]; exact hcc
      show [AV.int .i64 1, .int .i64 (chb p c 2)] = _
      rw [e3]
    rw [e2]
  rintro s ⟨L, hL2, hL, rfl⟩
  have hlen := Gv p c L
  have hla := jf (Wl p c L)
  by_cases hlt : L ≤ K
  · have hli : (L : Int) ≤ (K : Int) := by omega
    have w1 : qn .i64 ((L : Int) - 1) = ((L - 1 : Nat) : Int) := by rw [wrap64 (by omega) (by omega)]; omega
    have w2 : qn .i64 ((L : Int) - 2) = ((L - 2 : Nat) : Int) := by rw [wrap64 (by omega) (by omega)]; omega
    have i1 : (0 : Int) ≤ ((L - 1 : Nat) : Int) ∧ ((L - 1 : Nat) : Int) < (L : Int) := by omega
    have i2 : (0 : Int) ≤ ((L - 2 : Nat) : Int) ∧ ((L - 2 : Nat) : Int) < (L : Int) := by omega
    have j1 : L - 1 < L := by omega
    have j2 : L - 2 < L := by omega
    have g1 : (Wl p c L).getD (L - 1) 0 = chb p c L := by rw [Ks j1]; congr 1; omega
    have g2 : (Wl p c L).getD (L - 2) 0 = chb p c (L - 1) := by rw [Ks j2]; congr 1; omega
    obtain ⟨v1, v2⟩ := qp3 (c := c) hp hc (L - 1)
    have e1 : L - 1 + 1 = L := by omega
    rw [e1] at v1 v2
    have hn : (c * chb p c L - chb p c (L - 1)).emod p = chb p c (L + 1) := by
      obtain ⟨M, rfl⟩ : ∃ M, L = M + 1 := ⟨L - 1, by omega⟩
      rfl
    have hap := qvb p c L
    have ht : List.take L (jk (Wl p c L)) = jk (Wl p c L) := by rw [List.take_of_length_le (by rw [hla, hlen]; exact Nat.le_refl _)]
    have o5 : over [AV.int .i64 0] 0 [.int .i64 (chb p c (L + 1))] = [.int .i64 (chb p c (L + 1))] := rfl
    have o6 : ([AV.int .i64 (chb p c (L + 1))] : List AV).length = 1 := rfl
    have o7 : List.take 1 [AV.int .i64 (chb p c (L + 1))] = [AV.int .i64 (chb p c (L + 1))] := rfl
    simp (maxSteps := 3000000) only [qf, zH, Xp, Wf, Jq, ht, o5, o6, o7, src, lim, qih, Option.map_some, Option.map_none, Nat.one_mul, Nat.mul_one, Nat.le_refl, List.all_cons, List.all_nil, hli, w1, w2, i1, i2, j1, j2, hlen, hla, g1, g2, v1, v2, hn, p1, hap, and_self, iE, iN, iB, iC, iL, iD, iA, iS, iM, qa, zZ, ↓qp, ↓reduceIte, reduceCtorEq, nA, nM, nS, nE, nL, nD]; try simp only [qa, zY]
    refine ⟨⟨rfl, by omega⟩, _, qu.can [0, 1, 2, 7] (by simp only [V8, zC, nB, nD, nA, nE, ↓reduceIte, reduceCtorEq]; rfl), ⟨L + 1, by omega, by omega, ?_⟩, ?_⟩
    · simp only [qb _ _ (q6 _), zL, ↓reduceIte, reduceCtorEq, nE, nA]
    · simp only [zL, ↓reduceIte, reduceCtorEq, nE, nA]; omega
  · have hli : ¬ (L : Int) ≤ (K : Int) := by omega
    have hLe : L = max 2 (K + 1) := by omega
    simp (maxSteps := 3000000) only [qf, zH, Xp, Y4, Wf, Jq, hli, iE, iN, iB, iC, iL, iD, iA, iS, iM, qa, zZ, ↓qp, ↓reduceIte, reduceCtorEq, nA, nM, nS, nE, nL, nD]; try simp only [qa, zY]
    rw [← hLe]
    refine ⟨_, qu.refl _, ?_⟩
    refine Ret.xy [0] ⟨⟨by simp, rfl, by decide⟩, ?_⟩ (rs := [.slc 0 0 L false 0]) ?_ rfl (by simp [xt]) ?_ ⟨?_, ?_⟩
    · simp only [qh _ _ (q6 _), zK, ↓reduceIte, reduceCtorEq, nE, nB, nA]
    · rfl
    · intro j l; cases j <;> simp [zj, AO.ren]
    · simp only [xt]
      simp only [zL, ↓reduceIte, reduceCtorEq, nE, nA]
    · simp only [qb _ _ (q6 _), zL, ↓reduceIte, reduceCtorEq, nE, nA]
def Vl : List AV → Option (AV × List AO)
  | [.int .i64 p, .int .i64 c, .int .i64 k] => chk (((2 ≤ p ∧ p ≤ 97) ∧ (0 ≤ c ∧ c ≤ p - 1)) ∧ 0 ≤ k ∧ k ≤ 1000) (some (.slc 0 0 (max 2 (k.toNat + 1)) false 0, [.vec 1 (jk (Wl p c (max 2 (k.toNat + 1))))]))
  | _ => none
theorem q50 : Am.Callee Try.prog 148 (kx Vl) :=
  Am.Callee.new fun xs v H he => by
    unfold Vl at he
    split at he
    · rename_i p c k
      obtain ⟨⟨⟨h1, h2⟩, h3⟩, he⟩ := qm he
      obtain ⟨k, rfl⟩ : ∃ j : Nat, k = j := ⟨k.toNat, by omega⟩
      rw [Int.toNat_natCast] at he
      cases he
      have hfn := qjk p c k h1 h2 (by omega)
      exact ⟨rfl, hfn⟩
    · cases he
noncomputable def q5z : zb := (q6p.put 148 (kx Vl))
theorem qmo : qo Try.prog q5z := (qmp.put (q50))
theorem ke : q5z 148 = some (kx Vl) := rfl
theorem qgn (b k m : Nat) : AV.ren (Yf m) (.slc b 0 k false 0) = .slc (m + b) 0 k false 0 := rfl
def Xm : AC := .seq (.block 1 (.seq (.region [oM 8 0,oM 9 1,oM 10 5,oC 11 148 [.t 8,.t 9,.t 10],oM 12 5,oX 13 1 11 12,oL 14 13,oK 15 .eql 14 0]) (.cond 15 (.seq (.region [oM 16 5,oM 4 16]) .ret) .skip))) (.region [oM 6 5,oK 7 .add 6 1,oM 5 7])
def qa1 : AC := .seq (.region [oI 4 0]) (.seq (.region [oI 5 1]) (.block 0 (.loop Xm)))
theorem qjh : zh Try.prog 95 = some ⟨17, qa1, [.slot 4]⟩ := by kernel_rfl
theorem qjb (p c : Int) (hp : zx p = true) (hc : 0 ≤ c ∧ c ≤ p - 1) :
    Am.Fn Try.prog 95 [.int .i64 p, .int .i64 c] [] (fun v H' => v = .int .i64 (jv p c : Nat) ∧ H' = []) := by
  refine Am.Fn.xp (R := fun v => v = _) qmo mixed qjh (by simp) (by simp) ?_
  have hb := uu hp
  obtain ⟨z1, z2, z3⟩ := qcq hp hc
  simp (maxSteps := 3000000) only [qf, zH, qa1, ke, Vl, iE, iN, iB, iC, iL, iD, iA, iS, iM, qa, zZ, ↓qp, ↓reduceIte, reduceCtorEq, nA, nM, nS, nE, nL, nD]; try simp only [qa, zY]
  refine WA.xo qmo (fun s => ∃ m : Nat, 1 ≤ m ∧ m ≤ jv p c ∧ s = ⟨[(0, .int .i64 p), (1, .int .i64 c), (5, .int .i64 m)], []⟩)
    (fun s => match get s.env 5 with | .int _ x => 101 - x.toNat | _ => 0) ⟨_, qu.qv [0, 1, 5], 1, by omega, by omega, rfl⟩ ?_
  rintro s ⟨m, hm, hmz, rfl⟩
  have hk : (0 : Int) ≤ (m : Int) ∧ (m : Int) ≤ 1000 := by omega
  have hlen := Gv p c (max 2 (m + 1))
  have hla := jf (Wl p c (max 2 (m + 1)))
  have hg : (Wl p c (max 2 (m + 1))).getD m 0 = chb p c (m + 1) := Ks (by omega)
  have i1 : (0 : Int) ≤ (m : Int) ∧ (m : Int) < ((max 2 (m + 1) : Nat) : Int) := by omega
  have i2 : m < max 2 (m + 1) := by omega
  by_cases h0 : chb p c (m + 1) = 0
  · have hq : (chb p c (m + 1) == 0) = true := by simp [h0]
    have e : m = jv p c := by
      by_cases hlt : m < jv p c
      · exact absurd h0 (z3 m hm hlt)
      · omega
    simp (maxSteps := 3000000) only [qf, zH, Xm, ke, Vl, hb, hc, hk, hq, hlen, hla, hg, i1, i2, qgn, bc, qb _ _ (q6 _), Int.toNat_natCast, and_self, iE, iN, iB, iC, iL, iD, iA, iS, iM, qa, zZ, ↓qp, ↓reduceIte, reduceCtorEq, nA, nM, nS, nE, nL, nD]; try simp only [qa, zY]
    rw [e]
  · have hq : (chb p c (m + 1) == 0) = false := by simp [h0]
    have hlt : m < jv p c := by
      by_cases e : m = jv p c
      · subst e; exact absurd z2 h0
      · omega
    have hw : qn .i64 ((m : Int) + 1) = ((m + 1 : Nat) : Int) := by rw [wrap64 (by omega) (by omega)]; rfl
    simp (maxSteps := 3000000) only [qf, zH, Xm, ke, Vl, hb, hc, hk, hq, hlen, hla, hg, i1, i2, qgn, bc, qb _ _ (q6 _), hw, Int.toNat_natCast, and_self, iE, iN, iB, iC, iL, iD, iA, iS, iM, qa, zZ, ↓qp, ↓reduceIte, reduceCtorEq, nA, nM, nS, nE, nL, nD]; try simp only [qa, zY]
    refine ⟨_, qu.can [0, 1, 5] (by simp only [V8, zC, nB, nD, nA, nE, ↓reduceIte, reduceCtorEq]; rfl), ⟨m + 1, by omega, by omega, ?_⟩, ?_⟩
    · simp only [zL, ↓reduceIte, reduceCtorEq, nE, nA]
    · simp only [zL, ↓reduceIte, reduceCtorEq, nE, nA]; omega
noncomputable def q77 : zb := (q5z.put 95 (qk u6))
theorem q2n : qo Try.prog q77 := (qmo.put (qke qjb))
end Go.Proofs.Ytfhckbbgmblhbaa
namespace Go.Proofs.Ytfhckbbgmblhbaa
open Go.Am Go.Dia
open Nat renaming reduceAdd → nA, reduceMul → nM, reduceSub → nS, reduceEqDiff → nE, reduceLT → nL, reduceLeDiff → nD, reduceBEq → nB
open Int renaming reduceEq → iE, reduceNe → iN, reduceBEq → iB, reduceBNe → iC, reduceLT → iL, reduceLE → iD, reduceAdd → iA, reduceSub → iS, reduceMul → iM
set_option linter.unusedSimpArgs false
set_option linter.unusedVariables false
set_option maxRecDepth 4000
set_option maxHeartbeats 1000000
def Xb (p n : Int) (a : List (Int × List Nat × Int)) : List (Int × List Nat × Int) := chP p (n + 1) (xg n.toNat) (fun _ => 1) [] a
theorem U7 {p n : Int} {a : List (Int × List Nat × Int)} (hp : 2 ≤ p ∧ p ≤ 97) (hn : 1 ≤ n ∧ n ≤ 7) (h : z8 p n a) : z8 p (n + 1) (Xb p n a) ∧ (Xb p n a).length ≤ a.length := by
  have hg := Kf (p := p) (acc := []) (by omega) (quy.qfv (p := p) (n := n + 1) (fun t h => by cases h)) (qwl (by omega) hn h)
  refine ⟨hg.1, ?_⟩
  have := hg.2
  unfold Xb
  simpa using this
noncomputable def Gt (p c : Int) (i : Nat) : Int := (chb p c i * V4 p (chb p c (i + 1))).tmod p
noncomputable def jr (p c : Int) : Nat → List (Int × List Nat × Int)
  | 0 => [(1, wu 1, 1)]
  | k + 1 => qbd p ((k + 2 : Nat) : Int) (-(Gt p c (k + 1))) (Xb p ((k + 1 : Nat) : Int) (jr p c k))
      (MP p ((k + 2 : Nat) : Int) (vc p c ((k + 2 : Nat) : Int) (MP p ((k + 2 : Nat) : Int) (vc p c ((k + 2 : Nat) : Int) (Xb p ((k + 1 : Nat) : Int) (jr p c k)) [(((k + 2 : Nat) : Int), X2 (k + 2) k, 1)])) (Xb p ((k + 1 : Nat) : Int) (jr p c k))))
theorem Ua {p c : Int} (hp : 2 ≤ p ∧ p ≤ 97) (hc : 0 ≤ c ∧ c ≤ p - 1) : ∀ k : Nat, k ≤ 4 → z8 p ((k + 1 : Nat) : Int) (jr p c k) ∧ (jr p c k).length ≤ 132
  | 0, _ => by
    have := q04 (p := p) (n := 1) (k := 1) (by omega) (by omega)
    exact ⟨this, by simp [jr]⟩
  | k + 1, hk => by
    have ih := Ua hp hc k (by omega)
    have hw := U7 hp (by omega) ih.1
    have e : ((k + 1 : Nat) : Int) + 1 = ((k + 2 : Nat) : Int) := by omega
    rw [e] at hw
    have hg : z8 p ((k + 2 : Nat) : Int) [(((k + 2 : Nat) : Int), X2 (k + 2) k, 1)] := by
      have := qi8 (p := p) (n := ((k + 2 : Nat) : Int)) (k := 1) (i := k) (by omega) (by omega) (by omega)
      rwa [Int.toNat_natCast] at this
    have h1 := (U9 (c := c) hp hc hw.1 hg ⟨by omega, by simp⟩).1
    have l1 := X8 h1 (by omega)
    have h2 := (U9 (c := c) hp hc h1 hw.1 ⟨by omega, by omega⟩).1
    have h3 := (qdp (k := -(Gt p c (k + 1))) (by omega) hw.1 h2).1
    exact ⟨h3, X8 h3 (by omega)⟩
noncomputable def qjd : zb := (q77.put 149 (Qm))
theorem qlo : qo Try.prog qjd := (q2n.put (qra))
end Go.Proofs.Ytfhckbbgmblhbaa
namespace Go.Proofs.Ytfhckbbgmblhbaa
open Go.Am Go.Dia
open Nat renaming reduceAdd → nA, reduceMul → nM, reduceSub → nS, reduceEqDiff → nE, reduceLT → nL, reduceLeDiff → nD, reduceBEq → nB
open Int renaming reduceEq → iE, reduceNe → iN, reduceBEq → iB, reduceBNe → iC, reduceLT → iL, reduceLE → iD, reduceAdd → iA, reduceSub → iS, reduceMul → iM
set_option linter.unusedSimpArgs false
set_option linter.unusedVariables false
set_option maxRecDepth 4000
set_option maxHeartbeats 2000000
theorem vx : qjd 149 = some (Qm) := rfl
theorem kd : qjd 148 = some (kx Vl) := rfl
theorem kj : qjd 125 = some (qk Wo) := rfl
theorem Q5 : qjd 72 = some (qk qbc) := rfl
theorem gn : qjd 90 = some (qgy) := rfl
theorem Vx : qjd 124 = some (qa8) := rfl
theorem Xq : qjd 103 = some (kx wt) := rfl
theorem V7 : qjd 88 = some (qk jd) := rfl
def Zo : AC := .seq (.seq (.region [oM 21 9,oM 22 2,oP 23 .lss 21 22]) (.cond 23 .skip (.exit 0))) (.seq (.block 1 (.seq (.region [oC 26 149 [.t 7],oZ 10,oS 4 10 26]) (.seq (.region [oM 27 0,oM 28 1,oM 29 9,oK 30 .add 29 1,oM 31 9,oK 32 .sub 31 1,oC 33 125 [.t 30,.t 32],oC 34 103 [.t 27,.t 28,.t 33,(.c (.int .i64 1))],oZ 11,oS 4 11 34]) (.seq (.draw true [oM 35 8,oM 36 9,oK 37 .sub 36 1,oX 38 1 35 37,oL 39 38,oM 40 8,oM 41 9,oX 42 1 40 41,oL 43 42,oM 44 0,oM 47 0,oC 45 72 [.t 43,.t 44],oP 46 .mul 39 45,oP 48 .rem 46 47,oM 12 48]) (.draw true [oN 49 4 10,oN 50 4 10,oN 51 4 11,oN 53 4 10,oM 55 12,o0 56 (.un .neg (.t 55)),oC 52 90 [.t 50,.t 51],oC 54 90 [.t 52,.t 53],oC 57 124 [.t 49,.t 54,.t 56],oS 4 7 57]))))) (.region [oM 24 9,oK 25 .add 24 1,oM 9 25]))
def W8 : AC := .seq (.region [oN 58 4 7,oS 4 6 58]) .ret
def Kb : AC := .seq (.region [oZ 6]) (.seq (.region [oM 13 0,oM 14 1,oC 15 88 [(.c (.int .i64 1))],oC 16 103 [.t 13,.t 14,.t 15,(.c (.int .i64 1))],oM 17 0,oM 18 1,oM 19 2,oC 20 148 [.t 17,.t 18,.t 19],oZ 7,oS 4 7 16,oM 8 20]) (.seq (.seq (.region [oI 9 1]) (.block 0 (.loop Zo))) W8))
theorem qif : zh Try.prog 96 = some ⟨59, Kb, [.bg 6 4]⟩ := by kernel_rfl
theorem qi4 (p c : Int) (n : Nat) (hp : zx p = true) (hc : 0 ≤ c ∧ c ≤ p - 1) (hn : 1 ≤ n ∧ n ≤ 5) (hz : n ≤ jv p c) :
    Am.Fn Try.prog 96 [.int .i64 p, .int .i64 c, .int .i64 n] [] (fun v H' => v = elemV p c n 0 (jr p c (n - 1)).length ∧ H' = [.vec 18 (xb (jr p c (n - 1)))]) := by
  refine Am.Fn.ofW qlo mixed qif (by simp) (by simp) ?_
  have hb := uu hp
  have k1 : (1 : Int) ≤ 1 ∧ (1 : Int) ≤ p - 1 := by omega
  have p1 : 0 < p ∧ p ≤ 1000000 := by omega
  have hp0 : ¬ p = 0 := by omega
  have s1 := qui k1
  have n1 := q7n k1
  have hK : (0 : Int) ≤ (n : Int) ∧ (n : Int) ≤ 1000 := by omega
  have c1 : (0 : Int) ≤ 1 ∧ (1 : Int) ≤ 8 := by omega
  have hdu : vy (dia 1 (wu 1)) = some (1, wu 1) := qy (Vz (by omega))
  simp (maxSteps := 3000000) only [qf, zH, Kb, vx, kd, kj, Q5, gn, Vx, Xq, V7, Vl, Wo, qbc, Qm, qgy, qa8, wt, jd, V1, elemV, bc, qb _ _ (qc _), qb _ _ (qg _ _), hb, hc, p1, s1, n1, hK, c1, hdu, qgn, bc, qb _ _ (q6 _), List.length_singleton, Int.toNat_one, Int.toNat_natCast, and_self, iE, iN, iB, iC, iL, iD, iA, iS, iM, qa, zZ, ↓qp, ↓reduceIte, reduceCtorEq, nA, nM, nS, nE, nL, nD]; try simp only [qa, zY]
  refine ⟨rfl, ?_⟩
  refine WA.xo qlo (fun s => ∃ k : Nat, k + 1 ≤ n ∧ s = ⟨[(0, .int .i64 p), (1, .int .i64 c), (2, .int .i64 n), (6, .ptr 0 0), (7, .ptr 1 0), (8, .slc 3 0 (max 2 (n + 1)) false 0), (9, .int .i64 (k + 1 : Nat))], [q6c, .cells [.int .i64 p, .int .i64 c, .int .i64 (k + 1 : Nat), .slc 2 0 (jr p c k).length false 0], .vec 18 (xb (jr p c k)), .vec 1 (jk (Wl p c (max 2 (n + 1))))]⟩)
    (fun s => match get s.env 9 with | .int _ x => n - x.toNat | _ => 0) ⟨_, qu.can [0, 1, 2, 6, 7, 8, 9] (by simp only [V8, zC, nB, nD, nA, nE, ↓reduceIte, reduceCtorEq]; rfl), 0, by omega, ?_⟩ ?_
  · simp only [qb _ _ (qc _), qb _ _ (q6 _), zL, ↓reduceIte, reduceCtorEq, nE, nA]
    rfl
  rintro s ⟨k, hk, rfl⟩
  have hPg := Ua (c := c) hb hc k (by omega)
  by_cases hlt : k + 1 < n
  · have hli : ((k + 1 : Nat) : Int) < (n : Int) := by omega
    have e2 : ((k + 1 : Nat) : Int) + 1 = ((k + 2 : Nat) : Int) := by omega
    have hw1 : qn .i64 ((k + 2 : Nat) : Int) = ((k + 2 : Nat) : Int) := wrap64 (by omega) (by omega)
    have hw0 : qn .i64 (((k + 1 : Nat) : Int) - 1) = (k : Int) := by rw [wrap64 (by omega) (by omega)]; omega
    have q1 : (1 : Int) ≤ ((k + 1 : Nat) : Int) ∧ ((k + 1 : Nat) : Int) ≤ 7 := by omega
    have q2 : (0 : Int) ≤ ((k + 2 : Nat) : Int) ∧ ((k + 2 : Nat) : Int) ≤ 8 := by omega
    have hgen : ((k + 2 : Nat) : Int) ≤ 8 ∧ 0 ≤ (k : Int) ∧ (k : Int) + 1 < ((k + 2 : Nat) : Int) := by omega
    have hdg : vy (dia ((k + 2 : Nat) : Int) (X2 (k + 2) k)) = some (((k + 2 : Nat) : Int), X2 (k + 2) k) := qy (qgh (by omega) (by omega))
    have hcl := Gv p c (max 2 (n + 1))
    have hci := jf (Wl p c (max 2 (n + 1)))
    have g0 : (Wl p c (max 2 (n + 1))).getD k 0 = chb p c (k + 1) := Ks (by omega)
    have g1 : (Wl p c (max 2 (n + 1))).getD (k + 1) 0 = chb p c (k + 2) := Ks (by omega)
    have i0 : (0 : Int) ≤ (k : Int) ∧ (k : Int) < ((max 2 (n + 1) : Nat) : Int) := by omega
    have i1 : (0 : Int) ≤ ((k + 1 : Nat) : Int) ∧ ((k + 1 : Nat) : Int) < ((max 2 (n + 1) : Nat) : Int) := by omega
    have j0 : k < max 2 (n + 1) := by omega
    have j1 : k + 1 < max 2 (n + 1) := by omega
    have hnz : ¬ chb p c (k + 2) = 0 := (qcq hp hc).2.2 (k + 1) (by omega) (by omega)
    have b1 := qbm (c := c) hb (k + 1)
    have b2 := qbm (c := c) hb (k + 2)
    have hoi : okI p (chb p c (k + 2)) := ⟨hp, by omega, b2.2⟩
    have hv := (qg7 hoi.1 hoi.2).1
    have m1 : chb p c (k + 1) * V4 p (chb p c (k + 2)) ≤ 96 * 96 := Int.mul_le_mul (by omega) (by omega) (by omega) (by omega)
    have m0 : 0 ≤ chb p c (k + 1) * V4 p (chb p c (k + 2)) := Int.mul_nonneg b1.1 (by omega)
    have hwm : qn .i64 (chb p c (k + 1) * V4 p (chb p c (k + 2))) = chb p c (k + 1) * V4 p (chb p c (k + 2)) := wrap64 (by omega) (by omega)
    have hX : (chb p c (k + 1) * V4 p (chb p c (k + 2))).tmod p = Gt p c (k + 1) := rfl
    have hXb : 0 ≤ Gt p c (k + 1) ∧ Gt p c (k + 1) < p := ⟨Int.tmod_nonneg _ m0, Int.tmod_lt_of_pos _ (by omega)⟩
    have hwx : qn .i64 (0 - Gt p c (k + 1)) = -(Gt p c (k + 1)) := by rw [wrap64 (by omega) (by omega)]; omega
    have hxk : -1000001 ≤ -(Gt p c (k + 1)) ∧ -(Gt p c (k + 1)) ≤ 1000001 := by omega
    have hW0 := U7 hb q1 hPg.1
    rw [e2] at hW0
    have hWe : chP p ((k + 2 : Nat) : Int) (xg (k + 1)) (fun _ => 1) [] (jr p c k) = Xb p ((k + 1 : Nat) : Int) (jr p c k) := by rw [← e2]; rfl
    have hnext : jr p c (k + 1) = qbd p ((k + 2 : Nat) : Int) (-(Gt p c (k + 1))) (Xb p ((k + 1 : Nat) : Int) (jr p c k))
      (MP p ((k + 2 : Nat) : Int) (vc p c ((k + 2 : Nat) : Int) (MP p ((k + 2 : Nat) : Int) (vc p c ((k + 2 : Nat) : Int) (Xb p ((k + 1 : Nat) : Int) (jr p c k)) [(((k + 2 : Nat) : Int), X2 (k + 2) k, 1)])) (Xb p ((k + 1 : Nat) : Int) (jr p c k)))) := rfl
    have hGg : z8 p ((k + 2 : Nat) : Int) [(((k + 2 : Nat) : Int), X2 (k + 2) k, 1)] := by
      have := qi8 (p := p) (n := ((k + 2 : Nat) : Int)) (k := 1) (i := k) (by omega) (by omega) (by omega)
      rwa [Int.toNat_natCast] at this
    generalize Xb p ((k + 1 : Nat) : Int) (jr p c k) = W at *
    have hM1 := (U9 (c := c) hb hc hW0.1 hGg ⟨by omega, by simp⟩).1
    have lM1 := X8 hM1 (by omega)
    generalize hM1e : MP p ((k + 2 : Nat) : Int) (vc p c ((k + 2 : Nat) : Int) W [(((k + 2 : Nat) : Int), X2 (k + 2) k, 1)]) = M1 at *
    have hM2 := (U9 (c := c) hb hc hM1 hW0.1 ⟨by omega, by omega⟩).1
    have lM2 := X8 hM2 (by omega)
    generalize hM2e : MP p ((k + 2 : Nat) : Int) (vc p c ((k + 2 : Nat) : Int) M1 W) = M2 at *
    have tP := bx hPg.1.ok
    have tW := bx hW0.1.ok
    have tM1 := bx hM1.ok
    have tM2 := bx hM2.ok
    have tG : qah 1 (xb _) = some _ := bx hGg.ok
    have dP := hPg.1.dec
    have dW := hW0.1.dec
    have dM1 := hM1.dec
    have dM2 := hM2.dec
    have dG := hGg.dec
    have lP : (jr p c k).length ≤ 100000 := by omega
    have lW : W.length ≤ 300 := by omega
    have lW2 : W.length ≤ 100000 := by omega
    have lM1' : M1.length ≤ 300 := by omega
    have lM2' : M2.length ≤ 100000 := by omega
    have l1 : (1 : Nat) ≤ 300 := by omega
    simp (maxSteps := 3000000) only [qf, zH, Zo, vx, kd, kj, Q5, gn, Vx, Xq, V7, Vl, Wo, qbc, Qm, qgy, qa8, wt, jd, V1, elemV, bc, qb _ _ (qc _), qb _ _ (qg _ _), hli, e2, hw1, hw0, q1, q2, hgen, hdg, hcl, hci, g0, g1, i0, i1, j0, j1, hoi, hwm, hX, hwx, hxk, hWe, ← hnext, hM1e, hM2e, tP, tW, tM1, tM2, tG, dP, dW, dM1, dM2, dG, lP, lW, lW2, lM1', lM2', l1, hb, hc, hp0, p1, s1, n1, List.length_singleton, Int.toNat_natCast, and_self, iE, iN, iB, iC, iL, iD, iA, iS, iM, qa, zZ, ↓qp, ↓reduceIte, reduceCtorEq, nA, nM, nS, nE, nL, nD]; try simp only [qa, zY]
    repeat' refine And.intro (by first | rfl | exact ⟨_, rfl⟩) ?_
    refine ⟨_, qu.can [0, 1, 2, 6, 7, 8, 9] (by simp only [V8, zC, nB, nD, nA, nE, ↓reduceIte, reduceCtorEq]; rfl), ⟨k + 1, by omega, ?_⟩, ?_⟩
    · simp only [qb _ _ (qc _), qb _ _ (q6 _), zL, ↓reduceIte, reduceCtorEq, nE, nA]
    · simp only [zL, ↓reduceIte, reduceCtorEq, nE, nA]; omega
  · have hli : ¬ ((k + 1 : Nat) : Int) < (n : Int) := by omega
    obtain rfl : n = k + 1 := by omega
    simp (maxSteps := 3000000) only [qf, zH, Zo, W8, vx, kd, kj, Q5, gn, Vx, Xq, V7, Vl, Wo, qbc, Qm, qgy, qa8, wt, jd, V1, elemV, bc, qb _ _ (qc _), qb _ _ (qg _ _), hli, Int.lt_irrefl, Nat.add_sub_cancel, iE, iN, iB, iC, iL, iD, iA, iS, iM, qa, zZ, ↓qp, ↓reduceIte, reduceCtorEq, nA, nM, nS, nE, nL, nD]; try simp only [qa, zY]
    refine ⟨rfl, _, qu.refl _, ?_⟩
    refine Ret.xy [2] ⟨⟨by simp, rfl, by decide⟩, ?_⟩ (rs := [.agg [.int .i64 p, .int .i64 c, .int .i64 (k + 1 : Nat), .slc 2 0 (jr p c k).length false 0]]) ?_ rfl (by simp [xt]) ?_ ⟨?_, ?_⟩
    · simp only [qh _ _ (qc _), zK, ↓reduceIte, reduceCtorEq, nE, nB, nA]
    · rfl
    · intro j l; cases j <;> simp [zj, AO.ren]
    · simp only [xt]
      simp only [zL, ↓reduceIte, reduceCtorEq, nE, nA]
    · simp only [qb _ _ (qc _), zL, ↓reduceIte, reduceCtorEq, nE, nA]
noncomputable def G7 : List AV → Option (AV × List AO)
  | [.int .i64 p, .int .i64 c, .int .i64 n] => chk ((zx p = true ∧ 0 ≤ c ∧ c ≤ p - 1) ∧ (1 ≤ n ∧ n ≤ 5) ∧ n ≤ jv p c) (some (elemV p c n 0 (jr p c (n.toNat - 1)).length, [.vec 18 (xb (jr p c (n.toNat - 1)))]))
  | _ => none
theorem q6f : Am.Callee Try.prog 96 (kx G7) :=
  Am.Callee.new fun xs v H he => by
    unfold G7 at he
    split at he
    · rename_i p c n
      obtain ⟨⟨⟨h1, h2⟩, h3, h4⟩, he⟩ := qm he
      obtain ⟨n, rfl⟩ : ∃ j : Nat, n = j := ⟨n.toNat, by omega⟩
      rw [Int.toNat_natCast] at he
      cases he
      exact ⟨rfl, qi4 p c n h1 h2 (by omega) (by omega)⟩
    · cases he
noncomputable def qwm : zb := (qjd.put 96 (kx G7))
theorem quk : qo Try.prog qwm := (qlo.put (q6f))
noncomputable def y7 (p c n : Int) : ER :=
  if ¬ ((zx p = true ∧ 0 ≤ c ∧ c ≤ p - 1) ∧ 1 ≤ n ∧ n ≤ 5) then (0, 0, 0, [], 2) else if ¬ n ≤ jv p c then (0, 0, 0, [], 5) else (p, c, n, jr p c (n.toNat - 1), 0)
theorem bo : qwm 94 = some (qk Q2) := rfl
theorem yb : qwm 95 = some (qk u6) := rfl
theorem Vb : qwm 71 = some (qk uk) := rfl
theorem wy : qwm 96 = some (kx G7) := rfl
def yf : AC := .seq (.region [oZ 6,oI 7 0]) (.seq (.block 0 (.seq (.region [oM 9 0,oM 10 1,oC 11 94 [.t 9,.t 10],o0 12 (.un .not (.t 11)),oM 13 12,oG 14 13 false (.mov (.t 2)),⟨some 15,some (13,false),.call (.c (.fn 71 [] [])) [.t 14,(.c (.int .i64 1)),(.c (.int .i64 5))]⟩,oG 16 13 false (.un .not (.t 15)),o0 17 (.pick (.t 13) (.c (.bool true)) (.t 16)),oM 8 17]) (.cond 8 (.seq (.region [o0 18 (.build [.int .i64 0,.int .i64 0,.int .i64 0,(.v (.slice none 0 0))] []),oS 4 6 18,oI 7 2]) .ret) (.seq (.region [oM 20 2,oM 21 0,oM 22 1,oC 23 95 [.t 21,.t 22],oP 24 .gtr 20 23,oM 19 24]) (.cond 19 (.seq (.region [o0 25 (.build [.int .i64 0,.int .i64 0,.int .i64 0,(.v (.slice none 0 0))] []),oS 4 6 25,oI 7 5]) .ret) .skip))))) (.seq (.region [oM 26 0,oM 27 1,oM 28 2,oC 29 96 [.t 26,.t 27,.t 28],oS 4 6 29,oI 7 0]) .ret))
theorem qd5 : zh Try.prog 42 = some ⟨30, yf, [.bg 6 4, .slot 7]⟩ := by kernel_rfl
theorem qdh (p c n : Int) : Am.Fn Try.prog 42 [.int .i64 p, .int .i64 c, .int .i64 n] [] (q0k (y7 p c n)) := by
  refine Am.Fn.ofW quk mixed qd5 (by simp) (by simp) ?_
  have nilR : ∀ (code : Int) (s : St), y7 p c n = (0, 0, 0, [], code) → Wj s [.bg 6 4, .slot 7] = some [.agg [.int .i64 0, .int .i64 0, .int .i64 0, .v (.slice none 0 0)], .int .i64 code] → Ret [.bg 6 4, .slot 7] [] (q0k (y7 p c n)) s := fun code s he hr => by
    refine Ret.nil 18 (.tup [elemV 0 0 0 0 0, .int .i64 code]) hr ?_ (by simp) ?_ ?_
    · simp [xt, elemV, AV.ren, AV.zg]
    · exact ⟨⟨trivial, trivial, trivial, by simp [AV.under], trivial⟩, trivial, trivial⟩
    · rw [he]; exact ⟨rfl, rfl⟩
  by_cases hf : (zx p = true ∧ 0 ≤ c ∧ c ≤ p - 1) ∧ 1 ≤ n ∧ n ≤ 5
  · obtain ⟨⟨h1, h2⟩, h3⟩ := hf
    have hP : (zx p && decide (0 ≤ c ∧ c ≤ p - 1)) = true := by rw [h1, decide_eq_true h2]; rfl
    have hN : decide (1 ≤ n ∧ n ≤ 5) = true := decide_eq_true h3
    by_cases hz : n ≤ jv p c
    · have hzl : ¬ ((jv p c : Nat) : Int) < n := by omega
      have e : y7 p c n = (p, c, n, jr p c (n.toNat - 1), 0) := by unfold y7; rw [if_neg (fun h => h ⟨⟨h1, h2⟩, h3⟩), if_neg (fun h => h hz)]
      simp (maxSteps := 3000000) only [qf, zH, yf, bo, yb, Vb, wy, Q2, uk, G7, u6, V1, elemV, bc, qb _ _ (qc _), qb _ _ (qg _ _), hP, hN, h1, h2, h3, hz, hzl, and_self, iE, iN, iB, iC, iL, iD, iA, iS, iM, qa, zZ, ↓qp, ↓reduceIte, reduceCtorEq, nA, nM, nS, nE, nL, nD]; try simp only [qa, zY]
      rw [e]
      unfold q0k
      refine ⟨rfl, _, qu.refl _, ?_⟩
      generalize jr p c (n.toNat - 1) = L
      refine Ret.xy [1] ⟨⟨by simp, rfl, by decide⟩, ?_⟩ (rs := [.agg [.int .i64 p, .int .i64 c, .int .i64 n, .slc 1 0 L.length false 0], .int .i64 0]) rfl (by rfl) (by simp [xt]) ?_ ⟨?_, ?_⟩
      · simp only [qh _ _ (qc _), zK, ↓reduceIte, reduceCtorEq, nE, nB, nA]
      · intro j l; cases j <;> simp [zj, AO.ren]
      · simp only [xt]
        simp only [zL, ↓reduceIte, reduceCtorEq, nE, nA]
        rfl
      · simp only [qb _ _ (qc _), zL, ↓reduceIte, reduceCtorEq, nE, nA]
    · have hzl : ((jv p c : Nat) : Int) < n := by omega
      have e : y7 p c n = (0, 0, 0, [], 5) := by unfold y7; rw [if_neg (fun h => h ⟨⟨h1, h2⟩, h3⟩), if_pos hz]
      simp (maxSteps := 3000000) only [qf, zH, yf, bo, yb, Vb, wy, Q2, uk, G7, u6, V1, elemV, bc, qb _ _ (qc _), qb _ _ (qg _ _), hP, hN, h1, h2, h3, hzl, and_self, iE, iN, iB, iC, iL, iD, iA, iS, iM, qa, zZ, ↓qp, ↓reduceIte, reduceCtorEq, nA, nM, nS, nE, nL, nD]; try simp only [qa, zY]
      exact ⟨rfl, _, qu.refl _, nilR 5 _ e rfl⟩
  · have e : y7 p c n = (0, 0, 0, [], 2) := if_pos hf
    by_cases hP : zx p = true ∧ 0 ≤ c ∧ c ≤ p - 1
    · have hP' : (zx p && decide (0 ≤ c ∧ c ≤ p - 1)) = true := by rw [hP.1, decide_eq_true hP.2]; rfl
      have hN : decide (1 ≤ n ∧ n ≤ 5) = false := decide_eq_false fun h => hf ⟨hP, h⟩
      simp (maxSteps := 3000000) only [qf, zH, yf, bo, yb, Vb, wy, Q2, uk, G7, u6, V1, elemV, bc, qb _ _ (qc _), qb _ _ (qg _ _), hP', hN, and_self, iE, iN, iB, iC, iL, iD, iA, iS, iM, qa, zZ, ↓qp, ↓reduceIte, reduceCtorEq, nA, nM, nS, nE, nL, nD]; try simp only [qa, zY]
      exact ⟨rfl, _, qu.refl _, nilR 2 _ e rfl⟩
    · have hP' : (zx p && decide (0 ≤ c ∧ c ≤ p - 1)) = false := by
        cases h1 : zx p with
        | false => rfl
        | true => rw [Bool.true_and]; exact decide_eq_false fun h => hP ⟨h1, h⟩
      simp (maxSteps := 3000000) only [qf, zH, yf, bo, yb, Vb, wy, Q2, uk, G7, u6, V1, elemV, bc, qb _ _ (qc _), qb _ _ (qg _ _), hP', and_self, iE, iN, iB, iC, iL, iD, iA, iS, iM, qa, zZ, ↓qp, ↓reduceIte, reduceCtorEq, nA, nM, nS, nE, nL, nD]; try simp only [qa, zY]
      exact ⟨rfl, _, qu.refl _, nilR 2 _ e rfl⟩
noncomputable def Ux : List AV → Option (AV × List AO)
  | [.int .i64 p, .int .i64 c, .int .i64 n] => some (.tup [elemV (y7 p c n).1 (y7 p c n).2.1 (y7 p c n).2.2.1 0 (y7 p c n).2.2.2.1.length, .int .i64 (y7 p c n).2.2.2.2], [.vec 18 (xb (y7 p c n).2.2.2.1)])
  | _ => none
theorem q2x : Am.Callee Try.prog 42 (kx Ux) :=
  Am.Callee.new fun xs v H he => by
    unfold Ux at he
    split at he
    · rename_i p c n
      cases he
      exact ⟨rfl, qdh p c n⟩
    · cases he
noncomputable def qhe : zb := (qwm.put 42 (kx Ux))
theorem Ur : qo Try.prog qhe := (quk.put (q2x))
theorem yc : qhe 61 = some (Bc) := rfl
theorem ub : qhe 42 = some (kx Ux) := rfl
noncomputable def Bf (p c n : Int) : Int × Int :=
  if ¬ ((zx p = true ∧ 0 ≤ c ∧ c ≤ p - 1) ∧ 1 ≤ n ∧ n ≤ 5) then (0, 2) else if ¬ n ≤ jv p c then (0, 5) else ((trU p c 0 (jr p c (n.toNat - 1))).emod p, 0)
def wi : AC := .seq (.region [oI 6 0,oI 7 0]) (.seq (.region [oM 11 0,oM 12 1,oM 13 2,oC 14 42 [.t 11,.t 12,.t 13],oM 10 14,oE 15 0 10,oE 16 1 10,oZ 8,oS 4 8 15,oM 9 16]) (.seq (.seq (.region [oM 17 9,oK 18 .neq 17 0]) (.cond 18 (.seq (.region [oM 19 9,oI 6 0,oM 7 19]) .ret) .skip)) (.seq (.region [oC 20 61 [.t 8,(.c (.int .i64 0))],oM 6 20,oI 7 0]) .ret)))
theorem Ge : zh Try.prog 35 = some ⟨21, wi, [.slot 6, .slot 7]⟩ := by kernel_rfl
theorem Gb (p c n : Int) : Am.Fn Try.prog 35 [.int .i64 p, .int .i64 c, .int .i64 n] [] (fun v H' => v = .tup [.int .i64 (Bf p c n).1, .int .i64 (Bf p c n).2] ∧ H' = []) := by
  refine Am.Fn.xp (R := fun v => v = _) Ur mixed Ge (by simp) (by simp) ?_
  by_cases hf : (zx p = true ∧ 0 ≤ c ∧ c ≤ p - 1) ∧ 1 ≤ n ∧ n ≤ 5
  · by_cases hz : n ≤ jv p c
    · have e : y7 p c n = (p, c, n, jr p c (n.toNat - 1), 0) := by unfold y7; rw [if_neg (fun h => h hf), if_neg (fun h => h hz)]
      have e' : Bf p c n = ((trU p c 0 (jr p c (n.toNat - 1))).emod p, 0) := by unfold Bf; rw [if_neg (fun h => h hf), if_neg (fun h => h hz)]
      have hb := uu hf.1.1
      have hc := hf.1.2
      have hn : 1 ≤ n ∧ n ≤ 8 := by omega
      have hg := Ua (c := c) hb hc (n.toNat - 1) (by omega)
      rw [show ((n.toNat - 1 + 1 : Nat) : Int) = n by omega] at hg
      have hd := hg.1.dec
      have ht := bx hg.1.ok
      have hl : (jr p c (n.toNat - 1)).length ≤ 300 := by omega
      simp (maxSteps := 3000000) only [qf, zH, wi, yc, ub, Ux, Bc, V1, elemV, bc, qb _ _ (qc _), qb _ _ (qg _ _), qmf, e, hb, hc, hn, hd, ht, hl, Int.toNat_zero, and_self, iE, iN, iB, iC, iL, iD, iA, iS, iM, qa, zZ, ↓qp, ↓reduceIte, reduceCtorEq, nA, nM, nS, nE, nL, nD]; try simp only [qa, zY]
      rw [e']
      exact ⟨rfl, rfl⟩
    · have e : y7 p c n = (0, 0, 0, [], 5) := by unfold y7; rw [if_neg (fun h => h hf), if_pos hz]
      have e' : Bf p c n = (0, 5) := by unfold Bf; rw [if_neg (fun h => h hf), if_pos hz]
      simp (maxSteps := 3000000) only [qf, zH, wi, yc, ub, Ux, Bc, V1, elemV, bc, qb _ _ (qc _), qb _ _ (qg _ _), qmf, e, and_self, iE, iN, iB, iC, iL, iD, iA, iS, iM, qa, zZ, ↓qp, ↓reduceIte, reduceCtorEq, nA, nM, nS, nE, nL, nD]; try simp only [qa, zY]
      rw [e']
      exact ⟨rfl, rfl⟩
  · have e : y7 p c n = (0, 0, 0, [], 2) := if_pos hf
    have e' : Bf p c n = (0, 2) := if_pos hf
    simp (maxSteps := 3000000) only [qf, zH, wi, yc, ub, Ux, Bc, V1, elemV, bc, qb _ _ (qc _), qb _ _ (qg _ _), qmf, e, and_self, iE, iN, iB, iC, iL, iD, iA, iS, iM, qa, zZ, ↓qp, ↓reduceIte, reduceCtorEq, nA, nM, nS, nE, nL, nD]; try simp only [qa, zY]
    rw [e']
    exact ⟨rfl, rfl⟩
end Go.Proofs.Ytfhckbbgmblhbaa
namespace Go.Proofs.Ytfhckbbgmblhbaa
open Go.Am Go.Dia
open Nat renaming reduceAdd → nA, reduceMul → nM, reduceSub → nS, reduceEqDiff → nE, reduceLT → nL, reduceLeDiff → nD, reduceBEq → nB
open Int renaming reduceEq → iE, reduceNe → iN, reduceBEq → iB, reduceBNe → iC, reduceLT → iL, reduceLE → iD, reduceAdd → iA, reduceSub → iS, reduceMul → iM
set_option linter.unusedSimpArgs false
set_option linter.unusedVariables false
set_option maxRecDepth 4000
set_option maxHeartbeats 2000000
end Go.Proofs.Ytfhckbbgmblhbaa
namespace Go.Proofs.Ytfhckbbgmblhbaa
open Go.Am Go.Dia
open Nat renaming reduceAdd → nA, reduceMul → nM, reduceSub → nS, reduceEqDiff → nE, reduceLT → nL, reduceLeDiff → nD, reduceBEq → nB
open Int renaming reduceEq → iE, reduceNe → iN, reduceBEq → iB, reduceBNe → iC, reduceLT → iL, reduceLE → iD, reduceAdd → iA, reduceSub → iS, reduceMul → iM
set_option linter.unusedSimpArgs false
set_option linter.unusedVariables false
set_option maxRecDepth 4000
set_option maxHeartbeats 2000000
open Classical in
noncomputable def qan (p c : Int) : Int := if zx p = true ∧ 0 ≤ c ∧ c ≤ p - 1 then 0 else 2
theorem Jm : qhe 66 = some (qk uk) := rfl
theorem Qq : qhe 137 = some (qk wq) := rfl
theorem Z5 : qhe 132 = some (qk u6) := rfl
def W7 : AC := .seq (.region [oI 4 0]) (.seq (.seq (.region [oM 5 0,oC 6 137 [.t 5],o0 7 (.un .not (.t 6)),oM 8 7,oG 9 8 false (.mov (.t 1)),oG 10 8 false (.mov (.t 0)),oG 11 8 false (.bin .sub (.t 10) (.c (.int .i64 1))),⟨some 12,some (8,false),.call (.c (.fn 66 [] [])) [.t 9,(.c (.int .i64 0)),.t 11]⟩,oG 13 8 false (.un .not (.t 12)),o0 14 (.pick (.t 8) (.c (.bool true)) (.t 13))]) (.cond 14 (.seq (.region [oI 4 2]) .ret) .skip)) (.seq (.region [oI 4 0]) .ret))
theorem qqa : zh Try.prog 131 = some ⟨15, W7, [.slot 4]⟩ := by kernel_rfl
theorem qpc (p c : Int) : Am.Fn Try.prog 131 [.int .i64 p, .int .i64 c] [] (fun v H' => v = .int .i64 (qan p c) ∧ H' = []) := by
  refine Am.Fn.xp (R := fun v => v = _) Ur mixed qqa (by simp [AV.qt, AV.under]) (by simp) ?_
  cases hP : zx p with
  | false =>
    have e : qan p c = 2 := by unfold qan; rw [if_neg (by simp [hP])]
    simp (maxSteps := 3000000) only [qf, zH, W7, Jm, Qq, Z5, uk, wq, u6, hP, e, iE, iN, iB, iC, iL, iD, iA, iS, iM, qa, zZ, ↓qp, ↓reduceIte, reduceCtorEq, nA, nM, nS, nE, nL, nD]; try simp only [qa, zY]
  | true =>
    have hb := uu hP
    have hw : qn .i64 (p - 1) = p - 1 := wrap64 (by omega) (by omega)
    by_cases hc : 0 ≤ c ∧ c ≤ p - 1
    · have e : qan p c = 0 := by unfold qan; rw [if_pos ⟨hP, hc⟩]
      simp (maxSteps := 3000000) only [qf, zH, W7, Jm, Qq, Z5, uk, wq, u6, hP, hw, hc, e, and_self, iE, iN, iB, iC, iL, iD, iA, iS, iM, qa, zZ, ↓qp, ↓reduceIte, reduceCtorEq, nA, nM, nS, nE, nL, nD]; try simp only [qa, zY]
    · have e : qan p c = 2 := by unfold qan; rw [if_neg fun h => hc h.2]
      simp (maxSteps := 3000000) only [qf, zH, W7, Jm, Qq, Z5, uk, wq, u6, hP, hw, hc, e, iE, iN, iB, iC, iL, iD, iA, iS, iM, qa, zZ, ↓qp, ↓reduceIte, reduceCtorEq, nA, nM, nS, nE, nL, nD]; try simp only [qa, zY]
noncomputable def Wt : List AV → Option AV
  | [.int .i64 p, .int .i64 c] => some (.int .i64 (qan p c))
  | _ => none
theorem q33 : Am.Callee Try.prog 131 (qk Wt) := Am.Callee.plain fun xs v he => by
  unfold Wt at he
  split at he
  · rename_i p c
    cases he
    exact ⟨rfl, rfl, qpc p c⟩
  · cases he
noncomputable def qvc : zb := (qhe.put 131 (qk Wt))
theorem quh : qo Try.prog qvc := (Ur.put (q33))
theorem k9 : qvc 66 = some (qk uk) := rfl
theorem y0 : qvc 137 = some (qk wq) := rfl
theorem bp : qvc 132 = some (qk u6) := rfl
theorem bm : qvc 131 = some (qk Wt) := rfl
open Classical in
noncomputable def V0 (p c n : Int) : Int := if ¬ ((zx p = true ∧ 0 ≤ c ∧ c ≤ p - 1) ∧ 1 ≤ n ∧ n ≤ 5) then 2 else if ¬ n ≤ jv p c then 5 else 0
def Zf : AC := .seq (.region [oI 6 0]) (.seq (.block 0 (.seq (.region [oM 8 0,oM 9 1,oC 10 131 [.t 8,.t 9],oK 11 .neq 10 0,oM 12 11,oG 13 12 false (.mov (.t 2)),⟨some 14,some (12,false),.call (.c (.fn 66 [] [])) [.t 13,(.c (.int .i64 1)),(.c (.int .i64 5))]⟩,oG 15 12 false (.un .not (.t 14)),o0 16 (.pick (.t 12) (.c (.bool true)) (.t 15)),oM 7 16]) (.cond 7 (.seq (.region [oI 6 2]) .ret) (.seq (.region [oM 18 2,oM 19 0,oM 20 1,oC 21 132 [.t 19,.t 20],oP 22 .gtr 18 21,oM 17 22]) (.cond 17 (.seq (.region [oI 6 5]) .ret) .skip))))) (.seq (.region [oI 6 0]) .ret))
theorem qm2 : zh Try.prog 77 = some ⟨23, Zf, [.slot 6]⟩ := by kernel_rfl
theorem qlz (p c n : Int) : Am.Fn Try.prog 77 [.int .i64 p, .int .i64 c, .int .i64 n] [] (fun v H' => v = .int .i64 (V0 p c n) ∧ H' = []) := by
  refine Am.Fn.xp (R := fun v => v = _) quh mixed qm2 (by simp [AV.qt, AV.under]) (by simp) ?_
  by_cases hf : zx p = true ∧ 0 ≤ c ∧ c ≤ p - 1
  · have hC : qan p c = 0 := if_pos hf
    obtain ⟨hP, hc⟩ := hf
    by_cases hn : 1 ≤ n ∧ n ≤ 5
    · by_cases hz : n ≤ jv p c
      · have e : V0 p c n = 0 := by unfold V0; rw [if_neg (fun h => h ⟨⟨hP, hc⟩, hn⟩), if_neg (fun h => h hz)]
        have hzl : ¬ ((jv p c : Nat) : Int) < n := by omega
        simp (maxSteps := 3000000) only [qf, zH, Zf, k9, y0, bp, bm, Wt, uk, wq, u6, hC, hn, hP, hc, hzl, e, and_self, iE, iN, iB, iC, iL, iD, iA, iS, iM, qa, zZ, ↓qp, ↓reduceIte, reduceCtorEq, nA, nM, nS, nE, nL, nD]; try simp only [qa, zY]
      · have e : V0 p c n = 5 := by unfold V0; rw [if_neg (fun h => h ⟨⟨hP, hc⟩, hn⟩), if_pos hz]
        have hzl : ((jv p c : Nat) : Int) < n := by omega
        simp (maxSteps := 3000000) only [qf, zH, Zf, k9, y0, bp, bm, Wt, uk, wq, u6, hC, hn, hP, hc, hzl, e, and_self, iE, iN, iB, iC, iL, iD, iA, iS, iM, qa, zZ, ↓qp, ↓reduceIte, reduceCtorEq, nA, nM, nS, nE, nL, nD]; try simp only [qa, zY]
    · have e : V0 p c n = 2 := by unfold V0; rw [if_pos fun h => hn h.2]
      simp (maxSteps := 3000000) only [qf, zH, Zf, k9, y0, bp, bm, Wt, uk, wq, u6, hC, hn, hP, hc, e, and_self, iE, iN, iB, iC, iL, iD, iA, iS, iM, qa, zZ, ↓qp, ↓reduceIte, reduceCtorEq, nA, nM, nS, nE, nL, nD]; try simp only [qa, zY]
  · have hC : qan p c = 2 := if_neg hf
    have e : V0 p c n = 2 := by unfold V0; rw [if_pos fun h => hf h.1]
    simp (maxSteps := 3000000) only [qf, zH, Zf, k9, y0, bp, bm, Wt, uk, wq, u6, hC, e, iE, iN, iB, iC, iL, iD, iA, iS, iM, qa, zZ, ↓qp, ↓reduceIte, reduceCtorEq, nA, nM, nS, nE, nL, nD]; try simp only [qa, zY]
noncomputable def Xt : List AV → Option AV
  | [.int .i64 p, .int .i64 c, .int .i64 n] => some (.int .i64 (V0 p c n))
  | _ => none
theorem q2s : Am.Callee Try.prog 77 (qk Xt) := Am.Callee.plain fun xs v he => by
  unfold Xt at he
  split at he
  · rename_i p c n
    cases he
    exact ⟨rfl, rfl, qlz p c n⟩
  · cases he
end Go.Proofs.Ytfhckbbgmblhbaa
namespace Go.Proofs.Ytfhckbbgmblhbaa
open Go.Am Go.Dia
open Nat renaming reduceAdd → nA, reduceMul → nM, reduceSub → nS, reduceEqDiff → nE, reduceLT → nL, reduceLeDiff → nD, reduceBEq → nB
open Int renaming reduceEq → iE, reduceNe → iN, reduceBEq → iB, reduceBNe → iC, reduceLT → iL, reduceLE → iD, reduceAdd → iA, reduceSub → iS, reduceMul → iM
set_option linter.unusedSimpArgs false
set_option linter.unusedVariables false
set_option maxRecDepth 4000
set_option maxHeartbeats 1000000
def dOf (s : List UInt8) : List Nat := match Y5 s with
  | some q => q.2
  | none => List.replicate 16 0
def qd (n : Nat) : List (List Nat) := (brs (2 * n) 0).map dOf
def qmv (n : Nat) : Bool := Nat.ble (brs (2 * n) 0).length 132 && (Nat.ble 1 (brs (2 * n) 0).length && (brs (2 * n) 0).all fun s => isI n (dOf s) && (vb n (dOf s) == s) && ((dOf s).length == 16) && (dOf s).all fun x => Nat.blt x 256)
theorem q8q : qmv 1 = true := by kernel_rfl
theorem q8d : qmv 2 = true := by kernel_rfl
theorem q7k : qmv 3 = true := by kernel_rfl
theorem q7z : qmv 4 = true := by kernel_rfl
theorem q7g : qmv 5 = true := by kernel_rfl
theorem q8a : qmv 6 = true := by kernel_rfl
theorem qub {n : Nat} (h : 1 ≤ n ∧ n ≤ 6) : qmv n = true := by
  rcases (show n = 1 ∨ n = 2 ∨ n = 3 ∨ n = 4 ∨ n = 5 ∨ n = 6 by omega) with rfl | rfl | rfl | rfl | rfl | rfl
  · exact q8q
  · exact q8d
  · exact q7k
  · exact q7z
  · exact q7g
  · exact q8a
theorem V6 {n : Nat} (h : 1 ≤ n ∧ n ≤ 6) : 1 ≤ (qd n).length ∧ (qd n).length ≤ 132 := by
  have h0 := qub h
  simp only [qmv, Bool.and_eq_true] at h0
  rw [qd, List.length_map]
  exact ⟨Nat.le_of_ble_eq_true h0.2.1, Nat.le_of_ble_eq_true h0.1⟩
theorem qq0 {n : Nat} (h : 1 ≤ n ∧ n ≤ 6) {s : List UInt8} (hs : s ∈ brs (2 * n) 0) : isS n (dOf s) = true ∧ vb n (dOf s) = s ∧ okD (dOf s) ∧ Y5 s = some (n, dOf s) := by
  have h0 := qub h
  simp only [qmv, Bool.and_eq_true, List.all_eq_true] at h0
  have h1 := h0.2.2 s hs
  simp only [Bool.and_eq_true, beq_iff_eq] at h1
  obtain ⟨⟨⟨h1, h2⟩, h3⟩, h4⟩ := h1
  refine ⟨by rw [V2 n _ h3]; exact h1, h2, ⟨h3, fun x hx => ?_⟩, ?_⟩
  · have := h4 x hx
    simp only [Nat.blt] at this
    exact Nat.le_of_ble_eq_true this
  · simp only [isI, Bool.and_eq_true, beq_iff_eq] at h1
    have h5 := h1.2.2
    rwa [h2] at h5
theorem X1 {n : Nat} (h : 1 ≤ n ∧ n ≤ 6) {m : List Nat} (hm : m ∈ qd n) : isS n m = true ∧ okD m := by
  obtain ⟨s, hs, rfl⟩ := List.mem_map.1 hm
  have := qq0 h hs
  exact ⟨this.1, this.2.2.1⟩
theorem qcg {n : Nat} {m : List Nat} (hs : isS n m = true) (hm : m.length = 16) : m ∈ qd n := by
  refine List.mem_map.2 ⟨_, qna hs hm, ?_⟩
  rw [V2 n m hm] at hs
  simp only [isI, Bool.and_eq_true, beq_iff_eq] at hs
  unfold dOf
  rw [hs.2.2]
theorem qr1 : ∀ (r o : Nat), (brs r o).Pairwise fun a b => Op.bytesLess a b = true
  | 0, o => by simp only [brs]; split <;> simp
  | r + 1, o => by
    have hc : ∀ (x : UInt8) (a b : List UInt8), Op.bytesLess a b = true → Op.bytesLess (x :: a) (x :: b) = true := fun x a b h => by simp [Op.bytesLess, h]
    have hd : ∀ (a b : List UInt8), Op.bytesLess (40 :: a) (41 :: b) = true := fun a b => by simp [Op.bytesLess]
    simp only [brs]
    refine List.pairwise_append.2 ⟨List.pairwise_map.2 ((qr1 r (o + 1)).imp fun {a b} h => hc _ _ _ h), ?_, ?_⟩
    · split
      · exact List.pairwise_map.2 ((qr1 r (o - 1)).imp fun {a b} h => hc _ _ _ h)
      · exact .nil
    · intro a ha b hb
      obtain ⟨a, _, rfl⟩ := List.mem_map.1 ha
      split at hb
      · obtain ⟨b, _, rfl⟩ := List.mem_map.1 hb
        exact hd a b
      · cases hb
theorem qtg {n : Nat} (h : 1 ≤ n ∧ n ≤ 6) : (qd n).Pairwise fun a b => Op.bytesLess (vb n a) (vb n b) = true := by
  refine List.pairwise_map.2 (List.Pairwise.imp_of_mem ?_ (qr1 (2 * n) 0))
  intro a b ha hb hlt
  rwa [(qq0 h ha).2.1, (qq0 h hb).2.1]
theorem Qn {n : Nat} (h : 1 ≤ n ∧ n ≤ 6) : (qd n).Nodup := (qtg h).imp fun {a b} hlt e => by
  subst e; rw [ug] at hlt; cases hlt
theorem qsa {n : Nat} (h : 1 ≤ n ∧ n ≤ 6) {m : List Nat} (hm : m ∈ qd n) {j : Nat} (hj : j < (qd n).length) :
    Op.bytesLess (vb n (qd n)[j]) (vb n m) = decide (j < (qd n).idxOf m) := by
  have hi : (qd n).idxOf m < (qd n).length := List.idxOf_lt_length_of_mem hm
  have hg : (qd n)[(qd n).idxOf m] = m := List.getElem_idxOf hi
  have hu := List.pairwise_iff_getElem.1 (qtg h)
  rcases Nat.lt_trichotomy j ((qd n).idxOf m) with hlt | he | hgt
  · rw [decide_eq_true hlt]
    have := hu j _ hj hi hlt
    rwa [hg] at this
  · rw [decide_eq_false (by omega)]
    have e : (qd n)[j] = m := by
      have : (qd n)[j] = (qd n)[(qd n).idxOf m] := by congr 1
      rw [this, hg]
    rw [e, ug]
  · rw [decide_eq_false (by omega)]
    have := hu _ j hi hj hgt
    rw [hg] at this
    exact Gy _ _ this
theorem Gq {L : List (List Nat)} {f : List Nat → Int} {d : List Nat} (hd : d ∈ L) (hn : L.Nodup) (v : Int) : (L.map f).set (L.idxOf d) v = L.map fun m => if m = d then v else f m := by
  induction L with
  | nil => cases hd
  | cons x l ih =>
    have hn' := List.nodup_cons.1 hn
    rw [List.idxOf_cons]
    by_cases e : x = d
    · subst e
      simp only [beq_self_eq_true, cond_true, List.map_cons, List.set_cons_zero, if_true]
      congr 1
      refine List.map_congr_left fun m hm => ?_
      rw [if_neg (by rintro rfl; exact hn'.1 hm)]
    · have hne : (x == d) = false := beq_false_of_ne e
      have hd' : d ∈ l := by
        rcases List.mem_cons.1 hd with h | h
        · exact absurd h.symm e
        · exact h
      simp only [hne, cond_false, List.map_cons, List.set_cons_succ, ih hd' hn'.2, if_neg e]
theorem qel {L : List (List Nat)} {f : List Nat → Int} {d : List Nat} (hd : d ∈ L) : (L.map f).getD (L.idxOf d) 0 = f d := by
  have hi := List.idxOf_lt_length_of_mem hd
  rw [List.getD_eq_getElem?_getD, List.getElem?_map, List.getElem?_eq_getElem hi, List.getElem_idxOf hi]; rfl
theorem Qo {L : List (List Nat)} {f : List Nat → Int} {i : Nat} (h : i < L.length) : (L.map f).getD i 0 = f L[i] := by
  rw [List.getD_eq_getElem?_getD, List.getElem?_map, List.getElem?_eq_getElem h]; rfl
theorem ql5 {L : List (List Nat)} (hn : L.Nodup) {i : Nat} (h : i < L.length) : L.idxOf L[i] = i := by
  have hm : L[i] ∈ L := List.getElem_mem h
  have h1 := List.idxOf_lt_length_of_mem hm
  have h2 : L[L.idxOf L[i]] = L[i] := List.getElem_idxOf h1
  exact (List.getElem_inj hn).1 h2
def atR (L : List (List Nat)) (v : List Int) (m : List Nat) : Int := v.getD (L.idxOf m) 0
theorem qtr {L : List (List Nat)} (hn : L.Nodup) {v : List Int} (hl : v.length = L.length) : v = L.map (atR L v) := by
  refine List.ext_getElem (by simp [hl]) fun i h1 h2 => ?_
  rw [List.getElem_map]
  unfold atR
  rw [ql5 hn (by omega), List.getD_eq_getElem?_getD, List.getElem?_eq_getElem h1]; rfl
theorem qtw {L : List (List Nat)} {f : List Nat → Int} {d : List Nat} (hd : d ∈ L) : atR L (L.map f) d = f d := qel hd
def Zr (f : List Nat → Int) : List (List Nat) → Int
  | [] => 0
  | d :: l => f d + Zr f l
def Z9 (f : List Nat → Int) : List (Int × List Nat × Int) → Int
  | [] => 0
  | t :: l => f t.2.1 * t.2.2 + Z9 f l
theorem qo3 {f : List Nat → Int} : ∀ {a b : List (List Nat)}, Zr f (a ++ b) = Zr f a + Zr f b
  | [], b => by simp [Zr]
  | d :: a, b => by simp only [List.cons_append, Zr, qo3 (a := a)]; omega
theorem Y2 {f : List Nat → Int} {L : List (List Nat)} {i : Nat} (h : i < L.length) : Zr f (L.take (i + 1)) = Zr f (L.take i) + f L[i] := by
  rw [List.take_succ_eq_append_getElem h, qo3]; simp [Zr]
theorem Xk {f g : List Nat → Int} : ∀ {L : List (List Nat)}, (∀ d ∈ L, f d = g d) → Zr f L = Zr g L
  | [], _ => rfl
  | d :: l, h => by
    simp only [Zr, h d (List.mem_cons_self ..), Xk (L := l) fun e he => h e (List.mem_cons_of_mem _ he)]
theorem qjy {f g : List Nat → Int} : ∀ {L : List (List Nat)}, Zr (fun d => f d + g d) L = Zr f L + Zr g L
  | [] => rfl
  | d :: l => by simp only [Zr, qjy (L := l)]; omega
theorem qac {f : List Nat → Int} {L : List (List Nat)} (h : ∀ d ∈ L, f d = 0) : Zr f L = 0 := by
  induction L with
  | nil => rfl
  | cons d l ih =>
    simp only [Zr, h d (List.mem_cons_self ..), ih fun e he => h e (List.mem_cons_of_mem _ he)]; rfl
theorem qoq {g : List Nat → Int} {e : List Nat} {x : Int} : ∀ {L : List (List Nat)}, L.Nodup → e ∈ L → Zr (fun d => g d * (if e = d then x else 0)) L = g e * x
  | d :: l, hn, he => by
    have hn' := List.nodup_cons.1 hn
    simp only [Zr]
    by_cases h : e = d
    · subst h
      rw [if_pos rfl, qac fun d hd => by rw [if_neg (by rintro rfl; exact hn'.1 hd), Int.mul_zero]]
      omega
    · have he' : e ∈ l := by
        rcases List.mem_cons.1 he with h' | h'
        · exact absurd h' h
        · exact h'
      rw [if_neg h, Int.mul_zero, qoq hn'.2 he']; omega
theorem qb3 {g : List Nat → Int} {L : List (List Nat)} (hn : L.Nodup) : ∀ {a : List (Int × List Nat × Int)}, (∀ t ∈ a, t.2.1 ∈ L) → Zr (fun d => g d * cf d a) L = Z9 g a
  | [], _ => by
    simp only [cf, Z9]
    exact qac fun d _ => Int.mul_zero _
  | t :: a, h => by
    have ih := qb3 (g := g) hn (a := a) fun u hu => h u (List.mem_cons_of_mem _ hu)
    have h1 := qoq (g := g) (x := t.2.2) hn (h t (List.mem_cons_self ..))
    simp only [cf, Z9]
    rw [← ih, ← h1, ← qjy]
    exact Xk fun d _ => by rw [Int.mul_add]
theorem qoe {f : List Nat → Int} {x : Int} : ∀ {a : List (Int × List Nat × Int)}, Z9 (fun d => f d * x) a = Z9 f a * x
  | [] => by simp [Z9]
  | t :: l => by
    simp only [Z9, qoe (a := l), Int.add_mul]
    rw [Int.mul_right_comm]
theorem qf4 {p n : Int} {N : Nat} (hN : 1 ≤ N ∧ N ≤ 6) (hn : n = N) {a : List (Int × List Nat × Int)} (h : z8 p n a) : ∀ t ∈ a, t.2.1 ∈ qd N := fun t ht => by
  have h1 := h.dia t ht
  subst hn
  rw [Int.toNat_natCast] at h1
  exact qcg h1.2 (h.ok t ht).1
theorem qmd {p x y : Int} (hx : 0 ≤ x ∧ x ≤ p - 1) (hy : 0 ≤ y ∧ y ≤ p - 1) (h : p ∣ x - y) : x = y := by
  obtain ⟨q, hq⟩ := h
  have : q = 0 := by
    rcases Int.lt_trichotomy q 0 with hl | hl | hl
    · exfalso
      have : p * q ≤ p * (-1) := Int.mul_le_mul_of_nonneg_left (by omega) (by omega)
      omega
    · exact hl
    · exfalso
      have : p * 1 ≤ p * q := Int.mul_le_mul_of_nonneg_left (by omega) (by omega)
      omega
  subst this
  omega
theorem Kz {p : Int} (hp : 0 < p) (x : Int) : 0 ≤ x.emod p ∧ x.emod p ≤ p - 1 := ⟨Int.emod_nonneg _ (by omega), Int.le_sub_one_of_lt (Int.emod_lt_of_pos _ hp)⟩
def vt (N : Nat) (a : List (Int × List Nat × Int)) : List Int := (qd N).map fun m => cf m a
theorem Vv {N : Nat} {a : List (Int × List Nat × Int)} : (vt N a).length = (qd N).length := by simp [vt]
theorem qga {p n : Int} (hp : 0 < p) {N : Nat} {a : List (Int × List Nat × Int)} (h : z8 p n a) : ∀ x ∈ vt N a, 0 ≤ x ∧ x ≤ p - 1 := fun x hx => by
  obtain ⟨m, _, rfl⟩ := List.mem_map.1 hx
  exact (kz h hp m).1
noncomputable def wM (p c : Int) (N : Nat) (m d e : List Nat) : Int := if xr N d e = m then xa p c (lpN N d e N) else 0
theorem qpj {p c : Int} {N : Nat} {m : List Nat} {t : Int × List Nat × Int} : ∀ {b : List (Int × List Nat × Int)}, p ∣ Ja id (fun _ => 1) m (b.map (prT p c (N : Int) t)) - Z9 (wM p c N m t.2.1) b * t.2.2
  | [] => by simp [Ja, Z9]
  | u :: b => by
    have ih := qpj (p := p) (c := c) (N := N) (m := m) (t := t) (b := b)
    have hd : p ∣ (if xr N t.2.1 u.2.1 = m then ((t.2.2 * u.2.2).emod p * xa p c (lpN N t.2.1 u.2.1 N)) * 1 else 0) - wM p c N m t.2.1 u.2.1 * u.2.2 * t.2.2 := by
      unfold wM
      split
      · obtain ⟨q, hq⟩ := gw p (t.2.2 * u.2.2)
        refine ⟨q * xa p c (lpN N t.2.1 u.2.1 N), ?_⟩
        rw [← Int.mul_assoc, ← hq, Int.sub_mul, Int.mul_one, Int.mul_assoc (xa p c _), Int.mul_comm (xa p c _), Int.mul_comm u.2.2]
      · simp
    have e : Ja id (fun _ => 1) m ((u :: b).map (prT p c (N : Int) t)) = (if xr N t.2.1 u.2.1 = m then ((t.2.2 * u.2.2).emod p * xa p c (lpN N t.2.1 u.2.1 N)) * 1 else 0) + Ja id (fun _ => 1) m (b.map (prT p c (N : Int) t)) := by
      simp only [List.map_cons, Ja, prT, id, Int.toNat_natCast]
    rw [e]
    simp only [Z9, Int.add_mul]
    exact u5 hd ih (by omega)
theorem qqn {φ : List Nat → List Nat} {κ : List Nat → Int} {m : List Nat} : ∀ {a b : List (Int × List Nat × Int)}, Ja φ κ m (a ++ b) = Ja φ κ m a + Ja φ κ m b
  | [], b => by simp [Ja]
  | t :: a, b => by simp only [List.cons_append, Ja, qqn (a := a)]; omega
theorem qp6 {p c : Int} {N : Nat} {m : List Nat} {b : List (Int × List Nat × Int)} : ∀ {a : List (Int × List Nat × Int)}, p ∣ Ja id (fun _ => 1) m (vc p c (N : Int) a b) - Z9 (fun d => Z9 (wM p c N m d) b) a
  | [] => by simp [Ja, Z9, vc]
  | t :: a => by
    have ih := qp6 (p := p) (c := c) (N := N) (m := m) (b := b) (a := a)
    have h1 := qpj (p := p) (c := c) (N := N) (m := m) (t := t) (b := b)
    have e : vc p c (N : Int) (t :: a) b = b.map (prT p c (N : Int) t) ++ vc p c (N : Int) a b := rfl
    rw [e, qqn]
    simp only [Z9]
    exact u5 h1 ih (by omega)
noncomputable def qce (p c : Int) (N : Nat) (f g : List Nat → Int) (m : List Nat) (d : List Nat) (L : List (List Nat)) : Int := Zr (fun e => wM p c N m d e * (f d * g e)) L
noncomputable def allM (p c : Int) (N : Nat) (f g : List Nat → Int) (m : List Nat) (L : List (List Nat)) : Int := Zr (fun d => qce p c N f g m d (qd N)) L
theorem q2g {p c : Int} {N : Nat} (hN : 1 ≤ N ∧ N ≤ 6) {m : List Nat} {a b : List (Int × List Nat × Int)} (ha : ∀ t ∈ a, t.2.1 ∈ qd N) (hb : ∀ t ∈ b, t.2.1 ∈ qd N) :
    allM p c N (fun d => cf d a) (fun d => cf d b) m (qd N) = Z9 (fun d => Z9 (wM p c N m d) b) a := by
  have hn := Qn hN
  rw [← qb3 hn ha]
  refine Xk fun d _ => ?_
  rw [← qoe, ← qb3 hn hb]
  refine Xk fun e _ => ?_
  rw [Int.mul_assoc]
noncomputable def qda (p c : Int) (N : Nat) (v w : List Int) : List Int := (qd N).map fun m => (allM p c N (atR (qd N) v) (atR (qd N) w) m (qd N)).emod p
theorem allM_congr {p c : Int} {N : Nat} {f g f' g' : List Nat → Int} {m : List Nat} (hf : ∀ d ∈ qd N, f d = f' d) (hg : ∀ d ∈ qd N, g d = g' d) : allM p c N f g m (qd N) = allM p c N f' g' m (qd N) :=
  Xk fun d hd => Xk fun e he => by rw [hf d hd, hg e he]
theorem qks {p c : Int} {N : Nat} (hp : 2 ≤ p ∧ p ≤ 97) (hc : 0 ≤ c ∧ c ≤ p - 1) (hN : 1 ≤ N ∧ N ≤ 6) {a b : List (Int × List Nat × Int)} (ha : z8 p (N : Int) a) (hb : z8 p (N : Int) b) :
    qda p c N (vt N a) (vt N b) = vt N (MP p (N : Int) (vc p c (N : Int) a b)) := by
  unfold qda
  refine List.map_congr_left fun m hm => ?_
  have hla : a.length ≤ 132 := X8 ha (by omega)
  have hlb : b.length ≤ 132 := X8 hb (by omega)
  have hg := (U9 (c := c) hp hc ha hb ⟨by omega, by omega⟩).1
  rw [allM_congr (f' := fun d => cf d a) (g' := fun d => cf d b) (fun d hd => qtw hd) (fun d hd => qtw hd), q2g hN (qf4 hN rfl ha) (qf4 hN rfl hb)]
  have h1 := qp6 (p := p) (c := c) (N := N) (m := m) (b := b) (a := a)
  have h2 := qh3 (p := p) (n := (N : Int)) (φ := id) (κ := fun _ => 1) (m := m) (acc := []) (a := vc p c (N : Int) a b) (by simp)
  have h3 := gw p (Z9 (fun d => Z9 (wM p c N m d) b) a)
  refine qmd (Kz (by omega) _) (kz hg (by omega) m).1 ?_
  have h4 := Yg h3 h2 (z := (Z9 (fun d => Z9 (wM p c N m d) b) a).emod p - Z9 (fun d => Z9 (wM p c N m d) b) a - (cf m (chP p (N : Int) id (fun _ => 1) [] (vc p c (N : Int) a b)) - (cf m [] + Ja id (fun _ => 1) m (vc p c (N : Int) a b)))) rfl
  refine Yg h4 h1 ?_
  simp only [MP, cf]
  omega
noncomputable def X0 (p c : Int) (N : Nat) (v w : List Int) (i k : Nat) : List Int :=
  (qd N).map fun m => (allM p c N (atR (qd N) v) (atR (qd N) w) m ((qd N).take i) + qce p c N (atR (qd N) v) (atR (qd N) w) m ((qd N).getD i []) ((qd N).take k)).emod p
theorem q02 {p c : Int} {N : Nat} {v w : List Int} {i k : Nat} : (X0 p c N v w i k).length = (qd N).length := by simp [X0]
theorem qrj {p c : Int} {N : Nat} {v w : List Int} (hp : 0 < p) : X0 p c N v w 0 0 = List.replicate (qd N).length 0 := by
  unfold X0 allM qce
  refine List.ext_getElem (by simp) fun i h1 h2 => ?_
  simp only [List.getElem_map, List.take_zero, Zr, List.getElem_replicate]
  exact Int.zero_emod _
theorem q0b {p c : Int} {N : Nat} {v w : List Int} : X0 p c N v w (qd N).length 0 = qda p c N v w := by
  unfold X0 qda
  refine List.map_congr_left fun m hm => ?_
  rw [List.take_length]
  unfold qce
  simp only [List.take_zero, Zr, Int.add_zero]
theorem qhy {L : List (List Nat)} {i : Nat} (h : i < L.length) : L.getD i [] = L[i] := by
  rw [List.getD_eq_getElem?_getD, List.getElem?_eq_getElem h]; rfl
theorem qnd {p c : Int} {N : Nat} {v w : List Int} {i : Nat} (h : i < (qd N).length) : X0 p c N v w i (qd N).length = X0 p c N v w (i + 1) 0 := by
  unfold X0
  refine List.map_congr_left fun m hm => ?_
  unfold allM
  rw [Y2 h, List.take_length, qhy h]
  simp only [qce, List.take_zero, Zr, Int.add_zero]
theorem q1t {p c : Int} {N : Nat} {v w : List Int} {i k : Nat} (h : i < (qd N).length) (hz : atR (qd N) v (qd N)[i] = 0) : X0 p c N v w i k = X0 p c N v w (i + 1) 0 := by
  rw [← qnd h]
  unfold X0
  refine List.map_congr_left fun m hm => ?_
  have h1 : ∀ L, qce p c N (atR (qd N) v) (atR (qd N) w) m (qd N)[i] L = 0 := fun L => qac fun e _ => by rw [hz, Int.zero_mul, Int.mul_zero]
  rw [qhy h, h1, h1]
theorem qvr {p c : Int} {N : Nat} {v w : List Int} {i k : Nat} (h : k < (qd N).length) (hz : atR (qd N) w (qd N)[k] = 0) : X0 p c N v w i k = X0 p c N v w i (k + 1) := by
  unfold X0
  refine List.map_congr_left fun m hm => ?_
  unfold qce
  rw [Y2 h, hz, Int.mul_zero, Int.mul_zero, Int.add_zero]
theorem qkp {p a x y : Int} (h : p ∣ x - y) : (a.emod p + x).emod p = (a + y).emod p := by
  obtain ⟨q, hq⟩ := gw p a
  obtain ⟨r, hr⟩ := h
  have : a.emod p + x = (a + y) + p * (q + r) := by rw [Int.mul_add]; omega
  rw [this]
  exact Int.add_mul_emod_self_left _ _ _
theorem qxc {p c : Int} {N : Nat} (hN : 1 ≤ N ∧ N ≤ 6) {v w : List Int} {i k : Nat} (hi : i < (qd N).length) (hk : k < (qd N).length) (hin : xr N (qd N)[i] (qd N)[k] ∈ qd N) {x : Int}
    (hx : p ∣ x - xa p c (lpN N (qd N)[i] (qd N)[k] N) * (atR (qd N) v (qd N)[i] * atR (qd N) w (qd N)[k])) :
    (X0 p c N v w i k).set ((qd N).idxOf (xr N (qd N)[i] (qd N)[k])) (((X0 p c N v w i k).getD ((qd N).idxOf (xr N (qd N)[i] (qd N)[k])) 0 + x).emod p) = X0 p c N v w i (k + 1) := by
  have hn := Qn hN
  unfold X0
  rw [qel hin, Gq hin hn]
  refine List.map_congr_left fun m hm => ?_
  rw [qhy hi]
  have e : qce p c N (atR (qd N) v) (atR (qd N) w) m (qd N)[i] ((qd N).take (k + 1)) = qce p c N (atR (qd N) v) (atR (qd N) w) m (qd N)[i] ((qd N).take k) + wM p c N m (qd N)[i] (qd N)[k] * (atR (qd N) v (qd N)[i] * atR (qd N) w (qd N)[k]) := Y2 hk
  rw [e]
  split
  · rename_i hm'
    subst hm'
    rw [← Int.add_assoc]
    refine qkp ?_
    unfold wM
    rw [if_pos rfl]
    exact hx
  · rename_i hm'
    have : wM p c N m (qd N)[i] (qd N)[k] = 0 := by
      unfold wM
      rw [if_neg fun h => hm' h.symm]
    rw [this, Int.zero_mul, Int.add_zero]
theorem qpb {p c y : Int} {j : Nat} : ((y * xa p c j).emod p * c).emod p = (y * xa p c (j + 1)).emod p := by
  have e : xa p c (j + 1) = (xa p c j * c).emod p := rfl
  rw [e]
  obtain ⟨q, hq⟩ := gw p (y * xa p c j)
  obtain ⟨r, hr⟩ := gw p (xa p c j * c)
  have h1 : (y * xa p c j).emod p = y * xa p c j + p * q := by omega
  have h2 : (xa p c j * c).emod p = xa p c j * c + p * r := by omega
  have h3 : (y * xa p c j).emod p * c = y * (xa p c j * c) + p * (q * c) := by rw [h1, Int.add_mul, Int.mul_assoc, Int.mul_assoc]
  have h4 : y * (xa p c j * c).emod p = y * (xa p c j * c) + p * (y * r) := by rw [h2, Int.mul_add, Int.mul_left_comm y p r]
  rw [h3, h4]
  have h5 : ∀ z : Int, (y * (xa p c j * c) + p * z).emod p = (y * (xa p c j * c)).emod p := fun z => Int.add_mul_emod_self_left _ _ _
  rw [h5, h5]
theorem q1s {p c : Int} {N : Nat} {v w : List Int} {i k : Nat} (hp : 0 < p) (j : Nat) : 0 ≤ (X0 p c N v w i k).getD j 0 ∧ (X0 p c N v w i k).getD j 0 ≤ p - 1 := by
  unfold X0
  rw [List.getD_eq_getElem?_getD, List.getElem?_map]
  cases (qd N)[j]? with
  | none => simp; omega
  | some m => exact Kz hp _
def uK (N : Nat) (m : List Nat) : Nat → List Nat
  | 0 => List.replicate 16 0
  | i + 1 => ((uK N m i).set (wd N i) (wd N (m.getD i 0))).set (wd N (m.getD i 0)) (wd N i)
def u2 (N : Nat) (m : List Nat) : Nat → List Nat
  | 0 => uK N m (2 * N)
  | i + 1 => ((u2 N m i).set (rt N i) (rt N (1 - i))).set (rt N (1 - i)) (rt N i)
def ndB : List (List Nat) → Bool
  | [] => true
  | x :: l => (l.all fun y => !(x == y)) && ndB l
theorem q1j : ∀ {l : List (List Nat)}, ndB l = true → l.Nodup
  | [], _ => .nil
  | x :: l, h => by
    simp only [ndB, Bool.and_eq_true, List.all_eq_true] at h
    refine List.nodup_cons.2 ⟨fun hx => ?_, q1j h.2⟩
    have := h.1 x hx
    simp at this
def qkf (N : Nat) : Bool := ((qd N).all fun m => u2 N m 2 == xg N m) && ndB ((qd N).map (xg N))
theorem q5j : qkf 1 = true := by kernel_rfl
theorem q5p : qkf 2 = true := by kernel_rfl
theorem q6t : qkf 3 = true := by kernel_rfl
theorem q5d : qkf 4 = true := by kernel_rfl
theorem qqy {N : Nat} (h : 1 ≤ N ∧ N ≤ 4) : (∀ m ∈ qd N, u2 N m 2 = xg N m) ∧ ((qd N).map (xg N)).Nodup := by
  have h0 : qkf N = true := by
    rcases (show N = 1 ∨ N = 2 ∨ N = 3 ∨ N = 4 by omega) with rfl | rfl | rfl | rfl
    · exact q5j
    · exact q5p
    · exact q6t
    · exact q5d
  simp only [qkf, Bool.and_eq_true, List.all_eq_true] at h0
  exact ⟨fun m hm => eq_of_beq (h0.1 m hm), q1j h0.2⟩
def eR (N : Nat) (a : List (Int × List Nat × Int)) (i : Nat) : List Int := (qd (N + 1)).map fun m => Zr (fun d => (if xg N d = m then 1 else 0) * cf d a) ((qd N).take i)
theorem q42 {N i : Nat} {a : List (Int × List Nat × Int)} : (eR N a i).length = (qd (N + 1)).length := by simp [eR]
theorem qnz {N : Nat} {a : List (Int × List Nat × Int)} : eR N a 0 = List.replicate (qd (N + 1)).length 0 := by
  unfold eR
  refine List.ext_getElem (by simp) fun i h1 h2 => ?_
  simp only [List.getElem_map, List.take_zero, Zr, List.getElem_replicate]
theorem qsd {N i : Nat} (hN : 1 ≤ N ∧ N ≤ 4) (hi : i < (qd N).length) : ∀ d ∈ (qd N).take i, xg N d ≠ xg N (qd N)[i] := fun d hd e => by
  obtain ⟨j, hj, rfl⟩ := List.getElem_of_mem hd
  rw [List.length_take] at hj
  rw [List.getElem_take] at e
  have hn := (qqy hN).2
  have h1 : ((qd N).map (xg N))[j]'(by rw [List.length_map]; omega) = ((qd N).map (xg N))[i]'(by rw [List.length_map]; omega) := by
    rw [List.getElem_map, List.getElem_map, e]
  have := (List.getElem_inj hn).1 h1
  omega
theorem qt3 {N : Nat} (hN : 1 ≤ N ∧ N ≤ 4) {m : List Nat} (hm : m ∈ qd N) : xg N m ∈ qd (N + 1) := by
  have h1 := X1 (n := N) (by omega) hm
  have h2 := qh5 (n := N) (by omega) h1.1
  exact qcg h2.1 h2.2.1
theorem qzy {N i : Nat} (hN : 1 ≤ N ∧ N ≤ 4) {a : List (Int × List Nat × Int)} (hi : i < (qd N).length) : (eR N a i).set ((qd (N + 1)).idxOf (xg N (qd N)[i])) (cf (qd N)[i] a) = eR N a (i + 1) := by
  unfold eR
  rw [Gq (qt3 hN (List.getElem_mem hi)) (Qn (by omega))]
  refine List.map_congr_left fun m hm => ?_
  rw [Y2 hi]
  split
  · rename_i e
    subst e
    rw [if_pos rfl, qac fun d hd => by rw [if_neg (qsd hN hi d hd), Int.zero_mul]]
    omega
  · rename_i e
    rw [if_neg fun h => e h.symm]
    omega
theorem q4k {p n : Int} {N : Nat} (hN : 1 ≤ N ∧ N ≤ 4) (hp : 0 < p) {a : List (Int × List Nat × Int)} (h : z8 p n a) : ∀ i, i ≤ (qd N).length → ∀ x ∈ eR N a i, 0 ≤ x ∧ x ≤ p - 1
  | 0, _, x, hx => by
    rw [qnz] at hx
    rw [List.eq_of_mem_replicate hx]; omega
  | i + 1, hi, x, hx => by
    rw [← qzy hN (by omega)] at hx
    rcases List.mem_or_eq_of_mem_set hx with hx | rfl
    · exact q4k hN hp h i (by omega) x hx
    · exact (kz h hp _).1
theorem qj5 {φ : List Nat → List Nat} {m : List Nat} : ∀ {a : List (Int × List Nat × Int)}, Z9 (fun d => if φ d = m then 1 else 0) a = Ja φ (fun _ => 1) m a
  | [] => rfl
  | t :: l => by
    simp only [Z9, Ja, qj5 (a := l)]
    split <;> omega
theorem q6v {p : Int} {N : Nat} (hN : 1 ≤ N ∧ N ≤ 4) (hp : 2 ≤ p ∧ p ≤ 97) {a : List (Int × List Nat × Int)} (h : z8 p (N : Int) a) : eR N a (qd N).length = vt (N + 1) (Xb p (N : Int) a) := by
  have hg := (U7 hp (by omega) h).1
  have hb := q4k hN (by omega) h (qd N).length (Nat.le_refl _)
  unfold eR vt at *
  refine List.map_congr_left fun m hm => ?_
  have hx := hb _ (List.mem_map.2 ⟨m, hm, rfl⟩)
  refine qmd hx (kz hg (by omega) m).1 ?_
  rw [List.take_length, qb3 (Qn (by omega)) (qf4 (by omega) rfl h), qj5]
  have h2 := qh3 (p := p) (n := (N : Int) + 1) (φ := xg N) (κ := fun _ => 1) (m := m) (acc := []) (a := a) (by simp)
  have e : Xb p (N : Int) a = chP p ((N : Int) + 1) (xg N) (fun _ => 1) [] a := by unfold Xb; rw [Int.toNat_natCast]
  rw [e]
  exact Yg (Int.dvd_zero p) h2 (by simp only [cf]; omega)
theorem q15 {N : Nat} : List.replicate (qd N).length (0 : Int) = (qd N).map fun _ => 0 := by
  refine List.ext_getElem (by simp) fun i h1 h2 => ?_
  simp
theorem row_one {N : Nat} (hN : 1 ≤ N ∧ N ≤ 6) {m : List Nat} (hm : m ∈ qd N) : (List.replicate (qd N).length (0 : Int)).set ((qd N).idxOf m) 1 = vt N [((N : Int), m, 1)] := by
  rw [q15, Gq hm (Qn hN)]
  refine List.map_congr_left fun d hd => ?_
  simp only [cf]
  by_cases e : d = m
  · rw [if_pos e, if_pos e.symm]; rfl
  · rw [if_neg e, if_neg fun h => e h.symm]; rfl
theorem qxe {p c : Int} (hp : 2 ≤ p ∧ p ≤ 97) {N : Nat} {X : Int} {a b : List (Int × List Nat × Int)} (ha : z8 p (N : Int) a) (hb : z8 p (N : Int) b) {i : Nat} (hi : i < (qd N).length) :
    (vt N (qbd p (N : Int) (-X) a b)).getD i 0 = ((vt N a).getD i 0 - X * (vt N b).getD i 0).emod p := by
  unfold vt
  rw [Qo hi, Qo hi, Qo hi]
  have hg := (qdp (k := -X) (by omega) ha hb).1
  have h1 := qk7 (p := p) (n := (N : Int)) (k := -X) (m := (qd N)[i]) (acc := a) (b := b) (fun t ht => (ha.dia t ht).1)
  refine qmd (kz hg (by omega) _).1 (Kz (by omega) _) ?_
  have h2 := gw p (cf (qd N)[i] a - X * cf (qd N)[i] b)
  refine Yg h1 h2 ?_
  rw [Int.neg_mul]
  omega
def qdw (v w : List Int) (i : Nat) : List Int := v.take i ++ w.drop i
theorem qz4 {v w : List Int} {i : Nat} (h : v.length = w.length) : (qdw v w i).length = w.length := by
  unfold qdw; rw [List.length_append, List.length_take, List.length_drop]; omega
theorem q0v {v w : List Int} {i : Nat} (h : v.length = w.length) (hi : i < w.length) : (qdw v w i).getD i 0 = w.getD i 0 := by
  unfold qdw
  rw [List.getD_eq_getElem?_getD, List.getD_eq_getElem?_getD, List.getElem?_append_right (by rw [List.length_take]; omega), List.length_take, List.getElem?_drop]
  congr 2; omega
theorem qyd {v w : List Int} {i : Nat} (h : v.length = w.length) (hi : i < w.length) : (qdw v w i).set i (v.getD i 0) = qdw v w (i + 1) := by
  have hv : i < v.length := by omega
  unfold qdw
  rw [List.set_append_right _ _ (by rw [List.length_take]; omega), List.length_take, show i - min i v.length = 0 by omega, List.drop_eq_getElem_cons hi, List.set_cons_zero, List.take_succ_eq_append_getElem hv, List.append_assoc,
    List.getD_eq_getElem?_getD, List.getElem?_eq_getElem hv]
  rfl
theorem qzj {v w : List Int} (h : v.length = w.length) : qdw v w w.length = v := by
  unfold qdw; rw [List.drop_length, List.append_nil, ← h, List.take_length]
theorem qwn {p c : Int} {k : Nat} : jr p c (k + 1) = qbd p ((k + 2 : Nat) : Int) (-(Gt p c (k + 1))) (Xb p ((k + 1 : Nat) : Int) (jr p c k))
      (MP p ((k + 2 : Nat) : Int) (vc p c ((k + 2 : Nat) : Int) (MP p ((k + 2 : Nat) : Int) (vc p c ((k + 2 : Nat) : Int) (Xb p ((k + 1 : Nat) : Int) (jr p c k)) [(((k + 2 : Nat) : Int), X2 (k + 2) k, 1)])) (Xb p ((k + 1 : Nat) : Int) (jr p c k)))) := rfl
noncomputable def Ym (p c : Int) (n : Nat) : List Int := vt n (jr p c (n - 1))
theorem qxj {p c : Int} : Ym p c 1 = [1] := by
  have h : qd 1 = [wu 1] := by kernel_rfl
  unfold Ym vt
  rw [h]
  simp [jr, cf]
end Go.Proofs.Ytfhckbbgmblhbaa
namespace Go.Proofs.Ytfhckbbgmblhbaa
open Go.Am Go.Dia
open Nat renaming reduceAdd → nA, reduceMul → nM, reduceSub → nS, reduceEqDiff → nE, reduceLT → nL, reduceLeDiff → nD, reduceBEq → nB
open Int renaming reduceEq → iE, reduceNe → iN, reduceBEq → iB, reduceBNe → iC, reduceLT → iL, reduceLE → iD, reduceAdd → iA, reduceSub → iS, reduceMul → iM
set_option linter.unusedSimpArgs false
set_option linter.unusedVariables false
set_option maxRecDepth 4000
set_option maxHeartbeats 2000000
def qfs (n l a i : Int) : Int := if i < n then l + i else a + l + i - n
def qbp (n l a i : Int) : Prop := (0 ≤ n ∧ n ≤ 100) ∧ (0 ≤ l ∧ l ≤ 100) ∧ (0 ≤ a ∧ a ≤ 100) ∧ 0 ≤ i ∧ i ≤ 100
instance {n l a i : Int} : Decidable (qbp n l a i) := inferInstanceAs (Decidable (_ ∧ _))
def Uk : AC := .seq (.region [oI 8 0]) (.seq (.seq (.region [oM 9 3,oM 10 0,oP 11 .lss 9 10]) (.cond 11 (.seq (.region [oM 12 1,oM 13 3,oP 14 .add 12 13,oM 8 14]) .ret) .skip)) (.seq (.region [oM 15 2,oM 16 1,oP 17 .add 15 16,oM 18 3,oP 19 .add 17 18,oM 20 0,oP 21 .sub 19 20,oM 8 21]) .ret))
theorem ql6 : zh Try.prog 166 = some ⟨22, Uk, [.slot 8]⟩ := by kernel_rfl
theorem qmj (n l a i : Int) (h : qbp n l a i) : Am.Fn Try.prog 166 [.int .i64 n, .int .i64 l, .int .i64 a, .int .i64 i] [] (fun v H' => v = .int .i64 (qfs n l a i) ∧ H' = []) := by
  refine Am.Fn.xp (R := fun v => v = _) Ur mixed ql6 (by simp [AV.qt, AV.under]) (by simp) ?_
  obtain ⟨h1, h2, h3, h4⟩ := h
  have w1 : qn .i64 (l + i) = l + i := wrap64 (by omega) (by omega)
  have w2 : qn .i64 (a + l) = a + l := wrap64 (by omega) (by omega)
  have w3 : qn .i64 (a + l + i) = a + l + i := wrap64 (by omega) (by omega)
  have w4 : qn .i64 (a + l + i - n) = a + l + i - n := wrap64 (by omega) (by omega)
  by_cases hi : i < n
  · have e : qfs n l a i = l + i := if_pos hi
    simp (maxSteps := 3000000) only [qf, zH, Uk, hi, w1, w2, w3, w4, e, iE, iN, iB, iC, iL, iD, iA, iS, iM, qa, zZ, ↓qp, ↓reduceIte, reduceCtorEq, nA, nM, nS, nE, nL, nD]; try simp only [qa, zY]
  · have e : qfs n l a i = a + l + i - n := if_neg hi
    simp (maxSteps := 3000000) only [qf, zH, Uk, hi, w1, w2, w3, w4, e, iE, iN, iB, iC, iL, iD, iA, iS, iM, qa, zZ, ↓qp, ↓reduceIte, reduceCtorEq, nA, nM, nS, nE, nL, nD]; try simp only [qa, zY]
def qb2 : List AV → Option AV
  | [.int .i64 n, .int .i64 l, .int .i64 a, .int .i64 i] => chk (qbp n l a i) (some (.int .i64 (qfs n l a i)))
  | _ => none
theorem q7r : Am.Callee Try.prog 166 (qk qb2) := Am.Callee.plain fun xs v he => by
  unfold qb2 at he
  split at he
  · rename_i n l a i
    obtain ⟨h1, he⟩ := qm he
    cases he
    exact ⟨rfl, rfl, qmj n l a i h1⟩
  · cases he
noncomputable def qzi : zb := ((qvc.put 77 (qk Xt)).put 166 (qk qb2))
theorem qgd : qo Try.prog qzi := ((quh.put (q2s)).put (q7r))
theorem uv : qzi 91 = some (qk Ke) := rfl
theorem w8 : qzi 139 = some (qk j7) := rfl
theorem wg : qzi 166 = some (qk qb2) := rfl
theorem qkn : okD (List.replicate 16 0) := ⟨by simp, by intro x hx; simp at hx; omega⟩
theorem qtu {N : Nat} {m : List Nat} (hN : 1 ≤ N ∧ N ≤ 7) (hs : isS N m = true) : ∀ i, i ≤ 2 * N → okD (uK N m i)
  | 0, _ => qkn
  | i + 1, hi => by
    have hb := qgm hs (show i < 2 * N by omega)
    exact X6 (qtu hN hs i (by omega)) (by unfold wd; split <;> omega) (by unfold wd; split <;> omega)
theorem qy5 {N : Nat} {m : List Nat} (hN : 1 ≤ N ∧ N ≤ 7) (hs : isS N m = true) : ∀ i, i ≤ 2 → okD (u2 N m i)
  | 0, _ => qtu hN hs _ (Nat.le_refl _)
  | i + 1, hi => X6 (qy5 hN hs i (by omega)) (by unfold rt; split <;> omega) (by unfold rt; split <;> omega)
def kl : AC := .seq (.seq (.region [oM 35 8,oF 36 0 2,oL 37 36,o0 38 (.bin .mul (.c (.int .i64 2)) (.t 37)),oP 39 .lss 35 38]) (.cond 39 .skip (.exit 1))) (.seq (.block 2 (.draw true [oN 42 17 7,oF 43 0 2,oL 44 43,oM 45 6,oM 46 8,oF 48 0 2,oL 49 48,oM 50 6,oM 51 8,oF 52 1 2,o0 53 (.zn 16 1 (.t 52) (.t 51)),oL 54 53,o0 55 (.conv .i64 (.t 54)),oC 47 166 [.t 44,(.c (.int .i64 0)),.t 45,.t 46],oC 56 166 [.t 49,(.c (.int .i64 0)),.t 50,.t 55],oC 57 139 [.t 42,.t 47,.t 56],oS 17 7 57])) (.region [oM 40 8,oK 41 .add 40 1,oM 8 41]))
def ki : AC := .seq (.seq (.region [oM 58 9,oF 59 0 3,oL 60 59,o0 61 (.bin .mul (.c (.int .i64 2)) (.t 60)),oP 62 .lss 58 61]) (.cond 62 .skip (.exit 3))) (.seq (.block 4 (.draw true [oN 65 17 7,oF 66 0 3,oL 67 66,oF 68 0 2,oL 69 68,oM 70 6,oM 71 9,oF 73 0 3,oL 74 73,oF 75 0 2,oL 76 75,oM 77 6,oM 78 9,oF 79 1 3,o0 80 (.zn 16 1 (.t 79) (.t 78)),oL 81 80,o0 82 (.conv .i64 (.t 81)),oC 72 166 [.t 67,.t 69,.t 70,.t 71],oC 83 166 [.t 74,.t 76,.t 77,.t 82],oC 84 139 [.t 65,.t 72,.t 83],oS 17 7 84])) (.region [oM 63 9,oK 64 .add 63 1,oM 9 64]))
def kh : AC := .seq (.region [oN 85 17 7,oS 17 4 85,oI 5 0]) .ret
def J4 : AC := .seq (.seq (.region [oI 9 0]) (.block 3 (.loop ki))) kh
def Yu : AC := .seq (.region [o0 2 (.box (.t 0)),o0 3 (.box (.t 1)),oD 4,oI 5 0]) (.seq (.block 0 (.seq (.region [oN 11 17 2,oC 12 91 [.t 11],o0 13 (.un .not (.t 12)),oM 14 13,oG 15 14 false (.Ud 17 (.t 3)),⟨some 16,some (14,false),.call (.c (.fn 91 [] [])) [.t 15]⟩,oG 17 14 false (.un .not (.t 16)),o0 18 (.pick (.t 14) (.c (.bool true)) (.t 17)),oM 10 18]) (.cond 10 (.seq (.region [o0 19 (.build [.int .i64 0,.int .u8 0,.int .u8 0,.int .u8 0,.int .u8 0,.int .u8 0,.int .u8 0,.int .u8 0,.int .u8 0,.int .u8 0,.int .u8 0,.int .u8 0,.int .u8 0,.int .u8 0,.int .u8 0,.int .u8 0,.int .u8 0] []),oS 17 4 19,oI 5 1]) .ret) (.seq (.region [oF 21 0 2,oL 22 21,oF 23 0 3,oL 24 23,oP 25 .add 22 24,oK 26 .gtr 25 8,oM 20 26]) (.cond 20 (.seq (.region [o0 27 (.build [.int .i64 0,.int .u8 0,.int .u8 0,.int .u8 0,.int .u8 0,.int .u8 0,.int .u8 0,.int .u8 0,.int .u8 0,.int .u8 0,.int .u8 0,.int .u8 0,.int .u8 0,.int .u8 0,.int .u8 0,.int .u8 0,.int .u8 0] []),oS 17 4 27,oI 5 3]) .ret) .skip))))) (.seq (.region [oF 28 0 2,oL 29 28,oF 30 0 3,oL 31 30,oP 32 .add 29 31,oM 6 32]) (.seq (.region [oM 33 6,o0 34 (.build [.int .i64 0,.int .u8 0,.int .u8 0,.int .u8 0,.int .u8 0,.int .u8 0,.int .u8 0,.int .u8 0,.int .u8 0,.int .u8 0,.int .u8 0,.int .u8 0,.int .u8 0,.int .u8 0,.int .u8 0,.int .u8 0,.int .u8 0] [(0,1,.t 33)]),oD 7,oS 17 7 34]) (.seq (.seq (.region [oI 8 0]) (.block 1 (.loop kl))) J4))))
theorem qdr : zh Try.prog 135 = some ⟨86, Yu, [.bg 4 17, .slot 5]⟩ := by kernel_rfl
theorem qwt (N : Nat) (m : List Nat) (hN : 1 ≤ N ∧ N ≤ 7) (hm : okD m) (hs : isS N m = true) :
    Am.Fn Try.prog 135 [.agg (dia N m), .agg (dia 1 (wu 1))] [] (fun v H' => v = .tup [.agg (dia ((N + 1 : Nat) : Int) (u2 N m 2)), .int .i64 0] ∧ H' = []) := by
  refine Am.Fn.xp (R := fun v => v = _) qgd mixed qdr (by simp [AV.qt, AV.under, qj _ _ (qg _ _)]) (by simp) ?_
  have hml := hm.1
  have hu := Vz (n := 1) (by omega)
  have hul := hu.1
  have hus : isS 1 (wu 1) = true := by kernel_rfl
  have h1 : qn .i64 ((N : Int) + 1) = ((N + 1 : Nat) : Int) := by rw [wrap64 (by omega) (by omega)]; rfl
  have h2 : qn .i64 (2 * (N : Int)) = ((2 * N : Nat) : Int) := by rw [wrap64 (by omega) (by omega)]; rfl
  have h8 : ¬ (8 : Int) < ((N + 1 : Nat) : Int) := by omega
  have hn0 : (0 : Int) ≤ (N : Int) := by omega
  simp (maxSteps := 3000000) only [qf, zH, Yu, uv, w8, wg, Ke, qb2, j7, qy hm, qy hu, hs, hus, h1, h2, h8, hn0, x8, zm, Qp, qe, hml, hul, vz, zq, xn xd xd, List.length_replicate, Int.toNat_natCast, Int.toNat_one, qw hml, qw hul, and_self, iE, iN, iB, iC, iL, iD, iA, iS, iM, qa, zZ, ↓qp, ↓reduceIte, reduceCtorEq, nA, nM, nS, nE, nL, nD]; try simp only [qa, zY]
  refine WA.xo qgd (fun s => ∃ i : Nat, i ≤ 2 * N ∧ s = ⟨[(2, .ptr 0 0), (3, .ptr 1 0), (4, .ptr 2 0), (5, .int .i64 0), (6, .int .i64 (N + 1 : Nat)), (7, .ptr 3 0), (8, .int .i64 i)], [.cells (dia N m), .cells (dia 1 (wu 1)), .cells (dia 0 (List.replicate 16 0)), .cells (dia ((N + 1 : Nat) : Int) (uK N m i))]⟩)
    (fun s => match get s.env 8 with | .int _ x => 2 * N - x.toNat | _ => 0) ⟨_, qu.qv [2, 3, 4, 5, 6, 7, 8], 0, by omega, rfl⟩ ?_
  rintro s ⟨i, hi, rfl⟩
  have hw : qn .i64 ((i : Int) + 1) = ((i + 1 : Nat) : Int) := by rw [wrap64 (by omega) (by omega)]; rfl
  have hkk := qtu hN hs i hi
  by_cases hlt : i < 2 * N
  · have hli : (i : Int) < ((2 * N : Nat) : Int) := by omega
    have hb := qgm hs hlt
    obtain ⟨hi16, hi16'⟩ := x9 (show i < 16 by omega)
    have hi17 : i < 16 := by omega
    have hnext : uK N m (i + 1) = ((uK N m i).set (wd N i) (wd N (m.getD i 0))).set (wd N (m.getD i 0)) (wd N i) := rfl
    have hk2 := qtu hN hs (i + 1) (by omega)
    have a1 : wd N i < 16 := by unfold wd; split <;> omega
    have b1 : wd N (m.getD i 0) < 16 := by unfold wd; split <;> omega
    generalize hx : m.getD i 0 = x at hb b1 hnext
    have hcv : qn .i64 (x : Int) = (x : Int) := jj (by omega)
    have s1 : qbp (N : Int) 0 ((N + 1 : Nat) : Int) (i : Int) := ⟨by omega, by omega, by omega, by omega⟩
    have s2 : qbp (N : Int) 0 ((N + 1 : Nat) : Int) (x : Int) := ⟨by omega, by omega, by omega, by omega⟩
    have m1 : qfs (N : Int) 0 ((N + 1 : Nat) : Int) (i : Int) = (wd N i : Nat) := by unfold qfs wd; split <;> split <;> omega
    have m2 : qfs (N : Int) 0 ((N + 1 : Nat) : Int) (x : Int) = (wd N x : Nat) := by unfold qfs wd; split <;> split <;> omega
    have j1 : (0 : Int) ≤ ((wd N i : Nat) : Int) ∧ ((wd N i : Nat) : Int) < 16 := by omega
    have j2 : (0 : Int) ≤ ((wd N x : Nat) : Int) ∧ ((wd N x : Nat) : Int) < 16 := by omega
    rw [hnext] at hk2
    simp (maxSteps := 3000000) only [qf, zH, kl, uv, w8, wg, Ke, qb2, j7, hw, h2, hli, hx, hcv, s1, s2, m1, m2, j1, j2, qy hkk, hi16, hi16', hi17, AV.one, qe, hml, hkk.1, hk2.1, qw hkk.1, qw hk2.1, xn hkk.1 hk2.1, zq, Int.toNat_natCast, and_self, iE, iN, iB, iC, iL, iD, iA, iS, iM, qa, zZ, ↓qp, ↓reduceIte, reduceCtorEq, nA, nM, nS, nE, nL, nD]; try simp only [qa, zY]
    repeat' refine And.intro (by first | rfl | exact ⟨_, rfl⟩) ?_
    refine ⟨_, qu.qv [2, 3, 4, 5, 6, 7, 8], ⟨i + 1, by omega, ?_⟩, ?_⟩
    · simp only [zL, ↓reduceIte, reduceCtorEq, nE, nA]; rw [hnext]
    · simp only [zL, ↓reduceIte, reduceCtorEq, nE, nA]; omega
  · have hli : ¬ (i : Int) < ((2 * N : Nat) : Int) := by omega
    obtain rfl : i = 2 * N := by omega
    have h22 : qn .i64 2 = 2 := wrap64 (by omega) (by omega)
    simp (maxSteps := 3000000) only [qf, zH, kl, kh, J4, uv, w8, wg, Ke, qb2, j7, h2, hli, Int.lt_irrefl, iE, iN, iB, iC, iL, iD, iA, iS, iM, qa, zZ, ↓qp, ↓reduceIte, reduceCtorEq, nA, nM, nS, nE, nL, nD]; try simp only [qa, zY]
    refine WA.xo qgd (fun s => ∃ i : Nat, i ≤ 2 ∧ s = ⟨[(2, .ptr 0 0), (3, .ptr 1 0), (4, .ptr 2 0), (5, .int .i64 0), (6, .int .i64 (N + 1 : Nat)), (7, .ptr 3 0), (9, .int .i64 i)], [.cells (dia N m), .cells (dia 1 (wu 1)), .cells (dia 0 (List.replicate 16 0)), .cells (dia ((N + 1 : Nat) : Int) (u2 N m i))]⟩)
      (fun s => match get s.env 9 with | .int _ x => 2 - x.toNat | _ => 0) ⟨_, qu.qv [2, 3, 4, 5, 6, 7, 9], 0, by omega, rfl⟩ ?_
    clear hw hkk hi
    rintro s ⟨i, hi, rfl⟩
    have hw : qn .i64 ((i : Int) + 1) = ((i + 1 : Nat) : Int) := by rw [wrap64 (by omega) (by omega)]; rfl
    have hkk := qy5 hN hs i hi
    by_cases hlt : i < 2
    · have hli : (i : Int) < 2 := by omega
      have hnext : u2 N m (i + 1) = ((u2 N m i).set (rt N i) (rt N (1 - i))).set (rt N (1 - i)) (rt N i) := rfl
      have hk2 := qy5 hN hs (i + 1) (by omega)
      have a1 : rt N i < 16 := by unfold rt; split <;> omega
      have b1 : rt N (1 - i) < 16 := by unfold rt; split <;> omega
      have hx : (wu 1).getD i 0 = 1 - i := by
        rcases (show i = 0 ∨ i = 1 by omega) with rfl | rfl <;> rfl
      obtain ⟨hi16, hi16'⟩ := x9 (show i < 16 by omega)
      have hi17 : i < 16 := by omega
      have hcv : qn .i64 ((1 - i : Nat) : Int) = ((1 - i : Nat) : Int) := jj (by omega)
      have s1 : qbp 1 (N : Int) ((N + 1 : Nat) : Int) (i : Int) := ⟨by omega, by omega, by omega, by omega⟩
      have s2 : qbp 1 (N : Int) ((N + 1 : Nat) : Int) ((1 - i : Nat) : Int) := ⟨by omega, by omega, by omega, by omega⟩
      have m1 : qfs 1 (N : Int) ((N + 1 : Nat) : Int) (i : Int) = (rt N i : Nat) := by unfold qfs rt; split <;> split <;> omega
      have m2 : qfs 1 (N : Int) ((N + 1 : Nat) : Int) ((1 - i : Nat) : Int) = (rt N (1 - i) : Nat) := by unfold qfs rt; split <;> split <;> omega
      have j1 : (0 : Int) ≤ ((rt N i : Nat) : Int) ∧ ((rt N i : Nat) : Int) < 16 := by omega
      have j2 : (0 : Int) ≤ ((rt N (1 - i) : Nat) : Int) ∧ ((rt N (1 - i) : Nat) : Int) < 16 := by omega
      rw [hnext] at hk2
      simp (maxSteps := 3000000) only [qf, zH, ki, uv, w8, wg, Ke, qb2, j7, hw, h22, hli, hx, hcv, s1, s2, m1, m2, j1, j2, qy hkk, hi16, hi16', hi17, AV.one, qe, hul, hkk.1, hk2.1, qw hkk.1, qw hk2.1, xn hkk.1 hk2.1, zq, Int.toNat_natCast, and_self, iE, iN, iB, iC, iL, iD, iA, iS, iM, qa, zZ, ↓qp, ↓reduceIte, reduceCtorEq, nA, nM, nS, nE, nL, nD]; try simp only [qa, zY]
      repeat' refine And.intro (by first | rfl | exact ⟨_, rfl⟩) ?_
      refine ⟨_, qu.qv [2, 3, 4, 5, 6, 7, 9], ⟨i + 1, by omega, ?_⟩, ?_⟩
      · simp only [zL, ↓reduceIte, reduceCtorEq, nE, nA]; rw [hnext]
      · simp only [zL, ↓reduceIte, reduceCtorEq, nE, nA]; omega
    · have hli : ¬ (i : Int) < 2 := by omega
      have ei : i = 2 := by omega
      simp (maxSteps := 3000000) only [qf, zH, ki, kh, uv, w8, wg, Ke, qb2, j7, h22, hli, qe, hkk.1, qw hkk.1, xn xd hkk.1, zq, List.length_replicate, Int.lt_irrefl, iE, iN, iB, iC, iL, iD, iA, iS, iM, qa, zZ, ↓qp, ↓reduceIte, reduceCtorEq, nA, nM, nS, nE, nL, nD]; try simp only [qa, zY]
      subst ei
      first | exact ⟨by simp only [AV.zf, AV.zo, qg, Bool.and_self], rfl⟩ | trace_state
noncomputable def qcp : List AV → Option AV
  | [.agg d, .agg e] => match vy d, vy e with
    | some (n, m), some (n', m') => chk ((n' = 1 ∧ m' = wu 1) ∧ isS n.toNat m = true ∧ 1 ≤ n ∧ n ≤ 7) (some (.tup [.agg (dia (n + 1) (u2 n.toNat m 2)), .int .i64 0]))
    | _, _ => none
  | _ => none
theorem q8h : Am.Callee Try.prog 135 (qk qcp) := Am.Callee.plain fun xs v he => by
  unfold qcp at he
  split at he
  · rename_i d e
    split at he
    · rename_i n m n' m' h1 h2
      obtain ⟨⟨⟨e1, e2⟩, e3, e4⟩, he⟩ := qm he
      cases he
      obtain ⟨rfl, hm⟩ := zl h1
      obtain ⟨rfl, hm'⟩ := zl h2
      subst e1 e2
      obtain ⟨N, rfl⟩ : ∃ N : Nat, n = N := ⟨n.toNat, by omega⟩
      rw [Int.toNat_natCast] at e3 ⊢
      exact ⟨by simp [AV.zf, AV.zo, qg], by simp [AV.zf, AV.zo, qg], qwt N m (by omega) hm e3⟩
    · cases he
  · cases he
noncomputable def q70 : zb := (qzi.put 135 (qk qcp))
theorem q2b : qo Try.prog q70 := (qgd.put (q8h))
def strs (l : List (List UInt8)) : List AV := l.map AV.str
theorem jl : ∀ l : List (List UInt8), AV.zf (strs l) = true
  | [] => rfl
  | x :: l => by
    have ih := jl l
    simp only [strs, List.map_cons, AV.zf, AV.zo, Bool.true_and]
    exact ih
theorem qfb (l : List (List UInt8)) : (strs l).length = l.length := by simp [strs]
def qbe : List AV → Option (List (List UInt8))
  | [] => some []
  | .str s :: r => match qbe r with
    | some l => some (s :: l)
    | none => none
  | _ => none
theorem Wn : ∀ l : List (List UInt8), qbe (strs l) = some l
  | [] => rfl
  | x :: l => by
    have ih := Wn l
    simp only [strs, List.map_cons, qbe] at ih ⊢
    rw [ih]
theorem qfq : ∀ {l : List AV} {m : List (List UInt8)}, qbe l = some m → l = strs m
  | [], m, h => by cases h; rfl
  | a :: l, m, h => by
    cases a <;> (try (simp only [qbe, reduceCtorEq] at h; done))
    simp only [qbe] at h
    split at h
    · rename_i r hr
      cases h
      rw [qfq hr]; rfl
    · cases h
def txs (t : List UInt8) (o r : Nat) : List (List UInt8) := (brs (o + 2 * r) o).map (t ++ ·)
theorem qk8 : ∀ r o, (brs r o).length ≤ 2 ^ r
  | 0, o => by simp only [brs]; split <;> simp
  | r + 1, o => by
    have h1 := qk8 r (o + 1)
    have h2 := qk8 r (o - 1)
    simp only [brs, List.length_append, List.length_map]
    rw [Nat.pow_succ]
    split
    · rw [List.length_map]; omega
    · rw [List.length_nil]; omega
theorem quj {t : List UInt8} {o r : Nat} : (txs t o r).length ≤ 2 ^ (o + 2 * r) := by rw [txs, List.length_map]; exact qk8 _ _
theorem qoy {t : List UInt8} : txs t 0 0 = [t] := by simp [txs, brs]
theorem Va {t : List UInt8} {x : UInt8} {l : List (List UInt8)} : (l.map (x :: ·)).map (t ++ ·) = l.map ((t ++ [x]) ++ ·) := by
  rw [List.map_map]
  exact List.map_congr_left fun y _ => by simp
theorem qo4 {t : List UInt8} {o r : Nat} (ho : 0 < o) (hr : 0 < r) : txs t o r = txs (t ++ [40]) (o + 1) (r - 1) ++ txs (t ++ [41]) (o - 1) r := by
  obtain ⟨o, rfl⟩ : ∃ j, o = j + 1 := ⟨o - 1, by omega⟩
  obtain ⟨r, rfl⟩ : ∃ j, r = j + 1 := ⟨r - 1, by omega⟩
  unfold txs
  rw [show o + 1 + 2 * (r + 1) = (o + 2 * r + 2) + 1 by omega, show o + 1 + 1 + 2 * (r + 1 - 1) = o + 2 * r + 2 by omega, show o + 1 - 1 + 2 * (r + 1) = o + 2 * r + 2 by omega]
  rw [show brs (o + 2 * r + 2 + 1) (o + 1) = (brs (o + 2 * r + 2) (o + 1 + 1)).map (40 :: ·) ++ (if 0 < o + 1 then (brs (o + 2 * r + 2) (o + 1 - 1)).map (41 :: ·) else []) from rfl, if_pos (by omega), List.map_append, Va, Va]
theorem qqj {t : List UInt8} {r : Nat} (hr : 0 < r) : txs t 0 r = txs (t ++ [40]) 1 (r - 1) := by
  obtain ⟨r, rfl⟩ : ∃ j, r = j + 1 := ⟨r - 1, by omega⟩
  unfold txs
  rw [show 0 + 2 * (r + 1) = (2 * r + 1) + 1 by omega, show 1 + 2 * (r + 1 - 1) = 2 * r + 1 by omega]
  rw [show brs (2 * r + 1 + 1) 0 = (brs (2 * r + 1) 1).map (40 :: ·) ++ (if 0 < 0 then (brs (2 * r + 1) (0 - 1)).map (41 :: ·) else []) from rfl, if_neg (by omega), List.append_nil, Va]
theorem qk0 {t : List UInt8} {o : Nat} (ho : 0 < o) : txs t o 0 = txs (t ++ [41]) (o - 1) 0 := by
  obtain ⟨o, rfl⟩ : ∃ j, o = j + 1 := ⟨o - 1, by omega⟩
  unfold txs
  rw [show o + 1 + 2 * 0 = o + 1 by omega, show o + 1 - 1 + 2 * 0 = o by omega, Nat.add_sub_cancel]
  rw [show brs (o + 1) (o + 1) = (brs o (o + 1 + 1)).map (40 :: ·) ++ (if 0 < o + 1 then (brs o (o + 1 - 1)).map (41 :: ·) else []) from rfl, if_pos (by omega), Nat.add_sub_cancel, qlu (show o < o + 1 + 1 by omega), List.map_nil, List.nil_append, Va]
def B0 (M k j : Nat) (o r : Int) : Prop := 0 ≤ o ∧ 0 ≤ r ∧ o.toNat + 2 * r.toNat < M ∧ (M ≤ 20 ∧ j + (o.toNat + 2 * r.toNat) ≤ 100) ∧ k + 2 ^ (o.toNat + 2 * r.toNat) ≤ 1000000
instance {M k j : Nat} {o r : Int} : Decidable (B0 M k j o r) := inferInstanceAs (Decidable (_ ∧ _))
noncomputable def ve (M : Nat) : BE := fun hp xs => match xs with
  | [.v (.slice none 0 0), .str t, .int .i64 o, .int .i64 r] => chk (B0 M 0 t.length o r) (some (.slc hp.length 0 (txs t o.toNat r.toNat).length false 0, hp ++ [.vec 1 (strs (txs t o.toNat r.toNat))]))
  | [.slc b 0 k false 0, .str t, .int .i64 o, .int .i64 r] => match hp[b]? with
    | some (.vec 1 l) => match qbe l with
      | some ls => chk (ls.length = k ∧ B0 M ls.length t.length o r) (some (.slc hp.length 0 (ls ++ txs t o.toNat r.toNat).length false 0, hp.set b .dead ++ [.vec 1 (strs (ls ++ txs t o.toNat r.toNat))]))
      | none => none
    | _ => none
  | _ => none
theorem qtk {M : Nat} (h1 : ∀ (t : List UInt8) (o r : Nat), B0 M 0 t.length o r → Am.Fn Try.prog 133 [.v (.slice none 0 0), .str t, .int .i64 o, .int .i64 r] [] (fun v H' => v = .slc 0 0 (txs t o r).length false 0 ∧ H' = [.vec 1 (strs (txs t o r))]))
    (h2 : ∀ (ls : List (List UInt8)) (t : List UInt8) (o r : Nat), B0 M ls.length t.length o r → Am.Fn Try.prog 133 [.slc 0 0 ls.length false 0, .str t, .int .i64 o, .int .i64 r] [.vec 1 (strs ls)] (fun v H' => v = .slc 1 0 (ls ++ txs t o r).length false 0 ∧ H' = [.dead, .vec 1 (strs (ls ++ txs t o r))])) :
    Am.Callee Try.prog 133 (ve M) := Callee.fp fun hp xs v hp' he => by
  unfold ve at he
  split at he
  · rename_i t o r
    obtain ⟨a1, he⟩ := qm he
    simp only [Option.some.injEq, Prod.mk.injEq] at he
    obtain ⟨rfl, rfl⟩ := he
    obtain ⟨o, rfl⟩ : ∃ j : Nat, o = j := ⟨o.toNat, by have := a1.1; omega⟩
    obtain ⟨r, rfl⟩ : ∃ j : Nat, r = j := ⟨r.toNat, by have := a1.2.1; omega⟩
    refine ⟨[], [.v (.slice none 0 0), .str t, .int .i64 o, .int .i64 r], _, _, _, h1 t o r a1, by simp [AV.ren, AV.zg], rfl, trivial, rfl, trivial, ⟨trivial, trivial, trivial, trivial, trivial⟩, by simp [AV.ren, AV.zg, Ren.ext], ?_⟩
    simp [after, upd, AO.wr, AO.ren, qb _ _ (jl _)]
  · rename_i b k t o r
    split at he
    · rename_i l hb
      split at he
      · rename_i ls hls
        have h9 := qm he
        clear he
        obtain ⟨⟨k1, a1⟩, he⟩ := h9
        subst k1
        simp only [Option.some.injEq, Prod.mk.injEq] at he
        obtain ⟨rfl, rfl⟩ := he
        obtain rfl := qfq hls
        obtain ⟨o, rfl⟩ : ∃ j : Nat, o = j := ⟨o.toNat, by have := a1.1; omega⟩
        obtain ⟨r, rfl⟩ : ∃ j : Nat, r = j := ⟨r.toNat, by have := a1.2.1; omega⟩
        refine ⟨[(b, 0)], [.slc 0 0 ls.length false 0, .str t, .int .i64 o, .int .i64 r], _, _, _, h2 ls t o r a1, by simp [AV.ren, AV.zg, ofL], rfl, ⟨⟨rfl, by simp only [AO.ren, qb _ _ (jl _)]; exact hb⟩, trivial⟩, rfl, ⟨qj _ _ (jl _), trivial⟩, ⟨by simp [AV.under], trivial, trivial, trivial, trivial⟩, by simp [AV.ren, AV.zg, Ren.ext], ?_⟩
        simp [after, upd, AO.wr, AO.ren, qb _ _ (jl _)]
      · cases he
    · cases he
  · cases he
noncomputable def BT (M : Nat) : zb := qhe.put 133 (ve M)
theorem qe2 (M : Nat) : BT M 133 = some (ve M) := rfl
theorem q4d {M : Nat} (h : Am.Callee Try.prog 133 (ve M)) : qo Try.prog (BT M) := Ur.put h
theorem qtn {M k j o r : Nat} (h : B0 (M + 1) k j o r) : o + 2 * r ≤ M ∧ (M + 1 ≤ 20 ∧ j + (o + 2 * r) ≤ 100) ∧ k + 2 ^ (o + 2 * r) ≤ 1000000 := by
  obtain ⟨_, _, h3, h4, h5⟩ := h
  rw [Int.toNat_natCast, Int.toNat_natCast] at h3 h4 h5
  exact ⟨by omega, h4, h5⟩
theorem Vd {M k j o r : Nat} (h1 : o + 2 * r < M) (h2 : M ≤ 20 ∧ j + (o + 2 * r) ≤ 100) (h3 : k + 2 ^ (o + 2 * r) ≤ 1000000) : B0 M k j (o : Int) (r : Int) := ⟨by omega, by omega, by rw [Int.toNat_natCast, Int.toNat_natCast]; exact h1, by rw [Int.toNat_natCast, Int.toNat_natCast]; exact h2, by rw [Int.toNat_natCast, Int.toNat_natCast]; exact h3⟩
theorem X5 {t : List UInt8} {x : UInt8} : (t ++ [x]).length = t.length + 1 := by simp
theorem qf1 {o r : Nat} (h : 0 < o + 2 * r) : 2 ^ (o + 2 * r) = 2 ^ (o + 2 * r - 1) + 2 ^ (o + 2 * r - 1) := by
  rw [show o + 2 * r = (o + 2 * r - 1) + 1 by omega, Nat.pow_succ, Nat.add_sub_cancel]; omega
def vp : AC := .seq (.region [o0 8 (.mov (.c (.v (.slice none 0 0))))]) (.seq (.seq (.region [oM 9 2,oK 10 .eql 9 0,oM 11 10,oG 12 11 true (.mov (.t 3)),oG 13 11 true (.bin .eql (.t 12) (.c (.int .i64 0))),o0 14 (.pick (.t 11) (.t 13) (.c (.bool false)))]) (.cond 14 (.seq (.region [oM 15 0,oM 16 1,o0 17 (.gi 1 [(.str [])] [(0,1,.t 16)]),o0 18 (.append 1 16 (.t 15) (.t 17)),oM 8 18]) .ret) .skip)) (.seq (.seq (.region [oM 19 3,oK 20 .gtr 19 0]) (.cond 20 (.region [oM 21 0,oM 22 1,o0 23 (.bin .add (.t 22) (.c (.str [40]))),oM 24 2,oK 25 .add 24 1,oM 26 3,oK 27 .sub 26 1,oC 28 133 [.t 21,.t 23,.t 25,.t 27],oM 0 28]) .skip)) (.seq (.seq (.region [oM 29 2,oK 30 .gtr 29 0]) (.cond 30 (.region [oM 31 0,oM 32 1,o0 33 (.bin .add (.t 32) (.c (.str [41]))),oM 34 2,oK 35 .sub 34 1,oM 36 3,oC 37 133 [.t 31,.t 33,.t 35,.t 36],oM 0 37]) .skip)) (.seq (.region [oM 38 0,oM 8 38]) .ret))))
theorem qcf : zh Try.prog 133 = some ⟨39, vp, [.slot 8]⟩ := by kernel_rfl
theorem qx8 (M : Nat) (ih : Am.Callee Try.prog 133 (ve M)) (t : List UInt8) (o r : Nat) (h : B0 (M + 1) 0 t.length o r) :
    Am.Fn Try.prog 133 [.v (.slice none 0 0), .str t, .int .i64 o, .int .i64 r] [] (fun v H' => v = .slc 0 0 (txs t o r).length false 0 ∧ H' = [.vec 1 (strs (txs t o r))]) := by
  refine Am.Fn.ofW (q4d ih) mixed qcf (by simp [AV.qt, AV.under]) (by simp) ?_
  obtain ⟨a1, ⟨a2, a4⟩, a3⟩ := qtn h
  have w1 : qn .i64 ((o : Int) + 1) = ((o + 1 : Nat) : Int) := by rw [wrap64 (by omega) (by omega)]; rfl
  have tl : t.length ≤ 9223372036854775806 := by omega
  have fin : ∀ (s : St) (i : Nat) (L : List (List UInt8)), L = txs t o r → get s.env 8 = .slc i 0 L.length false 0 → s.hp[i]? = some (.vec 1 (strs L)) → ∃ s', qu 0 s s' ∧ Ret [.slot 8] [] (fun v H' => v = .slc 0 0 (txs t o r).length false 0 ∧ H' = [.vec 1 (strs (txs t o r))]) s' := fun s i L e h1 h2 => by
    subst e
    have hk : zj [i] s.hp = [.vec 1 (strs (txs t o r))] := by simp [zj, h2, AO.ren, qb _ _ (jl _)]
    have hi : ([i] : List Nat).idxOf i = 0 := by simp
    refine ⟨_, qu.refl _, Ret.xy [i] ⟨⟨by simp, rfl, by simp⟩, fun j hj => ?_⟩ (rs := [.slc i 0 (txs t o r).length false 0]) ?_ ?_ (by simp [xt]) ?_ ⟨?_, hk⟩⟩
    · rw [List.mem_singleton.1 hj, h2]
      exact qh _ _ (jl _)
    · simp only [Wj, h1]
    · simp [xt, AV.within]
    · intro j l
      rw [hk]
      cases j <;> simp
    · simp [xt, AV.ren, yy]
  by_cases ho : 0 < o
  · have e1 : (o : Int) = 0 ↔ False := iff_false_intro (by omega)
    have e2 : (0 : Int) < (o : Int) := by omega
    have w2 : qn .i64 ((o : Int) - 1) = ((o - 1 : Nat) : Int) := by rw [wrap64 (by omega) (by omega)]; omega
    have p1 := qf1 (show 0 < o + 2 * r by omega)
    have q2 : o - 1 + 2 * r = o + 2 * r - 1 := by omega
    by_cases hr : 0 < r
    · have e3 : (0 : Int) < (r : Int) := by omega
      have w3 : qn .i64 ((r : Int) - 1) = ((r - 1 : Nat) : Int) := by rw [wrap64 (by omega) (by omega)]; omega
      have q1 : o + 1 + 2 * (r - 1) = o + 2 * r - 1 := by omega
      have k1 : B0 M 0 (t ++ [40]).length ((o + 1 : Nat) : Int) ((r - 1 : Nat) : Int) := Vd (by omega) ⟨by omega, by rw [X5]; omega⟩ (by rw [q1]; omega)
      have hl := quj (t := t ++ [40]) (o := o + 1) (r := r - 1)
      rw [q1] at hl
      have k2 : B0 M (txs (t ++ [40]) (o + 1) (r - 1)).length (t ++ [41]).length ((o - 1 : Nat) : Int) (r : Int) := Vd (by omega) ⟨by omega, by rw [X5]; omega⟩ (by rw [q2]; omega)
      have b1 := Wn (txs (t ++ [40]) (o + 1) (r - 1))
      have hb := qo4 (t := t) ho hr
      simp (maxSteps := 3000000) only [qf, zH, vp, qe2, ve, e1, e2, e3, w1, w2, w3, k1, k2, b1, tl, Int.toNat_natCast, and_self, iE, iN, iB, iC, iL, iD, iA, iS, iM, qa, zZ, ↓qp, ↓reduceIte, reduceCtorEq, nA, nM, nS, nE, nL, nD]; try simp only [qa, zY]
      exact fin _ 1 _ hb.symm rfl rfl
    · have r0 : r = 0 := by omega
      have e3 : (0 : Int) < (r : Int) ↔ False := iff_false_intro (by omega)
      have k2 : B0 M 0 (t ++ [41]).length ((o - 1 : Nat) : Int) (r : Int) := Vd (by omega) ⟨by omega, by rw [X5]; omega⟩ (by rw [q2]; omega)
      have hb : txs t o r = txs (t ++ [41]) (o - 1) r := by subst r0; exact qk0 ho
      simp (maxSteps := 3000000) only [qf, zH, vp, qe2, ve, e1, e2, e3, w1, w2, k2, tl, Int.toNat_natCast, Int.lt_irrefl, and_self, iE, iN, iB, iC, iL, iD, iA, iS, iM, qa, zZ, ↓qp, ↓reduceIte, reduceCtorEq, nA, nM, nS, nE, nL, nD]; try simp only [qa, zY]
      exact fin _ 0 _ hb.symm rfl rfl
  · have o0 : o = 0 := by omega
    have e1 : (o : Int) = 0 ↔ True := iff_true_intro (by omega)
    have e2 : (0 : Int) < (o : Int) ↔ False := iff_false_intro (by omega)
    by_cases hr : 0 < r
    · have e3 : (0 : Int) < (r : Int) := by omega
      have e4 : (r : Int) = 0 ↔ False := iff_false_intro (by omega)
      have p1 := qf1 (show 0 < o + 2 * r by omega)
      have w3 : qn .i64 ((r : Int) - 1) = ((r - 1 : Nat) : Int) := by rw [wrap64 (by omega) (by omega)]; omega
      have q1 : o + 1 + 2 * (r - 1) = o + 2 * r - 1 := by omega
      have k1 : B0 M 0 (t ++ [40]).length ((o + 1 : Nat) : Int) ((r - 1 : Nat) : Int) := Vd (by omega) ⟨by omega, by rw [X5]; omega⟩ (by rw [q1]; omega)
      have hb : txs t o r = txs (t ++ [40]) (o + 1) (r - 1) := by subst o0; exact qqj hr
      simp (maxSteps := 3000000) only [qf, zH, vp, qe2, ve, e1, e2, e3, e4, w1, w3, k1, tl, Int.toNat_natCast, Int.lt_irrefl, and_self, iE, iN, iB, iC, iL, iD, iA, iS, iM, qa, zZ, ↓qp, ↓reduceIte, reduceCtorEq, nA, nM, nS, nE, nL, nD]; try simp only [qa, zY]
      exact fin _ 0 _ hb.symm rfl rfl
    · have r0 : r = 0 := by omega
      have e3 : (0 : Int) < (r : Int) ↔ False := iff_false_intro (by omega)
      have e4 : (r : Int) = 0 ↔ True := iff_true_intro (by omega)
      have hb : txs t o r = [t] := by subst o0; subst r0; exact qoy
      have hs : src [AO.cells (over [AV.str []] 0 [AV.str t])] 1 (.slc 0 0 1 true 1) = some (1, [.str t]) := rfl
      simp (maxSteps := 3000000) only [qf, zH, vp, qe2, e1, e2, e3, e4, hs, Int.toNat_natCast, and_self, iE, iN, iB, iC, iL, iD, iA, iS, iM, qa, zZ, ↓qp, ↓reduceIte, reduceCtorEq, nA, nM, nS, nE, nL, nD]; try simp only [qa, zY]
      exact ⟨rfl, fin _ 1 _ hb.symm rfl rfl⟩
theorem q0p (M : Nat) (ih : Am.Callee Try.prog 133 (ve M)) (ls : List (List UInt8)) (t : List UInt8) (o r : Nat) (h : B0 (M + 1) ls.length t.length o r) :
    Am.Fn Try.prog 133 [.slc 0 0 ls.length false 0, .str t, .int .i64 o, .int .i64 r] [.vec 1 (strs ls)] (fun v H' => v = .slc 1 0 (ls ++ txs t o r).length false 0 ∧ H' = [.dead, .vec 1 (strs (ls ++ txs t o r))]) := by
  refine Am.Fn.ofW (q4d ih) mixed qcf (by simp [AV.qt, AV.under]) ?_ ?_
  · intro j q hj
    cases j with
    | zero => simp only [List.getElem?_cons_zero, Option.some.injEq] at hj; subst hj; exact qj _ _ (jl _)
    | succ j => simp at hj
  obtain ⟨a1, ⟨a2, a4⟩, a3⟩ := qtn h
  have w1 : qn .i64 ((o : Int) + 1) = ((o + 1 : Nat) : Int) := by rw [wrap64 (by omega) (by omega)]; rfl
  have tl : t.length ≤ 9223372036854775806 := by omega
  have b0 := Wn ls
  have g1 : 1 ≤ 2 ^ (o + 2 * r - 1) := Nat.one_le_two_pow
  have g2 : 1 ≤ 2 ^ (o + 2 * r) := Nat.one_le_two_pow
  have hlen := qfb ls
  have fin : ∀ (s : St) (i : Nat) (L : List (List UInt8)), L = ls ++ txs t o r → 0 < i → get s.env 8 = .slc i 0 L.length false 0 → s.hp[0]? = some .dead → s.hp[i]? = some (.vec 1 (strs L)) → ∃ s', qu [AO.vec 1 (strs ls)].length s s' ∧ Ret [.slot 8] [.vec 1 (strs ls)] (fun v H' => v = .slc 1 0 (ls ++ txs t o r).length false 0 ∧ H' = [.dead, .vec 1 (strs (ls ++ txs t o r))]) s' := fun s i L e hi h1 h0 h2 => by
    subst e
    have hk : zj [0, i] s.hp = [.dead, .vec 1 (strs (ls ++ txs t o r))] := by simp [zj, h0, h2, AO.ren, qb _ _ (jl _)]
    have hne : (0 : Nat) ≠ i := by omega
    refine ⟨_, qu.refl _, Ret.xy [0, i] ⟨⟨by simp, rfl, by simp; omega⟩, fun j hj => ?_⟩ (rs := [.slc i 0 (ls ++ txs t o r).length false 0]) ?_ ?_ (by simp [xt]) ?_ ⟨?_, hk⟩⟩
    · rcases List.mem_cons.1 hj with rfl | hj
      · rw [h0]; rfl
      · rw [List.mem_singleton.1 hj, h2]
        exact qh _ _ (jl _)
    · simp only [Wj, h1]
    · simp [xt, AV.within]
    · intro j l
      rw [hk]
      match j with
      | 0 => simp
      | 1 => simp
      | j + 2 => simp
    · simp [xt, AV.ren, yy, List.idxOf_cons, beq_false_of_ne hne]
  by_cases ho : 0 < o
  · have e1 : (o : Int) = 0 ↔ False := iff_false_intro (by omega)
    have e2 : (0 : Int) < (o : Int) := by omega
    have w2 : qn .i64 ((o : Int) - 1) = ((o - 1 : Nat) : Int) := by rw [wrap64 (by omega) (by omega)]; omega
    have p1 := qf1 (show 0 < o + 2 * r by omega)
    have q2 : o - 1 + 2 * r = o + 2 * r - 1 := by omega
    by_cases hr : 0 < r
    · have e3 : (0 : Int) < (r : Int) := by omega
      have w3 : qn .i64 ((r : Int) - 1) = ((r - 1 : Nat) : Int) := by rw [wrap64 (by omega) (by omega)]; omega
      have q1 : o + 1 + 2 * (r - 1) = o + 2 * r - 1 := by omega
      have k1 : B0 M ls.length (t ++ [40]).length ((o + 1 : Nat) : Int) ((r - 1 : Nat) : Int) := Vd (by omega) ⟨by omega, by rw [X5]; omega⟩ (by rw [q1]; omega)
      have hl := quj (t := t ++ [40]) (o := o + 1) (r := r - 1)
      rw [q1] at hl
      have k2 : B0 M (ls ++ txs (t ++ [40]) (o + 1) (r - 1)).length (t ++ [41]).length ((o - 1 : Nat) : Int) (r : Int) := Vd (by omega) ⟨by omega, by rw [X5]; omega⟩ (by rw [q2, List.length_append]; omega)
      have b1 := Wn (ls ++ txs (t ++ [40]) (o + 1) (r - 1))
      have hb : ls ++ txs (t ++ [40]) (o + 1) (r - 1) ++ txs (t ++ [41]) (o - 1) r = ls ++ txs t o r := by rw [List.append_assoc, ← qo4 ho hr]
      simp (maxSteps := 3000000) only [qf, zH, vp, qe2, ve, e1, e2, e3, w1, w2, w3, k1, k2, b0, b1, tl, Int.toNat_natCast, and_self, iE, iN, iB, iC, iL, iD, iA, iS, iM, qa, zZ, ↓qp, ↓reduceIte, reduceCtorEq, nA, nM, nS, nE, nL, nD]; try simp only [qa, zY]
      exact fin _ 2 _ hb (by omega) rfl rfl rfl
    · have r0 : r = 0 := by omega
      have e3 : (0 : Int) < (r : Int) ↔ False := iff_false_intro (by omega)
      have k2 : B0 M ls.length (t ++ [41]).length ((o - 1 : Nat) : Int) (r : Int) := Vd (by omega) ⟨by omega, by rw [X5]; omega⟩ (by rw [q2]; omega)
      have hb : ls ++ txs (t ++ [41]) (o - 1) r = ls ++ txs t o r := by subst r0; rw [qk0 ho]
      simp (maxSteps := 3000000) only [qf, zH, vp, qe2, ve, e1, e2, e3, w1, w2, k2, b0, tl, Int.toNat_natCast, Int.lt_irrefl, and_self, iE, iN, iB, iC, iL, iD, iA, iS, iM, qa, zZ, ↓qp, ↓reduceIte, reduceCtorEq, nA, nM, nS, nE, nL, nD]; try simp only [qa, zY]
      exact fin _ 1 _ hb (by omega) rfl rfl rfl
  · have o0 : o = 0 := by omega
    have e1 : (o : Int) = 0 ↔ True := iff_true_intro (by omega)
    have e2 : (0 : Int) < (o : Int) ↔ False := iff_false_intro (by omega)
    by_cases hr : 0 < r
    · have e3 : (0 : Int) < (r : Int) := by omega
      have e4 : (r : Int) = 0 ↔ False := iff_false_intro (by omega)
      have p1 := qf1 (show 0 < o + 2 * r by omega)
      have w3 : qn .i64 ((r : Int) - 1) = ((r - 1 : Nat) : Int) := by rw [wrap64 (by omega) (by omega)]; omega
      have q1 : o + 1 + 2 * (r - 1) = o + 2 * r - 1 := by omega
      have k1 : B0 M ls.length (t ++ [40]).length ((o + 1 : Nat) : Int) ((r - 1 : Nat) : Int) := Vd (by omega) ⟨by omega, by rw [X5]; omega⟩ (by rw [q1]; omega)
      have hb : ls ++ txs (t ++ [40]) (o + 1) (r - 1) = ls ++ txs t o r := by subst o0; rw [qqj hr]
      simp (maxSteps := 3000000) only [qf, zH, vp, qe2, ve, e1, e2, e3, e4, w1, w3, k1, b0, tl, Int.toNat_natCast, Int.lt_irrefl, and_self, iE, iN, iB, iC, iL, iD, iA, iS, iM, qa, zZ, ↓qp, ↓reduceIte, reduceCtorEq, nA, nM, nS, nE, nL, nD]; try simp only [qa, zY]
      exact fin _ 1 _ hb (by omega) rfl rfl rfl
    · have r0 : r = 0 := by omega
      have e3 : (0 : Int) < (r : Int) ↔ False := iff_false_intro (by omega)
      have e4 : (r : Int) = 0 ↔ True := iff_true_intro (by omega)
      have hb : ls ++ [t] = ls ++ txs t o r := by subst o0; subst r0; rw [qoy]
      have hs : src [AO.vec 1 (strs ls), AO.cells (over [AV.str []] 0 [AV.str t])] 1 (.slc 1 0 1 true 1) = some (1, [.str t]) := rfl
      have hbd : (ls.length + 1) * 16 ≤ 1099511627776 := by omega
      have htk : List.take ls.length (strs ls) = strs ls := List.take_of_length_le (by omega)
      have hst : strs ls ++ [.str t] = strs (ls ++ [t]) := by simp [strs]
      have hl1 : (ls ++ [t]).length = ls.length + 1 := by simp
      simp (maxSteps := 3000000) only [qf, zH, vp, qe2, e1, e2, e3, e4, hs, hlen, hbd, htk, hst, Nat.mul_one, Nat.le_refl, Int.toNat_natCast, and_self, iE, iN, iB, iC, iL, iD, iA, iS, iM, qa, zZ, ↓qp, ↓reduceIte, reduceCtorEq, nA, nM, nS, nE, nL, nD]; try simp only [qa, zY]
      exact ⟨rfl, fin _ 2 _ hb (by omega) (by rw [hl1]; rfl) rfl rfl⟩
theorem qbl : ∀ M, M ≤ 20 → Am.Callee Try.prog 133 (ve M)
  | 0, _ => qtk (fun t o r h => absurd h.2.2.1 (by omega)) (fun ls t o r h => absurd h.2.2.1 (by omega))
  | M + 1, h => qtk (fun t o r h1 => qx8 M (qbl M (by omega)) t o r h1) (fun ls t o r h1 => q0p M (qbl M (by omega)) ls t o r h1)
end Go.Proofs.Ytfhckbbgmblhbaa
