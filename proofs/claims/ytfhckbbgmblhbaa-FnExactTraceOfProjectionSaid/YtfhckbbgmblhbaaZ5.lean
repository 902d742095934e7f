/- Contracts of functions of the program, and plain laws, part 5: each text of this part is proved without further condition. -/
import Derived.Test.YtfhckbbgmblhbaaZ4
import Derived.Test.YtfhckbbgmblhbaaZ3
import Derived.Test.YtfhckbbgmblhbaaZ2
namespace Go.Proofs.Ytfhckbbgmblhbaa
open Go.Am Go.Dia
open Nat renaming reduceAdd → nA, reduceMul → nM, reduceSub → nS, reduceEqDiff → nE, reduceLT → nL, reduceLeDiff → nD, reduceBEq → nB
open Int renaming reduceEq → iE, reduceNe → iN, reduceBEq → iB, reduceBNe → iC, reduceLT → iL, reduceLE → iD, reduceAdd → iA, reduceSub → iS, reduceMul → iM
set_option linter.unusedSimpArgs false
set_option linter.unusedVariables false
set_option maxRecDepth 4000
set_option maxHeartbeats 1000000
theorem qrg {n : Int} {m : List Nat} {S : List (Int × List Nat × Int)} (hm : m.length = 16) (ho : okT S) (h : Za n m S = none) (v : Int) :
    wk KD true (.agg (dia n m)) (esT 0 S) 0 = some none ∧ U3 n m S = 0 ∧ (AO.map (esT 0 S ++ [(⟨.agg (dia n m), .int .i64 v, S.length⟩ : AE)]) (S.length + 1)) = j5 (qag n m v S) := by
  refine ⟨by rw [Yq hm ho, h]; rfl, by unfold U3; rw [h], ?_⟩
  have e : qag n m v S = S ++ [(n, m, v)] := by unfold qag; rw [h]
  rw [e]
  show _ = AO.map (esT 0 (S ++ [(n, m, v)])) (S ++ [(n, m, v)]).length
  rw [ql0]; simp [esT]
theorem qrr {n : Int} {m : List Nat} {S : List (Int × List Nat × Int)} {j : Nat} (hm : m.length = 16) (ho : okT S) (h : Za n m S = some j) (v : Int) :
    wk KD true (.agg (dia n m)) (esT 0 S) 0 = some (some (j, ⟨.agg (dia n m), .int .i64 (U3 n m S), j⟩)) ∧ (AO.map ((esT 0 S).set j ⟨.agg (dia n m), .int .i64 v, j⟩) S.length) = j5 (qag n m v S) := by
  have e1 : U3 n m S = (S.getD j zT).2.2 := by unfold U3; rw [h]
  refine ⟨by rw [Yq hm ho, h, e1]; simp, ?_⟩
  have e : qag n m v S = S.set j (n, m, v) := by unfold qag; rw [h]
  rw [e]
  show _ = AO.map (esT 0 (S.set j (n, m, v))) (S.set j (n, m, v)).length
  have := qmy (n := n) (v := v) (m := m) (ts := S) (k := 0) (j := j)
  rw [Nat.zero_add] at this
  rw [this]; simp
theorem qyq {p c n : Int} (hp : 2 ≤ p ∧ p ≤ 97) (hc : 0 ≤ c ∧ c ≤ p - 1) {a b : List (Int × List Nat × Int)} (ha : z8 p n a) (hb : z8 p n b) (hl : a.length ≤ 300 ∧ b.length ≤ 300) {l : List (Int × List Nat × Int)} (h : ∀ t ∈ l, t ∈ vc p c n a b) (hl : l.length ≤ 100000) :
    ql8 p n (ML p n l) ∧ (ML p n l).length ≤ 100000 := by
  have hm := qq8 (c := c) hp hc ha hb
  have h1 := qht (p := p) (n := n) (by omega) (l := l) (acc := []) ⟨⟨(fun t h => by cases h), (fun t h => by cases h), (fun t h => by cases h), .nil⟩, fun t h => by cases h⟩ fun t ht => ⟨(hm t (h t ht)).1, (hm t (h t ht)).2.1⟩
  exact ⟨h1.1, Nat.le_trans h1.2 (by simpa using hl)⟩
theorem xz : B87 105 = some (j3) := rfl
theorem yl : B87 75 = some (qk u7) := rfl
theorem yo : B87 144 = some (qk jn) := rfl
def bq : AC := .seq (.region [oP 24 .lss 23 22]) (.seq (.cond 24 .skip (.exit 2)) (.seq (.block 3 (.seq (.region [oX 25 18 21 23,oN 26 18 25,o0 9 (.alloc [.int .i64 0,.int .u8 0,.int .u8 0,.int .u8 0,.int .u8 0,.int .u8 0,.int .u8 0,.int .u8 0,.int .u8 0,.int .u8 0,.int .u8 0,.int .u8 0,.int .u8 0,.int .u8 0,.int .u8 0,.int .u8 0,.int .u8 0,.int .i64 0]),oS 18 9 26]) (.seq (.region [oF 28 0 7,oN 29 17 28,oF 30 0 9,oN 31 17 30,oC 32 144 [.t 29,.t 31],oM 27 32,oE 33 0 27,oE 34 1 27,oD 10,oS 17 10 33,oM 11 34]) (.draw true [oM 35 5,oN 36 17 10,oM 37 5,oN 38 17 10,o0 39 (.lookup [.int,.int,.int,.int,.int,.int,.int,.int,.int,.int,.int,.int,.int,.int,.int,.int,.int] true (.int .i64 0) false (.t 37) (.t 38)),oF 40 17 7,oL 41 40,oF 42 17 9,oL 43 42,oP 44 .mul 41 43,oF 45 0 2,oL 46 45,oP 47 .rem 44 46,oF 48 1 2,oL 49 48,oM 50 11,oF 51 0 2,oL 52 51,oF 56 0 2,oL 57 56,oC 53 75 [.t 49,.t 50,.t 52],oP 54 .mul 47 53,oP 55 .add 39 54,oP 58 .rem 55 57,⟨none,none,.op (.Kn [.int,.int,.int,.int,.int,.int,.int,.int,.int,.int,.int,.int,.int,.int,.int,.int,.int] true (.t 35) (.t 36) (.t 58))⟩])))) (.region [oK 59 .add 23 1,oM 23 59])))
def W4 : AC := .region [oK 60 .add 16 1,oM 16 60]
def Z7 : AC := .seq (.region [oP 17 .lss 16 15]) (.seq (.cond 17 .skip (.exit 0)) (.seq (.block 1 (.seq (.region [oX 18 18 14 16,oN 19 18 18,o0 7 (.alloc [.int .i64 0,.int .u8 0,.int .u8 0,.int .u8 0,.int .u8 0,.int .u8 0,.int .u8 0,.int .u8 0,.int .u8 0,.int .u8 0,.int .u8 0,.int .u8 0,.int .u8 0,.int .u8 0,.int .u8 0,.int .u8 0,.int .u8 0,.int .i64 0]),oS 18 7 19]) (.seq (.region [oF 20 3 3,oL 21 20,o0 22 (.len .slc (.t 21)),oI 23 0]) (.block 2 (.loop bq))))) W4))
def Wy : AC := .seq (.region [oM 61 5,oC 62 105 [.t 2,.t 61],oS 4 4 62]) .ret
def Gh : AC := .seq (.region [o0 2 (.box (.t 0)),o0 3 (.box (.t 1)),oZ 4]) (.seq (.region [o0 12 (.Ku),oM 5 12]) (.seq (.seq (.region [oF 13 3 2,oL 14 13,o0 15 (.len .slc (.t 14)),oI 16 0]) (.block 0 (.loop Z7))) Wy))
theorem qi2 : zh Try.prog 90 = some ⟨63, Gh, [.bg 4 4]⟩ := by kernel_rfl
theorem qix (p c n p' c' : Int) (a b : List (Int × List Nat × Int)) (hp : 2 ≤ p ∧ p ≤ 97) (hc : 0 ≤ c ∧ c ≤ p - 1) (hn : 0 ≤ n ∧ n ≤ 8) (ha : z8 p n a) (hb : z8 p n b) (hl : a.length ≤ 300 ∧ b.length ≤ 300) :
    Am.Fn Try.prog 90 [elemV p c n 0 a.length, elemV p' c' n 1 b.length] [.ro (xb a), .ro (xb b)] (fun v H' => v = elemV p c n 2 (MP p n (vc p c n a b)).length ∧ H' = [.ro (xb a), .ro (xb b), .vec 18 (xb (MP p n (vc p c n a b)))]) := by
  refine Am.Fn.ofB qlh mixed qi2 (by simp [elemV, AV.qt, AV.under]) (K1 (qc _) (qc _)) ?_
  have hal := xe ha.ok
  have hbl := xe hb.ok
  simp (maxSteps := 3000000) only [qf, zH, Gh, xz, yl, yo, u7, jn, j3, elemV, hal, hbl, Nat.le_refl, iE, iN, iB, iC, iL, iD, iA, iS, iM, qa, zZ, ↓qp, ↓reduceIte, reduceCtorEq, nA, nM, nS, nE, nL, nD]; try simp only [qa, zY]
  have hlen2 : ∀ l : List (Int × List Nat × Int), (∀ t ∈ l, t ∈ vc p c n a b) → l.length ≤ 100000 → ql8 p n (ML p n l) ∧ (ML p n l).length ≤ 100000 := fun l h1 h2 => qyq (c := c) hp hc ha hb hl h1 h2
  refine WA.xo qlh (fun s => ∃ (i : Nat) (S : List (Int × List Nat × Int)), i ≤ a.length ∧ S = ML p n (vc p c n (a.take i) b) ∧ s = ⟨[(16, .int .i64 i), (15, .int .i64 a.length), (14, .slc 0 0 a.length false 0), (5, .map 5), (4, .ptr 4 0), (3, .ptr 3 0), (2, .ptr 2 0)], [.ro (xb a), .ro (xb b), .cells [.int .i64 p, .int .i64 c, .int .i64 n, .slc 0 0 a.length false 0], .cells [.int .i64 p', .int .i64 c', .int .i64 n, .slc 1 0 b.length false 0], q6c, j5 S]⟩)
    (fun s => match get s.env 16 with | .int _ x => a.length - x.toNat | _ => 0) ⟨_, qu.qv [16, 15, 14, 5, 4, 3, 2], 0, [], by omega, rfl, rfl⟩ ?_
  rintro s ⟨i, S, hi, hS, rfl⟩
  have hwi : qn .i64 ((i : Int) + 1) = ((i + 1 : Nat) : Int) := by rw [wrap64 (by omega) (by omega)]; rfl
  by_cases hlt : i < a.length
  · have hli : (i : Int) < a.length := by omega
    have hli' : (0 : Int) ≤ i := by omega
    have hg0 := Zw ha.ok hlt
    have ok1 := ha.ok _ (List.getElem_mem hlt)
    have z1 := ha.dia _ (List.getElem_mem hlt)
    have c1 := ha.fac _ (List.getElem_mem hlt)
    have hb1 : i * 18 < a.length * 18 := by omega
    have hb2 : i * 18 + 18 ≤ a.length * 18 := by omega
    have hov := X9 (t := (0, List.replicate 16 0, 0)) (u := a[i]) (by simp) ok1.1
    have htl := xv (t := a[i]) ok1
    have htd := Y1 (t := a[i]) ok1
    have htf := Qr (t := a[i]) ok1
    rw [z1.1] at htd
    have hmem : ∀ j, ∀ t ∈ vc p c n (a.take i) b ++ (b.take j).map (prT p c n a[i]), t ∈ vc p c n a b := fun j t ht => qy7 hlt ht
    have hmln : ∀ j, (vc p c n (a.take i) b ++ (b.take j).map (prT p c n a[i])).length ≤ 100000 := fun j => by
      rw [List.length_append, qhd, List.length_map, List.length_take, List.length_take]
      have h1 : (min i a.length) * b.length ≤ 300 * 300 := Nat.mul_le_mul (by omega) hl.2
      omega
    have hms : vc p c n (a.take (i + 1)) b = vc p c n (a.take i) b ++ b.map (prT p c n a[i]) := qvm hlt
    have hnx : ∀ j (h : j < b.length), (b.take (j + 1)).map (prT p c n a[i]) = (b.take j).map (prT p c n a[i]) ++ [prT p c n a[i] b[j]] := fun j h => qzw h
    obtain ⟨t, ht⟩ : ∃ t, t = a[i] := ⟨_, rfl⟩
    rw [← ht] at hg0 ok1 z1 c1 hov htl htd htf hms
    simp only [← ht] at hmem hmln hnx
    clear ht
    simp (maxSteps := 3000000) only [qf, zH, Z7, xz, yl, yo, u7, jn, j3, hli, hli', hal, hbl, hb1, hb2, hg0, Zb, htl, Z2, vo, hov, List.length_replicate, Nat.le_refl, iE, iN, iB, iC, iL, iD, iA, iS, iM, qa, zZ, ↓qp, ↓reduceIte, reduceCtorEq, nA, nM, nS, nE, nL, nD]; try simp only [qa, zY]
    have ea : vc p c n (a.take i) b = vc p c n (a.take i) b ++ (b.take 0).map (prT p c n t) := by simp
    rw [ea] at hS
    refine WA.xo qlh (fun s => ∃ (j : Nat) (S : List (Int × List Nat × Int)), j ≤ b.length ∧ S = ML p n (vc p c n (a.take i) b ++ (b.take j).map (prT p c n t)) ∧ s = ⟨[(23, .int .i64 j), (22, .int .i64 b.length), (21, .slc 1 0 b.length false 0), (7, .ptr 6 0), (16, .int .i64 i), (15, .int .i64 a.length), (14, .slc 0 0 a.length false 0), (5, .map 5), (4, .ptr 4 0), (3, .ptr 3 0), (2, .ptr 2 0)], [.ro (xb a), .ro (xb b), .cells [.int .i64 p, .int .i64 c, .int .i64 n, .slc 0 0 a.length false 0], .cells [.int .i64 p', .int .i64 c', .int .i64 n, .slc 1 0 b.length false 0], q6c, j5 S, .cells (trm t)]⟩)
      (fun s => match get s.env 23 with | .int _ x => b.length - x.toNat | _ => 0) ⟨_, qu.qv [23, 22, 21, 7, 16, 15, 14, 5, 4, 3, 2], 0, S, by omega, hS, rfl⟩ ?_
    clear hS
    rintro s ⟨j, S, hj, hS, rfl⟩
    by_cases hltj : j < b.length
    · obtain ⟨hs, hsl⟩ := hlen2 _ (hmem j) (hmln j)
      rw [← hS] at hs hsl
      have hlj : (j : Int) < b.length := by omega
      have hlj' : (0 : Int) ≤ j := by omega
      have hw : qn .i64 ((j : Int) + 1) = ((j + 1 : Nat) : Int) := by rw [wrap64 (by omega) (by omega)]; rfl
      have hq0 := Zw hb.ok hltj
      have ok2 := hb.ok _ (List.getElem_mem hltj)
      have z2 := hb.dia _ (List.getElem_mem hltj)
      have c2 := hb.fac _ (List.getElem_mem hltj)
      have hb4 : j * 18 < b.length * 18 := by omega
      have hb5 : j * 18 + 18 ≤ b.length * 18 := by omega
      have hov2 := X9 (t := (0, List.replicate 16 0, 0)) (u := b[j]) (by simp) ok2.1
      have htl2 := xv (t := b[j]) ok2
      have htd2 := Y1 (t := b[j]) ok2
      have htf2 := Qr (t := b[j]) ok2
      rw [z2.1] at htd2
      obtain ⟨t1, t2, t3, t4⟩ := qx7 (c := c) hp hc z1.2 z2.2 c1 c2
      have hnext : ML p n (vc p c n (a.take i) b ++ (b.take (j + 1)).map (prT p c n t)) = qdu p n (prT p c n t b[j]).2.1 (prT p c n t b[j]).2.2 S := by
        rw [hnx j hltj, ← List.append_assoc, q3m, ← hS]
      obtain ⟨u, hu⟩ : ∃ u, u = b[j] := ⟨_, rfl⟩
      rw [← hu] at hq0 ok2 z2 c2 hov2 htl2 htd2 htf2 t1 t2 t3 t4 hnext
      clear hu
      have s1 := z1.2
      have s2 := z2.2
      have hprd : (prT p c n t u).2.1 = xr n.toNat t.2.1 u.2.1 := rfl
      have hprf : (prT p c n t u).2.2 = (t.2.2 * u.2.2).emod p * xa p c (lpN n.toNat t.2.1 u.2.1 n.toNat) := rfl
      rw [hprd, hprf] at hnext
      rw [hprd] at t1 t2
      rw [hprf] at t3 t4
      have hlpb : (0 : Int) ≤ ((lpN n.toNat t.2.1 u.2.1 n.toNat : Nat) : Int) ∧ ((lpN n.toNat t.2.1 u.2.1 n.toNat : Nat) : Int) ≤ 1000000 := by
        have := qiw n.toNat t.2.1 u.2.1 n.toNat; omega
      obtain ⟨w1, w2, w3, w4⟩ := pow_mul (p := p) (c := u.2.2) (x := t.2.2) hp (by omega) (by omega)
      have w5 : qn .i64 ((t.2.2 * u.2.2).emod p * xa p c (lpN n.toNat t.2.1 u.2.1 n.toNat)) = (t.2.2 * u.2.2).emod p * xa p c (lpN n.toNat t.2.1 u.2.1 n.toNat) := wrap64 (by omega) (by omega)
      have hne : p ≠ 0 := by omega
      have hn0 : 0 ≤ n := hn.1
      have t0 := t1.1
      have hvb := q3k (by omega) hs (m := xr n.toNat t.2.1 u.2.1)
      have hkok : kok KD true (.agg (dia n (xr n.toNat t.2.1 u.2.1))) = true := qcj t0
      have hmT : j5 S = .map (esT 0 S) S.length := rfl
      have do1 := qy (n := n) ok1
      have do2 := qy (n := n) ok2
      clear hprd hprf
      cases hix : Za n (xr n.toNat t.2.1 u.2.1) S with
      | none =>
        obtain ⟨f1, f2, f3⟩ := qrg t0 hs.1.ok hix ((0 + (t.2.2 * u.2.2).emod p * xa p c (lpN n.toNat t.2.1 u.2.1 n.toNat)).emod p)
        have w6 : qn .i64 (0 + (t.2.2 * u.2.2).emod p * xa p c (lpN n.toNat t.2.1 u.2.1 n.toNat)) = 0 + (t.2.2 * u.2.2).emod p * xa p c (lpN n.toNat t.2.1 u.2.1 n.toNat) := wrap64 (by omega) (by omega)
        have w7 : Int.tmod (0 + (t.2.2 * u.2.2).emod p * xa p c (lpN n.toNat t.2.1 u.2.1 n.toNat)) p = (0 + (t.2.2 * u.2.2).emod p * xa p c (lpN n.toNat t.2.1 u.2.1 n.toNat)).emod p := Int.tmod_eq_emod_of_nonneg (by omega)
        simp (maxSteps := 3000000) only [qf, zH, bq, xz, yl, yo, u7, jn, j3, hlj, hlj', hal, hbl, hb4, hb5, hq0, Zb, htl, htl2, htd, htd2, htf, htf2, Z2, vo, hov2, x8, zm, Qy t0, qw t0, qe, t0, zq, List.length_replicate, Nat.le_refl, do1, do2, s1, s2, hn0, w1, w2, w5, w6, w7, hne, hp, hc, hlpb, Int.toNat_natCast, hmT, hkok, f1, jb, hw, and_self, iE, iN, iB, iC, iL, iD, iA, iS, iM, qa, zZ, ↓qp, ↓reduceIte, reduceCtorEq, nA, nM, nS, nE, nL, nD]; try simp only [qa, zY]
        rw [f3]
        refine ⟨⟨_, rfl⟩, _, qu.xy [0, 1, 2, 3, 4, 5, 6] [23, 22, 21, 7, 16, 15, 14, 5, 4, 3, 2] ⟨by decide, ?_⟩ ?_, ⟨j + 1, qag n (xr n.toNat t.2.1 u.2.1) ((0 + (t.2.2 * u.2.2).emod p * xa p c (lpN n.toNat t.2.1 u.2.1 n.toNat)).emod p) S, by omega, by rw [hnext, qdu, f2], ?_⟩, ?_⟩
        · simp only [qh _ _ (qc _), qh _ _ (Q0 _), j5, ↓q9, zK, ↓reduceIte, reduceCtorEq, nE, nB, nA]
        · simp only [qh _ _ (qc _), qh _ _ (Q0 _), j5, ↓q9, zK, ↓reduceIte, reduceCtorEq, nE, nB, nA]
        · simp only [qb _ _ (qc _), qb _ _ (Q0 _), j5, ↓vf, zL, ↓reduceIte, reduceCtorEq, nE, nA]
        · simp only [zL, ↓reduceIte, reduceCtorEq, nE, nA]; omega
      | some q =>
        obtain ⟨f1, f3⟩ := qrr t0 hs.1.ok hix ((U3 n (xr n.toNat t.2.1 u.2.1) S + (t.2.2 * u.2.2).emod p * xa p c (lpN n.toNat t.2.1 u.2.1 n.toNat)).emod p)
        have w6 : qn .i64 (U3 n (xr n.toNat t.2.1 u.2.1) S + (t.2.2 * u.2.2).emod p * xa p c (lpN n.toNat t.2.1 u.2.1 n.toNat)) = U3 n (xr n.toNat t.2.1 u.2.1) S + (t.2.2 * u.2.2).emod p * xa p c (lpN n.toNat t.2.1 u.2.1 n.toNat) := wrap64 (by omega) (by omega)
        have w7 : Int.tmod (U3 n (xr n.toNat t.2.1 u.2.1) S + (t.2.2 * u.2.2).emod p * xa p c (lpN n.toNat t.2.1 u.2.1 n.toNat)) p = (U3 n (xr n.toNat t.2.1 u.2.1) S + (t.2.2 * u.2.2).emod p * xa p c (lpN n.toNat t.2.1 u.2.1 n.toNat)).emod p := Int.tmod_eq_emod_of_nonneg (by omega)
        simp (maxSteps := 3000000) only [qf, zH, bq, xz, yl, yo, u7, jn, j3, hlj, hlj', hal, hbl, hb4, hb5, hq0, Zb, htl, htl2, htd, htd2, htf, htf2, Z2, vo, hov2, x8, zm, Qy t0, qw t0, qe, t0, zq, List.length_replicate, Nat.le_refl, do1, do2, s1, s2, hn0, w1, w2, w5, w6, w7, hne, hp, hc, hlpb, Int.toNat_natCast, hmT, hkok, f1, jb, hw, and_self, iE, iN, iB, iC, iL, iD, iA, iS, iM, qa, zZ, ↓qp, ↓reduceIte, reduceCtorEq, nA, nM, nS, nE, nL, nD]; try simp only [qa, zY]
        rw [f3]
        refine ⟨⟨_, rfl⟩, _, qu.xy [0, 1, 2, 3, 4, 5, 6] [23, 22, 21, 7, 16, 15, 14, 5, 4, 3, 2] ⟨by decide, ?_⟩ ?_, ⟨j + 1, qag n (xr n.toNat t.2.1 u.2.1) ((U3 n (xr n.toNat t.2.1 u.2.1) S + (t.2.2 * u.2.2).emod p * xa p c (lpN n.toNat t.2.1 u.2.1 n.toNat)).emod p) S, by omega, by rw [hnext, qdu], ?_⟩, ?_⟩
        · simp only [qh _ _ (qc _), qh _ _ (Q0 _), j5, ↓q9, zK, ↓reduceIte, reduceCtorEq, nE, nB, nA]
        · simp only [qh _ _ (qc _), qh _ _ (Q0 _), j5, ↓q9, zK, ↓reduceIte, reduceCtorEq, nE, nB, nA]
        · simp only [qb _ _ (qc _), qb _ _ (Q0 _), j5, ↓vf, zL, ↓reduceIte, reduceCtorEq, nE, nA]
        · simp only [zL, ↓reduceIte, reduceCtorEq, nE, nA]; omega
    · have hlj : ¬ ((j : Int) < b.length) := by omega
      obtain rfl : j = b.length := by omega
      simp (maxSteps := 3000000) only [qf, zH, bq, W4, xz, yl, yo, u7, jn, j3, hlj, hwi, hbl, Int.lt_irrefl, iE, iN, iB, iC, iL, iD, iA, iS, iM, qa, zZ, ↓qp, ↓reduceIte, reduceCtorEq, nA, nM, nS, nE, nL, nD]; try simp only [qa, zY]
      refine ⟨_, qu.xy [0, 1, 2, 3, 4, 5] [16, 15, 14, 5, 4, 3, 2] ⟨by decide, ?_⟩ ?_, ⟨i + 1, S, by omega, by rw [hS, List.take_length, hms], ?_⟩, ?_⟩
      · simp only [qh _ _ (qc _), j5, ↓q9, zK, ↓reduceIte, reduceCtorEq, nE, nB, nA]
      · simp only [qh _ _ (qc _), j5, ↓q9, zK, ↓reduceIte, reduceCtorEq, nE, nB, nA]
      · simp only [qb _ _ (qc _), j5, ↓vf, zL, ↓reduceIte, reduceCtorEq, nE, nA]
      · simp only [zL, ↓reduceIte, reduceCtorEq, nE, nA]; omega
  · have hli : ¬ ((i : Int) < a.length) := by omega
    obtain rfl : i = a.length := by omega
    rw [List.take_length] at hS
    obtain ⟨hs, hsl⟩ := hlen2 (vc p c n a b) (fun t h => h) (by
      rw [qhd]
      have : a.length * b.length ≤ 300 * 300 := Nat.mul_le_mul hl.1 hl.2
      omega)
    have hlaw := q3o (p := p) (n := n) (by omega) (qq8 (c := c) hp hc ha hb)
    have hll : (zr p (ML p n (vc p c n a b))).length = (MP p n (vc p c n a b)).length := by rw [← hlaw]; exact (ua _).length_eq.symm
    rw [← hll, ← hlaw]
    rw [← hS] at hs hsl ⊢
    clear hS hll hlaw
    have hap := qds hs.1
    obtain ⟨hz1, hz2, hz3⟩ := qsn (p := p) hn hs.1
    have hSo := hs.1.ok
    have hmT : j5 S = .map (esT 0 S) S.length := rfl
    have hts := qgj (ts := S) (k := 0) hSo
    have hSl' : S.length ≤ 1000000 := by omega
    have hpp : 0 < p ∧ p ≤ 1000000 := by omega
    simp (maxSteps := 3000000) only [qf, zH, Z7, Wy, xz, yl, yo, u7, jn, j3, hli, hmT, Int.lt_irrefl, hts, hpp, hSl', hz1, hz2, hap, and_self, elemV, iE, iN, iB, iC, iL, iD, iA, iS, iM, qa, zZ, ↓qp, ↓reduceIte, reduceCtorEq, nA, nM, nS, nE, nL, nD]; try simp only [qa, zY]
    rw [hz3]
    refine ⟨hz2, rfl, ?_⟩
    refine Ret.xy [0, 1, 6] ⟨⟨by simp, rfl, by decide⟩, ?_⟩ (rs := [.agg [.int .i64 p, .int .i64 c, .int .i64 n, .slc 6 0 (zr p S).length false 0]]) rfl rfl (by simp [xt]) ?_ ⟨?_, ?_⟩
    · simp only [qh _ _ (qc _), ↓q9, zK, ↓reduceIte, reduceCtorEq, nE, nB, nA]
    · intro j l; match j with
      | 0 => simp [zj, AO.ren]
      | 1 => simp [zj, AO.ren]
      | 2 => simp [zj, AO.ren]
      | j + 3 => simp [zj]
    · simp only [xt]
      simp only [zL, ↓reduceIte, reduceCtorEq, nE, nA]
    · simp only [qb _ _ (qc _), zL, ↓reduceIte, reduceCtorEq, nE, nA]
noncomputable def B88 : zb := (B87.put 90 (qgy))
theorem q47 : qo Try.prog B88 := (qlh.put (qyg qix))
theorem U9 {p c n : Int} (hp : 2 ≤ p ∧ p ≤ 97) (hc : 0 ≤ c ∧ c ≤ p - 1) {a b : List (Int × List Nat × Int)} (ha : z8 p n a) (hb : z8 p n b) (hl : a.length ≤ 300 ∧ b.length ≤ 300) : z8 p n (MP p n (vc p c n a b)) ∧ (MP p n (vc p c n a b)).length ≤ 100000 := by
  have h0 : z8 p n [] := ⟨(fun t h => by cases h), (fun t h => by cases h), (fun t h => by cases h), .nil⟩
  have h := Kf (p := p) (F := 10000) (φ := id) (κ := fun _ => 1) (by omega) h0 (qq8 (c := c) hp hc ha hb)
  refine ⟨h.1, Nat.le_trans h.2 ?_⟩
  rw [List.length_nil, qhd]
  have h1 : a.length * b.length ≤ 300 * 300 := Nat.mul_le_mul hl.1 hl.2
  omega
noncomputable def B89 : zb := B88
theorem q54 : qo Try.prog B89 := q47
theorem V8 (l : List (Int × List Nat × Int)) : AV.ka (xb l) = [] := zy _ (qc l)
noncomputable def B91 : zb := ((B89.put 143 (Qe)).put 88 (qk jd))
theorem qy4 : qo Try.prog B91 := ((q54.put (q0n)).put (qdv qy2))
theorem X6 {m : List Nat} {i k : Nat} (hm : okD m) (hi : i < 16) (hk : k < 16) : okD ((m.set i k).set k i) := by
  refine ⟨by simp [hm.1], fun x hx => ?_⟩
  rcases List.mem_or_eq_of_mem_set hx with hx | rfl
  · rcases List.mem_or_eq_of_mem_set hx with hx | rfl
    · exact hm.2 x hx
    · omega
  · omega
def qfo : AC := .seq (.region [o0 3 (.box (.t 0)),oD 6]) (.seq (.region [oM 7 1,oM 8 2,o0 9 (.conv .u8 (.t 8)),oF 10 1 3,o0 11 (.zn 16 1 (.t 10) (.t 7)),oT 11 9]) (.seq (.region [oM 12 2,oM 13 1,o0 14 (.conv .u8 (.t 13)),oF 15 1 3,o0 16 (.zn 16 1 (.t 15) (.t 12)),oT 16 14]) (.seq (.region [oN 17 17 3,oS 17 6 17]) .ret)))
theorem qqs : zh Try.prog 139 = some ⟨18, qfo, [.bg 6 17]⟩ := by kernel_rfl
theorem qn0 (n : Int) (m : List Nat) (i k : Nat) (hm : okD m) (hi : i < 16) (hk : k < 16) :
    Am.Fn Try.prog 139 [.agg (dia n m), .int .i64 i, .int .i64 k] [] (fun v H' => v = .agg (dia n ((m.set i k).set k i)) ∧ H' = []) := by
  refine Am.Fn.xp (R := fun v => v = _) qy4 mixed qqs (by simp) (by simp) ?_
  obtain ⟨a1, a2⟩ := x9 hi
  obtain ⟨b1, b2⟩ := x9 hk
  have hu1 : qn .u8 (i : Int) = i := Uu (by omega)
  have hu2 : qn .u8 (k : Int) = k := Uu (by omega)
  have hml := hm.1
  have hs := (X6 hm hi hk).1
  simp (maxSteps := 3000000) only [qf, zH, qfo, x8, zm, qe, hml, List.length_set, a1, a2, b1, b2, hu1, hu2, K9, AV.one, qw hs, xn xd hs, zq, List.length_replicate, iE, iN, iB, iC, iL, iD, iA, iS, iM, qa, zZ, ↓qp, ↓reduceIte, reduceCtorEq, nA, nM, nS, nE, nL, nD]; try simp only [qa, zY]
  exact qg _ _
def j7 : List AV → Option AV
  | [.agg l, .int .i64 i, .int .i64 k] => match vy l with
    | some (n, m) => chk ((0 ≤ i ∧ i < 16) ∧ (0 ≤ k ∧ k < 16)) (some (.agg (dia n ((m.set i.toNat k.toNat).set k.toNat i.toNat))))
    | none => none
  | _ => none
theorem q3w : Am.Callee Try.prog 139 (qk j7) := Am.Callee.plain fun xs v he => by
  unfold j7 at he
  split at he
  · rename_i l i k
    split at he
    · rename_i n m hd
      obtain ⟨⟨h1, h2⟩, he⟩ := qm he
      cases he
      obtain ⟨rfl, hm⟩ := zl hd
      obtain ⟨i, rfl⟩ : ∃ j : Nat, i = j := ⟨i.toNat, by omega⟩
      obtain ⟨k, rfl⟩ : ∃ j : Nat, k = j := ⟨k.toNat, by omega⟩
      simp only [Int.toNat_natCast]
      exact ⟨by simp only [AV.zf, AV.zo, qg, Bool.and_self], by simp only [AV.zo, qg], qn0 n m i k hm (by omega) (by omega)⟩
    · cases he
  · cases he
noncomputable def B92 : zb := (B91.put 139 (qk j7))
theorem qq3 : qo Try.prog B92 := (qy4.put (q3w))
theorem Je : B92 103 = some (kx wt) := rfl
theorem Ze : B92 97 = some (Xu) := rfl
theorem bd : B92 143 = some (Qe) := rfl
theorem Yl : B92 88 = some (qk jd) := rfl
theorem Xl : B92 139 = some (qk j7) := rfl
def Yc : AC := .seq (.seq (.region [oM 7 4,oM 8 0,oP 9 .lss 7 8]) (.cond 9 .skip (.exit 0))) (.seq (.block 1 (.region [oN 12 17 3,oM 13 4,oM 14 0,oM 15 4,oP 16 .add 14 15,oC 17 139 [.t 12,.t 13,.t 16],oS 17 3 17])) (.region [oM 10 4,oK 11 .add 10 1,oM 4 11]))
def qaq : AC := .seq (.region [oN 18 17 3,oS 17 2 18]) .ret
def qiz : AC := .seq (.region [oD 2]) (.seq (.region [oM 5 0,o0 6 (.build [.int .i64 0,.int .u8 0,.int .u8 0,.int .u8 0,.int .u8 0,.int .u8 0,.int .u8 0,.int .u8 0,.int .u8 0,.int .u8 0,.int .u8 0,.int .u8 0,.int .u8 0,.int .u8 0,.int .u8 0,.int .u8 0,.int .u8 0] [(0,1,.t 5)]),oD 3,oS 17 3 6]) (.seq (.seq (.region [oI 4 0]) (.block 0 (.loop Yc))) qaq))
theorem qrw : zh Try.prog 83 = some ⟨19, qiz, [.bg 2 17]⟩ := by kernel_rfl
theorem qq6 (n : Nat) (hn : n ≤ 8) : Am.Fn Try.prog 83 [.int .i64 n] [] (fun v H' => v = .agg (dia n (wu n)) ∧ H' = []) := by
  refine Am.Fn.xp (R := fun v => v = _) qq3 mixed qrw (by simp) (by simp) ?_
  simp (maxSteps := 3000000) only [qf, zH, qiz, Je, Ze, bd, Yl, Xl, Xu, Qe, wt, j7, jd, x8, zm, Qp, qe, zq, xn xd xd, List.length_replicate, iE, iN, iB, iC, iL, iD, iA, iS, iM, qa, zZ, ↓qp, ↓reduceIte, reduceCtorEq, nA, nM, nS, nE, nL, nD]; try simp only [qa, zY]
  refine WA.xo qq3 (fun s => ∃ i : Nat, i ≤ n ∧ s = ⟨[(4, .int .i64 i), (3, .ptr 1 0), (2, .ptr 0 0), (0, .int .i64 n)], [.cells (dia 0 (List.replicate 16 0)), .cells (dia n (W6 n i))]⟩)
    (fun s => match get s.env 4 with | .int _ x => n - x.toNat | _ => 0) ⟨_, qu.qv [4, 3, 2, 0], 0, by omega, rfl⟩ ?_
  rintro s ⟨i, hi, rfl⟩
  have hw : qn .i64 ((i : Int) + 1) = ((i + 1 : Nat) : Int) := by rw [wrap64 (by omega) (by omega)]; rfl
  have hok := Yw hn hi
  have hok1 := hok.1
  by_cases hlt : i < n
  · have hli : (i : Int) < (n : Int) := by omega
    have h2 : qn .i64 ((n : Int) + i) = ((n + i : Nat) : Int) := by rw [wrap64 (by omega) (by omega)]; rfl
    have c1 : (0 : Int) ≤ i ∧ (i : Int) < 16 := by omega
    have c2 : (0 : Int) ≤ (n + i : Nat) ∧ ((n + i : Nat) : Int) < 16 := by omega
    have hnext : W6 n (i + 1) = ((W6 n i).set i (n + i)).set (n + i) i := rfl
    have hok2 := (Yw hn hlt).1
    rw [hnext] at hok2
    simp (maxSteps := 3000000) only [qf, zH, Yc, Je, Ze, bd, Yl, Xl, Xu, Qe, wt, j7, jd, hli, hw, h2, qy hok, c1, c2, qe, hok1, hok2, qw hok1, xn hok1 hok2, zq, List.length_set, and_self, iE, iN, iB, iC, iL, iD, iA, iS, iM, qa, zZ, ↓qp, ↓reduceIte, reduceCtorEq, nA, nM, nS, nE, nL, nD]; try simp only [qa, zY]
    refine ⟨_, qu.qv [4, 3, 2, 0], ⟨i + 1, by omega, ?_⟩, ?_⟩
    · simp only [zL, ↓reduceIte, reduceCtorEq, nE, nA]; rw [hnext]
    · simp only [zL, ↓reduceIte, reduceCtorEq, nE, nA]; omega
  · have hli : ¬ ((i : Int) < (n : Int)) := by omega
    obtain rfl : i = n := by omega
    simp (maxSteps := 3000000) only [qf, zH, Yc, qaq, Je, Ze, bd, Yl, Xl, Xu, Qe, wt, j7, jd, hli, qe, hok1, qw hok1, xn xd hok1, zq, List.length_replicate, Int.lt_irrefl, iE, iN, iB, iC, iL, iD, iA, iS, iM, qa, zZ, ↓qp, ↓reduceIte, reduceCtorEq, nA, nM, nS, nE, nL, nD]; try simp only [qa, zY]
    exact ⟨qg _ _, rfl⟩
noncomputable def B93 : zb := (B92.put 83 (qk jd))
theorem qsf : qo Try.prog B93 := (qq3.put (qdv qq6))
theorem Bk : B93 103 = some (kx wt) := rfl
theorem W1 : B93 97 = some (Xu) := rfl
theorem Xa : B93 143 = some (Qe) := rfl
theorem qay : B93 88 = some (qk jd) := rfl
theorem Uj : B93 139 = some (qk j7) := rfl
theorem Bu : B93 83 = some (qk jd) := rfl
def X2 (n i : Nat) : List Nat := ((((wu n).set i (i + 1)).set (i + 1) i).set (n + i) (n + i + 1)).set (n + i + 1) (n + i)
theorem qw6 {n : Nat} (h : 1 ≤ n ∧ n ≤ 8) : isS n (wu n) = true := by
  have h0 : ((List.range 9).all fun n => n == 0 || isS n (wu n)) = true := by decide
  have h1 := List.all_eq_true.1 h0 n (List.mem_range.2 (by omega))
  simpa [show n ≠ 0 by omega] using h1
theorem q3c {n i : Nat} (h : n ≤ 8) (hi : i + 1 < n) : isS n (X2 n i) = true := by
  have h0 : ((List.range 9).all fun n => (List.range n).all fun i => i + 1 == n || isS n (X2 n i)) = true := by decide
  have h1 := List.all_eq_true.1 (List.all_eq_true.1 h0 n (List.mem_range.2 (by omega))) i (List.mem_range.2 (by omega))
  simpa [show i + 1 ≠ n by omega] using h1
theorem Vz {n : Nat} (hn : n ≤ 8) : okD (wu n) := Yw hn (Nat.le_refl n)
theorem qgh {n i : Nat} (hn : n ≤ 8) (hi : i + 1 < n) : okD (X2 n i) := X6 (X6 (Vz hn) (by omega) (by omega)) (by omega) (by omega)
def qgz : AC := .seq (.region [oD 4]) (.seq (.region [oM 5 0,oC 6 83 [.t 5],oM 7 1,oM 8 1,oK 9 .add 8 1,oC 10 139 [.t 6,.t 7,.t 9],oM 11 0,oM 12 1,oP 13 .add 11 12,oM 14 0,oM 15 1,oP 16 .add 14 15,oK 17 .add 16 1,oC 18 139 [.t 10,.t 13,.t 17],oS 17 4 18]) .ret)
theorem qrt : zh Try.prog 84 = some ⟨19, qgz, [.bg 4 17]⟩ := by kernel_rfl
theorem qsm (n i : Nat) (hn : n ≤ 8) (hi : i + 1 < n) : Am.Fn Try.prog 84 [.int .i64 n, .int .i64 i] [] (fun v H' => v = .agg (dia n (X2 n i)) ∧ H' = []) := by
  refine Am.Fn.xp (R := fun v => v = _) qsf mixed qrt (by simp) (by simp) ?_
  have w1 : qn .i64 ((i : Int) + 1) = ((i + 1 : Nat) : Int) := by rw [wrap64 (by omega) (by omega)]; rfl
  have w2 : qn .i64 ((n : Int) + i) = ((n + i : Nat) : Int) := by rw [wrap64 (by omega) (by omega)]; rfl
  have w3 : qn .i64 (((n + i : Nat) : Int) + 1) = ((n + i + 1 : Nat) : Int) := by rw [wrap64 (by omega) (by omega)]; rfl
  have c0 : (0 : Int) ≤ n ∧ (n : Int) ≤ 8 := by omega
  have c1 : (0 : Int) ≤ i ∧ (i : Int) < 16 := by omega
  have c2 : (0 : Int) ≤ (i + 1 : Nat) ∧ ((i + 1 : Nat) : Int) < 16 := by omega
  have c3 : (0 : Int) ≤ (n + i : Nat) ∧ ((n + i : Nat) : Int) < 16 := by omega
  have c4 : (0 : Int) ≤ (n + i + 1 : Nat) ∧ ((n + i + 1 : Nat) : Int) < 16 := by omega
  have o1 := Vz hn
  have o2 := X6 (i := i) (k := i + 1) o1 (by omega) (by omega)
  have o3 : ((((wu n).set i (i + 1)).set (i + 1) i).set (n + i) (n + i + 1)).set (n + i + 1) (n + i) = X2 n i := rfl
  have o4 := (qgh hn hi).1
  simp (maxSteps := 3000000) only [qf, zH, qgz, Bk, W1, Xa, qay, Uj, Bu, Xu, Qe, wt, j7, jd, w1, w2, w3, c0, c1, c2, c3, c4, qy o1, qy o2, o3, x8, zm, qe, o4, qw o4, xn xd o4, zq, List.length_replicate, and_self, iE, iN, iB, iC, iL, iD, iA, iS, iM, qa, zZ, ↓qp, ↓reduceIte, reduceCtorEq, nA, nM, nS, nE, nL, nD]; try simp only [qa, zY]
  exact qg _ _
def Wo : List AV → Option AV
  | [.int .i64 n, .int .i64 i] => chk (n ≤ 8 ∧ 0 ≤ i ∧ i + 1 < n) (some (.agg (dia n (X2 n.toNat i.toNat))))
  | _ => none
theorem qne {f : FuncId} (h : ∀ n i : Nat, n ≤ 8 → i + 1 < n → Am.Fn Try.prog f [.int .i64 n, .int .i64 i] [] (fun v H' => v = .agg (dia n (X2 n i)) ∧ H' = [])) : Am.Callee Try.prog f (qk Wo) := Am.Callee.plain fun xs v he => by
  unfold Wo at he
  split at he
  · rename_i n i
    obtain ⟨h1, he⟩ := qm he
    cases he
    obtain ⟨n, rfl⟩ : ∃ j : Nat, n = j := ⟨n.toNat, by omega⟩
    obtain ⟨i, rfl⟩ : ∃ j : Nat, i = j := ⟨i.toNat, by omega⟩
    simp only [Int.toNat_natCast]
    exact ⟨rfl, by simp only [AV.zo, qg], h n i (by omega) (by omega)⟩
  · cases he
def qaz : AC := .seq (.region [oD 4]) (.seq (.region [oM 6 0,oC 7 88 [.t 6],oD 5,oS 17 5 7]) (.seq (.region [oM 8 1,oM 9 1,oK 10 .add 9 1,oC 11 143 [.t 5,.t 8,.t 10]]) (.seq (.region [oM 12 0,oM 13 1,oP 14 .add 12 13,oM 15 0,oM 16 1,oP 17 .add 15 16,oK 18 .add 17 1,oC 19 143 [.t 5,.t 14,.t 18]]) (.seq (.region [oN 20 17 5,oS 17 4 20]) .ret))))
theorem qji : zh Try.prog 125 = some ⟨21, qaz, [.bg 4 17]⟩ := by kernel_rfl
theorem qjg (n i : Nat) (hn : n ≤ 8) (hi : i + 1 < n) : Am.Fn Try.prog 125 [.int .i64 n, .int .i64 i] [] (fun v H' => v = .agg (dia n (X2 n i)) ∧ H' = []) := by
  refine Am.Fn.xp (R := fun v => v = _) qsf mixed qji (by simp) (by simp) ?_
  have w1 : qn .i64 ((i : Int) + 1) = ((i + 1 : Nat) : Int) := by rw [wrap64 (by omega) (by omega)]; rfl
  have w2 : qn .i64 ((n : Int) + i) = ((n + i : Nat) : Int) := by rw [wrap64 (by omega) (by omega)]; rfl
  have w3 : qn .i64 (((n + i : Nat) : Int) + 1) = ((n + i + 1 : Nat) : Int) := by rw [wrap64 (by omega) (by omega)]; rfl
  have c0 : (0 : Int) ≤ n ∧ (n : Int) ≤ 8 := by omega
  have c1 : (0 : Int) ≤ i ∧ (i : Int) < 16 := by omega
  have c2 : (0 : Int) ≤ (i + 1 : Nat) ∧ ((i + 1 : Nat) : Int) < 16 := by omega
  have c3 : (0 : Int) ≤ (n + i : Nat) ∧ ((n + i : Nat) : Int) < 16 := by omega
  have c4 : (0 : Int) ≤ (n + i + 1 : Nat) ∧ ((n + i + 1 : Nat) : Int) < 16 := by omega
  have o1 := Vz hn
  have o2 := X6 (i := i) (k := i + 1) o1 (by omega) (by omega)
  have o3 : ((((wu n).set i (i + 1)).set (i + 1) i).set (n + i) (n + i + 1)).set (n + i + 1) (n + i) = X2 n i := rfl
  have o4 := (qgh hn hi).1
  have o5 := o1.1
  simp (maxSteps := 3000000) only [qf, zH, qaz, Bk, W1, Xa, qay, Uj, Bu, Xu, Qe, wt, j7, jd, w1, w2, w3, c0, c1, c2, c3, c4, qy o1, qy o2, o3, x8, zm, qe, o4, o5, qw o4, qw o5, xn xd o4, xn xd o5, zq, List.length_replicate, and_self, iE, iN, iB, iC, iL, iD, iA, iS, iM, qa, zZ, ↓qp, ↓reduceIte, reduceCtorEq, nA, nM, nS, nE, nL, nD]; try simp only [qa, zY]
  exact qg _ _
noncomputable def B94 : zb := ((B93.put 84 (qk Wo)).put 125 (qk Wo))
theorem q4v : qo Try.prog B94 := ((qsf.put (qne qsm)).put (qne qjg))
noncomputable def B95 : zb := B94
theorem qlb : qo Try.prog B95 := q4v
def qly (p x : Nat) : Nat → Nat
  | 0 => 1
  | k + 1 => qly p x k * x % p
def q6q (a b : Bool) : Bool := cond a b (!b)
def q6h : Bool := (List.range 98).all fun p => !zx p || (List.range p).all fun x => Nat.beq x 0 || (List.range p).all fun k => q6q (Nat.beq (k * x % p) 1) (Nat.beq k (qly p x (p - 2)))
theorem qw1 : q6h = true := by kernel_rfl
theorem qkd (p x : Nat) : ∀ k, xa p x k = (qly p x k : Nat)
  | 0 => rfl
  | k + 1 => by
    show (xa p x k * x).emod p = ((qly p x k * x % p : Nat) : Int)
    rw [qkd p x k, Int.natCast_emod, Int.natCast_mul]; rfl
theorem qyc {a b : Bool} (h : q6q a b = true) : a = b := by cases a <;> cases b <;> simp_all [q6q]
noncomputable def V4 (p x : Int) : Int := xa p x (p - 2).toNat
theorem qg7 {p x : Int} (hp : zx p = true) (hx : 1 ≤ x ∧ x ≤ p - 1) : (1 ≤ V4 p x ∧ V4 p x ≤ p - 1) ∧ ∀ k : Int, 0 ≤ k → k < p → ((k * x).emod p = 1 ↔ k = V4 p x) := by
  have hb := uu hp
  obtain ⟨P, rfl⟩ : ∃ P : Nat, p = P := ⟨p.toNat, by omega⟩
  obtain ⟨X, rfl⟩ : ∃ X : Nat, x = X := ⟨x.toNat, by omega⟩
  have h1 := List.all_eq_true.1 qw1 P (List.mem_range.2 (by omega))
  rw [hp, Bool.not_true, Bool.false_or] at h1
  have h2 := List.all_eq_true.1 h1 X (List.mem_range.2 (by omega))
  have hX0 : Nat.beq X 0 = false := by
    cases h : Nat.beq X 0 with
    | false => rfl
    | true => have := Nat.eq_of_beq_eq_true h; omega
  rw [hX0, Bool.false_or] at h2
  have h3 : ∀ k : Nat, k < P → (k * X % P = 1 ↔ k = qly P X (P - 2)) := fun k hk => by
    have h4 := qyc (List.all_eq_true.1 h2 k (List.mem_range.2 hk))
    constructor
    · intro h
      rw [h] at h4
      exact Nat.eq_of_beq_eq_true (h4.symm.trans rfl)
    · intro h
      rw [h, Nat.beq_refl] at h4
      rw [h]
      exact Nat.eq_of_beq_eq_true h4
  have e1 : V4 P X = (qly P X (P - 2) : Nat) := by
    unfold V4
    rw [qkd]
    congr 2
    omega
  have hv : qly P X (P - 2) < P := by
    rcases Nat.eq_zero_or_pos (P - 2) with h | h
    · rw [h]; show 1 < P; omega
    · obtain ⟨j, hj⟩ : ∃ j, P - 2 = j + 1 := ⟨P - 3, by omega⟩
      rw [hj]
      exact Nat.mod_lt _ (by omega)
  have hv1 : 1 ≤ qly P X (P - 2) := by
    have := (h3 _ hv).2 rfl
    rcases Nat.eq_zero_or_pos (qly P X (P - 2)) with h | h
    · rw [h, Nat.zero_mul, Nat.zero_mod] at this; omega
    · exact h
  rw [e1]
  refine ⟨by omega, fun k hk hkp => ?_⟩
  obtain ⟨K, rfl⟩ : ∃ K : Nat, k = K := ⟨k.toNat, by omega⟩
  have h5 := h3 K (by omega)
  have h6 : ((K : Int) * X).emod P = ((K * X % P : Nat) : Int) := by rw [Int.natCast_emod, Int.natCast_mul]; rfl
  rw [h6]
  omega
theorem Vk : B95 75 = some (qk u7) := rfl
theorem Jk : B95 70 = some (qk J0) := rfl
def qfd : AC := .seq (.region [oI 4 0]) (.seq (.region [oM 5 0,oM 6 1,oK 7 .sub 6 2,oM 8 1,oC 9 75 [.t 5,.t 7,.t 8],oM 4 9]) .ret)
theorem qqz : zh Try.prog 72 = some ⟨10, qfd, [.slot 4]⟩ := by kernel_rfl
theorem qoi (p x : Int) (hp : zx p = true) (hx : 1 ≤ x ∧ x ≤ p - 1) : Am.Fn Try.prog 72 [.int .i64 x, .int .i64 p] [] (fun v H' => v = .int .i64 (V4 p x) ∧ H' = []) := by
  refine Am.Fn.xp (R := fun v => v = _) qlb mixed qqz (by simp) (by simp) ?_
  have hb := uu hp
  have hw : qn .i64 (p - 2) = p - 2 := wrap64 (by omega) (by omega)
  have c1 : 0 ≤ x ∧ x ≤ p - 1 := by omega
  have c2 : 0 ≤ p - 2 ∧ p - 2 ≤ 1000000 := by omega
  have e : xa p x (p - 2).toNat = V4 p x := rfl
  simp (maxSteps := 3000000) only [qf, zH, qfd, Vk, Jk, u7, J0, hb, hw, c1, c2, e, and_self, iE, iN, iB, iC, iL, iD, iA, iS, iM, qa, zZ, ↓qp, ↓reduceIte, reduceCtorEq, nA, nM, nS, nE, nL, nD]; try simp only [qa, zY]
def Zm : AC := .seq (.seq (.region [oM 6 5,oM 7 0,oP 8 .lss 6 7]) (.cond 8 .skip (.exit 0))) (.seq (.block 1 (.seq (.region [oM 11 5,oM 12 0,oM 13 1,oC 14 70 [.t 12,.t 13],oP 15 .mul 11 14,oM 16 0,oP 17 .rem 15 16,oK 18 .eql 17 1]) (.cond 18 (.seq (.region [oM 19 5,oM 4 19]) .ret) .skip))) (.region [oM 9 5,oK 10 .add 9 1,oM 5 10]))
def qbu : AC := .seq (.region [oI 4 0]) .ret
def G3 : AC := .seq (.region [oI 4 0]) (.seq (.seq (.region [oI 5 1]) (.block 0 (.loop Zm))) qbu)
theorem qic : zh Try.prog 67 = some ⟨20, G3, [.slot 4]⟩ := by kernel_rfl
theorem qhc (p x : Int) (hp : zx p = true) (hx : 1 ≤ x ∧ x ≤ p - 1) : Am.Fn Try.prog 67 [.int .i64 p, .int .i64 x] [] (fun v H' => v = .int .i64 (V4 p x) ∧ H' = []) := by
  refine Am.Fn.xp (R := fun v => v = _) qlb mixed qic (by simp) (by simp) ?_
  have hb := uu hp
  obtain ⟨⟨hv1, hv2⟩, hch⟩ := qg7 hp hx
  have hm : x.emod p = x := Int.emod_eq_of_lt (by omega) (by omega)
  have hp0 : 0 < p ∧ p ≤ 1000000 := by omega
  have hpne : p ≠ 0 := by omega
  simp (maxSteps := 3000000) only [qf, zH, G3, iE, iN, iB, iC, iL, iD, iA, iS, iM, qa, zZ, ↓qp, ↓reduceIte, reduceCtorEq, nA, nM, nS, nE, nL, nD]; try simp only [qa, zY]
  refine WA.xo qlb (fun s => ∃ k : Nat, 1 ≤ k ∧ (k : Int) ≤ V4 p x ∧ s = ⟨[(0, .int .i64 p), (1, .int .i64 x), (5, .int .i64 k)], []⟩)
    (fun s => match get s.env 5 with | .int _ k => 100 - k.toNat | _ => 0) ⟨_, qu.qv [0, 1, 5], 1, by omega, hv1, rfl⟩ ?_
  rintro s ⟨k, hk1, hk2, rfl⟩
  have hli : (k : Int) < p := by omega
  have h0 : 0 ≤ (k : Int) * x := Int.mul_nonneg (by omega) (by omega)
  have h1 : (k : Int) * x ≤ 96 * 96 := Int.mul_le_mul (by omega) (by omega) (by omega) (by omega)
  have hw1 : qn .i64 ((k : Int) * x) = (k : Int) * x := wrap64 (by omega) (by omega)
  have ht : Int.tmod ((k : Int) * x) p = ((k : Int) * x).emod p := Int.tmod_eq_emod_of_nonneg h0
  have hw : qn .i64 ((k : Int) + 1) = ((k + 1 : Nat) : Int) := by rw [wrap64 (by omega) (by omega)]; rfl
  have hc := hch k (by omega) hli
  by_cases he : (k : Int) = V4 p x
  · have h2 := hc.2 he
    simp (maxSteps := 3000000) only [qf, zH, Zm, Vk, Jk, u7, J0, hli, hp0, hm, hw1, ht, hpne, h2, iE, iN, iB, iC, iL, iD, iA, iS, iM, qa, zZ, ↓qp, ↓reduceIte, reduceCtorEq, nA, nM, nS, nE, nL, nD]; try simp only [qa, zY]
    rw [he]
  · have h2 : ¬ ((k : Int) * x).emod p = 1 := fun h => he (hc.1 h)
    simp (maxSteps := 3000000) only [qf, zH, Zm, Vk, Jk, u7, J0, hli, hp0, hm, hw1, ht, hpne, h2, hw, iE, iN, iB, iC, iL, iD, iA, iS, iM, qa, zZ, ↓qp, ↓reduceIte, reduceCtorEq, nA, nM, nS, nE, nL, nD]; try simp only [qa, zY]
    refine ⟨_, qu.qv [0, 1, 5], ⟨k + 1, by omega, by omega, rfl⟩, ?_⟩
    simp only [zL, ↓reduceIte, reduceCtorEq, nE, nA]; omega
def okI (p x : Int) : Prop := zx p = true ∧ 1 ≤ x ∧ x ≤ p - 1
instance (p x : Int) : Decidable (okI p x) := by unfold okI; infer_instance
noncomputable def Uw : List AV → Option AV
  | [.int .i64 p, .int .i64 x] => chk (okI p x) (some (.int .i64 (V4 p x)))
  | _ => none
noncomputable def qbc : List AV → Option AV
  | [.int .i64 x, .int .i64 p] => chk (okI p x) (some (.int .i64 (V4 p x)))
  | _ => none
theorem q52 : Am.Callee Try.prog 67 (qk Uw) := Am.Callee.plain fun xs v he => by
  unfold Uw at he
  split at he
  · rename_i p x
    obtain ⟨⟨h1, h2⟩, he⟩ := qm he
    cases he
    exact ⟨rfl, rfl, qhc p x h1 h2⟩
  · cases he
theorem q6n : Am.Callee Try.prog 72 (qk qbc) := Am.Callee.plain fun xs v he => by
  unfold qbc at he
  split at he
  · rename_i x p
    obtain ⟨⟨h1, h2⟩, he⟩ := qm he
    cases he
    exact ⟨rfl, rfl, qoi p x h1 h2⟩
  · cases he
noncomputable def q8r : zb := ((B95.put 67 (qk Uw)).put 72 (qk qbc))
theorem q1o : qo Try.prog q8r := ((qlb.put (q52)).put (q6n))
def brs : Nat → Nat → List (List UInt8)
  | 0, o => if o = 0 then [[]] else []
  | r + 1, o => (brs r (o + 1)).map (40 :: ·) ++ (if 0 < o then (brs r (o - 1)).map (41 :: ·) else [])
theorem qlu : ∀ {r o : Nat}, r < o → brs r o = []
  | 0, o, h => by simp only [brs]; rw [if_neg (by omega)]
  | r + 1, o, h => by
    simp only [brs]
    rw [qlu (show r < o + 1 by omega), qlu (show r < o - 1 by omega)]
    simp
theorem qql {s : List UInt8} {k : Nat} (h : parts s k = none) : ∀ j, parts s (k + j) = none
  | 0 => h
  | j + 1 => by
    show parts s ((k + j) + 1) = none
    simp only [parts, qql h j]
theorem qjw {s : List UInt8} {o0 : List Nat} (hL : parts s s.length = some (o0, [])) : ∀ (r k : Nat) (out st : List Nat), k + r = s.length → parts s k = some (out, st) → s.drop k ∈ brs r st.length
  | 0, k, out, st, hk, h => by
    obtain rfl : k = s.length := by omega
    rw [hL] at h
    cases h
    rw [List.drop_length]
    simp [brs]
  | r + 1, k, out, st, hk, h => by
    have hlt : k < s.length := by omega
    have hd : s.drop k = s.getD k 0 :: s.drop (k + 1) := by
      rw [List.drop_eq_getElem_cons hlt, List.getD_eq_getElem?_getD, List.getElem?_eq_getElem hlt]; rfl
    cases h1 : parts s (k + 1) with
    | none =>
      have := qql h1 (s.length - (k + 1))
      rw [show k + 1 + (s.length - (k + 1)) = s.length by omega, hL] at this
      cases this
    | some q =>
      obtain ⟨out', st'⟩ := q
      have ih := qjw hL r (k + 1) out' st' (by omega) h1
      rw [hd]
      simp only [parts, h] at h1
      simp only [brs, List.mem_append]
      split at h1
      · rename_i h40
        cases h1
        rw [h40]
        exact .inl (List.mem_map.2 ⟨_, ih, rfl⟩)
      · split at h1
        · rename_i h41
          rw [h41]
          split at h1
          · cases h1
          · cases h1
            rename_i i st'
            right
            rw [if_pos (by simp)]
            exact List.mem_map.2 ⟨_, by simpa using ih, rfl⟩
        · cases h1
theorem qna {n : Nat} {m : List Nat} (h : isS n m = true) (hm : m.length = 16) : vb n m ∈ brs (2 * n) 0 := by
  rw [V2 n m hm] at h
  simp only [isI, Bool.and_eq_true, beq_iff_eq] at h
  have h1 := h.2.2
  unfold Y5 at h1
  split at h1
  · split at h1
    · rename_i out ho
      have := qjw ho (2 * n) 0 _ _ (by rw [kq]; omega) rfl
      simpa using this
    · cases h1
  · cases h1
theorem qj1 {α : Type} [DecidableEq α] : ∀ {l m : List α}, l.Nodup → (∀ x ∈ l, x ∈ m) → l.length ≤ m.length
  | [], m, _, _ => by simp
  | x :: l, m, h, hs => by
    have h1 := List.nodup_cons.1 h
    have hx := hs x (by simp)
    have ih := qj1 (m := m.erase x) h1.2 fun y hy => by
      have : y ≠ x := fun e => h1.1 (e ▸ hy)
      exact (List.mem_erase_of_ne this).2 (hs y (by simp [hy]))
    rw [List.length_erase_of_mem hx] at ih
    have := List.length_pos_of_mem hx
    simp only [List.length_cons]; omega
def q41 : Bool := (List.range 7).all fun n => Nat.ble (brs (2 * n) 0).length 132
theorem qwf : q41 = true := by kernel_rfl
theorem X8 {p n : Int} {L : List (Int × List Nat × Int)} (h : z8 p n L) (hn : 0 ≤ n ∧ n ≤ 6) : L.length ≤ 132 := by
  have h1 : (L.map txt).Nodup := List.pairwise_map.2 (h.up.imp fun {a b} hlt e => by
    unfold ltT at hlt
    rw [e] at hlt
    have : Op.bytesLess (txt b) (txt b) = false := by
      generalize txt b = s
      induction s with
      | nil => rfl
      | cons x s ih => simp [Op.bytesLess, ih]
    rw [this] at hlt; cases hlt)
  have h2 := qj1 h1 (m := brs (2 * n.toNat) 0) fun x hx => by
    obtain ⟨t, ht, rfl⟩ := List.mem_map.1 hx
    have h3 := h.dia t ht
    have h4 := qna h3.2 (h.ok t ht).1
    unfold txt
    rwa [h3.1]
  rw [List.length_map] at h2
  have h3 := List.all_eq_true.1 qwf n.toNat (List.mem_range.2 (by omega))
  have h4 := Nat.le_of_ble_eq_true h3
  omega
def qnx : List AV → Option (List Int)
  | [] => some []
  | .int .i64 x :: l => match qnx l with
    | some w => some (x :: w)
    | none => none
  | _ => none
theorem qko : ∀ w, qnx (jk w) = some w
  | [] => rfl
  | x :: w => by
    have := qko w
    simp only [jk, List.map_cons] at this ⊢
    simp only [qnx, this]
theorem qd1 : ∀ {l : List AV} {w : List Int}, qnx l = some w → l = jk w
  | [], w, h => by cases h; rfl
  | x :: l, w, h => by
    unfold qnx at h
    split at h
    · rename_i e; cases e
    · rename_i y l' e
      cases e
      split at h
      · rename_i w' hw
        cases h
        rw [qd1 hw]; rfl
      · cases h
    · cases h
noncomputable def q8p : zb := q8r
theorem q35 : qo Try.prog q8p := q1o
noncomputable def q8i : zb := q8p
theorem q2q : qo Try.prog q8i := q35
noncomputable def q8m : zb := q8i
theorem q3t : qo Try.prog q8m := q2q
noncomputable def q8t : zb := q8m
theorem q1x : qo Try.prog q8t := q3t
noncomputable def q8e : zb := q8t
theorem q3f : qo Try.prog q8e := q1x
noncomputable def q7o : zb := q8e
theorem q3h : qo Try.prog q7o := q3f
end Go.Proofs.Ytfhckbbgmblhbaa
namespace Go.Proofs.Ytfhckbbgmblhbaa
open Go.Am Go.Dia
open Nat renaming reduceAdd → nA, reduceMul → nM, reduceSub → nS, reduceEqDiff → nE, reduceLT → nL, reduceLeDiff → nD, reduceBEq → nB
open Int renaming reduceEq → iE, reduceNe → iN, reduceBEq → iB, reduceBNe → iC, reduceLT → iL, reduceLE → iD, reduceAdd → iA, reduceSub → iS, reduceMul → iM
set_option linter.unusedSimpArgs false
set_option linter.unusedVariables false
set_option maxRecDepth 4000
set_option maxHeartbeats 2000000
theorem qje (p c n : Int) (k cap : Nat) (ex : Bool) :
    Am.Fn Try.prog 97 [.agg [.int .i64 p, .int .i64 c, .int .i64 n, .slc 0 0 k ex cap]] [.ro []] (fun v H' => v = elemV p c n 1 0 ∧ H' = [.ro [], .vec 18 []]) := by
  refine Am.Fn.ofW qr6 mixed qc3 (by simp [AV.qt, AV.under]) (qcb rfl) ?_
  simp (maxSteps := 3000000) only [qf, zH, U0, qa, elemV, iE, iN, iB, iC, iL, iD, iA, iS, iM, rep, qa, zZ, ↓qp, ↓reduceIte, reduceCtorEq, nA, nM, nS, nE, nL, nD]; try simp only [qa, zY]
  refine ⟨rfl, _, qu.trans (qu.qv [2]) (qu.vec 3 0 18 (by decide) rfl rfl rfl rfl), ?_⟩
  refine Ret.xy [0, 3] ⟨⟨by simp, rfl, by decide⟩, ?_⟩ (rs := [.agg [.int .i64 p, .int .i64 c, .int .i64 n, .slc 3 0 0 false 0]]) ?_ rfl (by simp [xt]) ?_ ⟨?_, ?_⟩
  · simp only [qv, zu, zV, ↓reduceIte, nE, reduceCtorEq, nB]
    simp only [zK, ↓reduceIte, reduceCtorEq, nE, nB, nA]
  · simp only [qv, zu, zV, ↓reduceIte, nE, reduceCtorEq, nB]
    rfl
  · intro j l; match j with
    | 0 => simp [zj, qal, AO.xh, AO.ren]
    | 1 => simp [zj, qal, AO.xh, AO.ren]
    | j + 2 => simp [zj]
  · simp only [xt]
    simp only [zL, ↓reduceIte, reduceCtorEq, nE, nA]
  · rfl
def qh7 : BE := fun hp xs => match xs with
  | [.agg [.int .i64 p, .int .i64 c, .int .i64 n, .slc b 0 k ex cap]] => match rd hp b with
    | some _ => some (elemV p c n hp.length 0, hp ++ [.vec 18 []])
    | none => none
  | _ => none
theorem qxm : Am.Callee Try.prog 97 qh7 := Callee.fp fun hp xs v hp' he => by
  unfold qh7 at he
  split at he
  · rename_i p c n b k ex cap
    split at he
    · rename_i L hL
      simp only [Option.some.injEq, Prod.mk.injEq] at he
      obtain ⟨rfl, rfl⟩ := he
      refine ⟨[(b, 0)], [.agg [.int .i64 p, .int .i64 c, .int .i64 n, .slc 0 0 k ex cap]], _, _, _, qje p c n k cap ex, by simp [AV.ren, AV.zg, ofL], rfl, ⟨⟨L, hL, by simp, by simp [AV.zg]⟩, trivial⟩, rfl, ⟨trivial, trivial⟩, ⟨⟨trivial, trivial, trivial, by simp [AV.under], trivial⟩, trivial⟩, by simp [elemV, AV.ren, AV.zg, Ren.ext], ?_⟩
      simp [after, upd, AO.wr, AO.ren, AV.zg]
    · cases he
  · cases he
noncomputable def q7q : zb := (q7o.put 97 (qh7))
theorem q2o : qo Try.prog q7q := (q3h.put (qxm))
noncomputable def q7u : zb := q7q
theorem q3l : qo Try.prog q7u := q2o
theorem q04 {p n k : Int} (hn : 1 ≤ n ∧ n ≤ 8) (hk : 1 ≤ k ∧ k ≤ p - 1) : z8 p n [(n, wu n.toNat, k)] :=
  ⟨fun t h => by simp at h; subst h; exact Vz (by omega), fun t h => by simp at h; subst h; exact ⟨rfl, qw6 (by omega)⟩, fun t h => by simp at h; subst h; exact hk, List.pairwise_singleton ..⟩
end Go.Proofs.Ytfhckbbgmblhbaa
namespace Go.Proofs.Ytfhckbbgmblhbaa
open Go.Am Go.Dia
open Nat renaming reduceAdd → nA, reduceMul → nM, reduceSub → nS, reduceEqDiff → nE, reduceLT → nL, reduceLeDiff → nD, reduceBEq → nB
open Int renaming reduceEq → iE, reduceNe → iN, reduceBEq → iB, reduceBNe → iC, reduceLT → iL, reduceLE → iD, reduceAdd → iA, reduceSub → iS, reduceMul → iM
set_option linter.unusedSimpArgs false
set_option linter.unusedVariables false
set_option maxRecDepth 4000
set_option maxHeartbeats 2000000
end Go.Proofs.Ytfhckbbgmblhbaa
namespace Go.Proofs.Ytfhckbbgmblhbaa
open Go.Am Go.Dia
open Nat renaming reduceAdd → nA, reduceMul → nM, reduceSub → nS, reduceEqDiff → nE, reduceLT → nL, reduceLeDiff → nD, reduceBEq → nB
open Int renaming reduceEq → iE, reduceNe → iN, reduceBEq → iB, reduceBNe → iC, reduceLT → iL, reduceLE → iD, reduceAdd → iA, reduceSub → iS, reduceMul → iM
set_option linter.unusedSimpArgs false
set_option linter.unusedVariables false
set_option maxRecDepth 4000
set_option maxHeartbeats 2000000
theorem qi8 {p n k : Int} {i : Nat} (hn : 1 ≤ n ∧ n ≤ 8) (hi : i + 1 < n.toNat) (hk : 1 ≤ k ∧ k ≤ p - 1) : z8 p n [(n, X2 n.toNat i, k)] :=
  ⟨fun t h => by simp at h; subst h; exact qgh (by omega) hi, fun t h => by simp at h; subst h; exact ⟨rfl, q3c (by omega) hi⟩, fun t h => by simp at h; subst h; exact hk, List.pairwise_singleton ..⟩
theorem qui {p k : Int} (hk : 1 ≤ k ∧ k ≤ p - 1) : k.emod p = k := Int.emod_eq_of_lt (by omega) (by omega)
theorem q7n {p k : Int} (hk : 1 ≤ k ∧ k ≤ p - 1) : ¬ k.emod p = 0 := by rw [qui hk]; omega
noncomputable def q79 : zb := q7u
theorem q14 : qo Try.prog q79 := q3l
noncomputable def q8f : zb := q79
theorem qgc : qo Try.prog q8f := q14
end Go.Proofs.Ytfhckbbgmblhbaa
namespace Go.Proofs.Ytfhckbbgmblhbaa
open Go.Am Go.Dia
open Nat renaming reduceAdd → nA, reduceMul → nM, reduceSub → nS, reduceEqDiff → nE, reduceLT → nL, reduceLeDiff → nD, reduceBEq → nB
open Int renaming reduceEq → iE, reduceNe → iN, reduceBEq → iB, reduceBNe → iC, reduceLT → iL, reduceLE → iD, reduceAdd → iA, reduceSub → iS, reduceMul → iM
set_option linter.unusedSimpArgs false
set_option linter.unusedVariables false
set_option maxRecDepth 4000
set_option maxHeartbeats 1000000
def clS (N : Nat) (m : List Nat) : Nat → List Bool → Nat → List Bool
  | 0, l, _ => l
  | f + 1, l, x => if l.getD x false = true then l else clS N m f ((l.set x true).set (m.getD x 0) true) ((m.getD x 0 + N) % (2 * N))
def clO (N : Nat) (m : List Nat) : Nat → List Bool × Nat
  | 0 => (List.replicate 16 false, 0)
  | i + 1 => if (clO N m i).1.getD i false = true then clO N m i else (clS N m 17 (clO N m i).1 i, (clO N m i).2 + 1)
def clN (N : Nat) (m : List Nat) : Nat := (clO N m (2 * N)).2
theorem qum (N : Nat) (m : List Nat) : ∀ (f : Nat) (l : List Bool) (x : Nat), (clS N m f l x).length = l.length
  | 0, l, x => rfl
  | f + 1, l, x => by
    rw [clS]; split
    · rfl
    · rw [qum N m f, List.length_set, List.length_set]
theorem qgg (N : Nat) (m : List Nat) : ∀ i, (clO N m i).1.length = 16
  | 0 => by simp [clO]
  | i + 1 => by
    rw [clO]; split
    · exact qgg N m i
    · rw [qum, qgg N m i]
theorem qm0 (N : Nat) (m : List Nat) : ∀ i, (clO N m i).2 ≤ i
  | 0 => by simp [clO]
  | i + 1 => by
    have := qm0 N m i
    rw [clO]; split
    · omega
    · show (clO N m i).2 + 1 ≤ i + 1; omega
theorem qg1 {N : Nat} {m : List Nat} {i : Nat} (h : (clO N m i).1.getD i false = true) : clO N m (i + 1) = clO N m i := by rw [clO, if_pos h]
theorem qgf {N : Nat} {m : List Nat} {i : Nat} (h : ¬ (clO N m i).1.getD i false = true) : clO N m (i + 1) = (clS N m 17 (clO N m i).1 i, (clO N m i).2 + 1) := by rw [clO, if_neg h]
theorem qgu (l : List Bool) : bb (bls l) ≤ l.length := by
  have := List.countP_le_length (p := fun v : AV => match v with | .bool false => true | _ => false) (l := bls l)
  rw [z6] at this
  exact this
def ClA (N : Nat) (m : List Nat) (T : List Bool) (f : Nat) (l : List Bool) (x : Nat) : Prop := clS N m f l x = T ∧ bb (bls l) < f ∧ x < 2 * N ∧ l.length = 16
theorem qng {N : Nat} {m : List Nat} {T l : List Bool} {f x : Nat} (h : ClA N m T f l x) (hx : l.getD x false = true) : l = T := by
  obtain ⟨h1, h2, _⟩ := h
  match f with
  | 0 => omega
  | f + 1 => rw [clS, if_pos hx] at h1; exact h1
theorem qqm {N : Nat} {m : List Nat} {T l : List Bool} {f x : Nat} (hN : 1 ≤ N ∧ N ≤ 8) (h : ClA N m T f l x) (hx : l.getD x false = false) : ∃ f', f = f' + 1 ∧ ClA N m T f' ((l.set x true).set (m.getD x 0) true) ((m.getD x 0 + N) % (2 * N)) := by
  obtain ⟨h1, h2, h3, h4⟩ := h
  match f with
  | 0 => omega
  | f + 1 =>
    rw [clS, if_neg (by rw [hx]; simp)] at h1
    have e1 := Qg (met := l) (k := x) (by omega) hx
    have e2 := Y9 (met := l.set x true) (k := m.getD x 0)
    exact ⟨f, rfl, h1, by omega, Nat.mod_lt _ (by omega), by simp [h4]⟩
def Zj : AC := .seq (.seq (.region [oM 23 7,o0 24 (.zn 16 1 (.t 4) (.t 23)),oL 25 24,o0 26 (.un .not (.t 25))]) (.cond 26 .skip (.exit 2))) (.block 3 (.seq (.region [oM 27 7,o0 28 (.zn 16 1 (.t 4) (.t 27)),⟨none,none,.op (.ue (.t 28) (.c (.bool true)))⟩]) (.seq (.region [oM 29 7,oF 30 1 1,o0 31 (.zn 16 1 (.t 30) (.t 29)),oL 32 31,o0 33 (.conv .i64 (.t 32)),oM 7 33]) (.seq (.region [oM 34 7,o0 35 (.zn 16 1 (.t 4) (.t 34)),⟨none,none,.op (.ue (.t 35) (.c (.bool true)))⟩]) (.region [oM 36 7,oM 37 3,oP 38 .add 36 37,oM 39 3,o0 40 (.bin .mul (.c (.int .i64 2)) (.t 39)),oP 41 .rem 38 40,oM 7 41])))))
def Z4 : AC := .region [oM 15 6,oK 16 .add 15 1,oM 6 16]
def bh : AC := .seq (.seq (.region [oM 11 6,oM 12 3,o0 13 (.bin .mul (.c (.int .i64 2)) (.t 12)),oP 14 .lss 11 13]) (.cond 14 .skip (.exit 0))) (.seq (.block 1 (.seq (.seq (.region [oM 17 6,o0 18 (.zn 16 1 (.t 4) (.t 17)),oL 19 18]) (.cond 19 (.exit 1) .skip)) (.seq (.region [oM 20 5,oK 21 .add 20 1,oM 5 21]) (.seq (.region [oM 22 6,oM 7 22]) (.block 2 (.loop Zj)))))) Z4)
def Wu : AC := .seq (.region [oM 42 5,oM 2 42]) .ret
def Kp : AC := .seq (.region [o0 1 (.box (.t 0)),oI 2 0]) (.seq (.region [oF 8 0 1,oL 9 8,o0 10 (.build [(.bool false),(.bool false),(.bool false),(.bool false),(.bool false),(.bool false),(.bool false),(.bool false),(.bool false),(.bool false),(.bool false),(.bool false),(.bool false),(.bool false),(.bool false),(.bool false)] []),o0 4 (.alloc [(.bool false),(.bool false),(.bool false),(.bool false),(.bool false),(.bool false),(.bool false),(.bool false),(.bool false),(.bool false),(.bool false),(.bool false),(.bool false),(.bool false),(.bool false),(.bool false)]),oM 3 9,oS 16 4 10,oI 5 0]) (.seq (.seq (.region [oI 6 0]) (.block 0 (.loop bh))) Wu))
theorem qiy : zh Try.prog 80 = some ⟨43, Kp, [.slot 2]⟩ := by kernel_rfl
theorem qg8 (N : Nat) (m : List Nat) (hm : okD m) (hs : isS N m = true) : Am.Fn Try.prog 80 [.agg (dia N m)] [] (fun v H' => v = .int .i64 (clN N m : Nat) ∧ H' = []) := by
  refine Am.Fn.xp (R := fun v => v = _) qgc mixed qiy (by simp [AV.qt, AV.under, qj _ _ (qg _ _)]) (by simp) ?_
  obtain ⟨hN, hp, _⟩ := zz hs
  have hml := hm.1
  have w2 : qn .i64 (2 * (N : Int)) = ((2 * N : Nat) : Int) := by rw [wrap64 (by omega) (by omega)]; omega
  simp (maxSteps := 3000000) only [qf, zH, Kp, qa, qe, hml, vz, iE, iN, iB, iC, iL, iD, iA, iS, iM, qa, zZ, ↓qp, ↓reduceIte, reduceCtorEq, nA, nM, nS, nE, nL, nD]; try simp only [qa, zY]
  refine ⟨rfl, ?_⟩
  refine WA.xo qgc (fun s => ∃ i : Nat, i ≤ 2 * N ∧ s = ⟨[(1, .ptr 0 0), (3, .int .i64 N), (4, .ptr 1 0), (5, .int .i64 ((clO N m i).2 : Nat)), (6, .int .i64 i)], [.cells (dia N m), .cells (bls (clO N m i).1)]⟩)
    (fun s => match get s.env 6 with | .int _ x => 2 * N - x.toNat | _ => 0) ⟨_, qu.qv [1, 3, 4, 5, 6], 0, by omega, rfl⟩ ?_
  rintro s ⟨i, hi, rfl⟩
  have hw : qn .i64 ((i : Int) + 1) = ((i + 1 : Nat) : Int) := by rw [wrap64 (by omega) (by omega)]; rfl
  have hle := qm0 N m i
  have hw2 : qn .i64 ((((clO N m i).2 : Nat) : Int) + 1) = (((clO N m i).2 + 1 : Nat) : Int) := by rw [wrap64 (by omega) (by omega)]; rfl
  have hlen := qgg N m i
  by_cases hlt : i < 2 * N
  · have hli : (i : Int) < ((2 * N : Nat) : Int) := by omega
    obtain ⟨g1, _⟩ := x9 (show i < 16 by omega)
    have g2 : i < 16 := by omega
    have g3 := K4 (l := (clO N m i).1) (i := i) (by omega)
    by_cases hx : (clO N m i).1.getD i false = true
    · have e := qg1 hx
      simp (maxSteps := 3000000) only [qf, zH, bh, Z4, qa, w2, hw, hli, g1, g2, g3, hx, z6, hlen, iE, iN, iB, iC, iL, iD, iA, iS, iM, qa, zZ, ↓qp, ↓reduceIte, reduceCtorEq, nA, nM, nS, nE, nL, nD]; try simp only [qa, zY]
      refine ⟨_, qu.qv [1, 3, 4, 5, 6], ⟨i + 1, by omega, ?_⟩, ?_⟩
      · simp only [zL, ↓reduceIte, reduceCtorEq, nE, nA]; rw [e]
      · simp only [zL, ↓reduceIte, reduceCtorEq, nE, nA]; omega
    · have hx' : (clO N m i).1.getD i false = false := by simpa using hx
      have e := qgf hx
      simp (maxSteps := 3000000) only [qf, zH, bh, qa, w2, hw, hw2, hli, g1, g2, g3, hx', z6, hlen, iE, iN, iB, iC, iL, iD, iA, iS, iM, qa, zZ, ↓qp, ↓reduceIte, reduceCtorEq, nA, nM, nS, nE, nL, nD]; try simp only [qa, zY]
      refine WA.xo qgc (fun s => ∃ (f x : Nat) (l : List Bool), ClA N m (clS N m 17 (clO N m i).1 i) f l x ∧ s = ⟨[(1, .ptr 0 0), (3, .int .i64 N), (4, .ptr 1 0), (5, .int .i64 ((clO N m i).2 + 1 : Nat)), (6, .int .i64 i), (7, .int .i64 x)], [.cells (dia N m), .cells (bls l)]⟩)
        (fun s : St => match s.hp[1]? with | some (AO.cells l) => bb l | _ => 0) ⟨_, qu.qv [1, 3, 4, 5, 6, 7], 17, i, (clO N m i).1, ⟨rfl, by have := qgu (clO N m i).1; omega, hlt, hlen⟩, rfl⟩ ?_
      rintro s ⟨f, x, l, hA, rfl⟩
      have hxn := hA.2.2.1
      have hll := hA.2.2.2
      obtain ⟨g4, _⟩ := x9 (show x < 16 by omega)
      have g5 : x < 16 := by omega
      have g6 := K4 (l := l) (i := x) (by omega)
      by_cases hlx : l.getD x false = true
      · have e2 := qng hA hlx
        simp (maxSteps := 3000000) only [qf, zH, Zj, Z4, qa, hw, g4, g5, g6, hlx, z6, hll, Bool.not_true, iE, iN, iB, iC, iL, iD, iA, iS, iM, qa, zZ, ↓qp, ↓reduceIte, reduceCtorEq, nA, nM, nS, nE, nL, nD]; try simp only [qa, zY]
        refine ⟨_, qu.qv [1, 3, 4, 5, 6], ⟨i + 1, by omega, ?_⟩, ?_⟩
        · simp only [zL, ↓reduceIte, reduceCtorEq, nE, nA]; rw [e, ← e2]
        · simp only [zL, ↓reduceIte, reduceCtorEq, nE, nA]; omega
      · have hlx' : l.getD x false = false := by simpa using hlx
        obtain ⟨f', rfl, hA'⟩ := qqm hN hA hlx'
        have hy := (hp x hxn).1
        obtain ⟨g7, _⟩ := x9 (show m.getD x 0 < 16 by omega)
        have g8 : m.getD x 0 < 16 := by omega
        have d1 := Q4 (n := (N : Int)) (m := m) (i := x) (by omega)
        have v1 : qn .i64 ((m.getD x 0 : Nat) : Int) = ((m.getD x 0 : Nat) : Int) := jj (by omega)
        have v2 : qn .i64 (((m.getD x 0 : Nat) : Int) + (N : Int)) = ((m.getD x 0 + N : Nat) : Int) := by rw [wrap64 (by omega) (by omega)]; rfl
        have v3 : ¬ ((2 * N : Nat) : Int) = 0 := by omega
        have f1 := Qg (met := l) (k := x) (by omega) hlx'
        have f2 := Y9 (met := l.set x true) (k := m.getD x 0)
        simp (maxSteps := 3000000) only [qf, zH, Zj, qa, w2, g4, g5, g6, g7, g8, hlx', z6, K8, hll, List.length_set, d1, v1, v2, v3, q4o, qe, hml, AV.one, Bool.not_false, and_self, iE, iN, iB, iC, iL, iD, iA, iS, iM, qa, zZ, ↓qp, ↓reduceIte, reduceCtorEq, nA, nM, nS, nE, nL, nD]; try simp only [qa, zY]
        refine ⟨_, qu.qv [1, 3, 4, 5, 6, 7], ⟨f', _, _, hA', ?_⟩, ?_⟩
        · simp only [zL, ↓reduceIte, reduceCtorEq, nE, nA]
        · simp only [zL, ↓reduceIte, reduceCtorEq, nE, nA]; omega
  · have hli : ¬ (i : Int) < ((2 * N : Nat) : Int) := by omega
    obtain rfl : i = 2 * N := by omega
    simp (maxSteps := 3000000) only [qf, zH, bh, Wu, qa, w2, hli, Int.lt_irrefl, iE, iN, iB, iC, iL, iD, iA, iS, iM, qa, zZ, ↓qp, ↓reduceIte, reduceCtorEq, nA, nM, nS, nE, nL, nD]; try simp only [qa, zY]
    rfl
def V9 : List AV → Option AV
  | [.agg l] => match vy l with
    | some (n, m) => chk (0 ≤ n ∧ isS n.toNat m = true) (some (.int .i64 (clN n.toNat m : Nat)))
    | none => none
  | _ => none
theorem qnc {f : FuncId} (h : ∀ (N : Nat) m, okD m → isS N m = true → Am.Fn Try.prog f [.agg (dia N m)] [] (fun v H' => v = .int .i64 (clN N m : Nat) ∧ H' = [])) : Am.Callee Try.prog f (qk V9) := Am.Callee.plain fun xs v he => by
  unfold V9 at he
  split at he
  · rename_i l
    split at he
    · rename_i n m hd1
      obtain ⟨⟨a1, a2⟩, he2⟩ := qm he
      cases he2
      obtain ⟨rfl, hm⟩ := zl hd1
      obtain ⟨N, rfl⟩ : ∃ N : Nat, n = N := ⟨n.toNat, by omega⟩
      simp only [Int.toNat_natCast] at a2 ⊢
      exact ⟨by simp only [AV.zo, AV.zf, qg, Bool.and_self], rfl, h N m hm a2⟩
    · cases he
  · cases he
noncomputable def q4s : zb := (q8f.put 80 (qk V9))
theorem qln : qo Try.prog q4s := (qgc.put (qnc qg8))
theorem Jz : q4s 168 = some (J1 1 g_n) := rfl
def qet : AC := .skip
theorem qm4 : zh Try.prog 163 = some ⟨2, qet, []⟩ := by kernel_rfl
theorem qp7 (i : Int) : Am.Fn Try.prog 163 [.int .i64 i] [] (fun v H' => v = .tup [] ∧ H' = []) := by
  refine Am.Fn.xp (R := fun v => v = _) qln mixed qm4 (by simp) (by simp) ?_
  simp (maxSteps := 3000000) only [qf, zH, qet, Jz, g_n, iE, iN, iB, iC, iL, iD, iA, iS, iM, qa, zZ, ↓qp, ↓reduceIte, reduceCtorEq, nA, nM, nS, nE, nL, nD]; try simp only [qa, zY]
def Qd : List AV → Option AV
  | [.int .i64 _] => some (.tup [])
  | _ => none
theorem q3z : Am.Callee Try.prog 163 (qk Qd) := Am.Callee.plain fun xs v he => by
  unfold Qd at he
  split at he
  · cases he; exact ⟨rfl, rfl, qp7 _⟩
  · cases he
def qes : AC := .region [oL 1 0,oK 2 .add 1 1,oT 0 2]
theorem qm7 : zh Try.prog 164 = some ⟨3, qes, []⟩ := by kernel_rfl
theorem qp2 (k : Nat) (hk : k ≤ 1000) : Am.Fn Try.prog 164 [.ptr 0 0] [.cells [.int .i64 k]] (fun r H' => r = .tup [] ∧ H' = [.cells [.int .i64 (k + 1 : Nat)]]) := by
  refine Am.Fn.ofB qln mixed qm7 (by simp [AV.qt, AV.under]) (fun j o hj => by
    match j, hj with
    | 0, hj => cases hj; exact ⟨trivial, trivial⟩
    | j + 1, hj => simp at hj) ?_
  have hw : qn .i64 ((k : Int) + 1) = ((k + 1 : Nat) : Int) := by rw [wrap64 (by omega) (by omega)]; rfl
  simp (maxSteps := 3000000) only [qf, zH, qes, Jz, g_n, hw, AV.one, iE, iN, iB, iC, iL, iD, iA, iS, iM, qa, zZ, ↓qp, ↓reduceIte, reduceCtorEq, nA, nM, nS, nE, nL, nD]; try simp only [qa, zY]
  refine Ret.xy [0] ⟨⟨Nat.le_refl 1, rfl, by decide⟩, ?_⟩ (rs := []) rfl rfl (by simp [xt]) ?_ ⟨rfl, ?_⟩
  · simp only [qh _ _ (qg _ _), zK, ↓reduceIte, reduceCtorEq, nE, nB, nA]
  · intro j l; cases j <;> simp [zj, AO.ren]
  · simp only [qb _ _ (qg _ _), zL, ↓reduceIte, reduceCtorEq, nE, nA]
theorem qvz : Am.Callee Try.prog 164 xl := Callee.fp fun hp xs v hp' he => by
  unfold xl at he
  split at he
  · rename_i b
    split at he
    · rename_i k hb
      obtain ⟨⟨a1, a2⟩, he2⟩ := qm he
      simp only [Option.some.injEq, Prod.mk.injEq] at he2
      obtain ⟨rfl, rfl⟩ := he2
      obtain ⟨k', rfl⟩ : ∃ k' : Nat, k = k' := ⟨k.toNat, by omega⟩
      refine ⟨[(b, 0)], [.ptr 0 0], _, _, _, qp2 k' (by omega), by simp [AV.ren, AV.zg, ofL], by simp [jb], ⟨⟨rfl, by simp only [AO.ren, AV.zg, AV.ren]; exact hb⟩, trivial⟩, rfl, ⟨⟨trivial, trivial⟩, trivial⟩, ⟨by simp [AV.under], trivial⟩, by simp [AV.ren, AV.zg], ?_⟩
      simp [after, upd, AO.wr, AO.ren, AV.zg, AV.ren]
    · cases he
  · cases he
noncomputable def qzb : zb := ((q4s.put 163 (qk Qd)).put 164 (xl))
theorem qf8 : qo Try.prog qzb := ((qln.put (q3z)).put (qvz))
theorem jt : qzb 168 = some (J1 1 g_n) := rfl
theorem vi : qzb 163 = some (qk Qd) := rfl
theorem vh : qzb 164 = some (xl) := rfl
def H2 (N : Nat) (m : List Nat) (k : Nat) : List AO := [.ro (dia N m), .cells [.int .i64 k]]
theorem q0j {N : Nat} {m : List Nat} {k n : Nat} : ∀ (j : Nat) (o : AO), (H2 N m k)[j]? = some o → o.under n := fun j o hj => by
  match j, hj with
  | 0, hj => cases hj; exact qj _ _ (qg _ _)
  | 1, hj => cases hj; exact ⟨trivial, trivial⟩
  | j + 2, hj => simp [H2] at hj
def uh : AC := .seq (.seq (.region [oM 23 9,o0 24 (.zn 16 1 (.t 7) (.t 23)),oL 25 24,o0 26 (.un .not (.t 25))]) (.cond 26 .skip (.exit 2))) (.block 3 (.seq (.region [oM 27 0,oM 28 9,o0 29 (.x7 (.t 27)),oF 30 1 29,o0 31 (.zn 16 1 (.t 30) (.t 28)),oL 32 31,o0 33 (.conv .i64 (.t 32)),oM 10 33]) (.seq (.region [oM 34 9,oM 35 10,o0 36 (.zn 16 1 (.t 7) (.t 34)),⟨none,none,.op (.ue (.t 36) (.c (.bool true)))⟩,o0 37 (.zn 16 1 (.t 7) (.t 35)),⟨none,none,.op (.ue (.t 37) (.c (.bool true)))⟩]) (.seq (.region [oM 38 1,oM 39 9,⟨some 40,none,.call (.t 38) [.t 39]⟩]) (.region [oM 41 10,oM 42 6,oP 43 .add 41 42,oM 44 6,o0 45 (.bin .mul (.c (.int .i64 2)) (.t 44)),oP 46 .rem 43 45,oM 9 46])))))
def Zh : AC := .region [oM 47 2,⟨some 48,none,.call (.t 47) []⟩]
def uf : AC := .region [oK 49 .add 16 1,oM 16 49]
def vn : AC := .seq (.region [oP 17 .lss 16 15]) (.seq (.cond 17 .skip (.exit 0)) (.seq (.block 1 (.seq (.region [oM 18 16,oM 8 18]) (.seq (.seq (.region [oM 19 8,o0 20 (.zn 16 1 (.t 7) (.t 19)),oL 21 20]) (.cond 21 (.exit 1) .skip)) (.seq (.seq (.region [oM 22 8,oM 9 22]) (.block 2 (.loop uh))) Zh)))) uf))
def J2 : AC := .seq (.region [oM 11 0,oC 12 168 [.t 11],o0 13 (.build [(.bool false),(.bool false),(.bool false),(.bool false),(.bool false),(.bool false),(.bool false),(.bool false),(.bool false),(.bool false),(.bool false),(.bool false),(.bool false),(.bool false),(.bool false),(.bool false)] []),o0 7 (.alloc [(.bool false),(.bool false),(.bool false),(.bool false),(.bool false),(.bool false),(.bool false),(.bool false),(.bool false),(.bool false),(.bool false),(.bool false),(.bool false),(.bool false),(.bool false),(.bool false)]),oM 6 12,oS 16 7 13]) (.seq (.region [oM 14 6,o0 15 (.bin .mul (.c (.int .i64 2)) (.t 14)),oI 16 0]) (.block 0 (.loop vn)))
theorem qai : zh Try.prog 162 = some ⟨50, J2, []⟩ := by kernel_rfl
theorem qp5 (N : Nat) (m : List Nat) (hm : okD m) (hs : isS N m = true) :
    Am.Fn Try.prog 162 [.ptr 0 0, .fn 163 [] [], .fn 164 [] [.ptr 1 0]] (H2 N m 0) (fun v H' => v = .tup [] ∧ H' = H2 N m (clN N m)) := by
  refine Am.Fn.ofB qf8 mixed qai (by simp [AV.qt, AV.under, H2]) q0j ?_
  obtain ⟨hN, hp, _⟩ := zz hs
  have hml := hm.1
  have w2 : qn .i64 (2 * (N : Int)) = ((2 * N : Nat) : Int) := by rw [wrap64 (by omega) (by omega)]; omega
  unfold H2
  simp (maxSteps := 3000000) only [qf, zH, J2, jt, vi, vh, xl, g_n, Qd, w2, qe, hml, vz, Vu, iE, iN, iB, iC, iL, iD, iA, iS, iM, qa, zZ, ↓qp, ↓reduceIte, reduceCtorEq, nA, nM, nS, nE, nL, nD]; try simp only [qa, zY]
  refine ⟨rfl, ?_⟩
  refine WA.xo qf8 (fun s => ∃ i : Nat, i ≤ 2 * N ∧ s = ⟨[(0, .ptr 0 0), (1, .fn 163 [] []), (2, .fn 164 [] [.ptr 1 0]), (6, .int .i64 N), (7, .ptr 2 0), (15, .int .i64 (2 * N : Nat)), (16, .int .i64 i)], [.ro (dia N m), .cells [.int .i64 ((clO N m i).2 : Nat)], .cells (bls (clO N m i).1)]⟩)
    (fun s => match get s.env 16 with | .int _ x => 2 * N - x.toNat | _ => 0) ⟨_, qu.qv [0, 1, 2, 6, 7, 15, 16], 0, by omega, rfl⟩ ?_
  rintro s ⟨i, hi, rfl⟩
  have hw : qn .i64 ((i : Int) + 1) = ((i + 1 : Nat) : Int) := by rw [wrap64 (by omega) (by omega)]; rfl
  have hle := qm0 N m i
  have hlen := qgg N m i
  by_cases hlt : i < 2 * N
  · have hli : (i : Int) < ((2 * N : Nat) : Int) := by omega
    obtain ⟨g1, _⟩ := x9 (show i < 16 by omega)
    have g2 : i < 16 := by omega
    have g3 := K4 (l := (clO N m i).1) (i := i) (by omega)
    by_cases hx : (clO N m i).1.getD i false = true
    · have e := qg1 hx
      simp (maxSteps := 3000000) only [qf, zH, vn, uf, jt, vi, vh, xl, g_n, Qd, w2, hw, hli, g1, g2, g3, hx, z6, hlen, iE, iN, iB, iC, iL, iD, iA, iS, iM, qa, zZ, ↓qp, ↓reduceIte, reduceCtorEq, nA, nM, nS, nE, nL, nD]; try simp only [qa, zY]
      refine ⟨_, qu.qv [0, 1, 2, 6, 7, 15, 16], ⟨i + 1, by omega, ?_⟩, ?_⟩
      · simp only [zL, ↓reduceIte, reduceCtorEq, nE, nA]; rw [e]
      · simp only [zL, ↓reduceIte, reduceCtorEq, nE, nA]; omega
    · have hx' : (clO N m i).1.getD i false = false := by simpa using hx
      have e := qgf hx
      simp (maxSteps := 3000000) only [qf, zH, vn, jt, vi, vh, xl, g_n, Qd, w2, hw, hli, g1, g2, g3, hx', z6, hlen, iE, iN, iB, iC, iL, iD, iA, iS, iM, qa, zZ, ↓qp, ↓reduceIte, reduceCtorEq, nA, nM, nS, nE, nL, nD]; try simp only [qa, zY]
      refine WA.xo qf8 (fun s => ∃ (f x : Nat) (l : List Bool), ClA N m (clS N m 17 (clO N m i).1 i) f l x ∧ s = ⟨[(0, .ptr 0 0), (1, .fn 163 [] []), (2, .fn 164 [] [.ptr 1 0]), (6, .int .i64 N), (7, .ptr 2 0), (15, .int .i64 (2 * N : Nat)), (16, .int .i64 i), (9, .int .i64 x)], [.ro (dia N m), .cells [.int .i64 ((clO N m i).2 : Nat)], .cells (bls l)]⟩)
        (fun s : St => match s.hp[2]? with | some (AO.cells l) => bb l | _ => 0) ⟨_, qu.qv [0, 1, 2, 6, 7, 15, 16, 9], 17, i, (clO N m i).1, ⟨rfl, by have := qgu (clO N m i).1; omega, hlt, hlen⟩, rfl⟩ ?_
      rintro s ⟨f, x, l, hA, rfl⟩
      have hxn := hA.2.2.1
      have hll := hA.2.2.2
      obtain ⟨g4, _⟩ := x9 (show x < 16 by omega)
      have g5 : x < 16 := by omega
      have g6 := K4 (l := l) (i := x) (by omega)
      by_cases hlx : l.getD x false = true
      · have e2 := qng hA hlx
        have h1000 : (0 : Int) ≤ (((clO N m i).2 : Nat) : Int) ∧ (((clO N m i).2 : Nat) : Int) ≤ 1000 := by omega
        have hs1 : (((clO N m i).2 : Nat) : Int) + 1 = (((clO N m i).2 + 1 : Nat) : Int) := rfl
        simp (maxSteps := 3000000) only [qf, zH, uh, Zh, uf, jt, vi, vh, xl, g_n, Qd, hw, g4, g5, g6, hlx, h1000, hs1, z6, hll, Bool.not_true, iE, iN, iB, iC, iL, iD, iA, iS, iM, qa, zZ, ↓qp, ↓reduceIte, reduceCtorEq, nA, nM, nS, nE, nL, nD]; try simp only [qa, zY]
        refine ⟨_, qu.qv [0, 1, 2, 6, 7, 15, 16], ⟨i + 1, by omega, ?_⟩, ?_⟩
        · simp only [zL, ↓reduceIte, reduceCtorEq, nE, nA]; rw [e, ← e2]
        · simp only [zL, ↓reduceIte, reduceCtorEq, nE, nA]; omega
      · have hlx' : l.getD x false = false := by simpa using hlx
        obtain ⟨f', rfl, hA'⟩ := qqm hN hA hlx'
        have hy := (hp x hxn).1
        obtain ⟨g7, _⟩ := x9 (show m.getD x 0 < 16 by omega)
        have g8 : m.getD x 0 < 16 := by omega
        have d1 := Q4 (n := (N : Int)) (m := m) (i := x) (by omega)
        have v1 : qn .i64 ((m.getD x 0 : Nat) : Int) = ((m.getD x 0 : Nat) : Int) := jj (by omega)
        have v2 : qn .i64 (((m.getD x 0 : Nat) : Int) + (N : Int)) = ((m.getD x 0 + N : Nat) : Int) := by rw [wrap64 (by omega) (by omega)]; rfl
        have v3 : ¬ ((2 * N : Nat) : Int) = 0 := by omega
        have f1 := Qg (met := l) (k := x) (by omega) hlx'
        have f2 := Y9 (met := l.set x true) (k := m.getD x 0)
        simp (maxSteps := 3000000) only [qf, zH, uh, jt, vi, vh, xl, g_n, Qd, w2, g4, g5, g6, g7, g8, hlx', z6, K8, hll, List.length_set, d1, v1, v2, v3, q4o, qe, hml, AV.one, Bool.not_false, and_self, iE, iN, iB, iC, iL, iD, iA, iS, iM, qa, zZ, ↓qp, ↓reduceIte, reduceCtorEq, nA, nM, nS, nE, nL, nD]; try simp only [qa, zY]
        refine ⟨_, qu.qv [0, 1, 2, 6, 7, 15, 16, 9], ⟨f', _, _, hA', ?_⟩, ?_⟩
        · simp only [zL, ↓reduceIte, reduceCtorEq, nE, nA]
        · simp only [zL, ↓reduceIte, reduceCtorEq, nE, nA]; omega
  · have hli : ¬ (i : Int) < ((2 * N : Nat) : Int) := by omega
    obtain rfl : i = 2 * N := by omega
    simp (maxSteps := 3000000) only [qf, zH, vn, jt, vi, vh, xl, g_n, Qd, w2, hli, Int.lt_irrefl, iE, iN, iB, iC, iL, iD, iA, iS, iM, qa, zZ, ↓qp, ↓reduceIte, reduceCtorEq, nA, nM, nS, nE, nL, nD]; try simp only [qa, zY]
    refine Ret.xy [0, 1] ⟨⟨by simp, rfl, by decide⟩, ?_⟩ (rs := []) rfl rfl (by simp [xt]) ?_ ⟨rfl, ?_⟩
    · simp only [qh _ _ (qg _ _), zK, ↓reduceIte, reduceCtorEq, nE, nB, nA]
    · intro j l h
      match j, h with
      | 0, _ => exact ⟨_, rfl⟩
      | 1, h => simp [zj, AO.ren] at h
      | j + 2, h => simp [zj] at h
    · simp only [qb _ _ (qg _ _), zL, ↓reduceIte, reduceCtorEq, nE, nA]
      rfl
def Yp : BE := fun hp xs => match xs with
  | [.ptr b1 0, .fn 163 [] [], .fn 164 [] [.ptr b4 0]] => match rdD hp b1, hp[b4]? with
    | some (n, m), some (.cells [.int .i64 k]) => chk ((0 ≤ n ∧ k = 0) ∧ isS n.toNat m = true ∧ b4 ≠ b1) (some (.tup [], hp.set b4 (.cells [.int .i64 (clN n.toNat m : Nat)])))
    | _, _ => none
  | _ => none
theorem qvf : Am.Callee Try.prog 162 Yp := Callee.fp fun hp xs v hp' he => by
  unfold Yp at he
  split at he
  · rename_i b1 b4
    split at he
    · rename_i n m k hd1 h4
      obtain ⟨⟨⟨a1, a2⟩, a3, a4⟩, he2⟩ := qm he
      simp only [Option.some.injEq, Prod.mk.injEq] at he2
      obtain ⟨rfl, rfl⟩ := he2
      subst a2
      obtain ⟨N, rfl⟩ : ∃ N : Nat, n = N := ⟨n.toNat, by omega⟩
      simp only [Int.toNat_natCast] at a3 ⊢
      obtain ⟨hd, f1⟩ := qg0 hd1
      refine ⟨[(b1, 0), (b4, 0)], [.ptr 0 0, .fn 163 [] [], .fn 164 [] [.ptr 1 0]], H2 N m 0, _, _, qp5 N m hd a3, by simp [AV.ren, AV.zg, ofL], by simp [jb],
        ⟨f1 _, ⟨rfl, by rw [h4]; simp [AO.ren, AV.zg, AV.ren]⟩, trivial⟩, by simp [Wb, H2, AO.wr, a4], ⟨qj _ _ (qg _ _), ⟨trivial, trivial⟩, trivial⟩, by simp [AV.qt, AV.under, H2], by simp [AV.ren, AV.zg], ?_⟩
      simp [after, upd, AO.wr, AO.ren, H2, AV.zg, AV.ren, qb _ _ (qg _ _)]
    · cases he
  · cases he
noncomputable def qzl : zb := (qzb.put 162 (Yp))
theorem qt7 : qo Try.prog qzl := (qf8.put (qvf))
theorem qci : qzl 163 = some (qk Qd) := rfl
theorem qbr : qzl 164 = some (xl) := rfl
theorem Wk : qzl 162 = some (Yp) := rfl
def qkc : AC := .seq (.region [o0 1 (.box (.t 0)),oI 2 0]) (.seq (.region [o0 3 (.alloc [.int .i64 0]),⟨none,none,.op (.ue (.t 3) (.c (.int .i64 0)))⟩]) (.seq (.region [o0 4 (.qdd 164 [] [.t 3]),⟨some 5,none,.call (.c (.fn 162 [] [])) [.t 1,(.c (.fn 163 [] [])),.t 4]⟩]) (.seq (.region [oL 6 3,oM 2 6]) .ret)))
theorem qwy : zh Try.prog 126 = some ⟨7, qkc, [.slot 2]⟩ := by kernel_rfl
theorem qww (N : Nat) (m : List Nat) (hm : okD m) (hs : isS N m = true) :
    Am.Fn Try.prog 126 [.agg (dia N m)] [] (fun v H' => v = .int .i64 (clN N m : Nat) ∧ H' = []) := by
  refine Am.Fn.xp (R := fun v => v = _) qt7 mixed qwy (by simp) (by simp) ?_
  have hml := hm.1
  have hdo := qy (n := (N : Int)) hm
  have hN0 : (0 : Int) ≤ (N : Int) := by omega
  simp (maxSteps := 3000000) only [qf, zH, qkc, qci, qbr, Wk, Yp, xl, Qd, rdD, qe, hml, qw hml, zq, hdo, hs, hN0, Int.toNat_natCast, AV.one, and_self, true_and, and_true, Ne, iE, iN, iB, iC, iL, iD, iA, iS, iM, qa, zZ, ↓qp, ↓reduceIte, reduceCtorEq, nA, nM, nS, nE, nL, nD]; try simp only [qa, zY]
  exact ⟨rfl, rfl⟩
noncomputable def q20 : zb := (qzl.put 126 (qk V9))
theorem qld : qo Try.prog q20 := (qt7.put (qnc qww))
end Go.Proofs.Ytfhckbbgmblhbaa
namespace Go.Proofs.Ytfhckbbgmblhbaa
open Go.Am Go.Dia
open Nat renaming reduceAdd → nA, reduceMul → nM, reduceSub → nS, reduceEqDiff → nE, reduceLT → nL, reduceLeDiff → nD, reduceBEq → nB
open Int renaming reduceEq → iE, reduceNe → iN, reduceBEq → iB, reduceBNe → iC, reduceLT → iL, reduceLE → iD, reduceAdd → iA, reduceSub → iS, reduceMul → iM
set_option linter.unusedSimpArgs false
set_option linter.unusedVariables false
set_option maxRecDepth 4000
set_option maxHeartbeats 2000000
theorem qpo (N : Nat) (m : List Nat) : ∀ i, 1 ≤ (clO N m (i + 1)).2
  | 0 => by rw [qgf (by simp [clO])]; simp [clO]
  | i + 1 => by
    have := qpo N m i
    by_cases h : (clO N m (i + 1)).1.getD (i + 1) false = true
    · rw [qg1 h]; exact this
    · rw [qgf h]; show 1 ≤ (clO N m (i + 1)).2 + 1; omega
theorem qzn {N : Nat} {m : List Nat} (hN : 1 ≤ N ∧ N ≤ 8) : 1 ≤ clN N m ∧ clN N m ≤ 16 := by
  have h1 := qpo N m (2 * N - 1)
  have h2 := qm0 N m (2 * N)
  rw [show 2 * N - 1 + 1 = 2 * N by omega] at h1
  unfold clN; omega
def trK (p c : Int) (j : Nat) (t : Int × List Nat × Int) : Int := t.2.2 * xa p c (clN t.1.toNat t.2.1 - j)
def trU (p c : Int) (j : Nat) (ts : List (Int × List Nat × Int)) : Int := ts.foldl (fun acc t => acc + trK p c j t) 0
theorem qnb {p c : Int} {j : Nat} {ts : List (Int × List Nat × Int)} {k : Nat} (h : k < ts.length) : trU p c j (ts.take (k + 1)) = trU p c j (ts.take k) + trK p c j ts[k] := by
  rw [List.take_succ_eq_append_getElem h, trU, List.foldl_append]; rfl
theorem q0c {p c n : Int} {j : Nat} {ts : List (Int × List Nat × Int)} (hp : 2 ≤ p ∧ p ≤ 97) (hg : z8 p n ts) {k : Nat} (h : k < ts.length) : 0 ≤ trK p c j ts[k] ∧ trK p c j ts[k] ≤ 9216 := by
  have h1 := hg.fac _ (List.getElem_mem h)
  have h2 := qlp (c := c) hp.1 (clN ts[k].1.toNat ts[k].2.1 - j)
  have h3 : trK p c j ts[k] ≤ 96 * 96 := Int.mul_le_mul (by omega) (by omega) h2.1 (by omega)
  exact ⟨Int.mul_nonneg (by omega) h2.1, by omega⟩
theorem qrc {p c n : Int} {j : Nat} {ts : List (Int × List Nat × Int)} (hp : 2 ≤ p ∧ p ≤ 97) (hg : z8 p n ts) : ∀ k, k ≤ ts.length → 0 ≤ trU p c j (ts.take k) ∧ trU p c j (ts.take k) ≤ 9216 * k
  | 0, _ => by simp [trU]
  | k + 1, hk => by
    have h1 := qrc (c := c) (j := j) hp hg k (by omega)
    have h2 := q0c (c := c) (j := j) hp hg (k := k) (by omega)
    rw [qnb (by omega)]
    omega
theorem Jd : q20 126 = some (qk V9) := rfl
theorem Jw : q20 75 = some (qk u7) := rfl
def bu : AC := .seq (.region [oP 14 .lss 13 12]) (.seq (.cond 14 .skip (.exit 0)) (.seq (.block 1 (.seq (.region [oX 15 18 11 13,oN 16 18 15,o0 7 (.alloc [.int .i64 0,.int .u8 0,.int .u8 0,.int .u8 0,.int .u8 0,.int .u8 0,.int .u8 0,.int .u8 0,.int .u8 0,.int .u8 0,.int .u8 0,.int .u8 0,.int .u8 0,.int .u8 0,.int .u8 0,.int .u8 0,.int .u8 0,.int .i64 0]),oS 18 7 16]) (.draw true [oM 17 5,oF 18 17 7,oL 19 18,oM 20 0,o0 21 (.x7 (.t 20)),oF 22 1 21,oL 23 22,oF 24 0 7,oN 25 17 24,oM 27 1,oM 29 0,o0 30 (.x7 (.t 29)),oF 31 0 30,oL 32 31,oC 26 126 [.t 25],oP 28 .sub 26 27,oC 33 75 [.t 23,.t 28,.t 32],oP 34 .mul 19 33,oP 35 .add 17 34,oM 5 35]))) (.region [oK 36 .add 13 1,oM 13 36])))
def Xx : AC := .seq (.region [oM 37 5,oM 38 0,o0 39 (.x7 (.t 38)),oF 40 0 39,oL 41 40,oP 42 .rem 37 41,oM 4 42]) .ret
def Wr : AC := .seq (.region [oI 4 0]) (.seq (.region [oI 5 0]) (.seq (.seq (.region [oM 8 0,o0 9 (.x7 (.t 8)),oF 10 3 9,oL 11 10,o0 12 (.len .slc (.t 11)),oI 13 0]) (.block 0 (.loop bu))) Xx))
theorem qck : zh Try.prog 61 = some ⟨43, Wr, [.slot 4]⟩ := by kernel_rfl
theorem qwd (p c n : Int) (j : Nat) (ts : List (Int × List Nat × Int)) (hj : j ≤ 1) (hb : 2 ≤ p ∧ p ≤ 97) (hlb : 0 ≤ c ∧ c ≤ p - 1) (hn : 1 ≤ n ∧ n ≤ 8) (hg : z8 p n ts) (hl : ts.length ≤ 300) :
    Am.Fn Try.prog 61 [.ptr 1 0, .int .i64 j] [.ro (xb ts), .ro (elC p c n ts.length)] (fun v H' => v = .int .i64 ((trU p c j ts).emod p) ∧ H' = [.ro (xb ts), .ro (elC p c n ts.length)]) := by
  refine Am.Fn.xp (R := fun v => v = _) qld mixed qck (by simp [AV.qt, AV.under]) ?_ ?_
  · intro j o hj
    match j, hj with
    | 0, hj => cases hj; exact qj _ _ (qc _)
    | 1, hj => cases hj; exact ⟨trivial, trivial, trivial, by simp [AV.under], trivial⟩
    | j + 2, hj => simp at hj
  have hal := xe hg.ok
  have hp0 : ¬ p = 0 := by omega
  simp (maxSteps := 3000000) only [qf, zH, Wr, Jd, Jw, V9, u7, elC, hal, iE, iN, iB, iC, iL, iD, iA, iS, iM, qa, zZ, ↓qp, ↓reduceIte, reduceCtorEq, nA, nM, nS, nE, nL, nD]; try simp only [qa, zY]
  refine WA.xo qld (fun s => ∃ k : Nat, k ≤ ts.length ∧ s = ⟨[(0, .ptr 1 0), (1, .int .i64 j), (5, .int .i64 (trU p c j (ts.take k))), (11, .slc 0 0 ts.length false 0), (12, .int .i64 ts.length), (13, .int .i64 k)], [.ro (xb ts), .ro [.int .i64 p, .int .i64 c, .int .i64 n, .slc 0 0 ts.length false 0]]⟩)
    (fun s => match get s.env 13 with | .int _ x => ts.length - x.toNat | _ => 0) ⟨_, qu.qv [0, 1, 5, 11, 12, 13], 0, by omega, rfl⟩ ?_
  rintro s ⟨k, hk, rfl⟩
  by_cases hlt : k < ts.length
  · have hw : qn .i64 ((k : Int) + 1) = ((k + 1 : Nat) : Int) := by rw [wrap64 (by omega) (by omega)]; rfl
    have hli : (k : Int) < (ts.length : Int) := by omega
    have hk0 : (0 : Int) ≤ k := by omega
    have hg0 := Zw hg.ok hlt
    have hok := hg.ok _ (List.getElem_mem hlt)
    have hsz := hg.dia _ (List.getElem_mem hlt)
    have hfc := hg.fac _ (List.getElem_mem hlt)
    have hsu := qnb (p := p) (c := c) (j := j) hlt
    have hkb := q0c (c := c) (j := j) hb hg hlt
    have hub := qrc (c := c) (j := j) hb hg k hk
    have hkd : trK p c j ts[k] = ts[k].2.2 * xa p c (clN n.toNat ts[k].2.1 - j) := by unfold trK; rw [hsz.1]
    have hov := X9 (t := (0, List.replicate 16 0, 0)) (u := ts[k]) (by simp) hok.1
    have htl := xv hok
    have htd := Y1 hok
    have htf := Qr hok
    rw [hsz.1] at htd
    have hsm := hsz.2
    have hcb := qzn (m := ts[k].2.1) (zz hsm).1
    have hb1 : k * 18 < ts.length * 18 := by omega
    have hb2 : k * 18 + 18 ≤ ts.length * 18 := by omega
    have hn0 : 0 ≤ n := by omega
    have hwc : qn .i64 (((clN n.toNat ts[k].2.1 : Nat) : Int) - (j : Int)) = ((clN n.toNat ts[k].2.1 - j : Nat) : Int) := by rw [wrap64 (by omega) (by omega)]; omega
    have hcb2 : (0 : Int) ≤ ((clN n.toNat ts[k].2.1 - j : Nat) : Int) ∧ ((clN n.toNat ts[k].2.1 - j : Nat) : Int) ≤ 1000000 := by omega
    have hwm : qn .i64 (ts[k].2.2 * xa p c (clN n.toNat ts[k].2.1 - j)) = trK p c j ts[k] := by rw [← hkd]; exact wrap64 (by omega) (by omega)
    have hwa : qn .i64 (trU p c j (ts.take k) + trK p c j ts[k]) = trU p c j (ts.take (k + 1)) := by rw [hsu]; exact wrap64 (by omega) (by omega)
    simp (maxSteps := 3000000) only [qf, zH, bu, Jd, Jw, V9, u7, hli, hk0, hal, hb1, hb2, hg0, Zb, htl, htd, htf, Z2, vo, hov, hw, qy hok, hsm, hn0, hwc, hcb2, hb, hlb, hwm, hwa, Int.toNat_natCast, qe, List.length_replicate, Nat.le_refl, and_self, iE, iN, iB, iC, iL, iD, iA, iS, iM, qa, zZ, ↓qp, ↓reduceIte, reduceCtorEq, nA, nM, nS, nE, nL, nD]; try simp only [qa, zY]
    repeat' refine And.intro (by first | rfl | exact ⟨_, rfl⟩) ?_
    refine ⟨_, qu.can [0, 1, 5, 11, 12, 13] (by simp only [V8, zC, nB, nD, nA, nE, ↓reduceIte, reduceCtorEq]; rfl), ⟨k + 1, by omega, ?_⟩, ?_⟩
    · simp only [qb _ _ (qc _), zL, ↓reduceIte, reduceCtorEq, nE, nA]
    · simp only [zL, ↓reduceIte, reduceCtorEq, nE, nA]; omega
  · have hli : ¬ (k : Int) < (ts.length : Int) := by omega
    obtain rfl : k = ts.length := by omega
    have hub := qrc (c := c) (j := j) hb hg ts.length (Nat.le_refl _)
    rw [List.take_length] at hub
    simp (maxSteps := 3000000) only [qf, zH, bu, Xx, Jd, Jw, V9, u7, hli, hp0, Int.lt_irrefl, List.take_length, iE, iN, iB, iC, iL, iD, iA, iS, iM, qa, zZ, ↓qp, ↓reduceIte, reduceCtorEq, nA, nM, nS, nE, nL, nD]; try simp only [qa, zY]
    rw [Int.tmod_eq_emod_of_nonneg hub.1]
    exact ⟨⟨_, rfl⟩, rfl⟩
def Bc : BE := fun hp xs => match xs with
  | [.ptr b 0, .int .i64 j] => match rd hp b with
    | some (.int .i64 p :: .int .i64 c :: .int .i64 n :: .slc ba 0 la false 0 :: _) => match rd hp ba with
      | some L => match qah la L with
        | some a => chk ((0 ≤ j ∧ j ≤ 1) ∧ ((2 ≤ p ∧ p ≤ 97) ∧ (0 ≤ c ∧ c ≤ p - 1) ∧ (1 ≤ n ∧ n ≤ 8)) ∧ Ug p n a ∧ la ≤ 300) (some (.int .i64 ((trU p c j.toNat a).emod p), hp))
        | none => none
      | none => none
    | _ => none
  | _ => none
theorem q3i : Am.Callee Try.prog 61 Bc := Callee.fp fun hp xs v hp' he => by
  unfold Bc at he
  split at he
  · rename_i b j
    split at he
    · rename_i p c n ba la L0 hL0
      split at he
      · rename_i L hL
        split at he
        · rename_i a h1
          obtain ⟨⟨⟨a1, a2⟩, ⟨a3, a4, a7⟩, a5, a6⟩, he2⟩ := qm he
          simp only [Option.some.injEq, Prod.mk.injEq] at he2
          obtain ⟨rfl, rfl⟩ := he2
          obtain ⟨e1, e2, e3, e4⟩ := gv h1
          have g1 := xe e2
          have hgg := a5.qfv e2
          obtain ⟨k, rfl⟩ : ∃ k : Nat, j = k := ⟨j.toNat, by omega⟩
          rw [Int.toNat_natCast]
          have hfn := qwd p c n k a (by omega) a3 a4 a7 hgg (by omega)
          refine ⟨[(ba, 0), (b, 0)], [.ptr 1 0, .int .i64 k], _, _, _, hfn, by simp [AV.ren, AV.zg, ofL], rfl,
            ⟨⟨L, hL, by omega, by rw [List.drop_zero, qb _ _ (qc _), g1, e1]; exact e3⟩, ⟨_, hL0, by simp, by simp [AV.zg, AV.ren, ofL, e1]⟩, trivial⟩, rfl,
            ⟨qj _ _ (qc _), ⟨trivial, trivial, trivial, by simp [AV.under], trivial⟩, trivial⟩, ⟨by simp [AV.under], trivial, trivial⟩, by simp [AV.ren], ?_⟩
          simp [after, upd, AO.wr]
        · cases he
      · cases he
    · cases he
  · cases he
noncomputable def q8v : zb := (q20.put 61 (Bc))
theorem q2m : qo Try.prog q8v := (qld.put (q3i))
noncomputable def q5e : zb := q8v
theorem ql3 : qo Try.prog q5e := q2m
def chb (p c : Int) : Nat → Int
  | 0 => 0
  | 1 => 1
  | k + 2 => (c * chb p c (k + 1) - chb p c k).emod p
theorem qbm {p c : Int} (hp : 2 ≤ p ∧ p ≤ 97) : ∀ k, 0 ≤ chb p c k ∧ chb p c k ≤ p - 1
  | 0 => by simp only [chb]; omega
  | 1 => by simp only [chb]; omega
  | k + 2 => ⟨Int.emod_nonneg _ (by omega), Int.le_sub_one_of_lt (Int.emod_lt_of_pos _ (by omega))⟩
theorem qp3 {p c : Int} (hp : 2 ≤ p ∧ p ≤ 97) (hc : 0 ≤ c ∧ c ≤ p - 1) (k : Nat) : qn .i64 (c * chb p c (k + 1)) = c * chb p c (k + 1) ∧ qn .i64 (c * chb p c (k + 1) - chb p c k) = c * chb p c (k + 1) - chb p c k := by
  have h1 := qbm (c := c) hp (k + 1)
  have h0 := qbm (c := c) hp k
  have h2 : c * chb p c (k + 1) ≤ 96 * 96 := Int.mul_le_mul (by omega) (by omega) h1.1 (by omega)
  have h3 : 0 ≤ c * chb p c (k + 1) := Int.mul_nonneg hc.1 h1.1
  exact ⟨wrap64 (by omega) (by omega), wrap64 (by omega) (by omega)⟩
theorem Ub : q5e 70 = some (qk J0) := rfl
def Xe : AC := .seq (.seq (.region [oM 10 2,oK 11 .gtr 10 0]) (.cond 11 .skip (.exit 0))) (.seq (.block 1 (.seq (.region [oM 14 0,oM 15 1,oM 16 8,oP 17 .mul 15 16,oM 18 7,oP 19 .sub 17 18,oC 20 70 [.t 14,.t 19],oM 9 20]) (.seq (.region [oM 21 8,oM 7 21]) (.region [oM 22 9,oM 8 22])))) (.region [oM 12 2,oK 13 .sub 12 1,oM 2 13]))
def Uf : AC := .seq (.seq (.region [oM 23 2,oK 24 .lss 23 0]) (.cond 24 (.seq (.region [oI 6 0]) .ret) .skip)) (.seq (.region [oM 25 8,oM 6 25]) .ret)
def qas : AC := .seq (.region [oI 6 0]) (.seq (.region [oI 7 0,oI 8 1]) (.seq (.block 0 (.loop Xe)) Uf))
theorem qjq : zh Try.prog 136 = some ⟨26, qas, [.slot 6]⟩ := by kernel_rfl
theorem qjm (p c : Int) (K : Nat) (hp : 2 ≤ p ∧ p ≤ 97) (hc : 0 ≤ c ∧ c ≤ p - 1) (hK : K ≤ 1000) :
    Am.Fn Try.prog 136 [.int .i64 p, .int .i64 c, .int .i64 K] [] (fun v H' => v = .int .i64 (chb p c (K + 1)) ∧ H' = []) := by
  refine Am.Fn.xp (R := fun v => v = _) ql3 mixed qjq (by simp) (by simp) ?_
  have p1 : 0 < p ∧ p ≤ 1000000 := by omega
  simp (maxSteps := 3000000) only [qf, zH, qas, Ub, J0, iE, iN, iB, iC, iL, iD, iA, iS, iM, qa, zZ, ↓qp, ↓reduceIte, reduceCtorEq, nA, nM, nS, nE, nL, nD]; try simp only [qa, zY]
  refine WA.xo ql3 (fun s => ∃ i : Nat, i ≤ K ∧ s = ⟨[(0, .int .i64 p), (1, .int .i64 c), (2, .int .i64 ((K - i : Nat) : Int)), (7, .int .i64 (chb p c i)), (8, .int .i64 (chb p c (i + 1)))], []⟩)
    (fun s => match get s.env 2 with | .int _ x => x.toNat | _ => 0) ⟨_, qu.qv [0, 1, 2, 7, 8], 0, by omega, rfl⟩ ?_
  rintro s ⟨i, hi, rfl⟩
  by_cases hlt : i < K
  · have hli : (0 : Int) < ((K - i : Nat) : Int) := by omega
    have hw : qn .i64 (((K - i : Nat) : Int) - 1) = ((K - (i + 1) : Nat) : Int) := by rw [wrap64 (by omega) (by omega)]; omega
    obtain ⟨w1, w2⟩ := qp3 (c := c) hp hc i
    have hn : (c * chb p c (i + 1) - chb p c i).emod p = chb p c (i + 2) := rfl
    simp (maxSteps := 3000000) only [qf, zH, Xe, Ub, J0, hli, hw, w1, w2, hn, p1, iE, iN, iB, iC, iL, iD, iA, iS, iM, qa, zZ, ↓qp, ↓reduceIte, reduceCtorEq, nA, nM, nS, nE, nL, nD]; try simp only [qa, zY]
    refine ⟨_, qu.qv [0, 1, 2, 7, 8], ⟨i + 1, by omega, ?_⟩, ?_⟩
    · simp only [zL, ↓reduceIte, reduceCtorEq, nE, nA]
    · simp only [zL, ↓reduceIte, reduceCtorEq, nE, nA]; omega
  · have hli : ¬ (0 : Int) < ((K - i : Nat) : Int) := by omega
    have hl2 : ¬ ((K - i : Nat) : Int) < 0 := by omega
    obtain rfl : i = K := by omega
    have e0 : ((i - i : Nat) : Int) = 0 := by omega
    simp (maxSteps := 3000000) only [qf, zH, Xe, Uf, e0, Int.lt_irrefl, iE, iN, iB, iC, iL, iD, iA, iS, iM, qa, zZ, ↓qp, ↓reduceIte, reduceCtorEq, nA, nM, nS, nE, nL, nD]; try simp only [qa, zY]
def Yx : List AV → Option AV
  | [.int .i64 p, .int .i64 c, .int .i64 k] => chk (((2 ≤ p ∧ p ≤ 97) ∧ (0 ≤ c ∧ c ≤ p - 1)) ∧ 0 ≤ k ∧ k ≤ 1000) (some (.int .i64 (chb p c (k.toNat + 1))))
  | _ => none
theorem q8c : Am.Callee Try.prog 136 (qk Yx) := Am.Callee.plain fun xs v he => by
  unfold Yx at he
  split at he
  · rename_i p c k
    obtain ⟨⟨⟨h1, h2⟩, h3⟩, he⟩ := qm he
    cases he
    obtain ⟨k, rfl⟩ : ∃ j : Nat, k = j := ⟨k.toNat, by omega⟩
    rw [Int.toNat_natCast]
    exact ⟨rfl, rfl, qjm p c k h1 h2 (by omega)⟩
  · cases he
noncomputable def q5c : zb := (q5e.put 136 (qk Yx))
theorem ql1 : qo Try.prog q5c := (ql3.put (q8c))
def zOk (P C : Nat) : Nat → Nat → Nat → Bool
  | 0, _, _ => false
  | f + 1, x, y => bif Nat.beq ((C * y + (P - x)) % P) 0 then true else zOk P C f y ((C * y + (P - x)) % P)
theorem q3u {P C x y : Nat} (hP : 2 ≤ P) (hx : x < P) : ((C : Int) * (y : Int) - (x : Int)).emod (P : Int) = (((C * y + (P - x)) % P : Nat) : Int) := by
  have e : (((C * y + (P - x) : Nat)) : Int) = ((C : Int) * (y : Int) - (x : Int)) + (P : Int) := by
    rw [Int.natCast_add, Int.natCast_mul]; omega
  rw [Int.natCast_emod, e]
  exact (Int.add_emod_right _ _).symm
theorem qqr {P C : Nat} (hP : 2 ≤ P ∧ P ≤ 97) : ∀ (f k x y : Nat), chb P C k = x → chb P C (k + 1) = y → zOk P C f x y = true → ∃ m, k + 1 ≤ m ∧ m ≤ k + f ∧ chb P C (m + 1) = 0
  | 0, k, x, y, hx, hy, h => by cases h
  | f + 1, k, x, y, hx, hy, h => by
    have hb := qbm (p := (P : Int)) (c := C) (by omega) k
    have hz : chb P C (k + 2) = (((C * y + (P - x)) % P : Nat) : Int) := by
      show ((C : Int) * chb P C (k + 1) - chb P C k).emod P = _
      rw [hx, hy]; exact q3u hP.1 (by omega)
    rw [zOk] at h
    by_cases h0 : (C * y + (P - x)) % P = 0
    · exact ⟨k + 1, by omega, by omega, by rw [hz, h0]; rfl⟩
    · have hne : Nat.beq ((C * y + (P - x)) % P) 0 = false := by
        cases e : Nat.beq ((C * y + (P - x)) % P) 0 with
        | false => rfl
        | true => exact absurd (Nat.eq_of_beq_eq_true e) h0
      rw [hne, cond_false] at h
      obtain ⟨m, h1, h2, h3⟩ := qqr hP f (k + 1) y _ hy hz h
      exact ⟨m, by omega, by omega, h3⟩
def q89 : Bool := (List.range 98).all fun P => !zx P || (List.range P).all fun C => zOk P C 100 0 1
theorem q12 : q89 = true := by kernel_rfl
theorem qvq {p c : Int} (hp : zx p = true) (hc : 0 ≤ c ∧ c ≤ p - 1) : ∃ m, (1 ≤ m ∧ m ≤ 100) ∧ chb p c (m + 1) = 0 := by
  have hb := uu hp
  obtain ⟨P, rfl⟩ : ∃ P : Nat, p = P := ⟨p.toNat, by omega⟩
  obtain ⟨C, rfl⟩ : ∃ C : Nat, c = C := ⟨c.toNat, by omega⟩
  have h1 := List.all_eq_true.1 q12 P (List.mem_range.2 (by omega))
  rw [hp, Bool.not_true, Bool.false_or] at h1
  have h2 := List.all_eq_true.1 h1 C (List.mem_range.2 (by omega))
  obtain ⟨m, h3, h4, h5⟩ := qqr (by omega) 100 0 0 1 rfl rfl h2
  exact ⟨m, by omega, h5⟩
open Classical in
noncomputable def jv (p c : Int) : Nat := if h : ∃ m, (1 ≤ m ∧ m ≤ 100) ∧ chb p c (m + 1) = 0 then Classical.choose (Q9 h) else 0
theorem qcq {p c : Int} (hp : zx p = true) (hc : 0 ≤ c ∧ c ≤ p - 1) : (1 ≤ jv p c ∧ jv p c ≤ 100) ∧ chb p c (jv p c + 1) = 0 ∧ ∀ j, 1 ≤ j → j < jv p c → ¬ chb p c (j + 1) = 0 := by
  have h := qvq hp hc
  have h1 := Classical.choose_spec (Q9 h)
  have e : jv p c = Classical.choose (Q9 h) := dif_pos h
  rw [e]
  refine ⟨h1.1.1, h1.1.2, fun j hj hlt h0 => ?_⟩
  have := h1.2 j ⟨⟨hj, by have := h1.1.1.2; omega⟩, h0⟩
  omega
theorem kg : q5c 136 = some (qk Yx) := rfl
def Wd : AC := .seq (.seq (.region [oM 6 0,oM 7 1,oM 8 5,oC 9 136 [.t 6,.t 7,.t 8],oK 10 .neq 9 0]) (.cond 10 .skip (.exit 0))) (.block 1 (.region [oM 11 5,oK 12 .add 11 1,oM 5 12]))
def Gu : AC := .seq (.region [oM 13 5,oM 4 13]) .ret
def qei : AC := .seq (.region [oI 4 0]) (.seq (.region [oI 5 1]) (.seq (.block 0 (.loop Wd)) Gu))
theorem qn4 : zh Try.prog 132 = some ⟨14, qei, [.slot 4]⟩ := by kernel_rfl
theorem qqh (p c : Int) (hp : zx p = true) (hc : 0 ≤ c ∧ c ≤ p - 1) :
    Am.Fn Try.prog 132 [.int .i64 p, .int .i64 c] [] (fun v H' => v = .int .i64 (jv p c : Nat) ∧ H' = []) := by
  refine Am.Fn.xp (R := fun v => v = _) ql1 mixed qn4 (by simp) (by simp) ?_
  have hb := uu hp
  obtain ⟨z1, z2, z3⟩ := qcq hp hc
  simp (maxSteps := 3000000) only [qf, zH, qei, kg, Yx, iE, iN, iB, iC, iL, iD, iA, iS, iM, qa, zZ, ↓qp, ↓reduceIte, reduceCtorEq, nA, nM, nS, nE, nL, nD]; try simp only [qa, zY]
  refine WA.xo ql1 (fun s => ∃ m : Nat, 1 ≤ m ∧ m ≤ jv p c ∧ s = ⟨[(0, .int .i64 p), (1, .int .i64 c), (5, .int .i64 m)], []⟩)
    (fun s => match get s.env 5 with | .int _ x => 101 - x.toNat | _ => 0) ⟨_, qu.qv [0, 1, 5], 1, by omega, by omega, rfl⟩ ?_
  rintro s ⟨m, hm, hmz, rfl⟩
  have hk : (0 : Int) ≤ (m : Int) ∧ (m : Int) ≤ 1000 := by omega
  by_cases h0 : chb p c (m + 1) = 0
  · have hq : (chb p c (m + 1) != 0) = false := by simp [h0]
    have e : m = jv p c := by
      by_cases hlt : m < jv p c
      · exact absurd h0 (z3 m hm hlt)
      · omega
    simp (maxSteps := 3000000) only [qf, zH, Wd, Gu, kg, Yx, hb, hc, hk, hq, Int.toNat_natCast, and_self, iE, iN, iB, iC, iL, iD, iA, iS, iM, qa, zZ, ↓qp, ↓reduceIte, reduceCtorEq, nA, nM, nS, nE, nL, nD]; try simp only [qa, zY]
    rw [e]
  · have hq : (chb p c (m + 1) != 0) = true := by simp [h0]
    have hlt : m < jv p c := by
      by_cases e : m = jv p c
      · subst e; exact absurd z2 h0
      · omega
    have hw : qn .i64 ((m : Int) + 1) = ((m + 1 : Nat) : Int) := by rw [wrap64 (by omega) (by omega)]; rfl
    simp (maxSteps := 3000000) only [qf, zH, Wd, kg, Yx, hb, hc, hk, hq, hw, Int.toNat_natCast, and_self, iE, iN, iB, iC, iL, iD, iA, iS, iM, qa, zZ, ↓qp, ↓reduceIte, reduceCtorEq, nA, nM, nS, nE, nL, nD]; try simp only [qa, zY]
    refine ⟨_, qu.qv [0, 1, 5], ⟨m + 1, by omega, by omega, ?_⟩, ?_⟩
    · simp only [zL, ↓reduceIte, reduceCtorEq, nE, nA]
    · simp only [zL, ↓reduceIte, reduceCtorEq, nE, nA]; omega
end Go.Proofs.Ytfhckbbgmblhbaa
