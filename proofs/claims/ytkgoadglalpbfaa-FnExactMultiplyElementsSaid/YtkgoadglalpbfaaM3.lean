/- Contracts: products of elements, the implementation. -/
import Derived.Test.YtkgoadglalpbfaaM2
namespace Go.Proofs.Ytkgoadglalpbfaa
open Go.Am Go.Dia
open Nat renaming reduceAdd → nA, reduceMul → nM, reduceSub → nS, reduceEqDiff → nE, reduceLT → nL, reduceLeDiff → nD, reduceBEq → nB
open Int renaming reduceEq → iE, reduceNe → iN, reduceBEq → iB, reduceBNe → iC, reduceLT → iL, reduceLE → iD, reduceAdd → iA, reduceSub → iS, reduceMul → iM
set_option linter.unusedSimpArgs false
set_option linter.unusedVariables false
set_option maxRecDepth 4000
set_option maxHeartbeats 1000000
theorem qln {n : Int} {m : List Nat} {S : List (Int × List Nat × Int)} (hm : m.length = 16) (ho : okT S) (h : Ul n m S = none) (v : Int) :
    uu KD true (.agg (dia n m)) (esT 0 S) 0 = some none ∧ Wp n m S = 0 ∧ (AO.map (esT 0 S ++ [(⟨.agg (dia n m), .int .i64 v, S.length⟩ : AE)]) (S.length + 1)) = Qe (U3 n m v S) := by
  refine ⟨by rw [qdb hm ho, h]; rfl, by unfold Wp; rw [h], ?_⟩
  have e : U3 n m v S = S ++ [(n, m, v)] := by unfold U3; rw [h]
  rw [e]
  show _ = AO.map (esT 0 (S ++ [(n, m, v)])) (S ++ [(n, m, v)]).length
  rw [qnz]; simp [esT]
theorem qlj {n : Int} {m : List Nat} {S : List (Int × List Nat × Int)} {j : Nat} (hm : m.length = 16) (ho : okT S) (h : Ul n m S = some j) (v : Int) :
    uu KD true (.agg (dia n m)) (esT 0 S) 0 = some (some (j, ⟨.agg (dia n m), .int .i64 (Wp n m S), j⟩)) ∧ (AO.map ((esT 0 S).set j ⟨.agg (dia n m), .int .i64 v, j⟩) S.length) = Qe (U3 n m v S) := by
  have e1 : Wp n m S = (S.getD j zT).2.2 := by unfold Wp; rw [h]
  refine ⟨by rw [qdb hm ho, h, e1]; simp, ?_⟩
  have e : U3 n m v S = S.set j (n, m, v) := by unfold U3; rw [h]
  rw [e]
  show _ = AO.map (esT 0 (S.set j (n, m, v))) (S.set j (n, m, v)).length
  have := qn8 (n := n) (v := v) (m := m) (ts := S) (k := 0) (j := j)
  rw [Nat.zero_add] at this
  rw [this]; simp
theorem qr9 {p c n : Int} (hp : 2 ≤ p ∧ p ≤ 97) (hc : 0 ≤ c ∧ c ≤ p - 1) {a b : List (Int × List Nat × Int)} (ha : wk p n a) (hb : wk p n b) (hl : a.length ≤ 300 ∧ b.length ≤ 300) {l : List (Int × List Nat × Int)} (h : ∀ t ∈ l, t ∈ vw p c n a b) (hl : l.length ≤ 100000) :
    qhk p n (ML p n l) ∧ (ML p n l).length ≤ 100000 := by
  have hm := qh2 (c := c) hp hc ha hb
  have h1 := qdh (p := p) (n := n) (by omega) (l := l) (acc := []) ⟨⟨(fun t h => by cases h), (fun t h => by cases h), (fun t h => by cases h), .nil⟩, fun t h => by cases h⟩ fun t ht => ⟨(hm t (h t ht)).1, (hm t (h t ht)).2.1⟩
  exact ⟨h1.1, Nat.le_trans h1.2 (by simpa using hl)⟩
theorem jq : B87 113 = some (J4) := rfl
theorem uj : B87 128 = some (qu J5) := rfl
theorem ua : B87 127 = some (qu vy) := rfl
def bl : AC := .seq (.region [oP 24 .lss 23 22]) (.seq (.cond 24 .skip (.exit 2)) (.seq (.block 3 (.seq (.region [oX 25 18 21 23,oN 26 18 25,o0 9 (.alloc [.int .i64 0,.int .u8 0,.int .u8 0,.int .u8 0,.int .u8 0,.int .u8 0,.int .u8 0,.int .u8 0,.int .u8 0,.int .u8 0,.int .u8 0,.int .u8 0,.int .u8 0,.int .u8 0,.int .u8 0,.int .u8 0,.int .u8 0,.int .i64 0]),oS 18 9 26]) (.seq (.region [oF 28 0 7,oN 29 17 28,oF 30 0 9,oN 31 17 30,oC 32 127 [.t 29,.t 31],oM 27 32,oE 33 0 27,oE 34 1 27,o0 10 (.alloc [.int .i64 0,.int .u8 0,.int .u8 0,.int .u8 0,.int .u8 0,.int .u8 0,.int .u8 0,.int .u8 0,.int .u8 0,.int .u8 0,.int .u8 0,.int .u8 0,.int .u8 0,.int .u8 0,.int .u8 0,.int .u8 0,.int .u8 0]),oS 17 10 33,oM 11 34]) (.draw true [oM 35 5,oN 36 17 10,oM 37 5,oN 38 17 10,o0 39 (.lookup [.int,.int,.int,.int,.int,.int,.int,.int,.int,.int,.int,.int,.int,.int,.int,.int,.int] true (.int .i64 0) false (.t 37) (.t 38)),oF 40 17 7,oL 41 40,oF 42 17 9,oL 43 42,oP 44 .mul 41 43,oF 45 0 2,oL 46 45,oP 47 .rem 44 46,oF 48 1 2,oL 49 48,oM 50 11,oF 51 0 2,oL 52 51,oF 56 0 2,oL 57 56,oC 53 128 [.t 49,.t 50,.t 52],oP 54 .mul 47 53,oP 55 .add 39 54,oP 58 .rem 55 57,⟨none,none,.op (.Gs [.int,.int,.int,.int,.int,.int,.int,.int,.int,.int,.int,.int,.int,.int,.int,.int,.int] true (.t 35) (.t 36) (.t 58))⟩])))) (.region [oK 59 .add 23 1,oM 23 59])))
def Js : AC := .region [oK 60 .add 16 1,oM 16 60]
def Qi : AC := .seq (.region [oP 17 .lss 16 15]) (.seq (.cond 17 .skip (.exit 0)) (.seq (.block 1 (.seq (.region [oX 18 18 14 16,oN 19 18 18,o0 7 (.alloc [.int .i64 0,.int .u8 0,.int .u8 0,.int .u8 0,.int .u8 0,.int .u8 0,.int .u8 0,.int .u8 0,.int .u8 0,.int .u8 0,.int .u8 0,.int .u8 0,.int .u8 0,.int .u8 0,.int .u8 0,.int .u8 0,.int .u8 0,.int .i64 0]),oS 18 7 19]) (.seq (.region [oF 20 3 3,oL 21 20,o0 22 (.len .slc (.t 21)),oI 23 0]) (.block 2 (.loop bl))))) Js))
def Jo : AC := .seq (.region [oM 61 5,oC 62 113 [.t 2,.t 61],oS 4 4 62]) .ret
def Y8 : AC := .seq (.region [o0 2 (.box (.t 0)),o0 3 (.box (.t 1)),o0 4 (.alloc [.int .i64 0,.int .i64 0,.int .i64 0,(.v (.slice none 0 0))])]) (.seq (.region [o0 12 (.qa5),oM 5 12]) (.seq (.seq (.region [oF 13 3 2,oL 14 13,o0 15 (.len .slc (.t 14)),oI 16 0]) (.block 0 (.loop Qi))) Jo))
theorem qcx : zy Try.prog 90 = some ⟨63, Y8, [.kd 4 4]⟩ := by kernel_rfl
theorem qc2 (p c n p' c' : Int) (a b : List (Int × List Nat × Int)) (hp : 2 ≤ p ∧ p ≤ 97) (hc : 0 ≤ c ∧ c ≤ p - 1) (hn : 0 ≤ n ∧ n ≤ 8) (ha : wk p n a) (hb : wk p n b) (hl : a.length ≤ 300 ∧ b.length ≤ 300) :
    Am.Fn Try.prog 90 [elemV p c n 0 a.length, elemV p' c' n 1 b.length] [.ro (qq a), .ro (qq b)] (fun v H' => v = elemV p c n 2 (MP p n (vw p c n a b)).length ∧ H' = [.ro (qq a), .ro (qq b), .vec 18 (qq (MP p n (vw p c n a b)))]) := by
  refine Am.Fn.ofB qgu mixed qcx (by simp [elemV, AV.q7, AV.under]) (kz (qa _) (qa _)) ?_
  have hal := qt ha.ok
  have hbl := qt hb.ok
  simp (maxSteps := 3000000) only [qf, zH, Y8, jq, uj, ua, J5, vy, J4, elemV, hal, hbl, Nat.le_refl, iE, iN, iB, iC, iL, iD, iA, iS, iM, qb, zZ, ↓qp, ↓reduceIte, reduceCtorEq, nA, nM, nS, nE, nL, nD]; try simp only [qb, zY]
  have hlen2 : ∀ l : List (Int × List Nat × Int), (∀ t ∈ l, t ∈ vw p c n a b) → l.length ≤ 100000 → qhk p n (ML p n l) ∧ (ML p n l).length ≤ 100000 := fun l h1 h2 => qr9 (c := c) hp hc ha hb hl h1 h2
  refine WA.j8 qgu (fun s => ∃ (i : Nat) (S : List (Int × List Nat × Int)), i ≤ a.length ∧ S = ML p n (vw p c n (a.take i) b) ∧ s = ⟨[(16, .int .i64 i), (15, .int .i64 a.length), (14, .slc 0 0 a.length false 0), (5, .map 5), (4, .ptr 4 0), (3, .ptr 3 0), (2, .ptr 2 0)], [.ro (qq a), .ro (qq b), .cells [.int .i64 p, .int .i64 c, .int .i64 n, .slc 0 0 a.length false 0], .cells [.int .i64 p', .int .i64 c', .int .i64 n, .slc 1 0 b.length false 0], qdx, Qe S]⟩)
    (fun s => match get s.env 16 with | .int _ x => a.length - x.toNat | _ => 0) ⟨_, qz.zc [16, 15, 14, 5, 4, 3, 2], 0, [], by omega, rfl, rfl⟩ ?_
  rintro s ⟨i, S, hi, hS, rfl⟩
  have hwi : q8 .i64 ((i : Int) + 1) = ((i + 1 : Nat) : Int) := by rw [wrap64 (by omega) (by omega)]; rfl
  by_cases hlt : i < a.length
  · have hli : (i : Int) < a.length := by omega
    have hli' : (0 : Int) ≤ i := by omega
    have hg0 := gw ha.ok hlt
    have ok1 := ha.ok _ (List.getElem_mem hlt)
    have z1 := ha.dia _ (List.getElem_mem hlt)
    have c1 := ha.fac _ (List.getElem_mem hlt)
    have hb1 : i * 18 < a.length * 18 := by omega
    have hb2 : i * 18 + 18 ≤ a.length * 18 := by omega
    have hov := Zx (t := (0, List.replicate 16 0, 0)) (u := a[i]) (by simp) ok1.1
    have htl := zx (t := a[i]) ok1
    have htd := qdm (t := a[i]) ok1
    have htf := bz (t := a[i]) ok1
    rw [z1.1] at htd
    have hmem : ∀ j, ∀ t ∈ vw p c n (a.take i) b ++ (b.take j).map (prT p c n a[i]), t ∈ vw p c n a b := fun j t ht => qkm hlt ht
    have hmln : ∀ j, (vw p c n (a.take i) b ++ (b.take j).map (prT p c n a[i])).length ≤ 100000 := fun j => by
      rw [List.length_append, Gx, List.length_map, List.length_take, List.length_take]
      have h1 : (min i a.length) * b.length ≤ 300 * 300 := Nat.mul_le_mul (by omega) hl.2
      omega
    have hms : vw p c n (a.take (i + 1)) b = vw p c n (a.take i) b ++ b.map (prT p c n a[i]) := qf5 hlt
    have hnx : ∀ j (h : j < b.length), (b.take (j + 1)).map (prT p c n a[i]) = (b.take j).map (prT p c n a[i]) ++ [prT p c n a[i] b[j]] := fun j h => qji h
    obtain ⟨t, ht⟩ : ∃ t, t = a[i] := ⟨_, rfl⟩
    rw [← ht] at hg0 ok1 z1 c1 hov htl htd htf hms
    simp only [← ht] at hmem hmln hnx
    clear ht
    simp (maxSteps := 3000000) only [qf, zH, Qi, jq, uj, ua, J5, vy, J4, hli, hli', hal, hbl, hb1, hb2, hg0, j1, htl, jt, xt, hov, List.length_replicate, Nat.le_refl, iE, iN, iB, iC, iL, iD, iA, iS, iM, qb, zZ, ↓qp, ↓reduceIte, reduceCtorEq, nA, nM, nS, nE, nL, nD]; try simp only [qb, zY]
    have ea : vw p c n (a.take i) b = vw p c n (a.take i) b ++ (b.take 0).map (prT p c n t) := by simp
    rw [ea] at hS
    refine WA.j8 qgu (fun s => ∃ (j : Nat) (S : List (Int × List Nat × Int)), j ≤ b.length ∧ S = ML p n (vw p c n (a.take i) b ++ (b.take j).map (prT p c n t)) ∧ s = ⟨[(23, .int .i64 j), (22, .int .i64 b.length), (21, .slc 1 0 b.length false 0), (7, .ptr 6 0), (16, .int .i64 i), (15, .int .i64 a.length), (14, .slc 0 0 a.length false 0), (5, .map 5), (4, .ptr 4 0), (3, .ptr 3 0), (2, .ptr 2 0)], [.ro (qq a), .ro (qq b), .cells [.int .i64 p, .int .i64 c, .int .i64 n, .slc 0 0 a.length false 0], .cells [.int .i64 p', .int .i64 c', .int .i64 n, .slc 1 0 b.length false 0], qdx, Qe S, .cells (trm t)]⟩)
      (fun s => match get s.env 23 with | .int _ x => b.length - x.toNat | _ => 0) ⟨_, qz.zc [23, 22, 21, 7, 16, 15, 14, 5, 4, 3, 2], 0, S, by omega, hS, rfl⟩ ?_
    clear hS
    rintro s ⟨j, S, hj, hS, rfl⟩
    by_cases hltj : j < b.length
    · obtain ⟨hs, hsl⟩ := hlen2 _ (hmem j) (hmln j)
      rw [← hS] at hs hsl
      have hlj : (j : Int) < b.length := by omega
      have hlj' : (0 : Int) ≤ j := by omega
      have hw : q8 .i64 ((j : Int) + 1) = ((j + 1 : Nat) : Int) := by rw [wrap64 (by omega) (by omega)]; rfl
      have hq0 := gw hb.ok hltj
      have ok2 := hb.ok _ (List.getElem_mem hltj)
      have z2 := hb.dia _ (List.getElem_mem hltj)
      have c2 := hb.fac _ (List.getElem_mem hltj)
      have hb4 : j * 18 < b.length * 18 := by omega
      have hb5 : j * 18 + 18 ≤ b.length * 18 := by omega
      have hov2 := Zx (t := (0, List.replicate 16 0, 0)) (u := b[j]) (by simp) ok2.1
      have htl2 := zx (t := b[j]) ok2
      have htd2 := qdm (t := b[j]) ok2
      have htf2 := bz (t := b[j]) ok2
      rw [z2.1] at htd2
      obtain ⟨t1, t2, t3, t4⟩ := qlw (c := c) hp hc z1.2 z2.2 c1 c2
      have hnext : ML p n (vw p c n (a.take i) b ++ (b.take (j + 1)).map (prT p c n t)) = qaw p n (prT p c n t b[j]).2.1 (prT p c n t b[j]).2.2 S := by
        rw [hnx j hltj, ← List.append_assoc, qup, ← hS]
      obtain ⟨u, hu⟩ : ∃ u, u = b[j] := ⟨_, rfl⟩
      rw [← hu] at hq0 ok2 z2 c2 hov2 htl2 htd2 htf2 t1 t2 t3 t4 hnext
      clear hu
      have s1 := z1.2
      have s2 := z2.2
      have hprd : (prT p c n t u).2.1 = j2 n.toNat t.2.1 u.2.1 := rfl
      have hprf : (prT p c n t u).2.2 = (t.2.2 * u.2.2).emod p * uv p c (lpN n.toNat t.2.1 u.2.1 n.toNat) := rfl
      rw [hprd, hprf] at hnext
      rw [hprd] at t1 t2
      rw [hprf] at t3 t4
      have hlpb : (0 : Int) ≤ ((lpN n.toNat t.2.1 u.2.1 n.toNat : Nat) : Int) ∧ ((lpN n.toNat t.2.1 u.2.1 n.toNat : Nat) : Int) ≤ 1000000 := by
        have := qdo n.toNat t.2.1 u.2.1 n.toNat; omega
      obtain ⟨w1, w2, w3, w4⟩ := pow_mul (p := p) (c := u.2.2) (x := t.2.2) hp (by omega) (by omega)
      have w5 : q8 .i64 ((t.2.2 * u.2.2).emod p * uv p c (lpN n.toNat t.2.1 u.2.1 n.toNat)) = (t.2.2 * u.2.2).emod p * uv p c (lpN n.toNat t.2.1 u.2.1 n.toNat) := wrap64 (by omega) (by omega)
      have hne : p ≠ 0 := by omega
      have hn0 : 0 ≤ n := hn.1
      have t0 := t1.1
      have hvb := qv4 (by omega) hs (m := j2 n.toNat t.2.1 u.2.1)
      have hkok : kok KD true (.agg (dia n (j2 n.toNat t.2.1 u.2.1))) = true := qug t0
      have hmT : Qe S = .map (esT 0 S) S.length := rfl
      have do1 := zd (n := n) ok1
      have do2 := zd (n := n) ok2
      clear hprd hprf
      cases hix : Ul n (j2 n.toNat t.2.1 u.2.1) S with
      | none =>
        obtain ⟨f1, f2, f3⟩ := qln t0 hs.1.ok hix ((0 + (t.2.2 * u.2.2).emod p * uv p c (lpN n.toNat t.2.1 u.2.1 n.toNat)).emod p)
        have w6 : q8 .i64 (0 + (t.2.2 * u.2.2).emod p * uv p c (lpN n.toNat t.2.1 u.2.1 n.toNat)) = 0 + (t.2.2 * u.2.2).emod p * uv p c (lpN n.toNat t.2.1 u.2.1 n.toNat) := wrap64 (by omega) (by omega)
        have w7 : Int.tmod (0 + (t.2.2 * u.2.2).emod p * uv p c (lpN n.toNat t.2.1 u.2.1 n.toNat)) p = (0 + (t.2.2 * u.2.2).emod p * uv p c (lpN n.toNat t.2.1 u.2.1 n.toNat)).emod p := Int.tmod_eq_emod_of_nonneg (by omega)
        simp (maxSteps := 3000000) only [qf, zH, bl, jq, uj, ua, J5, vy, J4, hlj, hlj', hal, hbl, hb4, hb5, hq0, j1, htl, htl2, htd, htd2, htf, htf2, jt, xt, hov2, xq, yo, ud t0, q9 t0, qe, t0, xd, List.length_replicate, Nat.le_refl, do1, do2, s1, s2, hn0, w1, w2, w5, w6, w7, hne, hp, hc, hlpb, Int.toNat_natCast, hmT, hkok, f1, wh, hw, and_self, iE, iN, iB, iC, iL, iD, iA, iS, iM, qb, zZ, ↓qp, ↓reduceIte, reduceCtorEq, nA, nM, nS, nE, nL, nD]; try simp only [qb, zY]
        rw [f3]
        refine ⟨⟨_, rfl⟩, _, qz.zw [0, 1, 2, 3, 4, 5, 6] [23, 22, 21, 7, 16, 15, 14, 5, 4, 3, 2] ⟨by decide, ?_⟩ ?_, ⟨j + 1, U3 n (j2 n.toNat t.2.1 u.2.1) ((0 + (t.2.2 * u.2.2).emod p * uv p c (lpN n.toNat t.2.1 u.2.1 n.toNat)).emod p) S, by omega, by rw [hnext, qaw, f2], ?_⟩, ?_⟩
        · simp only [qc _ _ (qa _), qc _ _ (v7 _), Qe, ↓yz, zK, ↓reduceIte, reduceCtorEq, nE, nB, nA]
        · simp only [qc _ _ (qa _), qc _ _ (v7 _), Qe, ↓yz, zK, ↓reduceIte, reduceCtorEq, nE, nB, nA]
        · simp only [qd _ _ (qa _), qd _ _ (v7 _), Qe, ↓Jp, zL, ↓reduceIte, reduceCtorEq, nE, nA]
        · simp only [zL, ↓reduceIte, reduceCtorEq, nE, nA]; omega
      | some q =>
        obtain ⟨f1, f3⟩ := qlj t0 hs.1.ok hix ((Wp n (j2 n.toNat t.2.1 u.2.1) S + (t.2.2 * u.2.2).emod p * uv p c (lpN n.toNat t.2.1 u.2.1 n.toNat)).emod p)
        have w6 : q8 .i64 (Wp n (j2 n.toNat t.2.1 u.2.1) S + (t.2.2 * u.2.2).emod p * uv p c (lpN n.toNat t.2.1 u.2.1 n.toNat)) = Wp n (j2 n.toNat t.2.1 u.2.1) S + (t.2.2 * u.2.2).emod p * uv p c (lpN n.toNat t.2.1 u.2.1 n.toNat) := wrap64 (by omega) (by omega)
        have w7 : Int.tmod (Wp n (j2 n.toNat t.2.1 u.2.1) S + (t.2.2 * u.2.2).emod p * uv p c (lpN n.toNat t.2.1 u.2.1 n.toNat)) p = (Wp n (j2 n.toNat t.2.1 u.2.1) S + (t.2.2 * u.2.2).emod p * uv p c (lpN n.toNat t.2.1 u.2.1 n.toNat)).emod p := Int.tmod_eq_emod_of_nonneg (by omega)
        simp (maxSteps := 3000000) only [qf, zH, bl, jq, uj, ua, J5, vy, J4, hlj, hlj', hal, hbl, hb4, hb5, hq0, j1, htl, htl2, htd, htd2, htf, htf2, jt, xt, hov2, xq, yo, ud t0, q9 t0, qe, t0, xd, List.length_replicate, Nat.le_refl, do1, do2, s1, s2, hn0, w1, w2, w5, w6, w7, hne, hp, hc, hlpb, Int.toNat_natCast, hmT, hkok, f1, wh, hw, and_self, iE, iN, iB, iC, iL, iD, iA, iS, iM, qb, zZ, ↓qp, ↓reduceIte, reduceCtorEq, nA, nM, nS, nE, nL, nD]; try simp only [qb, zY]
        rw [f3]
        refine ⟨⟨_, rfl⟩, _, qz.zw [0, 1, 2, 3, 4, 5, 6] [23, 22, 21, 7, 16, 15, 14, 5, 4, 3, 2] ⟨by decide, ?_⟩ ?_, ⟨j + 1, U3 n (j2 n.toNat t.2.1 u.2.1) ((Wp n (j2 n.toNat t.2.1 u.2.1) S + (t.2.2 * u.2.2).emod p * uv p c (lpN n.toNat t.2.1 u.2.1 n.toNat)).emod p) S, by omega, by rw [hnext, qaw], ?_⟩, ?_⟩
        · simp only [qc _ _ (qa _), qc _ _ (v7 _), Qe, ↓yz, zK, ↓reduceIte, reduceCtorEq, nE, nB, nA]
        · simp only [qc _ _ (qa _), qc _ _ (v7 _), Qe, ↓yz, zK, ↓reduceIte, reduceCtorEq, nE, nB, nA]
        · simp only [qd _ _ (qa _), qd _ _ (v7 _), Qe, ↓Jp, zL, ↓reduceIte, reduceCtorEq, nE, nA]
        · simp only [zL, ↓reduceIte, reduceCtorEq, nE, nA]; omega
    · have hlj : ¬ ((j : Int) < b.length) := by omega
      obtain rfl : j = b.length := by omega
      simp (maxSteps := 3000000) only [qf, zH, bl, Js, jq, uj, ua, J5, vy, J4, hlj, hwi, hbl, Int.lt_irrefl, iE, iN, iB, iC, iL, iD, iA, iS, iM, qb, zZ, ↓qp, ↓reduceIte, reduceCtorEq, nA, nM, nS, nE, nL, nD]; try simp only [qb, zY]
      refine ⟨_, qz.zw [0, 1, 2, 3, 4, 5] [16, 15, 14, 5, 4, 3, 2] ⟨by decide, ?_⟩ ?_, ⟨i + 1, S, by omega, by rw [hS, List.take_length, hms], ?_⟩, ?_⟩
      · simp only [qc _ _ (qa _), Qe, ↓yz, zK, ↓reduceIte, reduceCtorEq, nE, nB, nA]
      · simp only [qc _ _ (qa _), Qe, ↓yz, zK, ↓reduceIte, reduceCtorEq, nE, nB, nA]
      · simp only [qd _ _ (qa _), Qe, ↓Jp, zL, ↓reduceIte, reduceCtorEq, nE, nA]
      · simp only [zL, ↓reduceIte, reduceCtorEq, nE, nA]; omega
  · have hli : ¬ ((i : Int) < a.length) := by omega
    obtain rfl : i = a.length := by omega
    rw [List.take_length] at hS
    obtain ⟨hs, hsl⟩ := hlen2 (vw p c n a b) (fun t h => h) (by
      rw [Gx]
      have : a.length * b.length ≤ 300 * 300 := Nat.mul_le_mul hl.1 hl.2
      omega)
    have hlaw := qve (p := p) (n := n) (by omega) (qh2 (c := c) hp hc ha hb)
    have hll : (xx p (ML p n (vw p c n a b))).length = (MP p n (vw p c n a b)).length := by rw [← hlaw]; exact (kj _).length_eq.symm
    rw [← hll, ← hlaw]
    rw [← hS] at hs hsl ⊢
    clear hS hll hlaw
    have hap := qoj hs.1
    obtain ⟨hz1, hz2, hz3⟩ := qxd (p := p) hn hs.1
    have hSo := hs.1.ok
    have hmT : Qe S = .map (esT 0 S) S.length := rfl
    have hts := qoa (ts := S) (k := 0) hSo
    have hSl' : S.length ≤ 1000000 := by omega
    have hpp : 0 < p ∧ p ≤ 1000000 := by omega
    simp (maxSteps := 3000000) only [qf, zH, Qi, Jo, jq, uj, ua, J5, vy, J4, hli, hmT, Int.lt_irrefl, hts, hpp, hSl', hz1, hz2, hap, and_self, elemV, iE, iN, iB, iC, iL, iD, iA, iS, iM, qb, zZ, ↓qp, ↓reduceIte, reduceCtorEq, nA, nM, nS, nE, nL, nD]; try simp only [qb, zY]
    rw [hz3]
    refine ⟨hz2, rfl, ?_⟩
    refine Ret.zw [0, 1, 6] ⟨⟨by simp, rfl, by decide⟩, ?_⟩ (rs := [.agg [.int .i64 p, .int .i64 c, .int .i64 n, .slc 6 0 (xx p S).length false 0]]) rfl rfl (by simp [xc]) ?_ ⟨?_, ?_⟩
    · simp only [qc _ _ (qa _), ↓yz, zK, ↓reduceIte, reduceCtorEq, nE, nB, nA]
    · intro j l; match j with
      | 0 => simp [zi, AO.ren]
      | 1 => simp [zi, AO.ren]
      | 2 => simp [zi, AO.ren]
      | j + 3 => simp [zi]
    · simp only [xc]
      simp only [zL, ↓reduceIte, reduceCtorEq, nE, nA]
    · simp only [qd _ _ (qa _), zL, ↓reduceIte, reduceCtorEq, nE, nA]
noncomputable def B88 : z7 := (B87.put 90 (Yg))
theorem qmq : ze Try.prog B88 := (qgu.put (qkh qc2))
end Go.Proofs.Ytkgoadglalpbfaa
