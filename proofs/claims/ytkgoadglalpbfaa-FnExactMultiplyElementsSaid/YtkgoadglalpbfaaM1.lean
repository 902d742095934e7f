/- Contracts: products of elements, the reference. -/
import Derived.Test.YtkgoadglalpbfaaL9
import Derived.Test.YtkgoadglalpbfaaH5
namespace Go.Proofs.Ytkgoadglalpbfaa
open Go.Am Go.Dia
open Nat renaming reduceAdd → nA, reduceMul → nM, reduceSub → nS, reduceEqDiff → nE, reduceLT → nL, reduceLeDiff → nD, reduceBEq → nB
open Int renaming reduceEq → iE, reduceNe → iN, reduceBEq → iB, reduceBNe → iC, reduceLT → iL, reduceLE → iD, reduceAdd → iA, reduceSub → iS, reduceMul → iM
set_option linter.unusedSimpArgs false
set_option linter.unusedVariables false
set_option maxRecDepth 4000
set_option maxHeartbeats 1000000
noncomputable def prT (p c n : Int) (t u : Int × List Nat × Int) : Int × List Nat × Int := (n, j2 n.toNat t.2.1 u.2.1, (t.2.2 * u.2.2).emod p * uv p c (lpN n.toNat t.2.1 u.2.1 n.toNat))
noncomputable def vw (p c n : Int) (a b : List (Int × List Nat × Int)) : List (Int × List Nat × Int) := a.flatMap fun t => b.map (prT p c n t)
def MP (p n : Int) (l : List (Int × List Nat × Int)) : List (Int × List Nat × Int) := chP p n id (fun _ => 1) [] l
theorem qvm {p n : Int} {l : List (Int × List Nat × Int)} {t : Int × List Nat × Int} : MP p n (l ++ [t]) = yy p (MP p n l) n t.2.1 t.2.2 := by
  unfold MP chP; rw [List.foldl_append]; simp
theorem qf5 {p c n : Int} {a b : List (Int × List Nat × Int)} {i : Nat} (h : i < a.length) : vw p c n (a.take (i + 1)) b = vw p c n (a.take i) b ++ b.map (prT p c n a[i]) := by
  rw [List.take_succ_eq_append_getElem h, vw, List.flatMap_append]; simp [vw]
theorem qji {p c n : Int} {t : Int × List Nat × Int} {b : List (Int × List Nat × Int)} {j : Nat} (h : j < b.length) : (b.take (j + 1)).map (prT p c n t) = (b.take j).map (prT p c n t) ++ [prT p c n t b[j]] := by
  rw [List.take_succ_eq_append_getElem h, List.map_append]; rfl
theorem qlw {p c n : Int} (hp : 2 ≤ p ∧ p ≤ 97) (hc : 0 ≤ c ∧ c ≤ p - 1) {t u : Int × List Nat × Int} (h1 : isS n.toNat t.2.1 = true) (h2 : isS n.toNat u.2.1 = true) (f1 : 1 ≤ t.2.2 ∧ t.2.2 ≤ p - 1) (f2 : 1 ≤ u.2.2 ∧ u.2.2 ≤ p - 1) :
    okD (prT p c n t u).2.1 ∧ isS n.toNat (prT p c n t u).2.1 = true ∧ 0 ≤ (prT p c n t u).2.2 ∧ (prT p c n t u).2.2 ≤ 9216 := by
  have h := qtr h1 h2
  have hr : 0 ≤ (t.2.2 * u.2.2).emod p ∧ (t.2.2 * u.2.2).emod p ≤ p - 1 := ⟨Int.emod_nonneg _ (by omega), Int.le_sub_one_of_lt (Int.emod_lt_of_pos (t.2.2 * u.2.2) (show 0 < p by omega))⟩
  obtain ⟨_, _, m3, m4⟩ := pow_mul hp (qh1 (c := c) hp.1 (lpN n.toNat t.2.1 u.2.1 n.toNat)) hr
  exact ⟨h.2, h.1, m3, m4⟩
theorem qh2 {p c n : Int} (hp : 2 ≤ p ∧ p ≤ 97) (hc : 0 ≤ c ∧ c ≤ p - 1) {a b : List (Int × List Nat × Int)} (ha : wk p n a) (hb : wk p n b) : qos n 10000 id (fun _ => 1) (vw p c n a b) := fun t ht => by
  obtain ⟨x, hx, ht⟩ := List.mem_flatMap.1 ht
  obtain ⟨u, hu, rfl⟩ := List.mem_map.1 ht
  obtain ⟨h1, h2, h3, h4⟩ := qlw (c := c) hp hc (ha.dia x hx).2 (hb.dia u hu).2 (ha.fac x hx) (hb.fac u hu)
  exact ⟨h1, h2, by show -10000 ≤ (prT p c n x u).2.2 * 1; omega, by show (prT p c n x u).2.2 * 1 ≤ 10000; omega⟩
theorem qkm {p c n : Int} {a b : List (Int × List Nat × Int)} {i j : Nat} (hi : i < a.length) {t : Int × List Nat × Int} (ht : t ∈ vw p c n (a.take i) b ++ (b.take j).map (prT p c n a[i])) : t ∈ vw p c n a b := by
  rcases List.mem_append.1 ht with h | h
  · obtain ⟨x, hx, h⟩ := List.mem_flatMap.1 h
    exact List.mem_flatMap.2 ⟨x, List.mem_of_mem_take hx, h⟩
  · obtain ⟨u, hu, rfl⟩ := List.mem_map.1 h
    exact List.mem_flatMap.2 ⟨_, List.getElem_mem hi, List.mem_map.2 ⟨u, List.mem_of_mem_take hu, rfl⟩⟩
theorem Gx {p c n : Int} {a b : List (Int × List Nat × Int)} : (vw p c n a b).length = a.length * b.length := by
  induction a with
  | nil => simp [vw]
  | cons x a ih =>
    have : vw p c n (x :: a) b = b.map (prT p c n x) ++ vw p c n a b := rfl
    rw [this, List.length_append, List.length_map, ih, List.length_cons, Nat.add_mul]; omega
theorem qph {p c n : Int} (hp : 2 ≤ p ∧ p ≤ 97) (hc : 0 ≤ c ∧ c ≤ p - 1) {a b : List (Int × List Nat × Int)} (ha : wk p n a) (hb : wk p n b) (hl : a.length ≤ 300 ∧ b.length ≤ 300) {i j : Nat} (hi : i < a.length) :
    wk p n (MP p n (vw p c n (a.take i) b ++ (b.take j).map (prT p c n a[i]))) ∧ (MP p n (vw p c n (a.take i) b ++ (b.take j).map (prT p c n a[i]))).length ≤ 100000 := by
  have h0 : wk p n [] := ⟨(fun t h => by cases h), (fun t h => by cases h), (fun t h => by cases h), .nil⟩
  have h := Kl (p := p) (F := 10000) (φ := id) (κ := fun _ => 1) (by omega) h0 (a := vw p c n (a.take i) b ++ (b.take j).map (prT p c n a[i])) fun t ht => qh2 (c := c) hp hc ha hb t (qkm hi ht)
  refine ⟨h.1, Nat.le_trans h.2 ?_⟩
  rw [List.length_nil, List.length_append, Gx, List.length_map, List.length_take, List.length_take]
  have h1 : (min i a.length) * b.length ≤ 300 * 300 := Nat.mul_le_mul (by omega) hl.2
  omega
theorem jm : B86 125 = some (qu vy) := rfl
theorem jn : B86 70 = some (kg) := rfl
theorem jl : B86 83 = some (qu Yc) := rfl
theorem vf : B86 61 = some (Ww) := rfl
def Yf : AT := (.one (oF 28 3 2) (.one (oL 29 28) (.one (oM 30 6) (.one (oX 31 18 29 30) (.one (oF 32 0 31) (.one (oN 33 17 32) (.one (oF 34 3 3) (.one (oL 35 34) (.one (oM 36 7) (.one (oX 37 18 35 36) (.one (oF 38 0 37) (.one (oN 39 17 38) (.alt (oC 40 125 [.t 33,.t 39]) (.one (oM 27 40) (.one (oE 41 0 27) (.one (oE 42 1 27) (.one (o0 8 (.alloc [.int .i64 0,.int .u8 0,.int .u8 0,.int .u8 0,.int .u8 0,.int .u8 0,.int .u8 0,.int .u8 0,.int .u8 0,.int .u8 0,.int .u8 0,.int .u8 0,.int .u8 0,.int .u8 0,.int .u8 0,.int .u8 0,.int .u8 0])) (.one (oS 17 8 41) (.one (oM 9 42) (.nil))))))) (.alt (o0 8 (.alloc [.int .i64 0,.int .u8 0,.int .u8 0,.int .u8 0,.int .u8 0,.int .u8 0,.int .u8 0,.int .u8 0,.int .u8 0,.int .u8 0,.int .u8 0,.int .u8 0,.int .u8 0,.int .u8 0,.int .u8 0,.int .u8 0,.int .u8 0])) (.one (oC 40 125 [.t 33,.t 39]) (.one (oM 27 40) (.one (oE 41 0 27) (.one (oE 42 1 27) (.one (oS 17 8 41) (.one (oM 9 42) (.nil))))))) (.none)))))))))))))))
def Z5 : AC := .seq (.draw true [oF 43 3 2,oL 44 43,oM 45 6,oX 46 18 44 45,oF 47 17 46,oL 48 47,oF 49 3 3,oL 50 49,oM 51 7,oX 52 18 50 51,oF 53 17 52,oL 54 53,oP 55 .mul 48 54,oF 56 0 2,oL 57 56,oP 58 .rem 55 57,oF 59 0 2,oL 60 59,oF 61 1 2,oL 62 61,oM 63 9,oC 64 83 [.t 60,.t 62,.t 63],oP 65 .mul 58 64,oM 10 65]) (.region [oF 66 0 2,oL 67 66,oF 68 3 5,oL 69 68,oN 70 17 8,oM 71 10,oC 72 61 [.t 67,.t 69,.t 70,.t 71],oF 73 3 5,oT 73 72])
def Z7 : AC := .region [oM 25 7,oK 26 .add 25 1,oM 7 26]
def Z1 : AC := .seq (.seq (.region [oM 20 7,oF 21 3 3,oL 22 21,o0 23 (.len .slc (.t 22)),oP 24 .lss 20 23]) (.cond 24 .skip (.exit 2))) (.seq (.block 3 (.seq (.tree false Yf) Z5)) Z7)
def W2 : AC := .region [oM 18 6,oK 19 .add 18 1,oM 6 19]
def Z3 : AC := .seq (.seq (.region [oM 13 6,oF 14 3 2,oL 15 14,o0 16 (.len .slc (.t 15)),oP 17 .lss 13 16]) (.cond 17 .skip (.exit 0))) (.seq (.block 1 (.seq (.region [oI 7 0]) (.block 2 (.loop Z1)))) W2)
def Ya : AC := .seq (.region [oN 74 4 5,oS 4 4 74]) .ret
def G5 : AC := .seq (.region [o0 2 (.box (.t 0)),o0 3 (.box (.t 1)),o0 4 (.alloc [.int .i64 0,.int .i64 0,.int .i64 0,(.v (.slice none 0 0))])]) (.seq (.region [oN 11 4 2,oC 12 70 [.t 11],o0 5 (.alloc [.int .i64 0,.int .i64 0,.int .i64 0,(.v (.slice none 0 0))]),oS 4 5 12]) (.seq (.seq (.region [oI 6 0]) (.block 0 (.loop Z3))) Ya))
theorem qgy : zy Try.prog 88 = some ⟨75, G5, [.kd 4 4]⟩ := by kernel_rfl
theorem qgx (p c n p' c' : Int) (a b : List (Int × List Nat × Int)) (hp : 2 ≤ p ∧ p ≤ 97) (hc : 0 ≤ c ∧ c ≤ p - 1) (hn : 0 ≤ n ∧ n ≤ 8) (ha : wk p n a) (hb : wk p n b) (hl : a.length ≤ 300 ∧ b.length ≤ 300) :
    Am.Fn Try.prog 88 [elemV p c n 0 a.length, elemV p' c' n 1 b.length] [.ro (qq a), .ro (qq b)] (fun v H' => v = elemV p c n 2 (MP p n (vw p c n a b)).length ∧ H' = [.ro (qq a), .ro (qq b), .vec 18 (qq (MP p n (vw p c n a b)))]) := by
  refine Am.Fn.ofB qdc mixed qgy (by simp [elemV, AV.q7, AV.under]) (kz (qa _) (qa _)) ?_
  have hal := qt ha.ok
  have hbl := qt hb.ok
  simp (maxSteps := 3000000) only [qf, zH, G5, jm, jn, jl, vf, kg, Yc, Ww, vy, elemV, hal, hbl, iE, iN, iB, iC, iL, iD, iA, iS, iM, qb, zZ, ↓qp, ↓reduceIte, reduceCtorEq, nA, nM, nS, nE, nL, nD]; try simp only [qb, zY]
  refine ⟨rfl, ?_⟩
  refine WA.j8 qdc (fun s => ∃ (i : Nat) (acc : List (Int × List Nat × Int)), i ≤ a.length ∧ acc = MP p n (vw p c n (a.take i) b) ∧
      s = ⟨[(6, .int .i64 i), (5, .ptr 5 0), (4, .ptr 4 0), (3, .ptr 3 0), (2, .ptr 2 0)], [.ro (qq a), .ro (qq b), .cells [.int .i64 p, .int .i64 c, .int .i64 n, .slc 0 0 a.length false 0], .cells [.int .i64 p', .int .i64 c', .int .i64 n, .slc 1 0 b.length false 0], qdx, .cells [.int .i64 p, .int .i64 c, .int .i64 n, .slc 6 0 acc.length false 0], .vec 18 (qq acc)]⟩)
    (fun s => match get s.env 6 with | .int _ x => a.length - x.toNat | _ => 0) ⟨_, qz.zw [0, 1, 2, 3, 4, 6, 5] [6, 5, 4, 3, 2] ⟨by decide, ?_⟩ ?_, 0, [], by omega, rfl, ?_⟩ ?_
  · simp only [qc _ _ (qa _), zK, ↓reduceIte, reduceCtorEq, nE, nB, nA]
  · simp only [qc _ _ (qa _), zK, ↓reduceIte, reduceCtorEq, nE, nB, nA]
  · simp only [qd _ _ (qa _), zL, ↓reduceIte, reduceCtorEq, nE, nA]
    rfl
  rintro s ⟨i, acc, hi, hacc, rfl⟩
  have hwi : q8 .i64 ((i : Int) + 1) = ((i + 1 : Nat) : Int) := by rw [wrap64 (by omega) (by omega)]; rfl
  by_cases hlt : i < a.length
  · have hli : (i : Int) < a.length := by omega
    have hli' : (0 : Int) ≤ i := by omega
    simp (maxSteps := 3000000) only [qf, zH, Z3, jm, jn, jl, vf, kg, Yc, Ww, vy, hli, iE, iN, iB, iC, iL, iD, iA, iS, iM, qb, zZ, ↓qp, ↓reduceIte, reduceCtorEq, nA, nM, nS, nE, nL, nD]; try simp only [qb, zY]
    have ea : MP p n (vw p c n (a.take i) b) = MP p n (vw p c n (a.take i) b ++ (b.take 0).map (prT p c n a[i])) := by simp
    rw [ea] at hacc
    refine WA.j8 qdc (fun s => ∃ (j : Nat) (acc : List (Int × List Nat × Int)), j ≤ b.length ∧ acc = MP p n (vw p c n (a.take i) b ++ (b.take j).map (prT p c n a[i])) ∧
        s = ⟨[(7, .int .i64 j), (6, .int .i64 i), (5, .ptr 5 0), (4, .ptr 4 0), (3, .ptr 3 0), (2, .ptr 2 0)], [.ro (qq a), .ro (qq b), .cells [.int .i64 p, .int .i64 c, .int .i64 n, .slc 0 0 a.length false 0], .cells [.int .i64 p', .int .i64 c', .int .i64 n, .slc 1 0 b.length false 0], qdx, .cells [.int .i64 p, .int .i64 c, .int .i64 n, .slc 6 0 acc.length false 0], .vec 18 (qq acc)]⟩)
      (fun s => match get s.env 7 with | .int _ x => b.length - x.toNat | _ => 0) ⟨_, qz.zc [7, 6, 5, 4, 3, 2], 0, acc, by omega, hacc, rfl⟩ ?_
    clear hacc
    rintro s ⟨j, acc, hj, hacc, rfl⟩
    by_cases hltj : j < b.length
    · have hg := qph hp hc ha hb hl (j := j) hlt
      rw [← hacc] at hg
      have hlj : (j : Int) < b.length := by omega
      have hlj' : (0 : Int) ≤ j := by omega
      have hw : q8 .i64 ((j : Int) + 1) = ((j + 1 : Nat) : Int) := by rw [wrap64 (by omega) (by omega)]; rfl
      have hd1 := kq ha.ok hlt
      have hf1 := Gz ha.ok hlt
      have hd2 := kq hb.ok hltj
      have hf2 := Gz hb.ok hltj
      have ok1 := ha.ok _ (List.getElem_mem hlt)
      have ok2 := hb.ok _ (List.getElem_mem hltj)
      have z1 := ha.dia _ (List.getElem_mem hlt)
      have z2 := hb.dia _ (List.getElem_mem hltj)
      have c1 := ha.fac _ (List.getElem_mem hlt)
      have c2 := hb.fac _ (List.getElem_mem hltj)
      obtain ⟨t1, t2, t3, t4⟩ := qlw (c := c) hp hc z1.2 z2.2 c1 c2
      rw [z1.1] at hd1
      rw [z2.1] at hd2
      have hnext : MP p n (vw p c n (a.take i) b ++ (b.take (j + 1)).map (prT p c n a[i])) = yy p acc n (prT p c n a[i] b[j]).2.1 (prT p c n a[i] b[j]).2.2 := by
        rw [qji hltj, ← List.append_assoc, qvm, ← hacc]
      have s1 := z1.2
      have s2 := z2.2
      have hprd : (prT p c n a[i] b[j]).2.1 = j2 n.toNat a[i].2.1 b[j].2.1 := rfl
      have hprf : (prT p c n a[i] b[j]).2.2 = (a[i].2.2 * b[j].2.2).emod p * uv p c (lpN n.toNat a[i].2.1 b[j].2.1 n.toNat) := rfl
      rw [hprd, hprf] at hnext
      rw [hprd] at t1 t2
      rw [hprf] at t3 t4
      have hlpb : (0 : Int) ≤ ((lpN n.toNat a[i].2.1 b[j].2.1 n.toNat : Nat) : Int) ∧ ((lpN n.toNat a[i].2.1 b[j].2.1 n.toNat : Nat) : Int) ≤ 1000000 := by
        have := qdo n.toNat a[i].2.1 b[j].2.1 n.toNat; omega
      clear hprd hprf z1 z2
      generalize a[i].2.1 = m1 at hd1 ok1 s1 t1 t2 t3 t4 hlpb hnext
      generalize a[i].2.2 = f1 at hf1 c1 t3 t4 hnext
      generalize b[j].2.1 = m2 at hd2 ok2 s2 t1 t2 t3 t4 hlpb hnext
      generalize b[j].2.2 = f2 at hf2 c2 t3 t4 hnext
      obtain ⟨w1, w2, w3, w4⟩ := pow_mul (p := p) (c := f2) (x := f1) hp (by omega) (by omega)
      have w5 : q8 .i64 ((f1 * f2).emod p * uv p c (lpN n.toNat m1 m2 n.toNat)) = (f1 * f2).emod p * uv p c (lpN n.toNat m1 m2 n.toNat) := wrap64 (by omega) (by omega)
      have hne : p ≠ 0 := by omega
      have hb1 : i * 18 < a.length * 18 := by omega
      have hb2 : i * 18 + 17 ≤ a.length * 18 := by omega
      have hb3 : i * 18 + 17 < a.length * 18 := by omega
      have hb4 : j * 18 < b.length * 18 := by omega
      have hb5 : j * 18 + 17 ≤ b.length * 18 := by omega
      have hb6 : j * 18 + 17 < b.length * 18 := by omega
      have hfit := hg.1.fit (by omega) (by omega)
      have hacl := qt hg.1.ok
      have hpp : 0 < p ∧ p ≤ 1000000 := by omega
      have hn0 : 0 ≤ n := hn.1
      have t0 := t1.1
      simp (maxSteps := 3000000) only [qf, zH, Z1, jm, jn, jl, vf, kg, Yc, Ww, vy, hlj, hbl, iE, iN, iB, iC, iL, iD, iA, iS, iM, qb, zZ, ↓qp, ↓reduceIte, reduceCtorEq, nA, nM, nS, nE, nL, nD]; try simp only [qb, zY]
      refine WA.Y0 qdc (fun s => s = ⟨[(9, .int .i64 (lpN n.toNat m1 m2 n.toNat : Nat)), (8, .ptr 7 0), (7, .int .i64 j), (6, .int .i64 i), (5, .ptr 5 0), (4, .ptr 4 0), (3, .ptr 3 0), (2, .ptr 2 0)], [.ro (qq a), .ro (qq b), .cells [.int .i64 p, .int .i64 c, .int .i64 n, .slc 0 0 a.length false 0], .cells [.int .i64 p', .int .i64 c', .int .i64 n, .slc 1 0 b.length false 0], qdx, .cells [.int .i64 p, .int .i64 c, .int .i64 n, .slc 6 0 acc.length false 0], .vec 18 (qq acc), .cells (dia n (j2 n.toNat m1 m2))]⟩) ?_ ?_
      · unfold Yf
        simp (maxSteps := 3000000) only [qf, zH, b9, Qx, jm, jn, jl, vf, kg, Yc, Ww, vy, hli, hli', hlj, hlj', hal, hbl, hb1, hb2, hb3, hb4, hb5, hb6, hd1, hd2, zd ok1, zd ok2, s1, s2, hn0, xq, yo, ud t0, qe, t0, xd, List.length_replicate, Nat.le_refl, and_self, iE, iN, iB, iC, iL, iD, iA, iS, iM, qb, zZ, ↓qp, ↓reduceIte, reduceCtorEq, nA, nM, nS, nE, nL, nD]; try simp only [qb, zY]
        repeat' first | (with_reducible exact ⟨_, rfl⟩) | (exact rfl) | (with_reducible refine And.intro ?_ ?_)
        all_goals exact ⟨_, qz.zc [9, 8, 7, 6, 5, 4, 3, 2], rfl⟩
      rintro s rfl
      by_cases hz : ((f1 * f2).emod p * uv p c (lpN n.toNat m1 m2 n.toNat)).emod p = 0
      · simp (maxSteps := 3000000) only [qf, zH, Z5, Z7, jm, jn, jl, vf, kg, Yc, Ww, vy, hli, hli', hlj, hlj', hal, hbl, hb1, hb2, hb3, hb4, hb5, hb6, hf1, hf2, w1, w2, w5, hne, hp, hc, hlpb, Int.toNat_natCast, hw, xj hg.1.ok, zd t1, hacl, hpp, hn, qe, t0, q9 t0, hfit, hz, and_self, iE, iN, iB, iC, iL, iD, iA, iS, iM, qb, zZ, ↓qp, ↓reduceIte, reduceCtorEq, nA, nM, nS, nE, nL, nD]; try simp only [qb, zY]
        refine ⟨⟨_, rfl⟩, rfl, _, qz.zw [0, 1, 2, 3, 4, 5, 6] [7, 6, 5, 4, 3, 2] ⟨by decide, ?_⟩ ?_, ⟨j + 1, acc, by omega, by rw [hnext, Kd, if_pos hz], ?_⟩, ?_⟩
        · simp only [qc _ _ (qa _), zK, ↓reduceIte, reduceCtorEq, nE, nB, nA]
        · simp only [qc _ _ (qa _), zK, ↓reduceIte, reduceCtorEq, nE, nB, nA]
        · simp only [qd _ _ (qa _), zL, ↓reduceIte, reduceCtorEq, nE, nA]
        · simp only [zL, ↓reduceIte, reduceCtorEq, nE, nA]; omega
      · simp (maxSteps := 3000000) only [qf, zH, Z5, Z7, jm, jn, jl, vf, kg, Yc, Ww, vy, hli, hli', hlj, hlj', hal, hbl, hb1, hb2, hb3, hb4, hb5, hb6, hf1, hf2, w1, w2, w5, hne, hp, hc, hlpb, Int.toNat_natCast, hw, xj hg.1.ok, zd t1, hacl, hpp, hn, qe, t0, q9 t0, hfit, hz, and_self, iE, iN, iB, iC, iL, iD, iA, iS, iM, qb, zZ, ↓qp, ↓reduceIte, reduceCtorEq, nA, nM, nS, nE, nL, nD]; try simp only [qb, zY]
        refine ⟨⟨_, rfl⟩, rfl, _, qz.zw [0, 1, 2, 3, 4, 5, 8] [7, 6, 5, 4, 3, 2] ⟨by decide, ?_⟩ ?_, ⟨j + 1, yy p acc n (j2 n.toNat m1 m2) ((f1 * f2).emod p * uv p c (lpN n.toNat m1 m2 n.toNat)), by omega, hnext.symm, ?_⟩, ?_⟩
        · simp only [qc _ _ (qa _), zK, ↓reduceIte, reduceCtorEq, nE, nB, nA]
        · simp only [qc _ _ (qa _), zK, ↓reduceIte, reduceCtorEq, nE, nB, nA]
        · simp only [qd _ _ (qa _), zL, ↓reduceIte, reduceCtorEq, nE, nA]
        · simp only [zL, ↓reduceIte, reduceCtorEq, nE, nA]; omega
    · have hlj : ¬ ((j : Int) < b.length) := by omega
      obtain rfl : j = b.length := by omega
      simp (maxSteps := 3000000) only [qf, zH, Z1, W2, jm, jn, jl, vf, kg, Yc, Ww, vy, hlj, hwi, hbl, Int.lt_irrefl, iE, iN, iB, iC, iL, iD, iA, iS, iM, qb, zZ, ↓qp, ↓reduceIte, reduceCtorEq, nA, nM, nS, nE, nL, nD]; try simp only [qb, zY]
      refine ⟨_, qz.zc [6, 5, 4, 3, 2], ⟨i + 1, acc, by omega, by rw [hacc, List.take_length, qf5 hlt], rfl⟩, ?_⟩
      simp only [zL, ↓reduceIte, reduceCtorEq, nE, nA]; omega
  · have hli : ¬ ((i : Int) < a.length) := by omega
    obtain rfl : i = a.length := by omega
    rw [List.take_length] at hacc
    subst hacc
    simp (maxSteps := 3000000) only [qf, zH, Z3, Ya, jm, jn, jl, vf, kg, Yc, Ww, vy, hli, Int.lt_irrefl, iE, iN, iB, iC, iL, iD, iA, iS, iM, qb, zZ, ↓qp, ↓reduceIte, reduceCtorEq, nA, nM, nS, nE, nL, nD]; try simp only [qb, zY]
    refine ⟨rfl, ?_⟩
    refine Ret.zw [0, 1, 6] ⟨⟨by simp, rfl, by decide⟩, ?_⟩ (rs := [.agg [.int .i64 p, .int .i64 c, .int .i64 n, .slc 6 0 (MP p n (vw p c n a b)).length false 0]]) rfl rfl (by simp [xc]) ?_ ⟨?_, ?_⟩
    · simp only [qc _ _ (qa _), zK, ↓reduceIte, reduceCtorEq, nE, nB, nA]
    · intro j l; match j with
      | 0 => simp [zi, AO.ren]
      | 1 => simp [zi, AO.ren]
      | 2 => simp [zi, AO.ren]
      | j + 3 => simp [zi]
    · simp only [xc]
      simp only [zL, ↓reduceIte, reduceCtorEq, nE, nA]
    · simp only [qd _ _ (qa _), zL, ↓reduceIte, reduceCtorEq, nE, nA]
noncomputable def Yg : BE := fun hp xs => match xs with
  | [.agg [.int .i64 p, .int .i64 c, .int .i64 n, .slc b 0 la false 0], .agg [.int .i64 p', .int .i64 c', .int .i64 n', .slc b' 0 lb false 0]] => match rd hp b, rd hp b' with
    | some L, some L' => match Qz la L, Qz lb L' with
      | some ta, some tb => chk ((((2 ≤ p ∧ p ≤ 97) ∧ (0 ≤ c ∧ c ≤ p - 1) ∧ (0 ≤ n ∧ n ≤ 8) ∧ n' = n) ∧ qdu p n ta ∧ qdu p n tb) ∧ (ta.length ≤ 300 ∧ tb.length ≤ 300)) (some (elemV p c n hp.length (MP p n (vw p c n ta tb)).length, hp ++ [.vec 18 (qq (MP p n (vw p c n ta tb)))]))
      | _, _ => none
    | _, _ => none
  | _ => none
theorem qkh {f : FuncId} (hf : ∀ (p c n p' c' : Int) (a b : List (Int × List Nat × Int)), 2 ≤ p ∧ p ≤ 97 → 0 ≤ c ∧ c ≤ p - 1 → 0 ≤ n ∧ n ≤ 8 → wk p n a → wk p n b → a.length ≤ 300 ∧ b.length ≤ 300 →
    Am.Fn Try.prog f [elemV p c n 0 a.length, elemV p' c' n 1 b.length] [.ro (qq a), .ro (qq b)] (fun v H' => v = elemV p c n 2 (MP p n (vw p c n a b)).length ∧ H' = [.ro (qq a), .ro (qq b), .vec 18 (qq (MP p n (vw p c n a b)))])) : Am.Callee Try.prog f Yg := Callee.fp fun hp xs v hp' he => by
  unfold Yg at he
  split at he
  · rename_i p c n b la p' c' n' b' lb
    split at he
    · rename_i L L' hL hL'
      split at he
      · rename_i ta tb h1 h1'
        obtain ⟨⟨⟨⟨a1, a0, a2, a3⟩, a4, a5⟩, a6⟩, he2⟩ := qm he
        simp only [Option.some.injEq, Prod.mk.injEq] at he2
        obtain ⟨rfl, rfl⟩ := he2
        obtain ⟨e1, e2, e3, e4⟩ := xz h1
        obtain ⟨f1, f2, f3, f4⟩ := xz h1'
        have g1 := qt e2
        have g2 := qt f2
        subst a3
        refine ⟨[(b, 0), (b', 0)], [elemV p c n' 0 ta.length, elemV p' c' n' 1 tb.length], _, _, _, hf p c n' p' c' ta tb a1 a0 a2 (a4.qyd e2) (a5.qyd f2) a6, by simp [elemV, AV.ren, AV.zt, ofL, e1, f1], rfl,
          ⟨⟨L, hL, by omega, by rw [List.drop_zero, qd _ _ (qa _), g1, e1]; exact e3⟩, ⟨L', hL', by omega, by rw [List.drop_zero, qd _ _ (qa _), g2, f1]; exact f3⟩, trivial⟩, rfl,
          ⟨qk _ _ (qa _), qk _ _ (qa _), trivial⟩, ⟨⟨trivial, trivial, trivial, by simp [AV.under], trivial⟩, ⟨trivial, trivial, trivial, by simp [AV.under], trivial⟩, trivial⟩, by simp [elemV, AV.ren, AV.zt, Ren.ext], ?_⟩
        simp [after, upd, AO.wr, AO.ren, qd _ _ (qa _)]
      · cases he
    · cases he
  · cases he
noncomputable def B87 : z7 := (B86.put 88 (Yg))
theorem qgu : ze Try.prog B87 := (qdc.put (qkh qgx))
end Go.Proofs.Ytkgoadglalpbfaa
