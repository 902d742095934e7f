/- Contracts of functions of the program, and plain laws, part 5: each text of this part is proved without further condition. -/
import Derived.Test.YtfhckbbgmblhbaaZ4
import Derived.Test.YtfhckbbgmblhbaaZ3
import Derived.Test.YtfhckbbgmblhbaaZ2
namespace Go.Proofs.Ytfhckbbgmblhbaa
open Go.Am Go.Dia
open Nat renaming reduceAdd → nA, reduceMul → nM, reduceSub → nS, reduceEqDiff → nE, reduceLT → nL, reduceLeDiff → nD, reduceBEq → nB
open Int renaming reduceEq → iE, reduceNe → iN, reduceBEq → iB, reduceBNe → iC, reduceLT → iL, reduceLE → iD, reduceAdd → iA, reduceSub → iS, reduceMul → iM
set_option linter.unusedSimpArgs false
set_option linter.unusedVariables false
set_option maxRecDepth 4000
set_option maxHeartbeats 1000000
noncomputable def prT (p c n : Int) (t u : Int × List Nat × Int) : Int × List Nat × Int := (n, ji n.toNat t.2.1 u.2.1, (t.2.2 * u.2.2).emod p * yj p c (lpN n.toNat t.2.1 u.2.1 n.toNat))
noncomputable def wb (p c n : Int) (a b : List (Int × List Nat × Int)) : List (Int × List Nat × Int) := a.flatMap fun t => b.map (prT p c n t)
def MP (p n : Int) (l : List (Int × List Nat × Int)) : List (Int × List Nat × Int) := chP p n id (fun _ => 1) [] l
theorem qx3 {p n : Int} {l : List (Int × List Nat × Int)} {t : Int × List Nat × Int} : MP p n (l ++ [t]) = j8 p (MP p n l) n t.2.1 t.2.2 := by
  unfold MP chP; rw [List.foldl_append]; simp
theorem qin {p c n : Int} {a b : List (Int × List Nat × Int)} {i : Nat} (h : i < a.length) : wb p c n (a.take (i + 1)) b = wb p c n (a.take i) b ++ b.map (prT p c n a[i]) := by
  rw [List.take_succ_eq_append_getElem h, wb, List.flatMap_append]; simp [wb]
theorem ql0 {p c n : Int} {t : Int × List Nat × Int} {b : List (Int × List Nat × Int)} {j : Nat} (h : j < b.length) : (b.take (j + 1)).map (prT p c n t) = (b.take j).map (prT p c n t) ++ [prT p c n t b[j]] := by
  rw [List.take_succ_eq_append_getElem h, List.map_append]; rfl
theorem qpv {p c n : Int} (hp : 2 ≤ p ∧ p ≤ 97) (hc : 0 ≤ c ∧ c ≤ p - 1) {t u : Int × List Nat × Int} (h1 : isS n.toNat t.2.1 = true) (h2 : isS n.toNat u.2.1 = true) (f1 : 1 ≤ t.2.2 ∧ t.2.2 ≤ p - 1) (f2 : 1 ≤ u.2.2 ∧ u.2.2 ≤ p - 1) :
    okD (prT p c n t u).2.1 ∧ isS n.toNat (prT p c n t u).2.1 = true ∧ 0 ≤ (prT p c n t u).2.2 ∧ (prT p c n t u).2.2 ≤ 9216 := by
  have h := qvd h1 h2
  have hr : 0 ≤ (t.2.2 * u.2.2).emod p ∧ (t.2.2 * u.2.2).emod p ≤ p - 1 := ⟨Int.emod_nonneg _ (by omega), Int.le_sub_one_of_lt (Int.emod_lt_of_pos (t.2.2 * u.2.2) (show 0 < p by omega))⟩
  obtain ⟨_, _, m3, m4⟩ := pow_mul hp (qkb (c := c) hp.1 (lpN n.toNat t.2.1 u.2.1 n.toNat)) hr
  exact ⟨h.2, h.1, m3, m4⟩
theorem qj7 {p c n : Int} (hp : 2 ≤ p ∧ p ≤ 97) (hc : 0 ≤ c ∧ c ≤ p - 1) {a b : List (Int × List Nat × Int)} (ha : xh p n a) (hb : xh p n b) : qs1 n 10000 id (fun _ => 1) (wb p c n a b) := fun t ht => by
  obtain ⟨x, hx, ht⟩ := List.mem_flatMap.1 ht
  obtain ⟨u, hu, rfl⟩ := List.mem_map.1 ht
  obtain ⟨h1, h2, h3, h4⟩ := qpv (c := c) hp hc (ha.dia x hx).2 (hb.dia u hu).2 (ha.fac x hx) (hb.fac u hu)
  exact ⟨h1, h2, by show -10000 ≤ (prT p c n x u).2.2 * 1; omega, by show (prT p c n x u).2.2 * 1 ≤ 10000; omega⟩
theorem qnx {p c n : Int} {a b : List (Int × List Nat × Int)} {i j : Nat} (hi : i < a.length) {t : Int × List Nat × Int} (ht : t ∈ wb p c n (a.take i) b ++ (b.take j).map (prT p c n a[i])) : t ∈ wb p c n a b := by
  rcases List.mem_append.1 ht with h | h
  · obtain ⟨x, hx, h⟩ := List.mem_flatMap.1 h
    exact List.mem_flatMap.2 ⟨x, List.mem_of_mem_take hx, h⟩
  · obtain ⟨u, hu, rfl⟩ := List.mem_map.1 h
    exact List.mem_flatMap.2 ⟨_, List.getElem_mem hi, List.mem_map.2 ⟨u, List.mem_of_mem_take hu, rfl⟩⟩
theorem qa7 {p c n : Int} {a b : List (Int × List Nat × Int)} : (wb p c n a b).length = a.length * b.length := by
  induction a with
  | nil => simp [wb]
  | cons x a ih =>
    have : wb p c n (x :: a) b = b.map (prT p c n x) ++ wb p c n a b := rfl
    rw [this, List.length_append, List.length_map, ih, List.length_cons, Nat.add_mul]; omega
theorem qrw {p c n : Int} (hp : 2 ≤ p ∧ p ≤ 97) (hc : 0 ≤ c ∧ c ≤ p - 1) {a b : List (Int × List Nat × Int)} (ha : xh p n a) (hb : xh p n b) (hl : a.length ≤ 300 ∧ b.length ≤ 300) {i j : Nat} (hi : i < a.length) :
    xh p n (MP p n (wb p c n (a.take i) b ++ (b.take j).map (prT p c n a[i]))) ∧ (MP p n (wb p c n (a.take i) b ++ (b.take j).map (prT p c n a[i]))).length ≤ 100000 := by
  have h0 : xh p n [] := ⟨(fun t h => by cases h), (fun t h => by cases h), (fun t h => by cases h), .nil⟩
  have h := qaj (p := p) (F := 10000) (φ := id) (κ := fun _ => 1) (by omega) h0 (a := wb p c n (a.take i) b ++ (b.take j).map (prT p c n a[i])) fun t ht => qj7 (c := c) hp hc ha hb t (qnx hi ht)
  refine ⟨h.1, Nat.le_trans h.2 ?_⟩
  rw [List.length_nil, List.length_append, qa7, List.length_map, List.length_take, List.length_take]
  have h1 : (min i a.length) * b.length ≤ 300 * 300 := Nat.mul_le_mul (by omega) hl.2
  omega
theorem xv : B86 140 = some (ql vc) := rfl
theorem xt : B86 97 = some (jy) := rfl
theorem xx : B86 69 = some (ql Ue) := rfl
theorem jm : B86 100 = some (Xc) := rfl
def Ua : AT := (.one (oF 28 3 2) (.one (oL 29 28) (.one (oM 30 6) (.one (oX 31 18 29 30) (.one (oF 32 0 31) (.one (oN 33 17 32) (.one (oF 34 3 3) (.one (oL 35 34) (.one (oM 36 7) (.one (oX 37 18 35 36) (.one (oF 38 0 37) (.one (oN 39 17 38) (.alt (oC 40 140 [.t 33,.t 39]) (.one (oM 27 40) (.one (oE 41 0 27) (.one (oE 42 1 27) (.one (oD 8) (.one (oS 17 8 41) (.one (oM 9 42) (.nil))))))) (.alt (oD 8) (.one (oC 40 140 [.t 33,.t 39]) (.one (oM 27 40) (.one (oE 41 0 27) (.one (oE 42 1 27) (.one (oS 17 8 41) (.one (oM 9 42) (.nil))))))) (.none)))))))))))))))
def Xl : AC := .seq (.draw true [oF 43 3 2,oL 44 43,oM 45 6,oX 46 18 44 45,oF 47 17 46,oL 48 47,oF 49 3 3,oL 50 49,oM 51 7,oX 52 18 50 51,oF 53 17 52,oL 54 53,oP 55 .mul 48 54,oF 56 0 2,oL 57 56,oP 58 .rem 55 57,oF 59 0 2,oL 60 59,oF 61 1 2,oL 62 61,oM 63 9,oC 64 69 [.t 60,.t 62,.t 63],oP 65 .mul 58 64,oM 10 65]) (.region [oF 66 0 2,oL 67 66,oF 68 3 5,oL 69 68,oN 70 17 8,oM 71 10,oC 72 100 [.t 67,.t 69,.t 70,.t 71],oF 73 3 5,oT 73 72])
def Xg : AC := .region [oM 25 7,oK 26 .add 25 1,oM 7 26]
def Xd : AC := .seq (.seq (.region [oM 20 7,oF 21 3 3,oL 22 21,o0 23 (.len .slc (.t 22)),oP 24 .lss 20 23]) (.cond 24 .skip (.exit 2))) (.seq (.block 3 (.seq (.tree false Ua) Xl)) Xg)
def Up : AC := .region [oM 18 6,oK 19 .add 18 1,oM 6 19]
def Xm : AC := .seq (.seq (.region [oM 13 6,oF 14 3 2,oL 15 14,o0 16 (.len .slc (.t 15)),oP 17 .lss 13 16]) (.cond 17 .skip (.exit 0))) (.seq (.block 1 (.seq (.region [oI 7 0]) (.block 2 (.loop Xd)))) Up)
def Y9 : AC := .seq (.region [oN 74 4 5,oS 4 4 74]) .ret
def qam : AC := .seq (.region [o0 2 (.box (.t 0)),o0 3 (.box (.t 1)),oZ 4]) (.seq (.region [oN 11 4 2,oC 12 97 [.t 11],oZ 5,oS 4 5 12]) (.seq (.seq (.region [oI 6 0]) (.block 0 (.loop Xm))) Y9))
theorem qjf : zl Try.prog 98 = some ⟨75, qam, [.bg 4 4]⟩ := by kernel_rfl
theorem qkq (p c n p' c' : Int) (a b : List (Int × List Nat × Int)) (hp : 2 ≤ p ∧ p ≤ 97) (hc : 0 ≤ c ∧ c ≤ p - 1) (hn : 0 ≤ n ∧ n ≤ 8) (ha : xh p n a) (hb : xh p n b) (hl : a.length ≤ 300 ∧ b.length ≤ 300) :
    Am.Fn Try.prog 98 [elemV p c n 0 a.length, elemV p' c' n 1 b.length] [.ro (qq a), .ro (qq b)] (fun v H' => v = elemV p c n 2 (MP p n (wb p c n a b)).length ∧ H' = [.ro (qq a), .ro (qq b), .vec 18 (qq (MP p n (wb p c n a b)))]) := by
  refine Am.Fn.ofB qfs mixed qjf (by simp [elemV, AV.qp, AV.under]) (Qg (qb _) (qb _)) ?_
  have hal := qw ha.ok
  have hbl := qw hb.ok
  simp (maxSteps := 3000000) only [qh, zH, qam, xv, xt, xx, jm, jy, Ue, Xc, vc, elemV, hal, hbl, iE, iN, iB, iC, iL, iD, iA, iS, iM, qa, zZ, ↓qt, ↓reduceIte, reduceCtorEq, nA, nM, nS, nE, nL, nD]; try simp only [qa, zY]
  refine ⟨rfl, ?_⟩
  refine WA.jh qfs (fun s => ∃ (i : Nat) (acc : List (Int × List Nat × Int)), i ≤ a.length ∧ acc = MP p n (wb p c n (a.take i) b) ∧
      s = ⟨[(6, .int .i64 i), (5, .ptr 5 0), (4, .ptr 4 0), (3, .ptr 3 0), (2, .ptr 2 0)], [.ro (qq a), .ro (qq b), .cells [.int .i64 p, .int .i64 c, .int .i64 n, .slc 0 0 a.length false 0], .cells [.int .i64 p', .int .i64 c', .int .i64 n, .slc 1 0 b.length false 0], qg7, .cells [.int .i64 p, .int .i64 c, .int .i64 n, .slc 6 0 acc.length false 0], .vec 18 (qq acc)]⟩)
    (fun s => match get s.env 6 with | .int _ x => a.length - x.toNat | _ => 0) ⟨_, qx.xf [0, 1, 2, 3, 4, 6, 5] [6, 5, 4, 3, 2] ⟨by decide, ?_⟩ ?_, 0, [], by omega, rfl, ?_⟩ ?_
  · simp only [qd _ _ (qb _), zK, ↓reduceIte, reduceCtorEq, nE, nB, nA]
  · simp only [qd _ _ (qb _), zK, ↓reduceIte, reduceCtorEq, nE, nB, nA]
  · simp only [qc _ _ (qb _), zL, ↓reduceIte, reduceCtorEq, nE, nA]
    rfl
  rintro s ⟨i, acc, hi, hacc, rfl⟩
  have hwi : qm .i64 ((i : Int) + 1) = ((i + 1 : Nat) : Int) := by rw [wrap64 (by omega) (by omega)]; rfl
  by_cases hlt : i < a.length
  · have hli : (i : Int) < a.length := by omega
    have hli' : (0 : Int) ≤ i := by omega
    simp (maxSteps := 3000000) only [qh, zH, Xm, xv, xt, xx, jm, jy, Ue, Xc, vc, hli, iE, iN, iB, iC, iL, iD, iA, iS, iM, qa, zZ, ↓qt, ↓reduceIte, reduceCtorEq, nA, nM, nS, nE, nL, nD]; try simp only [qa, zY]
    have ea : MP p n (wb p c n (a.take i) b) = MP p n (wb p c n (a.take i) b ++ (b.take 0).map (prT p c n a[i])) := by simp
    rw [ea] at hacc
    refine WA.jh qfs (fun s => ∃ (j : Nat) (acc : List (Int × List Nat × Int)), j ≤ b.length ∧ acc = MP p n (wb p c n (a.take i) b ++ (b.take j).map (prT p c n a[i])) ∧
        s = ⟨[(7, .int .i64 j), (6, .int .i64 i), (5, .ptr 5 0), (4, .ptr 4 0), (3, .ptr 3 0), (2, .ptr 2 0)], [.ro (qq a), .ro (qq b), .cells [.int .i64 p, .int .i64 c, .int .i64 n, .slc 0 0 a.length false 0], .cells [.int .i64 p', .int .i64 c', .int .i64 n, .slc 1 0 b.length false 0], qg7, .cells [.int .i64 p, .int .i64 c, .int .i64 n, .slc 6 0 acc.length false 0], .vec 18 (qq acc)]⟩)
      (fun s => match get s.env 7 with | .int _ x => b.length - x.toNat | _ => 0) ⟨_, qx.qy [7, 6, 5, 4, 3, 2], 0, acc, by omega, hacc, rfl⟩ ?_
    clear hacc
    rintro s ⟨j, acc, hj, hacc, rfl⟩
    by_cases hltj : j < b.length
    · have hg := qrw hp hc ha hb hl (j := j) hlt
      rw [← hacc] at hg
      have hlj : (j : Int) < b.length := by omega
      have hlj' : (0 : Int) ≤ j := by omega
      have hw : qm .i64 ((j : Int) + 1) = ((j + 1 : Nat) : Int) := by rw [wrap64 (by omega) (by omega)]; rfl
      have hd1 := Zi ha.ok hlt
      have hf1 := Bk ha.ok hlt
      have hd2 := Zi hb.ok hltj
      have hf2 := Bk hb.ok hltj
      have ok1 := ha.ok _ (List.getElem_mem hlt)
      have ok2 := hb.ok _ (List.getElem_mem hltj)
      have z1 := ha.dia _ (List.getElem_mem hlt)
      have z2 := hb.dia _ (List.getElem_mem hltj)
      have c1 := ha.fac _ (List.getElem_mem hlt)
      have c2 := hb.fac _ (List.getElem_mem hltj)
      obtain ⟨t1, t2, t3, t4⟩ := qpv (c := c) hp hc z1.2 z2.2 c1 c2
      rw [z1.1] at hd1
      rw [z2.1] at hd2
      have hnext : MP p n (wb p c n (a.take i) b ++ (b.take (j + 1)).map (prT p c n a[i])) = j8 p acc n (prT p c n a[i] b[j]).2.1 (prT p c n a[i] b[j]).2.2 := by
        rw [ql0 hltj, ← List.append_assoc, qx3, ← hacc]
      have s1 := z1.2
      have s2 := z2.2
      have hprd : (prT p c n a[i] b[j]).2.1 = ji n.toNat a[i].2.1 b[j].2.1 := rfl
      have hprf : (prT p c n a[i] b[j]).2.2 = (a[i].2.2 * b[j].2.2).emod p * yj p c (lpN n.toNat a[i].2.1 b[j].2.1 n.toNat) := rfl
      rw [hprd, hprf] at hnext
      rw [hprd] at t1 t2
      rw [hprf] at t3 t4
      have hlpb : (0 : Int) ≤ ((lpN n.toNat a[i].2.1 b[j].2.1 n.toNat : Nat) : Int) ∧ ((lpN n.toNat a[i].2.1 b[j].2.1 n.toNat : Nat) : Int) ≤ 1000000 := by
        have := qet n.toNat a[i].2.1 b[j].2.1 n.toNat; omega
      clear hprd hprf z1 z2
      generalize a[i].2.1 = m1 at hd1 ok1 s1 t1 t2 t3 t4 hlpb hnext
      generalize a[i].2.2 = f1 at hf1 c1 t3 t4 hnext
      generalize b[j].2.1 = m2 at hd2 ok2 s2 t1 t2 t3 t4 hlpb hnext
      generalize b[j].2.2 = f2 at hf2 c2 t3 t4 hnext
      obtain ⟨w1, w2, w3, w4⟩ := pow_mul (p := p) (c := f2) (x := f1) hp (by omega) (by omega)
      have w5 : qm .i64 ((f1 * f2).emod p * yj p c (lpN n.toNat m1 m2 n.toNat)) = (f1 * f2).emod p * yj p c (lpN n.toNat m1 m2 n.toNat) := wrap64 (by omega) (by omega)
      have hne : p ≠ 0 := by omega
      have hb1 : i * 18 < a.length * 18 := by omega
      have hb2 : i * 18 + 17 ≤ a.length * 18 := by omega
      have hb3 : i * 18 + 17 < a.length * 18 := by omega
      have hb4 : j * 18 < b.length * 18 := by omega
      have hb5 : j * 18 + 17 ≤ b.length * 18 := by omega
      have hb6 : j * 18 + 17 < b.length * 18 := by omega
      have hfit := hg.1.fit (by omega) (by omega)
      have hacl := qw hg.1.ok
      have hpp : 0 < p ∧ p ≤ 1000000 := by omega
      have hn0 : 0 ≤ n := hn.1
      have t0 := t1.1
      simp (maxSteps := 3000000) only [qh, zH, Xd, xv, xt, xx, jm, jy, Ue, Xc, vc, hlj, hbl, iE, iN, iB, iC, iL, iD, iA, iS, iM, qa, zZ, ↓qt, ↓reduceIte, reduceCtorEq, nA, nM, nS, nE, nL, nD]; try simp only [qa, zY]
      refine WA.qlh qfs (fun s => s = ⟨[(9, .int .i64 (lpN n.toNat m1 m2 n.toNat : Nat)), (8, .ptr 7 0), (7, .int .i64 j), (6, .int .i64 i), (5, .ptr 5 0), (4, .ptr 4 0), (3, .ptr 3 0), (2, .ptr 2 0)], [.ro (qq a), .ro (qq b), .cells [.int .i64 p, .int .i64 c, .int .i64 n, .slc 0 0 a.length false 0], .cells [.int .i64 p', .int .i64 c', .int .i64 n, .slc 1 0 b.length false 0], qg7, .cells [.int .i64 p, .int .i64 c, .int .i64 n, .slc 6 0 acc.length false 0], .vec 18 (qq acc), .cells (dia n (ji n.toNat m1 m2))]⟩) ?_ ?_
      · unfold Ua
        simp (maxSteps := 3000000) only [qh, zH, J4, Ym, xv, xt, xx, jm, jy, Ue, Xc, vc, hli, hli', hlj, hlj', hal, hbl, hb1, hb2, hb3, hb4, hb5, hb6, hd1, hd2, za ok1, za ok2, s1, s2, hn0, wy, xl, Wv t0, qf, t0, j7, List.length_replicate, Nat.le_refl, and_self, iE, iN, iB, iC, iL, iD, iA, iS, iM, qa, zZ, ↓qt, ↓reduceIte, reduceCtorEq, nA, nM, nS, nE, nL, nD]; try simp only [qa, zY]
        repeat' first | (with_reducible exact ⟨_, rfl⟩) | (exact rfl) | (with_reducible refine And.intro ?_ ?_)
        all_goals exact ⟨_, qx.qy [9, 8, 7, 6, 5, 4, 3, 2], rfl⟩
      rintro s rfl
      by_cases hz : ((f1 * f2).emod p * yj p c (lpN n.toNat m1 m2 n.toNat)).emod p = 0
      · simp (maxSteps := 3000000) only [qh, zH, Xl, Xg, xv, xt, xx, jm, jy, Ue, Xc, vc, hli, hli', hlj, hlj', hal, hbl, hb1, hb2, hb3, hb4, hb5, hb6, hf1, hf2, w1, w2, w5, hne, hp, hc, hlpb, Int.toNat_natCast, hw, z7 hg.1.ok, za t1, hacl, hpp, hn, qf, t0, zb t0, hfit, hz, and_self, iE, iN, iB, iC, iL, iD, iA, iS, iM, qa, zZ, ↓qt, ↓reduceIte, reduceCtorEq, nA, nM, nS, nE, nL, nD]; try simp only [qa, zY]
        refine ⟨⟨_, rfl⟩, rfl, _, qx.xf [0, 1, 2, 3, 4, 5, 6] [7, 6, 5, 4, 3, 2] ⟨by decide, ?_⟩ ?_, ⟨j + 1, acc, by omega, by rw [hnext, Gl, if_pos hz], ?_⟩, ?_⟩
        · simp only [qd _ _ (qb _), zK, ↓reduceIte, reduceCtorEq, nE, nB, nA]
        · simp only [qd _ _ (qb _), zK, ↓reduceIte, reduceCtorEq, nE, nB, nA]
        · simp only [qc _ _ (qb _), zL, ↓reduceIte, reduceCtorEq, nE, nA]
        · simp only [zL, ↓reduceIte, reduceCtorEq, nE, nA]; omega
      · simp (maxSteps := 3000000) only [qh, zH, Xl, Xg, xv, xt, xx, jm, jy, Ue, Xc, vc, hli, hli', hlj, hlj', hal, hbl, hb1, hb2, hb3, hb4, hb5, hb6, hf1, hf2, w1, w2, w5, hne, hp, hc, hlpb, Int.toNat_natCast, hw, z7 hg.1.ok, za t1, hacl, hpp, hn, qf, t0, zb t0, hfit, hz, and_self, iE, iN, iB, iC, iL, iD, iA, iS, iM, qa, zZ, ↓qt, ↓reduceIte, reduceCtorEq, nA, nM, nS, nE, nL, nD]; try simp only [qa, zY]
        refine ⟨⟨_, rfl⟩, rfl, _, qx.xf [0, 1, 2, 3, 4, 5, 8] [7, 6, 5, 4, 3, 2] ⟨by decide, ?_⟩ ?_, ⟨j + 1, j8 p acc n (ji n.toNat m1 m2) ((f1 * f2).emod p * yj p c (lpN n.toNat m1 m2 n.toNat)), by omega, hnext.symm, ?_⟩, ?_⟩
        · simp only [qd _ _ (qb _), zK, ↓reduceIte, reduceCtorEq, nE, nB, nA]
        · simp only [qd _ _ (qb _), zK, ↓reduceIte, reduceCtorEq, nE, nB, nA]
        · simp only [qc _ _ (qb _), zL, ↓reduceIte, reduceCtorEq, nE, nA]
        · simp only [zL, ↓reduceIte, reduceCtorEq, nE, nA]; omega
    · have hlj : ¬ ((j : Int) < b.length) := by omega
      obtain rfl : j = b.length := by omega
      simp (maxSteps := 3000000) only [qh, zH, Xd, Up, xv, xt, xx, jm, jy, Ue, Xc, vc, hlj, hwi, hbl, Int.lt_irrefl, iE, iN, iB, iC, iL, iD, iA, iS, iM, qa, zZ, ↓qt, ↓reduceIte, reduceCtorEq, nA, nM, nS, nE, nL, nD]; try simp only [qa, zY]
      refine ⟨_, qx.qy [6, 5, 4, 3, 2], ⟨i + 1, acc, by omega, by rw [hacc, List.take_length, qin hlt], rfl⟩, ?_⟩
      simp only [zL, ↓reduceIte, reduceCtorEq, nE, nA]; omega
  · have hli : ¬ ((i : Int) < a.length) := by omega
    obtain rfl : i = a.length := by omega
    rw [List.take_length] at hacc
    subst hacc
    simp (maxSteps := 3000000) only [qh, zH, Xm, Y9, xv, xt, xx, jm, jy, Ue, Xc, vc, hli, Int.lt_irrefl, iE, iN, iB, iC, iL, iD, iA, iS, iM, qa, zZ, ↓qt, ↓reduceIte, reduceCtorEq, nA, nM, nS, nE, nL, nD]; try simp only [qa, zY]
    refine ⟨rfl, ?_⟩
    refine Ret.xf [0, 1, 6] ⟨⟨by simp, rfl, by decide⟩, ?_⟩ (rs := [.agg [.int .i64 p, .int .i64 c, .int .i64 n, .slc 6 0 (MP p n (wb p c n a b)).length false 0]]) rfl rfl (by simp [zt]) ?_ ⟨?_, ?_⟩
    · simp only [qd _ _ (qb _), zK, ↓reduceIte, reduceCtorEq, nE, nB, nA]
    · intro j l; match j with
      | 0 => simp [q7, AO.ren]
      | 1 => simp [q7, AO.ren]
      | 2 => simp [q7, AO.ren]
      | j + 3 => simp [q7]
    · simp only [zt]
      simp only [zL, ↓reduceIte, reduceCtorEq, nE, nA]
    · simp only [qc _ _ (qb _), zL, ↓reduceIte, reduceCtorEq, nE, nA]
noncomputable def Vb : BE := fun hp xs => match xs with
  | [.agg [.int .i64 p, .int .i64 c, .int .i64 n, .slc b 0 la false 0], .agg [.int .i64 p', .int .i64 c', .int .i64 n', .slc b' 0 lb false 0]] => match rd hp b, rd hp b' with
    | some L, some L' => match kv la L, kv lb L' with
      | some ta, some tb => chk ((((2 ≤ p ∧ p ≤ 97) ∧ (0 ≤ c ∧ c ≤ p - 1) ∧ (0 ≤ n ∧ n ≤ 8) ∧ n' = n) ∧ qa0 p n ta ∧ qa0 p n tb) ∧ (ta.length ≤ 300 ∧ tb.length ≤ 300)) (some (elemV p c n hp.length (MP p n (wb p c n ta tb)).length, hp ++ [.vec 18 (qq (MP p n (wb p c n ta tb)))]))
      | _, _ => none
    | _, _ => none
  | _ => none
theorem qmk {f : FuncId} (hf : ∀ (p c n p' c' : Int) (a b : List (Int × List Nat × Int)), 2 ≤ p ∧ p ≤ 97 → 0 ≤ c ∧ c ≤ p - 1 → 0 ≤ n ∧ n ≤ 8 → xh p n a → xh p n b → a.length ≤ 300 ∧ b.length ≤ 300 →
    Am.Fn Try.prog f [elemV p c n 0 a.length, elemV p' c' n 1 b.length] [.ro (qq a), .ro (qq b)] (fun v H' => v = elemV p c n 2 (MP p n (wb p c n a b)).length ∧ H' = [.ro (qq a), .ro (qq b), .vec 18 (qq (MP p n (wb p c n a b)))])) : Am.Callee Try.prog f Vb := Callee.fp fun hp xs v hp' he => by
  unfold Vb at he
  split at he
  · rename_i p c n b la p' c' n' b' lb
    split at he
    · rename_i L L' hL hL'
      split at he
      · rename_i ta tb h1 h1'
        obtain ⟨⟨⟨⟨a1, a0, a2, a3⟩, a4, a5⟩, a6⟩, he2⟩ := qk he
        simp only [Option.some.injEq, Prod.mk.injEq] at he2
        obtain ⟨rfl, rfl⟩ := he2
        obtain ⟨e1, e2, e3, e4⟩ := ju h1
        obtain ⟨f1, f2, f3, f4⟩ := ju h1'
        have g1 := qw e2
        have g2 := qw f2
        subst a3
        refine ⟨[(b, 0), (b', 0)], [elemV p c n' 0 ta.length, elemV p' c' n' 1 tb.length], _, _, _, hf p c n' p' c' ta tb a1 a0 a2 (a4.qni e2) (a5.qni f2) a6, by simp [elemV, AV.ren, AV.zg, ofL, e1, f1], rfl,
          ⟨⟨L, hL, by omega, by rw [List.drop_zero, qc _ _ (qb _), g1, e1]; exact e3⟩, ⟨L', hL', by omega, by rw [List.drop_zero, qc _ _ (qb _), g2, f1]; exact f3⟩, trivial⟩, rfl,
          ⟨qi _ _ (qb _), qi _ _ (qb _), trivial⟩, ⟨⟨trivial, trivial, trivial, by simp [AV.under], trivial⟩, ⟨trivial, trivial, trivial, by simp [AV.under], trivial⟩, trivial⟩, by simp [elemV, AV.ren, AV.zg, Ren.ext], ?_⟩
        simp [after, upd, AO.wr, AO.ren, qc _ _ (qb _)]
      · cases he
    · cases he
  · cases he
noncomputable def B87 : zk := (B86.put 98 (Vb))
theorem qku : qu Try.prog B87 := (qfs.put (qmk qkq))
def Yh (n : Int) (m : List Nat) (S : List (Int × List Nat × Int)) : Int := match Zb n m S with
  | none => 0
  | some j => (S.getD j zT).2.2
def Gw (n : Int) (m : List Nat) (v : Int) (S : List (Int × List Nat × Int)) : List (Int × List Nat × Int) := match Zb n m S with
  | none => S ++ [(n, m, v)]
  | some j => S.set j (n, m, v)
theorem qny {n v : Int} {m : List Nat} {S : List (Int × List Nat × Int)} : Gw n m v S = Zc n m (v - Yh n m S) S := by
  unfold Gw Yh
  cases h : Zb n m S with
  | none => simp only [(qbk h).1, Int.sub_zero]
  | some j =>
    simp only [(Gj h).2.2.2]
    rw [show (S.getD j zT).2.2 + (v - (S.getD j zT).2.2) = v by omega]
theorem U4 {n v : Int} {m : List Nat} {S : List (Int × List Nat × Int)} {u : Int × List Nat × Int} (h : u ∈ Gw n m v S) : u ∈ S ∨ u = (n, m, v) := by
  unfold Gw at h
  split at h
  · rcases List.mem_append.1 h with h | h
    · exact .inl h
    · exact .inr (List.mem_singleton.1 h)
  · exact List.mem_or_eq_of_mem_set h
theorem quv {n v : Int} {m : List Nat} {S : List (Int × List Nat × Int)} : (Gw n m v S).length ≤ S.length + 1 := by
  unfold Gw
  split <;> simp
def qi7 (p n : Int) (S : List (Int × List Nat × Int)) : Prop := qcn n 10000 S ∧ ∀ t ∈ S, 0 ≤ t.2.2 ∧ t.2.2 ≤ p - 1
theorem qy2 {p n : Int} (hp : 0 < p) {m : List Nat} {S : List (Int × List Nat × Int)} (h : qi7 p n S) : 0 ≤ Yh n m S ∧ Yh n m S ≤ p - 1 := by
  unfold Yh
  cases e : Zb n m S with
  | none => exact ⟨Int.le_refl 0, by show (0 : Int) ≤ p - 1; omega⟩
  | some j => exact h.2 _ (by rw [X4 (Gj e).1]; exact List.getElem_mem _)
theorem qu1 {p n v : Int} {m : List Nat} {S : List (Int × List Nat × Int)} (hp : p ≤ 97) (h : qi7 p n S) (hm : okD m) (hs : isS n.toNat m = true) (hv : 0 ≤ v ∧ v ≤ p - 1) : qi7 p n (Gw n m v S) := by
  have hone := qgu (n := n) (f := v - Yh n m S) (m := m) (ts := S) (fun t ht => (h.1.dia t ht).1) h.1.one
  rw [← qny] at hone
  refine ⟨⟨fun t ht => ?_, fun t ht => ?_, fun t ht => ?_, hone⟩, fun t ht => ?_⟩
  · rcases U4 ht with h1 | rfl
    · exact h.1.ok t h1
    · exact hm
  · rcases U4 ht with h1 | rfl
    · exact h.1.dia t h1
    · exact ⟨rfl, hs⟩
  · rcases U4 ht with h1 | rfl
    · exact h.1.fac t h1
    · exact ⟨by show -10000 ≤ v; omega, by show v ≤ 10000; omega⟩
  · rcases U4 ht with h1 | rfl
    · exact h.2 t h1
    · exact hv
def qbl (p n : Int) (m : List Nat) (f : Int) (S : List (Int × List Nat × Int)) : List (Int × List Nat × Int) := Gw n m ((Yh n m S + f).emod p) S
def ML (p n : Int) (l : List (Int × List Nat × Int)) : List (Int × List Nat × Int) := l.foldl (fun S t => qbl p n t.2.1 t.2.2 S) []
theorem qy5 {p n : Int} {l : List (Int × List Nat × Int)} {t : Int × List Nat × Int} : ML p n (l ++ [t]) = qbl p n t.2.1 t.2.2 (ML p n l) := by
  unfold ML; rw [List.foldl_append]; rfl
theorem qur {p n f : Int} {m : List Nat} {S : List (Int × List Nat × Int)} (hp : 0 < p ∧ p ≤ 97) (h : qi7 p n S) (hm : okD m) (hs : isS n.toNat m = true) : qi7 p n (qbl p n m f S) :=
  qu1 hp.2 h hm hs ⟨Int.emod_nonneg _ (by omega), Int.le_sub_one_of_lt (Int.emod_lt_of_pos _ hp.1)⟩
theorem qfu {p n : Int} (hp : 0 < p ∧ p ≤ 97) : ∀ {l acc : List (Int × List Nat × Int)}, qi7 p n acc → (∀ t ∈ l, okD t.2.1 ∧ isS n.toNat t.2.1 = true) → qi7 p n (l.foldl (fun S t => qbl p n t.2.1 t.2.2 S) acc) ∧ (l.foldl (fun S t => qbl p n t.2.1 t.2.2 S) acc).length ≤ acc.length + l.length
  | [], acc, h, _ => ⟨h, by simp⟩
  | t :: l, acc, h, hl => by
    have h1 := hl t (List.mem_cons_self ..)
    have := qfu hp (l := l) (qur (f := t.2.2) hp h h1.1 h1.2) fun u hu => hl u (List.mem_cons_of_mem _ hu)
    have h2 : (qbl p n t.2.1 t.2.2 acc).length ≤ acc.length + 1 := quv
    refine ⟨this.1, ?_⟩
    have h3 := this.2
    rw [List.foldl_cons, List.length_cons]; omega
theorem qym {p n f : Int} {m m' : List Nat} {S : List (Int × List Nat × Int)} (h : ∀ t ∈ S, t.1 = n) : p ∣ cf m (qbl p n m' f S) - (cf m S + if m' = m then f else 0) := by
  unfold qbl
  rw [qny, qju h]
  by_cases e : m' = m
  · rw [if_pos e, if_pos e]
    have := qea p (Yh n m' S + f)
    refine kc this (Int.dvd_zero p) ?_
    omega
  · rw [if_neg e, if_neg e]
    refine kc (Int.dvd_zero p) (Int.dvd_zero p) ?_
    omega
theorem qxj {p n f : Int} {m : List Nat} {S : List (Int × List Nat × Int)} (h : ∀ t ∈ S, t.1 = n) : ∀ t ∈ qbl p n m f S, t.1 = n := fun t ht => by
  rcases U4 ht with h1 | rfl
  · exact h t h1
  · rfl
theorem qre {p n : Int} {m : List Nat} : ∀ {l acc : List (Int × List Nat × Int)}, (∀ t ∈ acc, t.1 = n) → p ∣ cf m (l.foldl (fun S t => qbl p n t.2.1 t.2.2 S) acc) - (cf m acc + qmy id (fun _ => 1) m l)
  | [], acc, h => by simp [qmy]
  | t :: l, acc, h => by
    have ih := qre (p := p) (m := m) (l := l) (qxj (p := p) (m := t.2.1) (f := t.2.2) h)
    have h1 := qym (p := p) (f := t.2.2) (m := m) (m' := t.2.1) h
    rw [List.foldl_cons]
    refine kc ih h1 ?_
    simp only [qmy, id, Int.mul_one]
    omega
theorem qxt {p n : Int} {l : List (Int × List Nat × Int)} (hp : 0 < p ∧ p ≤ 97) (h : qs1 n 10000 id (fun _ => 1) l) : Ze (zs p (ML p n l)) = MP p n l := by
  have h0 : xh p n [] := ⟨(fun t h => by cases h), (fun t h => by cases h), (fun t h => by cases h), .nil⟩
  have hs := (qfu (p := p) (n := n) hp (l := l) (acc := []) ⟨⟨(fun t h => by cases h), (fun t h => by cases h), (fun t h => by cases h), .nil⟩, fun t h => by cases h⟩ fun t ht => ⟨(h t ht).1, (h t ht).2.1⟩).1
  refine qcx hp.1 (qmw hp.1 hs.1) (qaj hp.1 h0 h).1 fun m => ?_
  have h1 := qre (p := p) (n := n) (m := m) (acc := []) (l := l) (by simp)
  have h2 := qtu (p := p) (n := n) (φ := id) (κ := fun _ => 1) (m := m) (acc := []) (a := l) (by simp)
  have h3 := qqu (p := p) (m := m) (S := ML p n l)
  have h4 := kc h3 h1 (z := cf m (Ze (zs p (ML p n l))) - (cf m [] + qmy id (fun _ => 1) m l)) (by unfold ML; omega)
  exact qe4 h4 h2 (by unfold MP; omega)
theorem qn9 {n : Int} {m : List Nat} {S : List (Int × List Nat × Int)} (hm : m.length = 16) (ho : okT S) (h : Zb n m S = none) (v : Int) :
    wi KD true (.agg (dia n m)) (esT 0 S) 0 = some none ∧ Yh n m S = 0 ∧ (AO.map (esT 0 S ++ [(⟨.agg (dia n m), .int .i64 v, S.length⟩ : AE)]) (S.length + 1)) = v8 (Gw n m v S) := by
  refine ⟨by rw [Wl hm ho, h]; rfl, by unfold Yh; rw [h], ?_⟩
  have e : Gw n m v S = S ++ [(n, m, v)] := by unfold Gw; rw [h]
  rw [e]
  show _ = AO.map (esT 0 (S ++ [(n, m, v)])) (S ++ [(n, m, v)]).length
  rw [qko]; simp [esT]
theorem qog {n : Int} {m : List Nat} {S : List (Int × List Nat × Int)} {j : Nat} (hm : m.length = 16) (ho : okT S) (h : Zb n m S = some j) (v : Int) :
    wi KD true (.agg (dia n m)) (esT 0 S) 0 = some (some (j, ⟨.agg (dia n m), .int .i64 (Yh n m S), j⟩)) ∧ (AO.map ((esT 0 S).set j ⟨.agg (dia n m), .int .i64 v, j⟩) S.length) = v8 (Gw n m v S) := by
  have e1 : Yh n m S = (S.getD j zT).2.2 := by unfold Yh; rw [h]
  refine ⟨by rw [Wl hm ho, h, e1]; simp, ?_⟩
  have e : Gw n m v S = S.set j (n, m, v) := by unfold Gw; rw [h]
  rw [e]
  show _ = AO.map (esT 0 (S.set j (n, m, v))) (S.set j (n, m, v)).length
  have := qjo (n := n) (v := v) (m := m) (ts := S) (k := 0) (j := j)
  rw [Nat.zero_add] at this
  rw [this]; simp
theorem qwd {p c n : Int} (hp : 2 ≤ p ∧ p ≤ 97) (hc : 0 ≤ c ∧ c ≤ p - 1) {a b : List (Int × List Nat × Int)} (ha : xh p n a) (hb : xh p n b) (hl : a.length ≤ 300 ∧ b.length ≤ 300) {l : List (Int × List Nat × Int)} (h : ∀ t ∈ l, t ∈ wb p c n a b) (hl : l.length ≤ 100000) :
    qi7 p n (ML p n l) ∧ (ML p n l).length ≤ 100000 := by
  have hm := qj7 (c := c) hp hc ha hb
  have h1 := qfu (p := p) (n := n) (by omega) (l := l) (acc := []) ⟨⟨(fun t h => by cases h), (fun t h => by cases h), (fun t h => by cases h), .nil⟩, fun t h => by cases h⟩ fun t ht => ⟨(hm t (h t ht)).1, (hm t (h t ht)).2.1⟩
  exact ⟨h1.1, Nat.le_trans h1.2 (by simpa using hl)⟩
theorem xy : B87 105 = some (vk) := rfl
theorem yu : B87 75 = some (ql Qy) := rfl
theorem yp : B87 144 = some (ql vc) := rfl
def bc : AC := .seq (.region [oP 24 .lss 23 22]) (.seq (.cond 24 .skip (.exit 2)) (.seq (.block 3 (.seq (.region [oX 25 18 21 23,oN 26 18 25,o0 9 (.alloc [.int .i64 0,.int .u8 0,.int .u8 0,.int .u8 0,.int .u8 0,.int .u8 0,.int .u8 0,.int .u8 0,.int .u8 0,.int .u8 0,.int .u8 0,.int .u8 0,.int .u8 0,.int .u8 0,.int .u8 0,.int .u8 0,.int .u8 0,.int .i64 0]),oS 18 9 26]) (.seq (.region [oF 28 0 7,oN 29 17 28,oF 30 0 9,oN 31 17 30,oC 32 144 [.t 29,.t 31],oM 27 32,oE 33 0 27,oE 34 1 27,oD 10,oS 17 10 33,oM 11 34]) (.draw true [oM 35 5,oN 36 17 10,oM 37 5,oN 38 17 10,o0 39 (.lookup [.int,.int,.int,.int,.int,.int,.int,.int,.int,.int,.int,.int,.int,.int,.int,.int,.int] true (.int .i64 0) false (.t 37) (.t 38)),oF 40 17 7,oL 41 40,oF 42 17 9,oL 43 42,oP 44 .mul 41 43,oF 45 0 2,oL 46 45,oP 47 .rem 44 46,oF 48 1 2,oL 49 48,oM 50 11,oF 51 0 2,oL 52 51,oF 56 0 2,oL 57 56,oC 53 75 [.t 49,.t 50,.t 52],oP 54 .mul 47 53,oP 55 .add 39 54,oP 58 .rem 55 57,⟨none,none,.op (.Bs [.int,.int,.int,.int,.int,.int,.int,.int,.int,.int,.int,.int,.int,.int,.int,.int,.int] true (.t 35) (.t 36) (.t 58))⟩])))) (.region [oK 59 .add 23 1,oM 23 59])))
def Vd : AC := .region [oK 60 .add 16 1,oM 16 60]
def Qp : AC := .seq (.region [oP 17 .lss 16 15]) (.seq (.cond 17 .skip (.exit 0)) (.seq (.block 1 (.seq (.region [oX 18 18 14 16,oN 19 18 18,o0 7 (.alloc [.int .i64 0,.int .u8 0,.int .u8 0,.int .u8 0,.int .u8 0,.int .u8 0,.int .u8 0,.int .u8 0,.int .u8 0,.int .u8 0,.int .u8 0,.int .u8 0,.int .u8 0,.int .u8 0,.int .u8 0,.int .u8 0,.int .u8 0,.int .i64 0]),oS 18 7 19]) (.seq (.region [oF 20 3 3,oL 21 20,o0 22 (.len .slc (.t 21)),oI 23 0]) (.block 2 (.loop bc))))) Vd))
def Vy : AC := .seq (.region [oM 61 5,oC 62 105 [.t 2,.t 61],oS 4 4 62]) .ret
def Ba : AC := .seq (.region [o0 2 (.box (.t 0)),o0 3 (.box (.t 1)),oZ 4]) (.seq (.region [o0 12 (.Gy),oM 5 12]) (.seq (.seq (.region [oF 13 3 2,oL 14 13,o0 15 (.len .slc (.t 14)),oI 16 0]) (.block 0 (.loop Qp))) Vy))
theorem qf8 : zl Try.prog 90 = some ⟨63, Ba, [.bg 4 4]⟩ := by kernel_rfl
theorem qew (p c n p' c' : Int) (a b : List (Int × List Nat × Int)) (hp : 2 ≤ p ∧ p ≤ 97) (hc : 0 ≤ c ∧ c ≤ p - 1) (hn : 0 ≤ n ∧ n ≤ 8) (ha : xh p n a) (hb : xh p n b) (hl : a.length ≤ 300 ∧ b.length ≤ 300) :
    Am.Fn Try.prog 90 [elemV p c n 0 a.length, elemV p' c' n 1 b.length] [.ro (qq a), .ro (qq b)] (fun v H' => v = elemV p c n 2 (MP p n (wb p c n a b)).length ∧ H' = [.ro (qq a), .ro (qq b), .vec 18 (qq (MP p n (wb p c n a b)))]) := by
  refine Am.Fn.ofB qku mixed qf8 (by simp [elemV, AV.qp, AV.under]) (Qg (qb _) (qb _)) ?_
  have hal := qw ha.ok
  have hbl := qw hb.ok
  simp (maxSteps := 3000000) only [qh, zH, Ba, xy, yu, yp, Qy, vc, vk, elemV, hal, hbl, Nat.le_refl, iE, iN, iB, iC, iL, iD, iA, iS, iM, qa, zZ, ↓qt, ↓reduceIte, reduceCtorEq, nA, nM, nS, nE, nL, nD]; try simp only [qa, zY]
  have hlen2 : ∀ l : List (Int × List Nat × Int), (∀ t ∈ l, t ∈ wb p c n a b) → l.length ≤ 100000 → qi7 p n (ML p n l) ∧ (ML p n l).length ≤ 100000 := fun l h1 h2 => qwd (c := c) hp hc ha hb hl h1 h2
  refine WA.jh qku (fun s => ∃ (i : Nat) (S : List (Int × List Nat × Int)), i ≤ a.length ∧ S = ML p n (wb p c n (a.take i) b) ∧ s = ⟨[(16, .int .i64 i), (15, .int .i64 a.length), (14, .slc 0 0 a.length false 0), (5, .map 5), (4, .ptr 4 0), (3, .ptr 3 0), (2, .ptr 2 0)], [.ro (qq a), .ro (qq b), .cells [.int .i64 p, .int .i64 c, .int .i64 n, .slc 0 0 a.length false 0], .cells [.int .i64 p', .int .i64 c', .int .i64 n, .slc 1 0 b.length false 0], qg7, v8 S]⟩)
    (fun s => match get s.env 16 with | .int _ x => a.length - x.toNat | _ => 0) ⟨_, qx.qy [16, 15, 14, 5, 4, 3, 2], 0, [], by omega, rfl, rfl⟩ ?_
  rintro s ⟨i, S, hi, hS, rfl⟩
  have hwi : qm .i64 ((i : Int) + 1) = ((i + 1 : Nat) : Int) := by rw [wrap64 (by omega) (by omega)]; rfl
  by_cases hlt : i < a.length
  · have hli : (i : Int) < a.length := by omega
    have hli' : (0 : Int) ≤ i := by omega
    have hg0 := kj ha.ok hlt
    have ok1 := ha.ok _ (List.getElem_mem hlt)
    have z1 := ha.dia _ (List.getElem_mem hlt)
    have c1 := ha.fac _ (List.getElem_mem hlt)
    have hb1 : i * 18 < a.length * 18 := by omega
    have hb2 : i * 18 + 18 ≤ a.length * 18 := by omega
    have hov := kd (t := (0, List.replicate 16 0, 0)) (u := a[i]) (by simp) ok1.1
    have htl := z8 (t := a[i]) ok1
    have htd := qap (t := a[i]) ok1
    have htf := b9 (t := a[i]) ok1
    rw [z1.1] at htd
    have hmem : ∀ j, ∀ t ∈ wb p c n (a.take i) b ++ (b.take j).map (prT p c n a[i]), t ∈ wb p c n a b := fun j t ht => qnx hlt ht
    have hmln : ∀ j, (wb p c n (a.take i) b ++ (b.take j).map (prT p c n a[i])).length ≤ 100000 := fun j => by
      rw [List.length_append, qa7, List.length_map, List.length_take, List.length_take]
      have h1 : (min i a.length) * b.length ≤ 300 * 300 := Nat.mul_le_mul (by omega) hl.2
      omega
    have hms : wb p c n (a.take (i + 1)) b = wb p c n (a.take i) b ++ b.map (prT p c n a[i]) := qin hlt
    have hnx : ∀ j (h : j < b.length), (b.take (j + 1)).map (prT p c n a[i]) = (b.take j).map (prT p c n a[i]) ++ [prT p c n a[i] b[j]] := fun j h => ql0 h
    obtain ⟨t, ht⟩ : ∃ t, t = a[i] := ⟨_, rfl⟩
    rw [← ht] at hg0 ok1 z1 c1 hov htl htd htf hms
    simp only [← ht] at hmem hmln hnx
    clear ht
    simp (maxSteps := 3000000) only [qh, zH, Qp, xy, yu, yp, Qy, vc, vk, hli, hli', hal, hbl, hb1, hb2, hg0, jo, htl, wc, ui, hov, List.length_replicate, Nat.le_refl, iE, iN, iB, iC, iL, iD, iA, iS, iM, qa, zZ, ↓qt, ↓reduceIte, reduceCtorEq, nA, nM, nS, nE, nL, nD]; try simp only [qa, zY]
    have ea : wb p c n (a.take i) b = wb p c n (a.take i) b ++ (b.take 0).map (prT p c n t) := by simp
    rw [ea] at hS
    refine WA.jh qku (fun s => ∃ (j : Nat) (S : List (Int × List Nat × Int)), j ≤ b.length ∧ S = ML p n (wb p c n (a.take i) b ++ (b.take j).map (prT p c n t)) ∧ s = ⟨[(23, .int .i64 j), (22, .int .i64 b.length), (21, .slc 1 0 b.length false 0), (7, .ptr 6 0), (16, .int .i64 i), (15, .int .i64 a.length), (14, .slc 0 0 a.length false 0), (5, .map 5), (4, .ptr 4 0), (3, .ptr 3 0), (2, .ptr 2 0)], [.ro (qq a), .ro (qq b), .cells [.int .i64 p, .int .i64 c, .int .i64 n, .slc 0 0 a.length false 0], .cells [.int .i64 p', .int .i64 c', .int .i64 n, .slc 1 0 b.length false 0], qg7, v8 S, .cells (trm t)]⟩)
      (fun s => match get s.env 23 with | .int _ x => b.length - x.toNat | _ => 0) ⟨_, qx.qy [23, 22, 21, 7, 16, 15, 14, 5, 4, 3, 2], 0, S, by omega, hS, rfl⟩ ?_
    clear hS
    rintro s ⟨j, S, hj, hS, rfl⟩
    by_cases hltj : j < b.length
    · obtain ⟨hs, hsl⟩ := hlen2 _ (hmem j) (hmln j)
      rw [← hS] at hs hsl
      have hlj : (j : Int) < b.length := by omega
      have hlj' : (0 : Int) ≤ j := by omega
      have hw : qm .i64 ((j : Int) + 1) = ((j + 1 : Nat) : Int) := by rw [wrap64 (by omega) (by omega)]; rfl
      have hq0 := kj hb.ok hltj
      have ok2 := hb.ok _ (List.getElem_mem hltj)
      have z2 := hb.dia _ (List.getElem_mem hltj)
      have c2 := hb.fac _ (List.getElem_mem hltj)
      have hb4 : j * 18 < b.length * 18 := by omega
      have hb5 : j * 18 + 18 ≤ b.length * 18 := by omega
      have hov2 := kd (t := (0, List.replicate 16 0, 0)) (u := b[j]) (by simp) ok2.1
      have htl2 := z8 (t := b[j]) ok2
      have htd2 := qap (t := b[j]) ok2
      have htf2 := b9 (t := b[j]) ok2
      rw [z2.1] at htd2
      obtain ⟨t1, t2, t3, t4⟩ := qpv (c := c) hp hc z1.2 z2.2 c1 c2
      have hnext : ML p n (wb p c n (a.take i) b ++ (b.take (j + 1)).map (prT p c n t)) = qbl p n (prT p c n t b[j]).2.1 (prT p c n t b[j]).2.2 S := by
        rw [hnx j hltj, ← List.append_assoc, qy5, ← hS]
      obtain ⟨u, hu⟩ : ∃ u, u = b[j] := ⟨_, rfl⟩
      rw [← hu] at hq0 ok2 z2 c2 hov2 htl2 htd2 htf2 t1 t2 t3 t4 hnext
      clear hu
      have s1 := z1.2
      have s2 := z2.2
      have hprd : (prT p c n t u).2.1 = ji n.toNat t.2.1 u.2.1 := rfl
      have hprf : (prT p c n t u).2.2 = (t.2.2 * u.2.2).emod p * yj p c (lpN n.toNat t.2.1 u.2.1 n.toNat) := rfl
      rw [hprd, hprf] at hnext
      rw [hprd] at t1 t2
      rw [hprf] at t3 t4
      have hlpb : (0 : Int) ≤ ((lpN n.toNat t.2.1 u.2.1 n.toNat : Nat) : Int) ∧ ((lpN n.toNat t.2.1 u.2.1 n.toNat : Nat) : Int) ≤ 1000000 := by
        have := qet n.toNat t.2.1 u.2.1 n.toNat; omega
      obtain ⟨w1, w2, w3, w4⟩ := pow_mul (p := p) (c := u.2.2) (x := t.2.2) hp (by omega) (by omega)
      have w5 : qm .i64 ((t.2.2 * u.2.2).emod p * yj p c (lpN n.toNat t.2.1 u.2.1 n.toNat)) = (t.2.2 * u.2.2).emod p * yj p c (lpN n.toNat t.2.1 u.2.1 n.toNat) := wrap64 (by omega) (by omega)
      have hne : p ≠ 0 := by omega
      have hn0 : 0 ≤ n := hn.1
      have t0 := t1.1
      have hvb := qy2 (by omega) hs (m := ji n.toNat t.2.1 u.2.1)
      have hkok : kok KD true (.agg (dia n (ji n.toNat t.2.1 u.2.1))) = true := qec t0
      have hmT : v8 S = .map (esT 0 S) S.length := rfl
      have do1 := za (n := n) ok1
      have do2 := za (n := n) ok2
      clear hprd hprf
      cases hix : Zb n (ji n.toNat t.2.1 u.2.1) S with
      | none =>
        obtain ⟨f1, f2, f3⟩ := qn9 t0 hs.1.ok hix ((0 + (t.2.2 * u.2.2).emod p * yj p c (lpN n.toNat t.2.1 u.2.1 n.toNat)).emod p)
        have w6 : qm .i64 (0 + (t.2.2 * u.2.2).emod p * yj p c (lpN n.toNat t.2.1 u.2.1 n.toNat)) = 0 + (t.2.2 * u.2.2).emod p * yj p c (lpN n.toNat t.2.1 u.2.1 n.toNat) := wrap64 (by omega) (by omega)
        have w7 : Int.tmod (0 + (t.2.2 * u.2.2).emod p * yj p c (lpN n.toNat t.2.1 u.2.1 n.toNat)) p = (0 + (t.2.2 * u.2.2).emod p * yj p c (lpN n.toNat t.2.1 u.2.1 n.toNat)).emod p := Int.tmod_eq_emod_of_nonneg (by omega)
        simp (maxSteps := 3000000) only [qh, zH, bc, xy, yu, yp, Qy, vc, vk, hlj, hlj', hal, hbl, hb4, hb5, hq0, jo, htl, htl2, htd, htd2, htf, htf2, wc, ui, hov2, wy, xl, Wv t0, zb t0, qf, t0, j7, List.length_replicate, Nat.le_refl, do1, do2, s1, s2, hn0, w1, w2, w5, w6, w7, hne, hp, hc, hlpb, Int.toNat_natCast, hmT, hkok, f1, jg, hw, and_self, iE, iN, iB, iC, iL, iD, iA, iS, iM, qa, zZ, ↓qt, ↓reduceIte, reduceCtorEq, nA, nM, nS, nE, nL, nD]; try simp only [qa, zY]
        rw [f3]
        refine ⟨⟨_, rfl⟩, _, qx.xf [0, 1, 2, 3, 4, 5, 6] [23, 22, 21, 7, 16, 15, 14, 5, 4, 3, 2] ⟨by decide, ?_⟩ ?_, ⟨j + 1, Gw n (ji n.toNat t.2.1 u.2.1) ((0 + (t.2.2 * u.2.2).emod p * yj p c (lpN n.toNat t.2.1 u.2.1 n.toNat)).emod p) S, by omega, by rw [hnext, qbl, f2], ?_⟩, ?_⟩
        · simp only [qd _ _ (qb _), qd _ _ (yz _), v8, ↓zj, zK, ↓reduceIte, reduceCtorEq, nE, nB, nA]
        · simp only [qd _ _ (qb _), qd _ _ (yz _), v8, ↓zj, zK, ↓reduceIte, reduceCtorEq, nE, nB, nA]
        · simp only [qc _ _ (qb _), qc _ _ (yz _), v8, ↓yl, zL, ↓reduceIte, reduceCtorEq, nE, nA]
        · simp only [zL, ↓reduceIte, reduceCtorEq, nE, nA]; omega
      | some q =>
        obtain ⟨f1, f3⟩ := qog t0 hs.1.ok hix ((Yh n (ji n.toNat t.2.1 u.2.1) S + (t.2.2 * u.2.2).emod p * yj p c (lpN n.toNat t.2.1 u.2.1 n.toNat)).emod p)
        have w6 : qm .i64 (Yh n (ji n.toNat t.2.1 u.2.1) S + (t.2.2 * u.2.2).emod p * yj p c (lpN n.toNat t.2.1 u.2.1 n.toNat)) = Yh n (ji n.toNat t.2.1 u.2.1) S + (t.2.2 * u.2.2).emod p * yj p c (lpN n.toNat t.2.1 u.2.1 n.toNat) := wrap64 (by omega) (by omega)
        have w7 : Int.tmod (Yh n (ji n.toNat t.2.1 u.2.1) S + (t.2.2 * u.2.2).emod p * yj p c (lpN n.toNat t.2.1 u.2.1 n.toNat)) p = (Yh n (ji n.toNat t.2.1 u.2.1) S + (t.2.2 * u.2.2).emod p * yj p c (lpN n.toNat t.2.1 u.2.1 n.toNat)).emod p := Int.tmod_eq_emod_of_nonneg (by omega)
        simp (maxSteps := 3000000) only [qh, zH, bc, xy, yu, yp, Qy, vc, vk, hlj, hlj', hal, hbl, hb4, hb5, hq0, jo, htl, htl2, htd, htd2, htf, htf2, wc, ui, hov2, wy, xl, Wv t0, zb t0, qf, t0, j7, List.length_replicate, Nat.le_refl, do1, do2, s1, s2, hn0, w1, w2, w5, w6, w7, hne, hp, hc, hlpb, Int.toNat_natCast, hmT, hkok, f1, jg, hw, and_self, iE, iN, iB, iC, iL, iD, iA, iS, iM, qa, zZ, ↓qt, ↓reduceIte, reduceCtorEq, nA, nM, nS, nE, nL, nD]; try simp only [qa, zY]
        rw [f3]
        refine ⟨⟨_, rfl⟩, _, qx.xf [0, 1, 2, 3, 4, 5, 6] [23, 22, 21, 7, 16, 15, 14, 5, 4, 3, 2] ⟨by decide, ?_⟩ ?_, ⟨j + 1, Gw n (ji n.toNat t.2.1 u.2.1) ((Yh n (ji n.toNat t.2.1 u.2.1) S + (t.2.2 * u.2.2).emod p * yj p c (lpN n.toNat t.2.1 u.2.1 n.toNat)).emod p) S, by omega, by rw [hnext, qbl], ?_⟩, ?_⟩
        · simp only [qd _ _ (qb _), qd _ _ (yz _), v8, ↓zj, zK, ↓reduceIte, reduceCtorEq, nE, nB, nA]
        · simp only [qd _ _ (qb _), qd _ _ (yz _), v8, ↓zj, zK, ↓reduceIte, reduceCtorEq, nE, nB, nA]
        · simp only [qc _ _ (qb _), qc _ _ (yz _), v8, ↓yl, zL, ↓reduceIte, reduceCtorEq, nE, nA]
        · simp only [zL, ↓reduceIte, reduceCtorEq, nE, nA]; omega
    · have hlj : ¬ ((j : Int) < b.length) := by omega
      obtain rfl : j = b.length := by omega
      simp (maxSteps := 3000000) only [qh, zH, bc, Vd, xy, yu, yp, Qy, vc, vk, hlj, hwi, hbl, Int.lt_irrefl, iE, iN, iB, iC, iL, iD, iA, iS, iM, qa, zZ, ↓qt, ↓reduceIte, reduceCtorEq, nA, nM, nS, nE, nL, nD]; try simp only [qa, zY]
      refine ⟨_, qx.xf [0, 1, 2, 3, 4, 5] [16, 15, 14, 5, 4, 3, 2] ⟨by decide, ?_⟩ ?_, ⟨i + 1, S, by omega, by rw [hS, List.take_length, hms], ?_⟩, ?_⟩
      · simp only [qd _ _ (qb _), v8, ↓zj, zK, ↓reduceIte, reduceCtorEq, nE, nB, nA]
      · simp only [qd _ _ (qb _), v8, ↓zj, zK, ↓reduceIte, reduceCtorEq, nE, nB, nA]
      · simp only [qc _ _ (qb _), v8, ↓yl, zL, ↓reduceIte, reduceCtorEq, nE, nA]
      · simp only [zL, ↓reduceIte, reduceCtorEq, nE, nA]; omega
  · have hli : ¬ ((i : Int) < a.length) := by omega
    obtain rfl : i = a.length := by omega
    rw [List.take_length] at hS
    obtain ⟨hs, hsl⟩ := hlen2 (wb p c n a b) (fun t h => h) (by
      rw [qa7]
      have : a.length * b.length ≤ 300 * 300 := Nat.mul_le_mul hl.1 hl.2
      omega)
    have hlaw := qxt (p := p) (n := n) (by omega) (qj7 (c := c) hp hc ha hb)
    have hll : (zs p (ML p n (wb p c n a b))).length = (MP p n (wb p c n a b)).length := by rw [← hlaw]; exact (bu _).length_eq.symm
    rw [← hll, ← hlaw]
    rw [← hS] at hs hsl ⊢
    clear hS hll hlaw
    have hap := qi4 hs.1
    obtain ⟨hz1, hz2, hz3⟩ := qvi (p := p) hn hs.1
    have hSo := hs.1.ok
    have hmT : v8 S = .map (esT 0 S) S.length := rfl
    have hts := qje (ts := S) (k := 0) hSo
    have hSl' : S.length ≤ 1000000 := by omega
    have hpp : 0 < p ∧ p ≤ 1000000 := by omega
    simp (maxSteps := 3000000) only [qh, zH, Qp, Vy, xy, yu, yp, Qy, vc, vk, hli, hmT, Int.lt_irrefl, hts, hpp, hSl', hz1, hz2, hap, and_self, elemV, iE, iN, iB, iC, iL, iD, iA, iS, iM, qa, zZ, ↓qt, ↓reduceIte, reduceCtorEq, nA, nM, nS, nE, nL, nD]; try simp only [qa, zY]
    rw [hz3]
    refine ⟨hz2, rfl, ?_⟩
    refine Ret.xf [0, 1, 6] ⟨⟨by simp, rfl, by decide⟩, ?_⟩ (rs := [.agg [.int .i64 p, .int .i64 c, .int .i64 n, .slc 6 0 (zs p S).length false 0]]) rfl rfl (by simp [zt]) ?_ ⟨?_, ?_⟩
    · simp only [qd _ _ (qb _), ↓zj, zK, ↓reduceIte, reduceCtorEq, nE, nB, nA]
    · intro j l; match j with
      | 0 => simp [q7, AO.ren]
      | 1 => simp [q7, AO.ren]
      | 2 => simp [q7, AO.ren]
      | j + 3 => simp [q7]
    · simp only [zt]
      simp only [zL, ↓reduceIte, reduceCtorEq, nE, nA]
    · simp only [qc _ _ (qb _), zL, ↓reduceIte, reduceCtorEq, nE, nA]
noncomputable def B88 : zk := (B87.put 90 (Vb))
theorem qzp : qu Try.prog B88 := (qku.put (qmk qew))
theorem qyc {p c n : Int} (hp : 2 ≤ p ∧ p ≤ 97) (hc : 0 ≤ c ∧ c ≤ p - 1) {a b : List (Int × List Nat × Int)} (ha : xh p n a) (hb : xh p n b) (hl : a.length ≤ 300 ∧ b.length ≤ 300) : xh p n (MP p n (wb p c n a b)) ∧ (MP p n (wb p c n a b)).length ≤ 100000 := by
  have h0 : xh p n [] := ⟨(fun t h => by cases h), (fun t h => by cases h), (fun t h => by cases h), .nil⟩
  have h := qaj (p := p) (F := 10000) (φ := id) (κ := fun _ => 1) (by omega) h0 (qj7 (c := c) hp hc ha hb)
  refine ⟨h.1, Nat.le_trans h.2 ?_⟩
  rw [List.length_nil, qa7]
  have h1 : a.length * b.length ≤ 300 * 300 := Nat.mul_le_mul hl.1 hl.2
  omega
noncomputable def B89 : zk := B88
theorem q0q : qu Try.prog B89 := qzp
theorem qbn (l : List (Int × List Nat × Int)) : AV.gz (qq l) = [] := yh _ (qb l)
noncomputable def B91 : zk := ((B89.put 143 (bt)).put 88 (ql js))
theorem qwh : qu Try.prog B91 := ((q0q.put (qwx)).put (qi3 q0v))
theorem U6 {m : List Nat} {i k : Nat} (hm : okD m) (hi : i < 16) (hk : k < 16) : okD ((m.set i k).set k i) := by
  refine ⟨by simp [hm.1], fun x hx => ?_⟩
  rcases List.mem_or_eq_of_mem_set hx with hx | rfl
  · rcases List.mem_or_eq_of_mem_set hx with hx | rfl
    · exact hm.2 x hx
    · omega
  · omega
def qda : AC := .seq (.region [o0 3 (.box (.t 0)),oD 6]) (.seq (.region [oM 7 1,oM 8 2,o0 9 (.conv .u8 (.t 8)),oF 10 1 3,o0 11 (.xd 16 1 (.t 10) (.t 7)),oT 11 9]) (.seq (.region [oM 12 2,oM 13 1,o0 14 (.conv .u8 (.t 13)),oF 15 1 3,o0 16 (.xd 16 1 (.t 15) (.t 12)),oT 16 14]) (.seq (.region [oN 17 17 3,oS 17 6 17]) .ret)))
theorem ql7 : zl Try.prog 139 = some ⟨18, qda, [.bg 6 17]⟩ := by kernel_rfl
theorem qlf (n : Int) (m : List Nat) (i k : Nat) (hm : okD m) (hi : i < 16) (hk : k < 16) :
    Am.Fn Try.prog 139 [.agg (dia n m), .int .i64 i, .int .i64 k] [] (fun v H' => v = .agg (dia n ((m.set i k).set k i)) ∧ H' = []) := by
  refine Am.Fn.xu (R := fun v => v = _) qwh mixed ql7 (by simp) (by simp) ?_
  obtain ⟨a1, a2⟩ := gp hi
  obtain ⟨b1, b2⟩ := gp hk
  have hu1 : qm .u8 (i : Int) = i := Km (by omega)
  have hu2 : qm .u8 (k : Int) = k := Km (by omega)
  have hml := hm.1
  have hs := (U6 hm hi hk).1
  simp (maxSteps := 3000000) only [qh, zH, qda, wy, xl, qf, hml, List.length_set, a1, a2, b1, b2, hu1, hu2, qav, AV.one, zb hs, y6 j5 hs, j7, List.length_replicate, iE, iN, iB, iC, iL, iD, iA, iS, iM, qa, zZ, ↓qt, ↓reduceIte, reduceCtorEq, nA, nM, nS, nE, nL, nD]; try simp only [qa, zY]
  exact qg _ _
def kp : List AV → Option AV
  | [.agg l, .int .i64 i, .int .i64 k] => match wv l with
    | some (n, m) => chk ((0 ≤ i ∧ i < 16) ∧ (0 ≤ k ∧ k < 16)) (some (.agg (dia n ((m.set i.toNat k.toNat).set k.toNat i.toNat))))
    | none => none
  | _ => none
theorem qxg : Am.Callee Try.prog 139 (ql kp) := Am.Callee.plain fun xs v he => by
  unfold kp at he
  split at he
  · rename_i l i k
    split at he
    · rename_i n m hd
      obtain ⟨⟨h1, h2⟩, he⟩ := qk he
      cases he
      obtain ⟨rfl, hm⟩ := z6 hd
      obtain ⟨i, rfl⟩ : ∃ j : Nat, i = j := ⟨i.toNat, by omega⟩
      obtain ⟨k, rfl⟩ : ∃ j : Nat, k = j := ⟨k.toNat, by omega⟩
      simp only [Int.toNat_natCast]
      exact ⟨by simp only [AV.zh, AV.zp, qg, Bool.and_self], by simp only [AV.zp, qg], qlf n m i k hm (by omega) (by omega)⟩
    · cases he
  · cases he
noncomputable def B92 : zk := (B91.put 139 (ql kp))
theorem qpg : qu Try.prog B92 := (qwh.put (qxg))
theorem Xh : B92 103 = some (qhr j2) := rfl
theorem Za : B92 97 = some (jy) := rfl
theorem u5 : B92 143 = some (bt) := rfl
theorem V3 : B92 88 = some (ql js) := rfl
theorem Zq : B92 139 = some (ql kp) := rfl
def V5 : AC := .seq (.seq (.region [oM 7 4,oM 8 0,oP 9 .lss 7 8]) (.cond 9 .skip (.exit 0))) (.seq (.block 1 (.region [oN 12 17 3,oM 13 4,oM 14 0,oM 15 4,oP 16 .add 14 15,oC 17 139 [.t 12,.t 13,.t 16],oS 17 3 17])) (.region [oM 10 4,oK 11 .add 10 1,oM 4 11]))
def G4 : AC := .seq (.region [oN 18 17 3,oS 17 2 18]) .ret
def qgg : AC := .seq (.region [oD 2]) (.seq (.region [oM 5 0,o0 6 (.build [.int .i64 0,.int .u8 0,.int .u8 0,.int .u8 0,.int .u8 0,.int .u8 0,.int .u8 0,.int .u8 0,.int .u8 0,.int .u8 0,.int .u8 0,.int .u8 0,.int .u8 0,.int .u8 0,.int .u8 0,.int .u8 0,.int .u8 0] [(0,1,.t 5)]),oD 3,oS 17 3 6]) (.seq (.seq (.region [oI 4 0]) (.block 0 (.loop V5))) G4))
theorem qo5 : zl Try.prog 83 = some ⟨19, qgg, [.bg 2 17]⟩ := by kernel_rfl
theorem qph (n : Nat) (hn : n ≤ 8) : Am.Fn Try.prog 83 [.int .i64 n] [] (fun v H' => v = .agg (dia n (xi n)) ∧ H' = []) := by
  refine Am.Fn.xu (R := fun v => v = _) qpg mixed qo5 (by simp) (by simp) ?_
  simp (maxSteps := 3000000) only [qh, zH, qgg, Xh, Za, u5, V3, Zq, jy, bt, j2, kp, js, wy, xl, Y2, qf, j7, y6 j5 j5, List.length_replicate, iE, iN, iB, iC, iL, iD, iA, iS, iM, qa, zZ, ↓qt, ↓reduceIte, reduceCtorEq, nA, nM, nS, nE, nL, nD]; try simp only [qa, zY]
  refine WA.jh qpg (fun s => ∃ i : Nat, i ≤ n ∧ s = ⟨[(4, .int .i64 i), (3, .ptr 1 0), (2, .ptr 0 0), (0, .int .i64 n)], [.cells (dia 0 (List.replicate 16 0)), .cells (dia n (Vg n i))]⟩)
    (fun s => match get s.env 4 with | .int _ x => n - x.toNat | _ => 0) ⟨_, qx.qy [4, 3, 2, 0], 0, by omega, rfl⟩ ?_
  rintro s ⟨i, hi, rfl⟩
  have hw : qm .i64 ((i : Int) + 1) = ((i + 1 : Nat) : Int) := by rw [wrap64 (by omega) (by omega)]; rfl
  have hok := qbg hn hi
  have hok1 := hok.1
  by_cases hlt : i < n
  · have hli : (i : Int) < (n : Int) := by omega
    have h2 : qm .i64 ((n : Int) + i) = ((n + i : Nat) : Int) := by rw [wrap64 (by omega) (by omega)]; rfl
    have c1 : (0 : Int) ≤ i ∧ (i : Int) < 16 := by omega
    have c2 : (0 : Int) ≤ (n + i : Nat) ∧ ((n + i : Nat) : Int) < 16 := by omega
    have hnext : Vg n (i + 1) = ((Vg n i).set i (n + i)).set (n + i) i := rfl
    have hok2 := (qbg hn hlt).1
    rw [hnext] at hok2
    simp (maxSteps := 3000000) only [qh, zH, V5, Xh, Za, u5, V3, Zq, jy, bt, j2, kp, js, hli, hw, h2, za hok, c1, c2, qf, hok1, hok2, zb hok1, y6 hok1 hok2, j7, List.length_set, and_self, iE, iN, iB, iC, iL, iD, iA, iS, iM, qa, zZ, ↓qt, ↓reduceIte, reduceCtorEq, nA, nM, nS, nE, nL, nD]; try simp only [qa, zY]
    refine ⟨_, qx.qy [4, 3, 2, 0], ⟨i + 1, by omega, ?_⟩, ?_⟩
    · simp only [zL, ↓reduceIte, reduceCtorEq, nE, nA]; rw [hnext]
    · simp only [zL, ↓reduceIte, reduceCtorEq, nE, nA]; omega
  · have hli : ¬ ((i : Int) < (n : Int)) := by omega
    obtain rfl : i = n := by omega
    simp (maxSteps := 3000000) only [qh, zH, V5, G4, Xh, Za, u5, V3, Zq, jy, bt, j2, kp, js, hli, qf, hok1, zb hok1, y6 j5 hok1, j7, List.length_replicate, Int.lt_irrefl, iE, iN, iB, iC, iL, iD, iA, iS, iM, qa, zZ, ↓qt, ↓reduceIte, reduceCtorEq, nA, nM, nS, nE, nL, nD]; try simp only [qa, zY]
    exact ⟨qg _ _, rfl⟩
noncomputable def B93 : zk := (B92.put 83 (ql js))
theorem qpl : qu Try.prog B93 := (qpg.put (qi3 qph))
theorem Y6 : B93 103 = some (qhr j2) := rfl
theorem J9 : B93 97 = some (jy) := rfl
theorem Zd : B93 143 = some (bt) := rfl
theorem Gz : B93 88 = some (ql js) := rfl
theorem Wb : B93 139 = some (ql kp) := rfl
theorem Ub : B93 83 = some (ql js) := rfl
def Jn (n i : Nat) : List Nat := ((((xi n).set i (i + 1)).set (i + 1) i).set (n + i) (n + i + 1)).set (n + i + 1) (n + i)
theorem qvc {n : Nat} (h : 1 ≤ n ∧ n ≤ 8) : isS n (xi n) = true := by
  have h0 : ((List.range 9).all fun n => n == 0 || isS n (xi n)) = true := by decide
  have h1 := List.all_eq_true.1 h0 n (List.mem_range.2 (by omega))
  simpa [show n ≠ 0 by omega] using h1
theorem qq8 {n i : Nat} (h : n ≤ 8) (hi : i + 1 < n) : isS n (Jn n i) = true := by
  have h0 : ((List.range 9).all fun n => (List.range n).all fun i => i + 1 == n || isS n (Jn n i)) = true := by decide
  have h1 := List.all_eq_true.1 (List.all_eq_true.1 h0 n (List.mem_range.2 (by omega))) i (List.mem_range.2 (by omega))
  simpa [show i + 1 ≠ n by omega] using h1
theorem Qu {n : Nat} (hn : n ≤ 8) : okD (xi n) := qbg hn (Nat.le_refl n)
theorem Va {n i : Nat} (hn : n ≤ 8) (hi : i + 1 < n) : okD (Jn n i) := U6 (U6 (Qu hn) (by omega) (by omega)) (by omega) (by omega)
def qgj : AC := .seq (.region [oD 4]) (.seq (.region [oM 5 0,oC 6 83 [.t 5],oM 7 1,oM 8 1,oK 9 .add 8 1,oC 10 139 [.t 6,.t 7,.t 9],oM 11 0,oM 12 1,oP 13 .add 11 12,oM 14 0,oM 15 1,oP 16 .add 14 15,oK 17 .add 16 1,oC 18 139 [.t 10,.t 13,.t 17],oS 17 4 18]) .ret)
theorem qob : zl Try.prog 84 = some ⟨19, qgj, [.bg 4 17]⟩ := by kernel_rfl
theorem qp0 (n i : Nat) (hn : n ≤ 8) (hi : i + 1 < n) : Am.Fn Try.prog 84 [.int .i64 n, .int .i64 i] [] (fun v H' => v = .agg (dia n (Jn n i)) ∧ H' = []) := by
  refine Am.Fn.xu (R := fun v => v = _) qpl mixed qob (by simp) (by simp) ?_
  have w1 : qm .i64 ((i : Int) + 1) = ((i + 1 : Nat) : Int) := by rw [wrap64 (by omega) (by omega)]; rfl
  have w2 : qm .i64 ((n : Int) + i) = ((n + i : Nat) : Int) := by rw [wrap64 (by omega) (by omega)]; rfl
  have w3 : qm .i64 (((n + i : Nat) : Int) + 1) = ((n + i + 1 : Nat) : Int) := by rw [wrap64 (by omega) (by omega)]; rfl
  have c0 : (0 : Int) ≤ n ∧ (n : Int) ≤ 8 := by omega
  have c1 : (0 : Int) ≤ i ∧ (i : Int) < 16 := by omega
  have c2 : (0 : Int) ≤ (i + 1 : Nat) ∧ ((i + 1 : Nat) : Int) < 16 := by omega
  have c3 : (0 : Int) ≤ (n + i : Nat) ∧ ((n + i : Nat) : Int) < 16 := by omega
  have c4 : (0 : Int) ≤ (n + i + 1 : Nat) ∧ ((n + i + 1 : Nat) : Int) < 16 := by omega
  have o1 := Qu hn
  have o2 := U6 (i := i) (k := i + 1) o1 (by omega) (by omega)
  have o3 : ((((xi n).set i (i + 1)).set (i + 1) i).set (n + i) (n + i + 1)).set (n + i + 1) (n + i) = Jn n i := rfl
  have o4 := (Va hn hi).1
  simp (maxSteps := 3000000) only [qh, zH, qgj, Y6, J9, Zd, Gz, Wb, Ub, jy, bt, j2, kp, js, w1, w2, w3, c0, c1, c2, c3, c4, za o1, za o2, o3, wy, xl, qf, o4, zb o4, y6 j5 o4, j7, List.length_replicate, and_self, iE, iN, iB, iC, iL, iD, iA, iS, iM, qa, zZ, ↓qt, ↓reduceIte, reduceCtorEq, nA, nM, nS, nE, nL, nD]; try simp only [qa, zY]
  exact qg _ _
def Vp : List AV → Option AV
  | [.int .i64 n, .int .i64 i] => chk (n ≤ 8 ∧ 0 ≤ i ∧ i + 1 < n) (some (.agg (dia n (Jn n.toNat i.toNat))))
  | _ => none
theorem qk8 {f : FuncId} (h : ∀ n i : Nat, n ≤ 8 → i + 1 < n → Am.Fn Try.prog f [.int .i64 n, .int .i64 i] [] (fun v H' => v = .agg (dia n (Jn n i)) ∧ H' = [])) : Am.Callee Try.prog f (ql Vp) := Am.Callee.plain fun xs v he => by
  unfold Vp at he
  split at he
  · rename_i n i
    obtain ⟨h1, he⟩ := qk he
    cases he
    obtain ⟨n, rfl⟩ : ∃ j : Nat, n = j := ⟨n.toNat, by omega⟩
    obtain ⟨i, rfl⟩ : ∃ j : Nat, i = j := ⟨i.toNat, by omega⟩
    simp only [Int.toNat_natCast]
    exact ⟨rfl, by simp only [AV.zp, qg], h n i (by omega) (by omega)⟩
  · cases he
def Kf : AC := .seq (.region [oD 4]) (.seq (.region [oM 6 0,oC 7 88 [.t 6],oD 5,oS 17 5 7]) (.seq (.region [oM 8 1,oM 9 1,oK 10 .add 9 1,oC 11 143 [.t 5,.t 8,.t 10]]) (.seq (.region [oM 12 0,oM 13 1,oP 14 .add 12 13,oM 15 0,oM 16 1,oP 17 .add 15 16,oK 18 .add 17 1,oC 19 143 [.t 5,.t 14,.t 18]]) (.seq (.region [oN 20 17 5,oS 17 4 20]) .ret))))
theorem qhi : zl Try.prog 125 = some ⟨21, Kf, [.bg 4 17]⟩ := by kernel_rfl
theorem qhf (n i : Nat) (hn : n ≤ 8) (hi : i + 1 < n) : Am.Fn Try.prog 125 [.int .i64 n, .int .i64 i] [] (fun v H' => v = .agg (dia n (Jn n i)) ∧ H' = []) := by
  refine Am.Fn.xu (R := fun v => v = _) qpl mixed qhi (by simp) (by simp) ?_
  have w1 : qm .i64 ((i : Int) + 1) = ((i + 1 : Nat) : Int) := by rw [wrap64 (by omega) (by omega)]; rfl
  have w2 : qm .i64 ((n : Int) + i) = ((n + i : Nat) : Int) := by rw [wrap64 (by omega) (by omega)]; rfl
  have w3 : qm .i64 (((n + i : Nat) : Int) + 1) = ((n + i + 1 : Nat) : Int) := by rw [wrap64 (by omega) (by omega)]; rfl
  have c0 : (0 : Int) ≤ n ∧ (n : Int) ≤ 8 := by omega
  have c1 : (0 : Int) ≤ i ∧ (i : Int) < 16 := by omega
  have c2 : (0 : Int) ≤ (i + 1 : Nat) ∧ ((i + 1 : Nat) : Int) < 16 := by omega
  have c3 : (0 : Int) ≤ (n + i : Nat) ∧ ((n + i : Nat) : Int) < 16 := by omega
  have c4 : (0 : Int) ≤ (n + i + 1 : Nat) ∧ ((n + i + 1 : Nat) : Int) < 16 := by omega
  have o1 := Qu hn
  have o2 := U6 (i := i) (k := i + 1) o1 (by omega) (by omega)
  have o3 : ((((xi n).set i (i + 1)).set (i + 1) i).set (n + i) (n + i + 1)).set (n + i + 1) (n + i) = Jn n i := rfl
  have o4 := (Va hn hi).1
  have o5 := o1.1
  simp (maxSteps := 3000000) only [qh, zH, Kf, Y6, J9, Zd, Gz, Wb, Ub, jy, bt, j2, kp, js, w1, w2, w3, c0, c1, c2, c3, c4, za o1, za o2, o3, wy, xl, qf, o4, o5, zb o4, zb o5, y6 j5 o4, y6 j5 o5, j7, List.length_replicate, and_self, iE, iN, iB, iC, iL, iD, iA, iS, iM, qa, zZ, ↓qt, ↓reduceIte, reduceCtorEq, nA, nM, nS, nE, nL, nD]; try simp only [qa, zY]
  exact qg _ _
noncomputable def B94 : zk := ((B93.put 84 (ql Vp)).put 125 (ql Vp))
theorem quw : qu Try.prog B94 := ((qpl.put (qk8 qp0)).put (qk8 qhf))
theorem qdw : B94 103 = some (qhr j2) := rfl
theorem qa2 : B94 97 = some (jy) := rfl
theorem Ux : B94 143 = some (bt) := rfl
theorem qhm : B94 88 = some (ql js) := rfl
theorem qbt : B94 139 = some (ql kp) := rfl
theorem qdu : B94 83 = some (ql js) := rfl
theorem qki {l L : List AV} (hl : AV.zh l = true) (hL : AV.zh L = true) {env : Env} {hp : List AO} {s j b k : Nat} {p c n : Int} (h0 : hp[0]? = some (.ro l)) (hs : get env s = .ptr j 0)
    (hj : hp[j]? = some (.cells [.int .i64 p, .int .i64 c, .int .i64 n, .slc b 0 k false 0])) (hb : hp[b]? = some (.vec 18 L)) :
    Ret [.bg s 4] [.ro l] (fun v H' => v = elemV p c n 1 k ∧ H' = [.ro l, .vec 18 L]) ⟨env, hp⟩ := by
  have hb0 : 0 ≠ b := fun e => by subst e; rw [h0] at hb; cases hb
  refine Ret.xf [0, b] ⟨⟨by simp, rfl, by simp [hb0]⟩, ?_⟩ (rs := [.agg [.int .i64 p, .int .i64 c, .int .i64 n, .slc b 0 k false 0]]) ?_ (by simp [zt, AV.within, AV.zy]) (by simp [zt]) ?_ ⟨?_, ?_⟩
  · intro i hi
    simp only [List.mem_cons, List.not_mem_nil, or_false] at hi
    rcases hi with rfl | rfl
    · rw [h0]; exact qd _ _ hl
    · rw [hb]; exact qd _ _ hL
  · simp [J7, hs, qe, ev, rd, hj, chk]
  · intro i m; match i with
    | 0 => exact fun _ => ⟨_, rfl⟩
    | 1 => simp [q7, hb, AO.ren]
    | i + 2 => simp [q7]
  · simp only [zt, AV.ren, AV.zg, qa8, pos, if_neg hb0, if_true]
    rfl
  · simp [q7, h0, hb, AO.ren, qc _ _ hl, qc _ _ hL]
def Kz : AC := .seq (.region [o0 1 (.box (.t 0)),oZ 2]) (.seq (.region [oN 4 4 1,oC 5 97 [.t 4],oZ 3,oS 4 3 5]) (.seq (.draw true [oF 6 3 3,oL 7 6,oF 8 2 1,oL 9 8,oC 10 83 [.t 9],o0 11 (.build [.int .i64 0,.int .u8 0,.int .u8 0,.int .u8 0,.int .u8 0,.int .u8 0,.int .u8 0,.int .u8 0,.int .u8 0,.int .u8 0,.int .u8 0,.int .u8 0,.int .u8 0,.int .u8 0,.int .u8 0,.int .u8 0,.int .u8 0,.int .i64 0] [(0,17,.t 10),(17,1,(.c (.int .i64 1)))]),o0 12 (.Qh 1 [.int .i64 0,.int .u8 0,.int .u8 0,.int .u8 0,.int .u8 0,.int .u8 0,.int .u8 0,.int .u8 0,.int .u8 0,.int .u8 0,.int .u8 0,.int .u8 0,.int .u8 0,.int .u8 0,.int .u8 0,.int .u8 0,.int .u8 0,.int .i64 0] [(0,18,.t 11)]),o0 13 (.append 18 32 (.t 7) (.t 12)),oF 14 3 3,oT 14 13]) (.seq (.region [oN 15 4 3,oS 4 2 15]) .ret)))
theorem qem : zl Try.prog 119 = some ⟨16, Kz, [.bg 2 4]⟩ := by kernel_rfl
theorem qo6 (p c n : Int) (k : Nat) (hn : 1 ≤ n ∧ n ≤ 8) :
    Am.Fn Try.prog 119 [elemV p c n 0 k] [.ro []] (fun v H' => v = elemV p c n 1 1 ∧ H' = [.ro [], .vec 18 (qq [(n, xi n.toNat, 1)])]) := by
  refine Am.Fn.ofW quw mixed qem (by simp [elemV, AV.qp, AV.under]) (vh rfl) ?_
  have o1 := Qu (n := n.toNat) (by omega)
  have o2 := o1.1
  have c0 : 0 ≤ n ∧ n ≤ 8 := by omega
  have e0 : (trm (0, List.replicate 16 0, 0)).length = 18 := rfl
  have e1 : over (trm (0, List.replicate 16 0, 0)) 0 (dia n (xi n.toNat)) = trm (n, xi n.toNat, 0) := Q8 (by simp) o2
  have e2 : over (trm (n, xi n.toNat, 0)) 17 [.int .i64 1] = trm (n, xi n.toNat, 1) := Zr o2
  have e3 : over (trm (0, List.replicate 16 0, 0)) 0 (trm (n, xi n.toNat, 1)) = trm (n, xi n.toNat, 1) := kd (by simp) o2
  have e4 : (trm (n, xi n.toNat, 1)).length = 18 := by rw [wh, o2]
  have e5 : (trm (n, xi n.toNat, 0)).length = 18 := by rw [wh, o2]
  simp (maxSteps := 3000000) only [qh, zH, Kz, qdw, qa2, Ux, qhm, qbt, qdu, jy, bt, j2, kp, js, elemV, c0, qf, o2, wc, e0, e1, e2, e3, e4, e5, jo, src, lim, bn, Option.map_some, Option.map_none, List.all_nil, Nat.zero_mul, Int.toNat_zero, List.take_zero, Nat.le_refl, and_self, iE, iN, iB, iC, iL, iD, iA, iS, iM, qa, zZ, ↓qt, ↓reduceIte, reduceCtorEq, nA, nM, nS, nE, nL, nD]; try simp only [qa, zY]
  exact ⟨rfl, ⟨_, rfl⟩, by rw [bx o2, jo], rfl, rfl, _, qx.refl _, qki rfl (qb _) rfl rfl rfl (by rw [bx o2]; simp [qq])⟩
def qpw : BE := fun hp xs => match xs with
  | [.agg [.int .i64 p, .int .i64 c, .int .i64 n, .slc b 0 k false 0]] => match rd hp b with
    | some _ => chk (1 ≤ n ∧ n ≤ 8) (some (elemV p c n hp.length 1, hp ++ [.vec 18 (qq [(n, xi n.toNat, 1)])]))
    | none => none
  | _ => none
theorem qzo : Am.Callee Try.prog 119 qpw := Callee.fp fun hp xs v hp' he => by
  unfold qpw at he
  split at he
  · rename_i p c n b k
    split at he
    · rename_i L hL
      obtain ⟨h1, he⟩ := qk he
      simp only [Option.some.injEq, Prod.mk.injEq] at he
      obtain ⟨rfl, rfl⟩ := he
      refine ⟨[(b, 0)], [elemV p c n 0 k], _, _, _, qo6 p c n k h1, by simp [elemV, AV.ren, AV.zg, ofL], rfl, ⟨⟨L, hL, by simp, by simp [AV.zg]⟩, trivial⟩, rfl, ⟨trivial, trivial⟩, ⟨⟨trivial, trivial, trivial, by simp [AV.under], trivial⟩, trivial⟩, by simp [elemV, AV.ren, AV.zg, Ren.ext], ?_⟩
      simp [after, upd, AO.wr, AO.ren, AV.zg, qc _ _ (qb _)]
    · cases he
  · cases he
noncomputable def B95 : zk := (B94.put 119 (qpw))
theorem qkm : qu Try.prog B95 := (quw.put (qzo))
def qke (p x : Nat) : Nat → Nat
  | 0 => 1
  | k + 1 => qke p x k * x % p
def q0x (a b : Bool) : Bool := cond a b (!b)
def q0u : Bool := (List.range 98).all fun p => !yg p || (List.range p).all fun x => Nat.beq x 0 || (List.range p).all fun k => q0x (Nat.beq (k * x % p) 1) (Nat.beq k (qke p x (p - 2)))
theorem qsh : q0u = true := by kernel_rfl
theorem qh8 (p x : Nat) : ∀ k, yj p x k = (qke p x k : Nat)
  | 0 => rfl
  | k + 1 => by
    show (yj p x k * x).emod p = ((qke p x k * x % p : Nat) : Int)
    rw [qh8 p x k, Int.natCast_emod, Int.natCast_mul]; rfl
theorem qwc {a b : Bool} (h : q0x a b = true) : a = b := by cases a <;> cases b <;> simp_all [q0x]
noncomputable def jz (p x : Int) : Int := yj p x (p - 2).toNat
theorem Wd {p x : Int} (hp : yg p = true) (hx : 1 ≤ x ∧ x ≤ p - 1) : (1 ≤ jz p x ∧ jz p x ≤ p - 1) ∧ ∀ k : Int, 0 ≤ k → k < p → ((k * x).emod p = 1 ↔ k = jz p x) := by
  have hb := y0 hp
  obtain ⟨P, rfl⟩ : ∃ P : Nat, p = P := ⟨p.toNat, by omega⟩
  obtain ⟨X, rfl⟩ : ∃ X : Nat, x = X := ⟨x.toNat, by omega⟩
  have h1 := List.all_eq_true.1 qsh P (List.mem_range.2 (by omega))
  rw [hp, Bool.not_true, Bool.false_or] at h1
  have h2 := List.all_eq_true.1 h1 X (List.mem_range.2 (by omega))
  have hX0 : Nat.beq X 0 = false := by
    cases h : Nat.beq X 0 with
    | false => rfl
    | true => have := Nat.eq_of_beq_eq_true h; omega
  rw [hX0, Bool.false_or] at h2
  have h3 : ∀ k : Nat, k < P → (k * X % P = 1 ↔ k = qke P X (P - 2)) := fun k hk => by
    have h4 := qwc (List.all_eq_true.1 h2 k (List.mem_range.2 hk))
    constructor
    · intro h
      rw [h] at h4
      exact Nat.eq_of_beq_eq_true (h4.symm.trans rfl)
    · intro h
      rw [h, Nat.beq_refl] at h4
      rw [h]
      exact Nat.eq_of_beq_eq_true h4
  have e1 : jz P X = (qke P X (P - 2) : Nat) := by
    unfold jz
    rw [qh8]
    congr 2
    omega
  have hv : qke P X (P - 2) < P := by
    rcases Nat.eq_zero_or_pos (P - 2) with h | h
    · rw [h]; show 1 < P; omega
    · obtain ⟨j, hj⟩ : ∃ j, P - 2 = j + 1 := ⟨P - 3, by omega⟩
      rw [hj]
      exact Nat.mod_lt _ (by omega)
  have hv1 : 1 ≤ qke P X (P - 2) := by
    have := (h3 _ hv).2 rfl
    rcases Nat.eq_zero_or_pos (qke P X (P - 2)) with h | h
    · rw [h, Nat.zero_mul, Nat.zero_mod] at this; omega
    · exact h
  rw [e1]
  refine ⟨by omega, fun k hk hkp => ?_⟩
  obtain ⟨K, rfl⟩ : ∃ K : Nat, k = K := ⟨k.toNat, by omega⟩
  have h5 := h3 K (by omega)
  have h6 : ((K : Int) * X).emod P = ((K * X % P : Nat) : Int) := by rw [Int.natCast_emod, Int.natCast_mul]; rfl
  rw [h6]
  omega
theorem Jc : B95 75 = some (ql Qy) := rfl
theorem Xk : B95 70 = some (ql j3) := rfl
def qc5 : AC := .seq (.region [oI 4 0]) (.seq (.region [oM 5 0,oM 6 1,oK 7 .sub 6 2,oM 8 1,oC 9 75 [.t 5,.t 7,.t 8],oM 4 9]) .ret)
theorem qmb : zl Try.prog 72 = some ⟨10, qc5, [.slot 4]⟩ := by kernel_rfl
theorem qmj (p x : Int) (hp : yg p = true) (hx : 1 ≤ x ∧ x ≤ p - 1) : Am.Fn Try.prog 72 [.int .i64 x, .int .i64 p] [] (fun v H' => v = .int .i64 (jz p x) ∧ H' = []) := by
  refine Am.Fn.xu (R := fun v => v = _) qkm mixed qmb (by simp) (by simp) ?_
  have hb := y0 hp
  have hw : qm .i64 (p - 2) = p - 2 := wrap64 (by omega) (by omega)
  have c1 : 0 ≤ x ∧ x ≤ p - 1 := by omega
  have c2 : 0 ≤ p - 2 ∧ p - 2 ≤ 1000000 := by omega
  have e : yj p x (p - 2).toNat = jz p x := rfl
  simp (maxSteps := 3000000) only [qh, zH, qc5, Jc, Xk, Qy, j3, hb, hw, c1, c2, e, and_self, iE, iN, iB, iC, iL, iD, iA, iS, iM, qa, zZ, ↓qt, ↓reduceIte, reduceCtorEq, nA, nM, nS, nE, nL, nD]; try simp only [qa, zY]
def Q0 : AC := .seq (.seq (.region [oM 6 5,oM 7 0,oP 8 .lss 6 7]) (.cond 8 .skip (.exit 0))) (.seq (.block 1 (.seq (.region [oM 11 5,oM 12 0,oM 13 1,oC 14 70 [.t 12,.t 13],oP 15 .mul 11 14,oM 16 0,oP 17 .rem 15 16,oK 18 .eql 17 1]) (.cond 18 (.seq (.region [oM 19 5,oM 4 19]) .ret) .skip))) (.region [oM 9 5,oK 10 .add 9 1,oM 5 10]))
def qat : AC := .seq (.region [oI 4 0]) .ret
def U3 : AC := .seq (.region [oI 4 0]) (.seq (.seq (.region [oI 5 1]) (.block 0 (.loop Q0))) qat)
theorem qen : zl Try.prog 67 = some ⟨20, U3, [.slot 4]⟩ := by kernel_rfl
theorem qf4 (p x : Int) (hp : yg p = true) (hx : 1 ≤ x ∧ x ≤ p - 1) : Am.Fn Try.prog 67 [.int .i64 p, .int .i64 x] [] (fun v H' => v = .int .i64 (jz p x) ∧ H' = []) := by
  refine Am.Fn.xu (R := fun v => v = _) qkm mixed qen (by simp) (by simp) ?_
  have hb := y0 hp
  obtain ⟨⟨hv1, hv2⟩, hch⟩ := Wd hp hx
  have hm : x.emod p = x := Int.emod_eq_of_lt (by omega) (by omega)
  have hp0 : 0 < p ∧ p ≤ 1000000 := by omega
  have hpne : p ≠ 0 := by omega
  simp (maxSteps := 3000000) only [qh, zH, U3, iE, iN, iB, iC, iL, iD, iA, iS, iM, qa, zZ, ↓qt, ↓reduceIte, reduceCtorEq, nA, nM, nS, nE, nL, nD]; try simp only [qa, zY]
  refine WA.jh qkm (fun s => ∃ k : Nat, 1 ≤ k ∧ (k : Int) ≤ jz p x ∧ s = ⟨[(0, .int .i64 p), (1, .int .i64 x), (5, .int .i64 k)], []⟩)
    (fun s => match get s.env 5 with | .int _ k => 100 - k.toNat | _ => 0) ⟨_, qx.qy [0, 1, 5], 1, by omega, hv1, rfl⟩ ?_
  rintro s ⟨k, hk1, hk2, rfl⟩
  have hli : (k : Int) < p := by omega
  have h0 : 0 ≤ (k : Int) * x := Int.mul_nonneg (by omega) (by omega)
  have h1 : (k : Int) * x ≤ 96 * 96 := Int.mul_le_mul (by omega) (by omega) (by omega) (by omega)
  have hw1 : qm .i64 ((k : Int) * x) = (k : Int) * x := wrap64 (by omega) (by omega)
  have ht : Int.tmod ((k : Int) * x) p = ((k : Int) * x).emod p := Int.tmod_eq_emod_of_nonneg h0
  have hw : qm .i64 ((k : Int) + 1) = ((k + 1 : Nat) : Int) := by rw [wrap64 (by omega) (by omega)]; rfl
  have hc := hch k (by omega) hli
  by_cases he : (k : Int) = jz p x
  · have h2 := hc.2 he
    simp (maxSteps := 3000000) only [qh, zH, Q0, Jc, Xk, Qy, j3, hli, hp0, hm, hw1, ht, hpne, h2, iE, iN, iB, iC, iL, iD, iA, iS, iM, qa, zZ, ↓qt, ↓reduceIte, reduceCtorEq, nA, nM, nS, nE, nL, nD]; try simp only [qa, zY]
    rw [he]
  · have h2 : ¬ ((k : Int) * x).emod p = 1 := fun h => he (hc.1 h)
    simp (maxSteps := 3000000) only [qh, zH, Q0, Jc, Xk, Qy, j3, hli, hp0, hm, hw1, ht, hpne, h2, hw, iE, iN, iB, iC, iL, iD, iA, iS, iM, qa, zZ, ↓qt, ↓reduceIte, reduceCtorEq, nA, nM, nS, nE, nL, nD]; try simp only [qa, zY]
    refine ⟨_, qx.qy [0, 1, 5], ⟨k + 1, by omega, by omega, rfl⟩, ?_⟩
    simp only [zL, ↓reduceIte, reduceCtorEq, nE, nA]; omega
def okI (p x : Int) : Prop := yg p = true ∧ 1 ≤ x ∧ x ≤ p - 1
instance (p x : Int) : Decidable (okI p x) := by unfold okI; infer_instance
noncomputable def vl : List AV → Option AV
  | [.int .i64 p, .int .i64 x] => chk (okI p x) (some (.int .i64 (jz p x)))
  | _ => none
noncomputable def vm : List AV → Option AV
  | [.int .i64 x, .int .i64 p] => chk (okI p x) (some (.int .i64 (jz p x)))
  | _ => none
theorem q0k : Am.Callee Try.prog 67 (ql vl) := Am.Callee.plain fun xs v he => by
  unfold vl at he
  split at he
  · rename_i p x
    obtain ⟨⟨h1, h2⟩, he⟩ := qk he
    cases he
    exact ⟨rfl, rfl, qf4 p x h1 h2⟩
  · cases he
theorem q0f : Am.Callee Try.prog 72 (ql vm) := Am.Callee.plain fun xs v he => by
  unfold vm at he
  split at he
  · rename_i x p
    obtain ⟨⟨h1, h2⟩, he⟩ := qk he
    cases he
    exact ⟨rfl, rfl, qmj p x h1 h2⟩
  · cases he
noncomputable def qgz : zk := ((B95.put 67 (ql vl)).put 72 (ql vm))
theorem qbh : qu Try.prog qgz := ((qkm.put (q0k)).put (q0f))
def brs : Nat → Nat → List (List UInt8)
  | 0, o => if o = 0 then [[]] else []
  | r + 1, o => (brs r (o + 1)).map (40 :: ·) ++ (if 0 < o then (brs r (o - 1)).map (41 :: ·) else [])
theorem qnq {s : List UInt8} {k : Nat} (h : parts s k = none) : ∀ j, parts s (k + j) = none
  | 0 => h
  | j + 1 => by
    show parts s ((k + j) + 1) = none
    simp only [parts, qnq h j]
theorem qhz {s : List UInt8} {o0 : List Nat} (hL : parts s s.length = some (o0, [])) : ∀ (r k : Nat) (out st : List Nat), k + r = s.length → parts s k = some (out, st) → s.drop k ∈ brs r st.length
  | 0, k, out, st, hk, h => by
    obtain rfl : k = s.length := by omega
    rw [hL] at h
    cases h
    rw [List.drop_length]
    simp [brs]
  | r + 1, k, out, st, hk, h => by
    have hlt : k < s.length := by omega
    have hd : s.drop k = s.getD k 0 :: s.drop (k + 1) := by
      rw [List.drop_eq_getElem_cons hlt, List.getD_eq_getElem?_getD, List.getElem?_eq_getElem hlt]; rfl
    cases h1 : parts s (k + 1) with
    | none =>
      have := qnq h1 (s.length - (k + 1))
      rw [show k + 1 + (s.length - (k + 1)) = s.length by omega, hL] at this
      cases this
    | some q =>
      obtain ⟨out', st'⟩ := q
      have ih := qhz hL r (k + 1) out' st' (by omega) h1
      rw [hd]
      simp only [parts, h] at h1
      simp only [brs, List.mem_append]
      split at h1
      · rename_i h40
        cases h1
        rw [h40]
        exact .inl (List.mem_map.2 ⟨_, ih, rfl⟩)
      · split at h1
        · rename_i h41
          rw [h41]
          split at h1
          · cases h1
          · cases h1
            rename_i i st'
            right
            rw [if_pos (by simp)]
            exact List.mem_map.2 ⟨_, by simpa using ih, rfl⟩
        · cases h1
theorem qvw {n : Nat} {m : List Nat} (h : isS n m = true) (hm : m.length = 16) : wk n m ∈ brs (2 * n) 0 := by
  rw [Ks n m hm] at h
  simp only [isI, Bool.and_eq_true, beq_iff_eq] at h
  have h1 := h.2.2
  unfold qbb at h1
  split at h1
  · split at h1
    · rename_i out ho
      have := qhz ho (2 * n) 0 _ _ (by rw [kl]; omega) rfl
      simpa using this
    · cases h1
  · cases h1
theorem qii {α : Type} [DecidableEq α] : ∀ {l m : List α}, l.Nodup → (∀ x ∈ l, x ∈ m) → l.length ≤ m.length
  | [], m, _, _ => by simp
  | x :: l, m, h, hs => by
    have h1 := List.nodup_cons.1 h
    have hx := hs x (by simp)
    have ih := qii (m := m.erase x) h1.2 fun y hy => by
      have : y ≠ x := fun e => h1.1 (e ▸ hy)
      exact (List.mem_erase_of_ne this).2 (hs y (by simp [hy]))
    rw [List.length_erase_of_mem hx] at ih
    have := List.length_pos_of_mem hx
    simp only [List.length_cons]; omega
def qz3 : Bool := (List.range 7).all fun n => Nat.ble (brs (2 * n) 0).length 132
theorem qtg : qz3 = true := by kernel_rfl
theorem qww {p n : Int} {L : List (Int × List Nat × Int)} (h : xh p n L) (hn : 0 ≤ n ∧ n ≤ 6) : L.length ≤ 132 := by
  have h1 : (L.map txt).Nodup := List.pairwise_map.2 (h.up.imp fun {a b} hlt e => by
    unfold ltT at hlt
    rw [e] at hlt
    have : Op.bytesLess (txt b) (txt b) = false := by
      generalize txt b = s
      induction s with
      | nil => rfl
      | cons x s ih => simp [Op.bytesLess, ih]
    rw [this] at hlt; cases hlt)
  have h2 := qii h1 (m := brs (2 * n.toNat) 0) fun x hx => by
    obtain ⟨t, ht, rfl⟩ := List.mem_map.1 hx
    have h3 := h.dia t ht
    have h4 := qvw h3.2 (h.ok t ht).1
    unfold txt
    rwa [h3.1]
  rw [List.length_map] at h2
  have h3 := List.all_eq_true.1 qtg n.toNat (List.mem_range.2 (by omega))
  have h4 := Nat.le_of_ble_eq_true h3
  omega
def qm9 (H : List AO) (X : AV) (w : List Int) : Prop :=
  (X = .v (.slice none 0 0) ∧ H = [] ∧ w = []) ∨ (X = .slc 0 0 0 true 0 ∧ H = [.dead] ∧ w = []) ∨ ∃ cap, X = .slc 0 0 w.length true cap ∧ w.length ≤ cap ∧ H = [.ro (xj w)]
def Gv : List AV → Option (List Int)
  | [] => some []
  | .int .i64 x :: l => match Gv l with
    | some w => some (x :: w)
    | none => none
  | _ => none
theorem gw : ∀ w, Gv (xj w) = some w
  | [] => rfl
  | x :: w => by
    have := gw w
    simp only [xj, List.map_cons] at this ⊢
    simp only [Gv, this]
theorem yq : ∀ {l : List AV} {w : List Int}, Gv l = some w → l = xj w
  | [], w, h => by cases h; rfl
  | x :: l, w, h => by
    unfold Gv at h
    split at h
    · rename_i e; cases e
    · rename_i y l' e
      cases e
      split at h
      · rename_i w' hw
        cases h
        rw [yq hw]; rfl
      · cases h
    · cases h
def qnb (hp : List AO) (X : AV) : Option (List Int) := match X with
  | .v (.slice none 0 0) => some []
  | .slc b 0 n true cap => match hp[b]? with
    | some .dead => if n = 0 ∧ cap = 0 then some [] else none
    | some (.ro l) => match Gv l with
      | some w => if n = w.length ∧ n ≤ cap then some w else none
      | none => none
    | _ => none
  | _ => none
theorem qoj {hp : List AO} {X : AV} {w : List Int} (h : qnb hp X = some w) : ∃ (bs : List (Nat × Nat)) (H : List AO) (X' : AV), qm9 H X' w ∧ X'.ren (ofL bs) = X ∧ jg X = true ∧ Gb hp (ofL bs) bs H ∧
    Jp bs H = true ∧ AO.qad H.length H ∧ X'.under H.length ∧ (∀ o ∈ H, o.wr = false) ∧ (∀ bs', after ⟨[], hp⟩ (ofL bs) bs H (H ++ bs') = hp ++ bs'.map (AO.ren ((ofL bs).ext H.length hp.length))) := by
  unfold qnb at h
  split at h
  · cases h
    exact ⟨[], [], .v (.slice none 0 0), .inl ⟨rfl, rfl, rfl⟩, rfl, rfl, trivial, rfl, trivial, trivial, by simp, fun bs' => by simp [after, upd]⟩
  · rename_i b n cap
    split at h
    · rename_i hb
      split at h
      · rename_i h0
        cases h
        obtain ⟨rfl, rfl⟩ := h0
        refine ⟨[(b, 0)], [.dead], .slc 0 0 0 true 0, .inr (.inl ⟨rfl, rfl, rfl⟩), by simp [AV.ren, ofL], rfl, ⟨(List.getElem?_eq_some_iff.1 hb).1, trivial⟩, rfl, ⟨trivial, trivial⟩, by simp [AV.under], by simp [AO.wr], fun bs' => ?_⟩
        simp [after, upd, AO.wr]
      · cases h
    · rename_i l hb
      split at h
      · rename_i w' hw
        split at h
        · rename_i h0
          cases h
          have hl := yq hw
          subst hl
          obtain ⟨rfl, h0⟩ := h0
          refine ⟨[(b, 0)], [.ro (xj w)], .slc 0 0 w.length true cap, .inr (.inr ⟨cap, rfl, h0, rfl⟩), by simp [AV.ren, ofL], rfl, ⟨⟨xj w, by simp [rd, hb], by simp, by simp [qc _ _ (qn _)]⟩, trivial⟩, rfl, ⟨qi _ _ (qn _), trivial⟩, by simp [AV.under], by simp [AO.wr], fun bs' => ?_⟩
          simp [after, upd, AO.wr]
        · cases h
      · cases h
    · cases h
  · cases h
theorem K8 {H : List AO} {X : AV} {w : List Int} (h : qm9 H X w) : ∀ (j : Nat) (o' : AO), H[j]? = some o' → o'.under H.length := by
  intro j o' hj
  rcases h with ⟨_, rfl, _⟩ | ⟨_, rfl, _⟩ | ⟨cap, _, _, rfl⟩
  · simp at hj
  · cases j with
    | succ j => simp at hj
    | zero => cases hj; trivial
  · cases j with
    | succ j => simp at hj
    | zero => cases hj; exact qi _ _ (qn _)
theorem qvh {H : List AO} {X : AV} {w : List Int} (h : qm9 H X w) (rest : List AO) : qnb (H ++ rest) X = some w := by
  rcases h with ⟨rfl, rfl, rfl⟩ | ⟨rfl, rfl, rfl⟩ | ⟨cap, rfl, hc, rfl⟩
  · rfl
  · rfl
  · simp only [qnb, List.cons_append, List.nil_append, List.getElem?_cons_zero, gw, hc, and_self, if_true]
theorem qh0 : ∀ n, rep n [AV.int .i64 0] = xj (List.replicate n 0)
  | 0 => rfl
  | n + 1 => by rw [rep, qh0 n, List.replicate_succ]; rfl
def uw : AC := .seq (.seq (.region [oM 8 4,oM 9 0,o0 10 (.len .slc (.t 9)),oP 11 .lss 8 10]) (.cond 11 .skip (.exit 0))) (.seq (.block 1 (.region [oM 14 3,oM 15 4,oM 16 0,oM 17 4,oX 18 1 16 17,oL 19 18,oX 20 1 14 15,oT 20 19])) (.region [oM 12 4,oK 13 .add 12 1,oM 4 13]))
def kn : AC := .seq (.region [oM 21 3,oM 2 21]) .ret
def X2 : AC := .seq (.region [o0 2 (.mov (.c (.v (.slice none 0 0))))]) (.seq (.region [oM 5 0,o0 6 (.len .slc (.t 5)),o0 7 (.Vw 1 8 [.int .i64 0] (.t 6) (.t 6)),oM 3 7]) (.seq (.seq (.region [oI 4 0]) (.block 0 (.loop uw))) kn))
theorem qjb : zl Try.prog 20 = some ⟨22, X2, [.slot 2]⟩ := by kernel_rfl
theorem qp1 (H : List AO) (X : AV) (w : List Int) (h : qm9 H X w) (hl : w.length ≤ 2000000) :
    Am.Fn Try.prog 20 [X] H (fun v H' => v = .slc H.length 0 w.length false 0 ∧ H' = H ++ [.vec 1 (xj w)]) := by
  refine Am.Fn.ofW Yo mixed qjb (by simp) (K8 h) ?_
  rcases h with ⟨rfl, rfl, rfl⟩ | ⟨rfl, rfl, rfl⟩ | ⟨cap, rfl, hc, rfl⟩
  · simp (maxSteps := 3000000) only [qh, zH, X2, iE, iN, iB, iC, iL, iD, iA, iS, iM, bn, qdn, List.length_nil, Int.toNat_zero, rep, qa, zZ, ↓qt, ↓reduceIte, reduceCtorEq, nA, nM, nS, nE, nL, nD]; try simp only [qa, zY]
    refine ⟨by decide, WA.jh Yo (fun s => s = ⟨[(4, .int .i64 0), (3, .slc 0 0 0 true 0), (0, .v (.slice none 0 0))], [.cells []]⟩) (fun _ => 0) ⟨_, qx.qy [4, 3, 0], rfl⟩ ?_⟩
    rintro s rfl
    simp (maxSteps := 3000000) only [qh, zH, uw, kn, iE, iN, iB, iC, iL, iD, iA, iS, iM, bn, qdn, List.length_nil, qa, zZ, ↓qt, ↓reduceIte, reduceCtorEq, nA, nM, nS, nE, nL, nD]; try simp only [qa, zY]
    refine ⟨_, qx.trans (qx.qy [2]) (qx.vec 0 0 1 (by decide) rfl rfl rfl rfl), ?_⟩
    refine Ret.xf [0] ⟨⟨by simp, rfl, by decide⟩, ?_⟩ (rs := [.slc 0 0 0 false 0]) rfl rfl (by simp [zt]) ?_ ⟨?_, ?_⟩
    · simp only [qy, zn, zV, ↓reduceIte, nE, reduceCtorEq, nB]
      simp only [zK, ↓reduceIte, reduceCtorEq, nE, nB, nA]
    · intro j l; match j with
      | 0 => simp [q7, W2, AO.zw, AO.ren]
      | j + 1 => simp [q7]
    · simp only [zt]
      simp only [zL, ↓reduceIte, reduceCtorEq, nE, nA]
    · rfl
  · simp (maxSteps := 3000000) only [qh, zH, X2, iE, iN, iB, iC, iL, iD, iA, iS, iM, bn, qdn, List.length_nil, Int.toNat_zero, rep, qa, zZ, ↓qt, ↓reduceIte, reduceCtorEq, nA, nM, nS, nE, nL, nD]; try simp only [qa, zY]
    refine ⟨by decide, WA.jh Yo (fun s => s = ⟨[(4, .int .i64 0), (3, .slc 1 0 0 true 0), (0, .slc 0 0 0 true 0)], [.dead, .cells []]⟩) (fun _ => 0) ⟨_, qx.qy [4, 3, 0], rfl⟩ ?_⟩
    rintro s rfl
    simp (maxSteps := 3000000) only [qh, zH, uw, kn, iE, iN, iB, iC, iL, iD, iA, iS, iM, bn, qdn, List.length_nil, qa, zZ, ↓qt, ↓reduceIte, reduceCtorEq, nA, nM, nS, nE, nL, nD]; try simp only [qa, zY]
    refine ⟨_, qx.trans (qx.qy [2]) (qx.vec 1 0 1 (by decide) rfl rfl rfl rfl), ?_⟩
    refine Ret.xf [0, 1] ⟨⟨by simp, rfl, by decide⟩, ?_⟩ (rs := [.slc 1 0 0 false 0]) rfl rfl (by simp [zt]) ?_ ⟨?_, ?_⟩
    · simp only [qy, zn, zV, ↓reduceIte, nE, reduceCtorEq, nB]
      simp only [zK, ↓reduceIte, reduceCtorEq, nE, nB, nA]
    · intro j l; match j with
      | 0 => simp [q7, W2, AO.zw, AO.ren]
      | 1 => simp [q7, W2, AO.zw, AO.ren]
      | j + 2 => simp [q7]
    · simp only [zt]
      simp only [zL, ↓reduceIte, reduceCtorEq, nE, nA]
    · rfl
  · simp (maxSteps := 3000000) only [qh, zH, X2, iE, iN, iB, iC, iL, iD, iA, iS, iM, bn, hc, List.length_nil, qh0, qa, zZ, ↓qt, ↓reduceIte, reduceCtorEq, nA, nM, nS, nE, nL, nD]; try simp only [qa, zY]
    refine ⟨⟨by omega, by omega, by omega⟩, WA.jh Yo (fun s => ∃ (i : Nat) (us : List Int), i ≤ w.length ∧ us = w.take i ++ List.replicate (w.length - i) 0 ∧ s = ⟨[(4, .int .i64 i), (3, .slc 1 0 w.length true w.length), (0, .slc 0 0 w.length true cap)], [.ro (xj w), .cells (xj us)]⟩)
      (fun s => match get s.env 4 with | .int _ x => w.length - x.toNat | _ => 0) ⟨_, qx.qy [4, 3, 0], 0, _, by omega, by simp, rfl⟩ ?_⟩
    rintro s ⟨i, us, hi, hus, rfl⟩
    have hul : us.length = w.length := by rw [hus]; simp; omega
    have hal := xr w
    have hbl := xr us
    have hw : qm .i64 ((i : Int) + 1) = ((i + 1 : Nat) : Int) := by rw [wrap64 (by omega) (by omega)]; rfl
    by_cases hlt : i < w.length
    · have hget : w.getD i 0 = w[i] := by simp [hlt]
      have hset : us.set i w[i] = w.take (i + 1) ++ List.replicate (w.length - (i + 1)) 0 := by
        rw [hus, List.set_append_right _ _ (by rw [List.length_take]; omega), List.length_take, Nat.min_eq_left hi, Nat.sub_self, show w.length - i = (w.length - (i + 1)) + 1 by omega, List.replicate_succ, List.set_cons_zero, List.take_succ_eq_append_getElem hlt, List.append_assoc]
        rfl
      have hst : (xj us).set i (.int .i64 w[i]) = xj (us.set i w[i]) := qmn
      have hli : ((i : Int) < (w.length : Int)) := by omega
      have hli' : (0 : Int) ≤ i := by omega
      simp (maxSteps := 3000000) only [qh, zH, uw, iE, iN, iB, iC, iL, iD, iA, iS, iM, bn, hc, hw, hal, hbl, hul, hget, hst, hlt, hli, hli', AV.one, and_self, qa, zZ, ↓qt, ↓reduceIte, reduceCtorEq, nA, nM, nS, nE, nL, nD]; try simp only [qa, zY]
      refine ⟨_, qx.qy [4, 3, 0], ⟨i + 1, us.set i w[i], by omega, hset, ?_⟩, ?_⟩
      · simp only [zL, ↓reduceIte, reduceCtorEq, nE, nA]
      · simp only [zL, ↓reduceIte, reduceCtorEq, nE, nA]; omega
    · have hi' : i = w.length := by omega
      subst hi'
      have hu : us = w := by rw [hus]; simp
      subst hu
      simp (maxSteps := 3000000) only [qh, zH, uw, kn, iE, iN, iB, iC, iL, iD, iA, iS, iM, bn, hc, Int.lt_irrefl, qa, zZ, ↓qt, ↓reduceIte, reduceCtorEq, nA, nM, nS, nE, nL, nD]; try simp only [qa, zY]
      refine ⟨_, qx.trans (qx.qy [2]) (qx.vec 1 us.length 1 (by decide) rfl (by rw [hal]; omega) rfl ?_), ?_⟩
      · simp only [zV, ↓reduceIte, nE, reduceCtorEq, nB]
      refine Ret.xf [0, 1] ⟨⟨by simp, rfl, by decide⟩, ?_⟩ (rs := [.slc 1 0 us.length false 0]) ?_ rfl (by simp [zt]) ?_ ⟨?_, ?_⟩
      · simp only [qy, zn, zV, ↓reduceIte, nE, reduceCtorEq, nB]
        simp only [zK, ↓reduceIte, reduceCtorEq, nE, nB, nA]
      · simp only [qy, zn, zV, ↓reduceIte, nE, reduceCtorEq, nB]
        rfl
      · intro j l; match j with
        | 0 => exact fun _ => ⟨_, rfl⟩
        | 1 => simp [q7, W2, AO.zw, AO.ren]
        | j + 2 => simp [q7]
      · simp only [zt]
        simp only [zL, ↓reduceIte, reduceCtorEq, nE, nA]
      · simp only [zV, ↓reduceIte, nE, reduceCtorEq, nB]
        simp only [zL, ↓reduceIte, reduceCtorEq, nE, nA]
def qdc : BE := fun hp xs => match xs with
  | [X] => match qnb hp X with
    | some w => chk (w.length ≤ 2000000) (some (.slc hp.length 0 w.length false 0, hp ++ [.vec 1 (xj w)]))
    | none => none
  | _ => none
theorem q1s : Am.Callee Try.prog 20 qdc := Callee.fp fun hp xs v hp' he => by
  unfold qdc at he
  split at he
  · rename_i X
    split at he
    · rename_i w hw
      obtain ⟨h1, he⟩ := qk he
      simp only [Option.some.injEq, Prod.mk.injEq] at he
      obtain ⟨rfl, rfl⟩ := he
      obtain ⟨bs, H, X', hX, e1, e2, e3, e4, e5, e6, e7, e8⟩ := qoj hw
      refine ⟨bs, [X'], H, _, _, qp1 H X' w hX h1, by simp only [AV.zg, e1], (by simp only [List.all_cons, e2, List.all_nil, Bool.true_and, Bool.and_true]), e3, e4, e5, ⟨e6, trivial⟩, ?_, ?_⟩
      · simp [AV.ren, Ren.ext]
      · rw [e8]; simp only [List.map_cons, List.map_nil, vy, qc _ _ (qn _)]
    · cases he
  · cases he
def km : AC := .seq (.seq (.region [oM 11 5,oM 12 0,o0 13 (.len .slc (.t 12)),oP 14 .lss 11 13]) (.cond 14 .skip (.exit 0))) (.seq (.block 1 (.seq (.draw false [oM 17 0,oM 18 5,oX 19 1 17 18,oL 20 19,oM 21 1,oM 22 5,oX 23 1 21 22,oL 24 23,oP 25 .neq 20 24]) (.cond 25 (.seq (.region [oB 4 false]) .ret) .skip))) (.region [oM 15 5,oK 16 .add 15 1,oM 5 16]))
def Uh : AC := .seq (.region [oB 4 true]) .ret
def Yk : AC := .seq (.region [oB 4 false]) (.seq (.seq (.region [oM 6 0,o0 7 (.len .slc (.t 6)),oM 8 1,o0 9 (.len .slc (.t 8)),oP 10 .neq 7 9]) (.cond 10 (.seq (.region [oB 4 false]) .ret) .skip)) (.seq (.seq (.region [oI 5 0]) (.block 0 (.loop km))) Uh))
theorem qkg : zl Try.prog 22 = some ⟨26, Yk, [.slot 4]⟩ := by kernel_rfl
theorem qpk (a b : List Int) (hl : a.length ≤ 2000000 ∧ b.length ≤ 2000000) :
    Am.Fn Try.prog 22 [.slc 0 0 a.length false 0, .slc 1 0 b.length false 0] [.ro (xj a), .ro (xj b)] (fun v H' => v = .bool (decide (a = b)) ∧ H' = [.ro (xj a), .ro (xj b)]) := by
  refine Am.Fn.xu (R := fun v => v = _) Yo mixed qkg (by simp) (Qg (qn _) (qn _)) ?_
  have hla := xr a
  have hlb := xr b
  by_cases hlen : a.length = b.length
  · have hq : ((a.length : Int) != (b.length : Int)) = false := by rw [hlen]; simp
    simp (maxSteps := 3000000) only [qh, zH, Yk, hq, iE, iN, iB, iC, iL, iD, iA, iS, iM, qa, zZ, ↓qt, ↓reduceIte, reduceCtorEq, nA, nM, nS, nE, nL, nD]; try simp only [qa, zY]
    refine WA.jh Yo (fun s => ∃ k : Nat, k ≤ a.length ∧ (∀ i, i < k → a[i]? = b[i]?) ∧ s = ⟨[(0, .slc 0 0 a.length false 0), (1, .slc 1 0 b.length false 0), (5, .int .i64 k)], [.ro (xj a), .ro (xj b)]⟩)
      (fun s => match get s.env 5 with | .int _ x => a.length - x.toNat | _ => 0) ⟨_, qx.qy [0, 1, 5], 0, by omega, fun i h => absurd h (by omega), rfl⟩ ?_
    rintro s ⟨k, hk, hc, rfl⟩
    by_cases hlt : k < a.length
    · have hltb : k < b.length := by omega
      have hli : (k : Int) < (a.length : Int) := by omega
      have hli' : (k : Int) < (b.length : Int) := by omega
      have hk0 : (0 : Int) ≤ k := by omega
      have hw : qm .i64 ((k : Int) + 1) = ((k + 1 : Nat) : Int) := by rw [wrap64 (by omega) (by omega)]; rfl
      have hga : a.getD k 0 = a[k] := by simp [hlt]
      have hgb : b.getD k 0 = b[k] := by simp [hltb]
      by_cases he : a[k] = b[k]
      · have hd : (a[k] != b[k]) = false := by simp [he]
        simp (maxSteps := 3000000) only [qh, zH, km, hli, hli', hk0, hw, hla, hlb, hga, hgb, hlt, hltb, hd, and_self, iE, iN, iB, iC, iL, iD, iA, iS, iM, qa, zZ, ↓qt, ↓reduceIte, reduceCtorEq, nA, nM, nS, nE, nL, nD]; try simp only [qa, zY]
        refine ⟨_, qx.qy [0, 1, 5], ⟨k + 1, by omega, fun i hi => ?_, rfl⟩, ?_⟩
        · by_cases e : i = k
          · subst e; rw [List.getElem?_eq_getElem hlt, List.getElem?_eq_getElem hltb, he]
          · exact hc i (by omega)
        · simp only [zL, ↓reduceIte, reduceCtorEq, nE, nA]; omega
      · have hd : (a[k] != b[k]) = true := by simp [he]
        simp (maxSteps := 3000000) only [qh, zH, km, hli, hli', hk0, hw, hla, hlb, hga, hgb, hlt, hltb, hd, and_self, iE, iN, iB, iC, iL, iD, iA, iS, iM, qa, zZ, ↓qt, ↓reduceIte, reduceCtorEq, nA, nM, nS, nE, nL, nD]; try simp only [qa, zY]
        exact ⟨⟨_, rfl⟩, (decide_eq_false fun h => by subst h; exact he rfl).symm⟩
    · have hli : ¬ (k : Int) < (a.length : Int) := by omega
      obtain rfl : k = a.length := by omega
      simp (maxSteps := 3000000) only [qh, zH, km, Uh, hli, Int.lt_irrefl, iE, iN, iB, iC, iL, iD, iA, iS, iM, qa, zZ, ↓qt, ↓reduceIte, reduceCtorEq, nA, nM, nS, nE, nL, nD]; try simp only [qa, zY]
      refine ⟨⟨_, rfl⟩, (decide_eq_true (List.ext_getElem? fun i => ?_)).symm⟩
      by_cases e : i < a.length
      · exact hc i e
      · rw [List.getElem?_eq_none (by omega), List.getElem?_eq_none (by omega)]
  · have hq : ((a.length : Int) != (b.length : Int)) = true := by simp; omega
    simp (maxSteps := 3000000) only [qh, zH, Yk, hq, iE, iN, iB, iC, iL, iD, iA, iS, iM, qa, zZ, ↓qt, ↓reduceIte, reduceCtorEq, nA, nM, nS, nE, nL, nD]; try simp only [qa, zY]
    exact ⟨⟨_, rfl⟩, (decide_eq_false fun h => by subst h; exact hlen rfl).symm⟩
def qdj : BE := fun hp xs => match xs with
  | [.slc b 0 k false 0, .slc b' 0 k' false 0] => match rd hp b, rd hp b' with
    | some L, some L' => match Gv L, Gv L' with
      | some w, some w' => chk ((k = w.length ∧ k' = w'.length) ∧ k ≤ 2000000 ∧ k' ≤ 2000000) (some (.bool (decide (w = w')), hp))
      | _, _ => none
    | _, _ => none
  | _ => none
theorem q1e : Am.Callee Try.prog 22 qdj := Callee.ro2 fun hp xs v hp' he => by
  unfold qdj at he
  split at he
  · rename_i b k b' k'
    split at he
    · rename_i L L' hL hL'
      split at he
      · rename_i w w' h1 h1'
        have h9 := qk he
        clear he
        obtain ⟨⟨⟨k1, k2⟩, h0⟩, h8⟩ := h9
        simp only [Option.some.injEq, Prod.mk.injEq] at h8
        obtain ⟨rfl, rfl⟩ := h8
        subst k1; subst k2
        have e1 := yq h1
        have f1 := yq h1'
        subst e1; subst f1
        refine ⟨xj w, xj w', b, b', [.slc 0 0 w.length false 0, .slc 1 0 w'.length false 0], rfl, ⟨_, hL, Nat.le_refl _, List.take_length⟩, ⟨_, hL', Nat.le_refl _, List.take_length⟩, qn _, qn _, ?_, rfl, ?_, rfl, qpk w w' h0⟩
        · simp only [AV.zg, AV.ren, two, if_true, Nat.zero_add]
          rfl
        · exact ⟨by simp [AV.under], by simp [AV.under], trivial⟩
      · cases he
    · cases he
  · cases he
def Je (n k : Nat) : List Int := (List.range n).map fun i => ((k + i : Nat) : Int)
theorem V7 (n k : Nat) : (Je n k).length = n := by simp [Je]
def Q1 : AC := .seq (.seq (.region [oM 6 5,oM 7 0,o0 8 (.len .slc (.t 7)),oP 9 .lss 6 8]) (.cond 9 .skip (.exit 0))) (.seq (.block 1 (.seq (.region [oM 12 0,oM 13 5,oM 14 1,oX 15 1 12 13,oT 15 14]) (.region [oM 16 1,oK 17 .add 16 1,oM 1 17]))) (.region [oM 10 5,oK 11 .add 10 1,oM 5 11]))
def Vj : AC := .seq (.region [oM 18 1,oM 4 18]) .ret
def Bc : AC := .seq (.region [oI 4 0]) (.seq (.seq (.region [oI 5 0]) (.block 0 (.loop Q1))) Vj)
theorem qe6 : zl Try.prog 29 = some ⟨19, Bc, [.slot 4]⟩ := by kernel_rfl
theorem qi6 (w : List Int) (k : Nat) (hk : k ≤ 100000000) (hl : w.length ≤ 2000000) :
    Am.Fn Try.prog 29 [.slc 0 0 w.length false 0, .int .i64 k] [.vec 1 (xj w)] (fun v H' => v = .int .i64 ((k + w.length : Nat) : Int) ∧ H' = [.vec 1 (xj (Je w.length k))]) := by
  refine Am.Fn.ofW Yo mixed qe6 (by simp [AV.qp, AV.under]) (qb5 (qn _)) ?_
  simp (maxSteps := 3000000) only [qh, zH, Bc, iE, iN, iB, iC, iL, iD, iA, iS, iM, qa, zZ, ↓qt, ↓reduceIte, reduceCtorEq, nA, nM, nS, nE, nL, nD]; try simp only [qa, zY]
  refine WA.jh Yo (fun s => ∃ (i : Nat) (us : List Int), i ≤ w.length ∧ us = Je i k ++ w.drop i ∧ s = ⟨[(5, .int .i64 i), (1, .int .i64 (k + i : Nat)), (0, .slc 0 0 w.length false 0)], [.vec 1 (xj us)]⟩)
    (fun s => match get s.env 5 with | .int _ x => w.length - x.toNat | _ => 0) ⟨_, qx.qy [5, 1, 0], 0, w, by omega, by simp [Je], rfl⟩ ?_
  rintro s ⟨i, us, hi, hus, rfl⟩
  have hul : us.length = w.length := by rw [hus]; simp [V7]; omega
  have hbl := xr us
  have hw : qm .i64 ((i : Int) + 1) = ((i + 1 : Nat) : Int) := by rw [wrap64 (by omega) (by omega)]; rfl
  have hw2 : qm .i64 (((k + i : Nat) : Int) + 1) = ((k + (i + 1) : Nat) : Int) := by rw [wrap64 (by omega) (by omega)]; omega
  by_cases hlt : i < w.length
  · have hli : ((i : Int) < (w.length : Int)) := by omega
    have hli' : (0 : Int) ≤ i := by omega
    have hst : (xj us).set i (.int .i64 ((k + i : Nat) : Int)) = xj (us.set i ((k + i : Nat) : Int)) := qmn
    have hset : us.set i ((k + i : Nat) : Int) = Je (i + 1) k ++ w.drop (i + 1) := by
      rw [hus, List.set_append_right _ _ (by rw [V7]; omega), V7, Nat.sub_self, List.drop_eq_getElem_cons hlt, List.set_cons_zero]
      simp [Je, List.range_succ]
    simp (maxSteps := 3000000) only [qh, zH, Q1, iE, iN, iB, iC, iL, iD, iA, iS, iM, hw, hw2, hbl, hul, hst, hlt, hli, hli', AV.one, and_self, qa, zZ, ↓qt, ↓reduceIte, reduceCtorEq, nA, nM, nS, nE, nL, nD]; try simp only [qa, zY]
    refine ⟨_, qx.qy [5, 1, 0], ⟨i + 1, _, by omega, hset, ?_⟩, ?_⟩
    · simp only [zL, ↓reduceIte, reduceCtorEq, nE, nA]
    · simp only [zL, ↓reduceIte, reduceCtorEq, nE, nA]; omega
  · have hli : ¬ ((i : Int) < (w.length : Int)) := by omega
    obtain rfl : i = w.length := by omega
    have hu : us = Je w.length k := by rw [hus]; simp
    subst hu
    simp (maxSteps := 3000000) only [qh, zH, Q1, Vj, iE, iN, iB, iC, iL, iD, iA, iS, iM, hli, Int.lt_irrefl, qa, zZ, ↓qt, ↓reduceIte, reduceCtorEq, nA, nM, nS, nE, nL, nD]; try simp only [qa, zY]
    refine ⟨_, qx.refl _, ?_⟩
    refine Ret.xf [0] ⟨⟨Nat.le_refl 1, rfl, by decide⟩, ?_⟩ (rs := [.int .i64 ((k + w.length : Nat) : Int)]) rfl rfl (by simp [zt]) ?_ ⟨?_, ?_⟩
    · simp only [zK, ↓reduceIte, reduceCtorEq, nE, nB, nA]
    · intro j l; cases j <;> simp [q7, AO.ren]
    · simp only [zt]
      simp only [zL, ↓reduceIte, reduceCtorEq, nE, nA]
    · simp only [zL, ↓reduceIte, reduceCtorEq, nE, nA]
def Vq : BE := fun hp xs => match xs with
  | [.slc b 0 n false 0, .int .i64 k] => match hp[b]? with
    | some (.vec 1 l) => match Gv l with
      | some w => chk (n = w.length ∧ 0 ≤ k ∧ k ≤ 100000000 ∧ n ≤ 2000000) (some (.int .i64 ((k.toNat + n : Nat) : Int), hp.set b (.vec 1 (xj (Je n k.toNat)))))
      | none => none
    | _ => none
  | _ => none
theorem qy4 : Am.Callee Try.prog 29 Vq := Callee.wr1 fun hp xs v hp' he => by
  unfold Vq at he
  split at he
  · rename_i b n k
    split at he
    · rename_i l hb
      split at he
      · rename_i w hw
        obtain ⟨⟨rfl, h0⟩, he⟩ := qk he
        simp only [Option.some.injEq, Prod.mk.injEq] at he
        obtain ⟨rfl, rfl⟩ := he
        have e1 := yq hw
        subst e1
        obtain ⟨k, rfl⟩ : ∃ j : Nat, k = j := ⟨k.toNat, by omega⟩
        rw [Int.toNat_natCast]
        refine ⟨1, xj w, _, b, [.slc 0 0 w.length false 0, .int .i64 k], hb, rfl, qn _, qn _, ?_, rfl, ⟨by simp [AV.under], trivial, trivial⟩, rfl, qi6 w k (by omega) (by omega)⟩
        simp only [AV.zg, AV.ren, one, if_true, Nat.zero_add]
      · cases he
    · cases he
  · cases he
end Go.Proofs.Ytfhckbbgmblhbaa
