/- Contracts of functions of the program, and plain laws, part 5: each text of this part is proved without further condition. -/
import Derived.Test.YtfhckbbgmblhbaaZ4
import Derived.Test.YtfhckbbgmblhbaaZ2
namespace Go.Proofs.Ytfhckbbgmblhbaa
open Go.Am Go.Dia
open Nat renaming reduceAdd → nA, reduceMul → nM, reduceSub → nS, reduceEqDiff → nE, reduceLT → nL, reduceLeDiff → nD, reduceBEq → nB
open Int renaming reduceEq → iE, reduceNe → iN, reduceBEq → iB, reduceBNe → iC, reduceLT → iL, reduceLE → iD, reduceAdd → iA, reduceSub → iS, reduceMul → iM
set_option linter.unusedSimpArgs false
set_option linter.unusedVariables false
set_option maxRecDepth 4000
set_option maxHeartbeats 1000000
noncomputable def Ww : BE := fun hp xs => match xs with
  | [.ptr b1 0, .ptr b2 0, .fn 171 [] [], .fn 172 [] [.ptr b3 0], .fn 173 [] [.ptr b4 0]] => match rdD hp b1, rdD hp b2, hp[b3]?, hp[b4]? with
    | some (n, d), some (n', e), some (.cells l), some (.cells [.int .i64 k]) => match ui l with
      | some (n2, m) => chk ((n' = n ∧ n2 = n ∧ 0 ≤ n ∧ k = 0) ∧ (isS n.toNat d = true ∧ isS n.toNat e = true) ∧ m = List.replicate 16 0 ∧ b3 ≠ b1 ∧ b4 ≠ b1 ∧ b3 ≠ b2 ∧ b4 ≠ b2 ∧ b4 ≠ b3)
          (some (.tup [], (hp.set b3 (.cells (dia n (ja n.toNat d e)))).set b4 (.cells [.int .i64 (lpN n.toNat d e n.toNat : Nat)])))
      | none => none
    | _, _, _, _ => none
  | _ => none
theorem qnt {hp : List AO} {b N : Nat} {m : List Nat} (h : rdD hp b = some ((N : Int), m)) : okD m ∧ ∀ ρ, Fits hp ρ b 0 (.ro (dia N m)) := by
  unfold rdD at h
  split at h
  · rename_i L hL
    obtain ⟨e1, hok⟩ := zp h
    have hlen : (dia (N : Int) m).length = 17 := by rw [qb, hok.1]
    have hLl : 17 ≤ L.length := by
      have := congrArg List.length e1
      rw [hlen, List.length_take] at this
      omega
    exact ⟨hok, fun ρ => ⟨L, hL, by rw [hlen]; omega, by rw [List.drop_zero, qc _ _ (qe _ _), hlen]; exact e1⟩⟩
  · cases h
theorem qtr : Am.Callee Try.prog 170 Ww := Callee.fp fun hp xs v hp' he => by
  unfold Ww at he
  split at he
  · rename_i b1 b2 b3 b4
    split at he
    · rename_i n d n' e l k hd1 he1 h3 h4
      split at he
      · rename_i n2 m hm1
        obtain ⟨⟨⟨a1, a2, a3, a4⟩, ⟨a5, a6⟩, a7, a8, a9, a10, a11, a12⟩, he2⟩ := ql he
        simp only [Option.some.injEq, Prod.mk.injEq] at he2
        obtain ⟨rfl, rfl⟩ := he2
        obtain ⟨rfl, hm⟩ := zp hm1
        subst a1; subst a2; subst a4; subst a7
        obtain ⟨N, rfl⟩ : ∃ N : Nat, n2 = N := ⟨n2.toNat, by omega⟩
        simp only [Int.toNat_natCast] at a5 a6 ⊢
        obtain ⟨hd, f1⟩ := qnt hd1
        obtain ⟨he', f2⟩ := qnt he1
        refine ⟨[(b1, 0), (b2, 0), (b3, 0), (b4, 0)], [.ptr 0 0, .ptr 1 0, .fn 171 [] [], .fn 172 [] [.ptr 2 0], .fn 173 [] [.ptr 3 0]], H4 N d e (List.replicate 16 0) 0, _, _, qmm N d e hd he' a5 a6, by simp [AV.ren, AV.zh, ofL], by simp [vh],
          ⟨f1 _, f2 _, ⟨rfl, by rw [h3]; simp only [AO.ren, qc _ _ (qe _ _)]⟩, ⟨rfl, by rw [h4]; simp [AO.ren, AV.zh, AV.ren]⟩, trivial⟩, by simp [J4, H4, AO.wr, a8, a9, a10, a11, a12], ⟨qh _ _ (qe _ _), qh _ _ (qe _ _), qh _ _ (qe _ _), ⟨trivial, trivial⟩, trivial⟩, by simp [AV.qy, AV.under, H4], by simp [AV.ren, AV.zh], ?_⟩
        simp [after, upd, AO.wr, AO.ren, H4, AV.zh, AV.ren, qc _ _ (qe _ _)]
      · cases he
    · cases he
  · cases he
noncomputable def B84 : za := (B83.put 170 (Ww))
theorem qpz : qn Try.prog B84 := (qjb.put (qtr))
theorem qbn : B84 171 = some (qm kn) := rfl
theorem qci : B84 172 = some (Y1) := rfl
theorem qbk : B84 173 = some (bf) := rfl
theorem qbx : B84 170 = some (Ww) := rfl
def qab : AT := (.one (oN 14 17 6) (.alt (oL 15 7) (.one (oS 17 4 14) (.one (oM 5 15) (.nil))) (.alt (oS 17 4 14) (.one (oL 15 7) (.one (oM 5 15) (.nil))) (.none))))
def qif : AC := .seq (.region [o0 2 (.box (.t 0)),o0 3 (.box (.t 1)),oD 4,oI 5 0]) (.seq (.region [oF 8 0 2,oL 9 8,o0 10 (.build [.int .i64 0,.int .u8 0,.int .u8 0,.int .u8 0,.int .u8 0,.int .u8 0,.int .u8 0,.int .u8 0,.int .u8 0,.int .u8 0,.int .u8 0,.int .u8 0,.int .u8 0,.int .u8 0,.int .u8 0,.int .u8 0,.int .u8 0] [(0,1,.t 9)]),oD 6,o0 7 (.alloc [.int .i64 0]),oS 17 6 10,⟨none,none,.op (.Qz (.t 7) (.c (.int .i64 0)))⟩]) (.seq (.region [o0 11 (.qg7 172 [] [.t 6]),o0 12 (.qg7 173 [] [.t 7]),⟨some 13,none,.call (.c (.fn 170 [] [])) [.t 2,.t 3,(.c (.fn 171 [] [])),.t 11,.t 12]⟩]) (.seq (.tree false qab) .ret)))
theorem qtb : zr Try.prog 144 = some ⟨16, qif, [.Qj 4 17, .slot 5]⟩ := by kernel_rfl
theorem qsz (N : Nat) (d e : List Nat) (hd : okD d) (he : okD e) (hds : isS N d = true) (hes : isS N e = true) :
    Am.Fn Try.prog 144 [.agg (dia N d), .agg (dia N e)] [] (fun v H' => v = .tup [.agg (dia N (ja N d e)), .int .i64 (lpN N d e N : Nat)] ∧ H' = []) := by
  refine Am.Fn.jd (R := fun v => v = _) qpz mixed qtb (by simp) (by simp) ?_
  obtain ⟨hN, hpd, _⟩ := je hds
  have hdl := hd.1
  have hel := he.1
  have hdo := qq (n := (N : Int)) hd
  have heo := qq (n := (N : Int)) he
  have hzo := qq (n := (N : Int)) (m := List.replicate 16 0) ⟨by simp, fun y hy => by simp at hy; omega⟩
  have hN0 : (0 : Int) ≤ (N : Int) := by omega
  simp (maxSteps := 3000000) only [qg, zH, qif, qbn, qci, qbk, qbx, kn, bf, Ww, Y1, rdD, zn, xy, Zq, qb, hdl, hel, vg, ze, zy qw qw, List.length_replicate, qt hdl, qt hel, hdo, heo, hzo, hds, hes, hN0, Int.toNat_natCast, AV.one, and_self, true_and, and_true, Ne, not_false_iff, not_false_eq_true, Nat.reduceEqDiff, reduceCtorEq, List.all_nil, List.all_cons, List.map_nil, List.map_cons, Bool.and_self, iE, iN, iB, iC, iL, iD, iA, iS, iM, qa, zZ, ↓qo, ↓reduceIte, reduceCtorEq, nA, nM, nS, nE, nL, nD]; try simp only [qa, zY]
  have hp16 : (ja N d e).length = 16 := yi N d e N
  refine WA.qvi qpz (fun s => s = ⟨[(5, .int .i64 (lpN N d e N : Nat)), (4, .ptr 2 0)], [.cells (dia N d), .cells (dia N e), .cells (dia N (ja N d e)), .cells (dia N (ja N d e)), .cells [.int .i64 (lpN N d e N : Nat)]]⟩) ?_ ?_
  · unfold qab
    simp (maxSteps := 3000000) only [qg, zH, qf0, qiu, qb, hp16, qt hp16, ze, zy qw hp16, List.length_replicate, Nat.le_refl, AV.one, iE, iN, iB, iC, iL, iD, iA, iS, iM, qa, zZ, ↓qo, ↓reduceIte, reduceCtorEq, nA, nM, nS, nE, nL, nD]; try simp only [qa, zY]
    repeat' (with_reducible refine And.intro ?_ ?_)
    all_goals exact ⟨_, qz.qx [5, 4], rfl⟩
  rintro s rfl
  simp (maxSteps := 3000000) only [qg, zH, qb, hp16, qt hp16, iE, iN, iB, iC, iL, iD, iA, iS, iM, qa, zZ, ↓qo, ↓reduceIte, reduceCtorEq, nA, nM, nS, nE, nL, nD]; try simp only [qa, zY]
  simp only [qe, Bool.and_self]
noncomputable def B85 : za := (B84.put 144 (qm jv))
theorem qp4 : qn Try.prog B85 := (qpz.put (qgf qsz))
def W9 : AC := .seq (.region [oP 10 .lss 9 8]) (.seq (.cond 10 .skip (.exit 0)) (.seq (.block 1 (.region [oM 11 7,oM 12 0,oP 13 .mul 11 12,oM 14 2,oP 15 .rem 13 14,oM 7 15])) (.region [oK 16 .add 9 1,oM 9 16])))
def qbj : AC := .seq (.region [oM 17 7,oM 6 17]) .ret
def qh3 : AC := .seq (.region [oI 6 0]) (.seq (.region [oI 7 1]) (.seq (.seq (.region [oM 8 1,oI 9 0]) (.block 0 (.loop W9))) qbj))
theorem qud : zr Try.prog 75 = some ⟨18, qh3, [.slot 6]⟩ := by kernel_rfl
theorem qsl (p c : Int) (K : Nat) (hp : 2 ≤ p ∧ p ≤ 97) (hc : 0 ≤ c ∧ c ≤ p - 1) (hK : K ≤ 1000000) : Am.Fn Try.prog 75 [.int .i64 c, .int .i64 K, .int .i64 p] [] (fun v H' => v = .int .i64 (jk p c K) ∧ H' = []) := by
  refine Am.Fn.jd (R := fun v => v = _) qp4 mixed qud (by simp) (by simp) ?_
  have hne : p ≠ 0 := by omega
  simp (maxSteps := 3000000) only [qg, zH, qh3, hne, iE, iN, iB, iC, iL, iD, iA, iS, iM, qa, zZ, ↓qo, ↓reduceIte, reduceCtorEq, nA, nM, nS, nE, nL, nD]; try simp only [qa, zY]
  refine WA.jn qp4 (fun s => ∃ j : Nat, j ≤ K ∧ s = ⟨[(9, .int .i64 j), (8, .int .i64 K), (7, .int .i64 (jk p c j)), (0, .int .i64 c), (2, .int .i64 p)], []⟩)
    (fun s => match get s.env 9 with | .int _ x => K - x.toNat | _ => 0) ⟨_, qz.qx [9, 8, 7, 0, 2], 0, by omega, rfl⟩ ?_
  rintro s ⟨j, hj, rfl⟩
  by_cases hlt : j < K
  · have hli : (j : Int) < (K : Int) := by omega
    obtain ⟨m1, m2, m3, m4⟩ := pow_mul hp hc (qqf (c := c) hp.1 j)
    have hw : qu .i64 ((j : Int) + 1) = ((j + 1 : Nat) : Int) := by rw [wrap64 (by omega) (by omega)]; rfl
    have hnext : (jk p c j * c).emod p = jk p c (j + 1) := rfl
    simp (maxSteps := 3000000) only [qg, zH, W9, hli, m1, m2, hw, hne, hnext, iE, iN, iB, iC, iL, iD, iA, iS, iM, qa, zZ, ↓qo, ↓reduceIte, reduceCtorEq, nA, nM, nS, nE, nL, nD]; try simp only [qa, zY]
    refine ⟨_, qz.qx [9, 8, 7, 0, 2], ⟨j + 1, by omega, ?_⟩, ?_⟩
    · simp only [zL, ↓reduceIte, reduceCtorEq, nE, nA]
    · simp only [zL, ↓reduceIte, reduceCtorEq, nE, nA]; omega
  · have hli : ¬ (j : Int) < (K : Int) := by omega
    obtain rfl : j = K := by omega
    simp (maxSteps := 3000000) only [qg, zH, W9, qbj, hli, Int.lt_irrefl, iE, iN, iB, iC, iL, iD, iA, iS, iM, qa, zZ, ↓qo, ↓reduceIte, reduceCtorEq, nA, nM, nS, nE, nL, nD]; try simp only [qa, zY]
def V0 : List AV → Option AV
  | [.int .i64 c, .int .i64 k, .int .i64 p] => chk (((2 ≤ p ∧ p ≤ 97) ∧ (0 ≤ c ∧ c ≤ p - 1)) ∧ 0 ≤ k ∧ k ≤ 1000000) (some (.int .i64 (jk p c k.toNat)))
  | _ => none
theorem q1c : Am.Callee Try.prog 75 (qm V0) := Am.Callee.plain fun xs v he => by
  unfold V0 at he
  split at he
  · rename_i c k p
    obtain ⟨⟨⟨h1, h2⟩, h3⟩, he⟩ := ql he
    cases he
    obtain ⟨K, rfl⟩ : ∃ K : Nat, k = K := ⟨k.toNat, by omega⟩
    rw [Int.toNat_natCast]
    exact ⟨rfl, rfl, qsl p c K h1 h2 (by omega)⟩
  · cases he
noncomputable def B86 : za := (B85.put 75 (qm V0))
theorem q3b : qn Try.prog B86 := (qp4.put (q1c))
noncomputable def prT (p c n : Int) (t u : Int × List Nat × Int) : Int × List Nat × Int := (n, ja n.toNat t.2.1 u.2.1, (t.2.2 * u.2.2).emod p * jk p c (lpN n.toNat t.2.1 u.2.1 n.toNat))
noncomputable def vo (p c n : Int) (a b : List (Int × List Nat × Int)) : List (Int × List Nat × Int) := a.flatMap fun t => b.map (prT p c n t)
def MP (p n : Int) (l : List (Int × List Nat × Int)) : List (Int × List Nat × Int) := chP p n id (fun _ => 1) [] l
theorem qti {p c n : Int} {a b : List (Int × List Nat × Int)} {i : Nat} (h : i < a.length) : vo p c n (a.take (i + 1)) b = vo p c n (a.take i) b ++ b.map (prT p c n a[i]) := by
  rw [List.take_succ_eq_append_getElem h, vo, List.flatMap_append]; simp [vo]
theorem qww {p c n : Int} {t : Int × List Nat × Int} {b : List (Int × List Nat × Int)} {j : Nat} (h : j < b.length) : (b.take (j + 1)).map (prT p c n t) = (b.take j).map (prT p c n t) ++ [prT p c n t b[j]] := by
  rw [List.take_succ_eq_append_getElem h, List.map_append]; rfl
theorem qve {p c n : Int} (hp : 2 ≤ p ∧ p ≤ 97) (hc : 0 ≤ c ∧ c ≤ p - 1) {t u : Int × List Nat × Int} (h1 : isS n.toNat t.2.1 = true) (h2 : isS n.toNat u.2.1 = true) (f1 : 1 ≤ t.2.2 ∧ t.2.2 ≤ p - 1) (f2 : 1 ≤ u.2.2 ∧ u.2.2 ≤ p - 1) :
    okD (prT p c n t u).2.1 ∧ isS n.toNat (prT p c n t u).2.1 = true ∧ 0 ≤ (prT p c n t u).2.2 ∧ (prT p c n t u).2.2 ≤ 9216 := by
  have h := qm9 h1 h2
  have hr : 0 ≤ (t.2.2 * u.2.2).emod p ∧ (t.2.2 * u.2.2).emod p ≤ p - 1 := ⟨Int.emod_nonneg _ (by omega), Int.le_sub_one_of_lt (Int.emod_lt_of_pos (t.2.2 * u.2.2) (show 0 < p by omega))⟩
  obtain ⟨_, _, m3, m4⟩ := pow_mul hp (qqf (c := c) hp.1 (lpN n.toNat t.2.1 u.2.1 n.toNat)) hr
  exact ⟨h.2, h.1, m3, m4⟩
theorem qor {p c n : Int} (hp : 2 ≤ p ∧ p ≤ 97) (hc : 0 ≤ c ∧ c ≤ p - 1) {a b : List (Int × List Nat × Int)} (ha : vt p n a) (hb : vt p n b) : qta n 10000 id (fun _ => 1) (vo p c n a b) := fun t ht => by
  obtain ⟨x, hx, ht⟩ := List.mem_flatMap.1 ht
  obtain ⟨u, hu, rfl⟩ := List.mem_map.1 ht
  obtain ⟨h1, h2, h3, h4⟩ := qve (c := c) hp hc (ha.dia x hx).2 (hb.dia u hu).2 (ha.fac x hx) (hb.fac u hu)
  exact ⟨h1, h2, by show -10000 ≤ (prT p c n x u).2.2 * 1; omega, by show (prT p c n x u).2.2 * 1 ≤ 10000; omega⟩
theorem qw2 {p c n : Int} {a b : List (Int × List Nat × Int)} {i j : Nat} (hi : i < a.length) {t : Int × List Nat × Int} (ht : t ∈ vo p c n (a.take i) b ++ (b.take j).map (prT p c n a[i])) : t ∈ vo p c n a b := by
  rcases List.mem_append.1 ht with h | h
  · obtain ⟨x, hx, h⟩ := List.mem_flatMap.1 h
    exact List.mem_flatMap.2 ⟨x, List.mem_of_mem_take hx, h⟩
  · obtain ⟨u, hu, rfl⟩ := List.mem_map.1 h
    exact List.mem_flatMap.2 ⟨_, List.getElem_mem hi, List.mem_map.2 ⟨u, List.mem_of_mem_take hu, rfl⟩⟩
theorem qep {p c n : Int} {a b : List (Int × List Nat × Int)} : (vo p c n a b).length = a.length * b.length := by
  induction a with
  | nil => simp [vo]
  | cons x a ih =>
    have : vo p c n (x :: a) b = b.map (prT p c n x) ++ vo p c n a b := rfl
    rw [this, List.length_append, List.length_map, ih, List.length_cons, Nat.add_mul]; omega
noncomputable def U3 : BE := fun hp xs => match xs with
  | [.agg [.int .i64 p, .int .i64 c, .int .i64 n, .slc b 0 la false 0], .agg [.int .i64 p', .int .i64 c', .int .i64 n', .slc b' 0 lb false 0]] => match rd hp b, rd hp b' with
    | some L, some L' => match Ug la L, Ug lb L' with
      | some ta, some tb => chk ((((2 ≤ p ∧ p ≤ 97) ∧ (0 ≤ c ∧ c ≤ p - 1) ∧ (0 ≤ n ∧ n ≤ 8) ∧ n' = n) ∧ qde p n ta ∧ qde p n tb) ∧ (ta.length ≤ 300 ∧ tb.length ≤ 300)) (some (elemV p c n hp.length (MP p n (vo p c n ta tb)).length, hp ++ [.vec 18 (zk (MP p n (vo p c n ta tb)))]))
      | _, _ => none
    | _, _ => none
  | _ => none
theorem qvv {f : FuncId} (hf : ∀ (p c n p' c' : Int) (a b : List (Int × List Nat × Int)), 2 ≤ p ∧ p ≤ 97 → 0 ≤ c ∧ c ≤ p - 1 → 0 ≤ n ∧ n ≤ 8 → vt p n a → vt p n b → a.length ≤ 300 ∧ b.length ≤ 300 →
    Am.Fn Try.prog f [elemV p c n 0 a.length, elemV p' c' n 1 b.length] [.ro (zk a), .ro (zk b)] (fun v H' => v = elemV p c n 2 (MP p n (vo p c n a b)).length ∧ H' = [.ro (zk a), .ro (zk b), .vec 18 (zk (MP p n (vo p c n a b)))])) : Am.Callee Try.prog f U3 := Callee.fp fun hp xs v hp' he => by
  unfold U3 at he
  split at he
  · rename_i p c n b la p' c' n' b' lb
    split at he
    · rename_i L L' hL hL'
      split at he
      · rename_i ta tb h1 h1'
        obtain ⟨⟨⟨⟨a1, a0, a2, a3⟩, a4, a5⟩, a6⟩, he2⟩ := ql he
        simp only [Option.some.injEq, Prod.mk.injEq] at he2
        obtain ⟨rfl, rfl⟩ := he2
        obtain ⟨e1, e2, e3, e4⟩ := ya h1
        obtain ⟨f1, f2, f3, f4⟩ := ya h1'
        have g1 := zg e2
        have g2 := zg f2
        subst a3
        refine ⟨[(b, 0), (b', 0)], [elemV p c n' 0 ta.length, elemV p' c' n' 1 tb.length], _, _, _, hf p c n' p' c' ta tb a1 a0 a2 (a4.q3s e2) (a5.q3s f2) a6, by simp [elemV, AV.ren, AV.zh, ofL, e1, f1], rfl,
          ⟨⟨L, hL, by omega, by rw [List.drop_zero, qc _ _ (qd _), g1, e1]; exact e3⟩, ⟨L', hL', by omega, by rw [List.drop_zero, qc _ _ (qd _), g2, f1]; exact f3⟩, trivial⟩, rfl,
          ⟨qh _ _ (qd _), qh _ _ (qd _), trivial⟩, ⟨⟨trivial, trivial, trivial, by simp [AV.under], trivial⟩, ⟨trivial, trivial, trivial, by simp [AV.under], trivial⟩, trivial⟩, by simp [elemV, AV.ren, AV.zh, Ren.ext], ?_⟩
        simp [after, upd, AO.wr, AO.ren, qc _ _ (qd _)]
      · cases he
    · cases he
  · cases he
noncomputable def B87 : za := B86
theorem qj1 : qn Try.prog B87 := q3b
def W4 (n : Int) (m : List Nat) (S : List (Int × List Nat × Int)) : Int := match Ul n m S with
  | none => 0
  | some j => (S.getD j zT).2.2
def Gl (n : Int) (m : List Nat) (v : Int) (S : List (Int × List Nat × Int)) : List (Int × List Nat × Int) := match Ul n m S with
  | none => S ++ [(n, m, v)]
  | some j => S.set j (n, m, v)
theorem qnr {n v : Int} {m : List Nat} {S : List (Int × List Nat × Int)} : Gl n m v S = Kj n m (v - W4 n m S) S := by
  unfold Gl W4
  cases h : Ul n m S with
  | none => simp only [(qh8 h).1, Int.sub_zero]
  | some j =>
    simp only [(qis h).2.2.2]
    rw [show (S.getD j zT).2.2 + (v - (S.getD j zT).2.2) = v by omega]
theorem U2 {n v : Int} {m : List Nat} {S : List (Int × List Nat × Int)} {u : Int × List Nat × Int} (h : u ∈ Gl n m v S) : u ∈ S ∨ u = (n, m, v) := by
  unfold Gl at h
  split at h
  · rcases List.mem_append.1 h with h | h
    · exact .inl h
    · exact .inr (List.mem_singleton.1 h)
  · exact List.mem_or_eq_of_mem_set h
theorem qv2 {n v : Int} {m : List Nat} {S : List (Int × List Nat × Int)} : (Gl n m v S).length ≤ S.length + 1 := by
  unfold Gl
  split <;> simp
def qj3 (p n : Int) (S : List (Int × List Nat × Int)) : Prop := qy0 n 10000 S ∧ ∀ t ∈ S, 0 ≤ t.2.2 ∧ t.2.2 ≤ p - 1
theorem qy7 {p n : Int} (hp : 0 < p) {m : List Nat} {S : List (Int × List Nat × Int)} (h : qj3 p n S) : 0 ≤ W4 n m S ∧ W4 n m S ≤ p - 1 := by
  unfold W4
  cases e : Ul n m S with
  | none => exact ⟨Int.le_refl 0, by show (0 : Int) ≤ p - 1; omega⟩
  | some j => exact h.2 _ (by rw [Qw (qis e).1]; exact List.getElem_mem _)
theorem qvu {p n v : Int} {m : List Nat} {S : List (Int × List Nat × Int)} (hp : p ≤ 97) (h : qj3 p n S) (hm : okD m) (hs : isS n.toNat m = true) (hv : 0 ≤ v ∧ v ≤ p - 1) : qj3 p n (Gl n m v S) := by
  have hone := qlt (n := n) (f := v - W4 n m S) (m := m) (ts := S) (fun t ht => (h.1.dia t ht).1) h.1.one
  rw [← qnr] at hone
  refine ⟨⟨fun t ht => ?_, fun t ht => ?_, fun t ht => ?_, hone⟩, fun t ht => ?_⟩
  · rcases U2 ht with h1 | rfl
    · exact h.1.ok t h1
    · exact hm
  · rcases U2 ht with h1 | rfl
    · exact h.1.dia t h1
    · exact ⟨rfl, hs⟩
  · rcases U2 ht with h1 | rfl
    · exact h.1.fac t h1
    · exact ⟨by show -10000 ≤ v; omega, by show v ≤ 10000; omega⟩
  · rcases U2 ht with h1 | rfl
    · exact h.2 t h1
    · exact hv
def qco (p n : Int) (m : List Nat) (f : Int) (S : List (Int × List Nat × Int)) : List (Int × List Nat × Int) := Gl n m ((W4 n m S + f).emod p) S
def ML (p n : Int) (l : List (Int × List Nat × Int)) : List (Int × List Nat × Int) := l.foldl (fun S t => qco p n t.2.1 t.2.2 S) []
theorem qz5 {p n : Int} {l : List (Int × List Nat × Int)} {t : Int × List Nat × Int} : ML p n (l ++ [t]) = qco p n t.2.1 t.2.2 (ML p n l) := by
  unfold ML; rw [List.foldl_append]; rfl
theorem qwr {p n f : Int} {m : List Nat} {S : List (Int × List Nat × Int)} (hp : 0 < p ∧ p ≤ 97) (h : qj3 p n S) (hm : okD m) (hs : isS n.toNat m = true) : qj3 p n (qco p n m f S) :=
  qvu hp.2 h hm hs ⟨Int.emod_nonneg _ (by omega), Int.le_sub_one_of_lt (Int.emod_lt_of_pos _ hp.1)⟩
theorem qf2 {p n : Int} (hp : 0 < p ∧ p ≤ 97) : ∀ {l acc : List (Int × List Nat × Int)}, qj3 p n acc → (∀ t ∈ l, okD t.2.1 ∧ isS n.toNat t.2.1 = true) → qj3 p n (l.foldl (fun S t => qco p n t.2.1 t.2.2 S) acc) ∧ (l.foldl (fun S t => qco p n t.2.1 t.2.2 S) acc).length ≤ acc.length + l.length
  | [], acc, h, _ => ⟨h, by simp⟩
  | t :: l, acc, h, hl => by
    have h1 := hl t (List.mem_cons_self ..)
    have := qf2 hp (l := l) (qwr (f := t.2.2) hp h h1.1 h1.2) fun u hu => hl u (List.mem_cons_of_mem _ hu)
    have h2 : (qco p n t.2.1 t.2.2 acc).length ≤ acc.length + 1 := qv2
    refine ⟨this.1, ?_⟩
    have h3 := this.2
    rw [List.foldl_cons, List.length_cons]; omega
theorem qzy {p n f : Int} {m m' : List Nat} {S : List (Int × List Nat × Int)} (h : ∀ t ∈ S, t.1 = n) : p ∣ cf m (qco p n m' f S) - (cf m S + if m' = m then f else 0) := by
  unfold qco
  rw [qnr, qqg h]
  by_cases e : m' = m
  · rw [if_pos e, if_pos e]
    have := Q6 p (W4 n m' S + f)
    refine ka this (Int.dvd_zero p) ?_
    omega
  · rw [if_neg e, if_neg e]
    refine ka (Int.dvd_zero p) (Int.dvd_zero p) ?_
    omega
theorem qzf {p n f : Int} {m : List Nat} {S : List (Int × List Nat × Int)} (h : ∀ t ∈ S, t.1 = n) : ∀ t ∈ qco p n m f S, t.1 = n := fun t ht => by
  rcases U2 ht with h1 | rfl
  · exact h t h1
  · rfl
theorem qqt {p n : Int} {m : List Nat} : ∀ {l acc : List (Int × List Nat × Int)}, (∀ t ∈ acc, t.1 = n) → p ∣ cf m (l.foldl (fun S t => qco p n t.2.1 t.2.2 S) acc) - (cf m acc + V3 id (fun _ => 1) m l)
  | [], acc, h => by simp [V3]
  | t :: l, acc, h => by
    have ih := qqt (p := p) (m := m) (l := l) (qzf (p := p) (m := t.2.1) (f := t.2.2) h)
    have h1 := qzy (p := p) (f := t.2.2) (m := m) (m' := t.2.1) h
    rw [List.foldl_cons]
    refine ka ih h1 ?_
    simp only [V3, id, Int.mul_one]
    omega
theorem qzr {p n : Int} {l : List (Int × List Nat × Int)} (hp : 0 < p ∧ p ≤ 97) (h : qta n 10000 id (fun _ => 1) l) : X5 (xn p (ML p n l)) = MP p n l := by
  have h0 : vt p n [] := ⟨(fun t h => by cases h), (fun t h => by cases h), (fun t h => by cases h), .nil⟩
  have hs := (qf2 (p := p) (n := n) hp (l := l) (acc := []) ⟨⟨(fun t h => by cases h), (fun t h => by cases h), (fun t h => by cases h), .nil⟩, fun t h => by cases h⟩ fun t ht => ⟨(h t ht).1, (h t ht).2.1⟩).1
  refine qne hp.1 (qw7 hp.1 hs.1) (qf9 hp.1 h0 h).1 fun m => ?_
  have h1 := qqt (p := p) (n := n) (m := m) (acc := []) (l := l) (by simp)
  have h2 := qpv (p := p) (n := n) (φ := id) (κ := fun _ => 1) (m := m) (acc := []) (a := l) (by simp)
  have h3 := q0e (p := p) (m := m) (S := ML p n l)
  have h4 := ka h3 h1 (z := cf m (X5 (xn p (ML p n l))) - (cf m [] + V3 id (fun _ => 1) m l)) (by unfold ML; omega)
  exact qbl h4 h2 (by unfold MP; omega)
theorem qox {n : Int} {m : List Nat} {S : List (Int × List Nat × Int)} (hm : m.length = 16) (ho : okT S) (h : Ul n m S = none) (v : Int) :
    uf KD true (.agg (dia n m)) (esT 0 S) 0 = some none ∧ W4 n m S = 0 ∧ (AO.map (esT 0 S ++ [(⟨.agg (dia n m), .int .i64 v, S.length⟩ : AE)]) (S.length + 1)) = Qp (Gl n m v S) := by
  refine ⟨by rw [qfb hm ho, h]; rfl, by unfold W4; rw [h], ?_⟩
  have e : Gl n m v S = S ++ [(n, m, v)] := by unfold Gl; rw [h]
  rw [e]
  show _ = AO.map (esT 0 (S ++ [(n, m, v)])) (S ++ [(n, m, v)]).length
  rw [qre]; simp [esT]
theorem qpw {n : Int} {m : List Nat} {S : List (Int × List Nat × Int)} {j : Nat} (hm : m.length = 16) (ho : okT S) (h : Ul n m S = some j) (v : Int) :
    uf KD true (.agg (dia n m)) (esT 0 S) 0 = some (some (j, ⟨.agg (dia n m), .int .i64 (W4 n m S), j⟩)) ∧ (AO.map ((esT 0 S).set j ⟨.agg (dia n m), .int .i64 v, j⟩) S.length) = Qp (Gl n m v S) := by
  have e1 : W4 n m S = (S.getD j zT).2.2 := by unfold W4; rw [h]
  refine ⟨by rw [qfb hm ho, h, e1]; simp, ?_⟩
  have e : Gl n m v S = S.set j (n, m, v) := by unfold Gl; rw [h]
  rw [e]
  show _ = AO.map (esT 0 (S.set j (n, m, v))) (S.set j (n, m, v)).length
  have := qry (n := n) (v := v) (m := m) (ts := S) (k := 0) (j := j)
  rw [Nat.zero_add] at this
  rw [this]; simp
theorem qxf {p c n : Int} (hp : 2 ≤ p ∧ p ≤ 97) (hc : 0 ≤ c ∧ c ≤ p - 1) {a b : List (Int × List Nat × Int)} (ha : vt p n a) (hb : vt p n b) (hl : a.length ≤ 300 ∧ b.length ≤ 300) {l : List (Int × List Nat × Int)} (h : ∀ t ∈ l, t ∈ vo p c n a b) (hl : l.length ≤ 100000) :
    qj3 p n (ML p n l) ∧ (ML p n l).length ≤ 100000 := by
  have hm := qor (c := c) hp hc ha hb
  have h1 := qf2 (p := p) (n := n) (by omega) (l := l) (acc := []) ⟨⟨(fun t h => by cases h), (fun t h => by cases h), (fun t h => by cases h), .nil⟩, fun t h => by cases h⟩ fun t ht => ⟨(hm t (h t ht)).1, (hm t (h t ht)).2.1⟩
  exact ⟨h1.1, Nat.le_trans h1.2 (by simpa using hl)⟩
theorem ji : B87 105 = some (Xp) := rfl
theorem yz : B87 75 = some (qm V0) := rfl
theorem uo : B87 144 = some (qm jv) := rfl
def b9 : AC := .seq (.region [oP 24 .lss 23 22]) (.seq (.cond 24 .skip (.exit 2)) (.seq (.block 3 (.seq (.region [oX 25 18 21 23,oN 26 18 25,o0 9 (.alloc [.int .i64 0,.int .u8 0,.int .u8 0,.int .u8 0,.int .u8 0,.int .u8 0,.int .u8 0,.int .u8 0,.int .u8 0,.int .u8 0,.int .u8 0,.int .u8 0,.int .u8 0,.int .u8 0,.int .u8 0,.int .u8 0,.int .u8 0,.int .i64 0]),oS 18 9 26]) (.seq (.region [oF 28 0 7,oN 29 17 28,oF 30 0 9,oN 31 17 30,oC 32 144 [.t 29,.t 31],oM 27 32,oE 33 0 27,oE 34 1 27,oD 10,oS 17 10 33,oM 11 34]) (.draw true [oM 35 5,oN 36 17 10,oM 37 5,oN 38 17 10,o0 39 (.lookup [.int,.int,.int,.int,.int,.int,.int,.int,.int,.int,.int,.int,.int,.int,.int,.int,.int] true (.int .i64 0) false (.t 37) (.t 38)),oF 40 17 7,oL 41 40,oF 42 17 9,oL 43 42,oP 44 .mul 41 43,oF 45 0 2,oL 46 45,oP 47 .rem 44 46,oF 48 1 2,oL 49 48,oM 50 11,oF 51 0 2,oL 52 51,oF 56 0 2,oL 57 56,oC 53 75 [.t 49,.t 50,.t 52],oP 54 .mul 47 53,oP 55 .add 39 54,oP 58 .rem 55 57,⟨none,none,.op (.Uy [.int,.int,.int,.int,.int,.int,.int,.int,.int,.int,.int,.int,.int,.int,.int,.int,.int] true (.t 35) (.t 36) (.t 58))⟩])))) (.region [oK 59 .add 23 1,oM 23 59])))
def Vi : AC := .region [oK 60 .add 16 1,oM 16 60]
def Zf : AC := .seq (.region [oP 17 .lss 16 15]) (.seq (.cond 17 .skip (.exit 0)) (.seq (.block 1 (.seq (.region [oX 18 18 14 16,oN 19 18 18,o0 7 (.alloc [.int .i64 0,.int .u8 0,.int .u8 0,.int .u8 0,.int .u8 0,.int .u8 0,.int .u8 0,.int .u8 0,.int .u8 0,.int .u8 0,.int .u8 0,.int .u8 0,.int .u8 0,.int .u8 0,.int .u8 0,.int .u8 0,.int .u8 0,.int .i64 0]),oS 18 7 19]) (.seq (.region [oF 20 3 3,oL 21 20,o0 22 (.len .slc (.t 21)),oI 23 0]) (.block 2 (.loop b9))))) Vi))
def Vn : AC := .seq (.region [oM 61 5,oC 62 105 [.t 2,.t 61],oS 4 4 62]) .ret
def Be : AC := .seq (.region [o0 2 (.box (.t 0)),o0 3 (.box (.t 1)),oZ 4]) (.seq (.region [o0 12 (.qag),oM 5 12]) (.seq (.seq (.region [oF 13 3 2,oL 14 13,o0 15 (.len .slc (.t 14)),oI 16 0]) (.block 0 (.loop Zf))) Vn))
theorem qfo : zr Try.prog 90 = some ⟨63, Be, [.Qj 4 4]⟩ := by kernel_rfl
theorem qfd (p c n p' c' : Int) (a b : List (Int × List Nat × Int)) (hp : 2 ≤ p ∧ p ≤ 97) (hc : 0 ≤ c ∧ c ≤ p - 1) (hn : 0 ≤ n ∧ n ≤ 8) (ha : vt p n a) (hb : vt p n b) (hl : a.length ≤ 300 ∧ b.length ≤ 300) :
    Am.Fn Try.prog 90 [elemV p c n 0 a.length, elemV p' c' n 1 b.length] [.ro (zk a), .ro (zk b)] (fun v H' => v = elemV p c n 2 (MP p n (vo p c n a b)).length ∧ H' = [.ro (zk a), .ro (zk b), .vec 18 (zk (MP p n (vo p c n a b)))]) := by
  refine Am.Fn.ofB qj1 mixed qfo (by simp [elemV, AV.qy, AV.under]) (qbt (qd _) (qd _)) ?_
  have hal := zg ha.ok
  have hbl := zg hb.ok
  simp (maxSteps := 3000000) only [qg, zH, Be, ji, yz, uo, V0, jv, Xp, elemV, hal, hbl, Nat.le_refl, iE, iN, iB, iC, iL, iD, iA, iS, iM, qa, zZ, ↓qo, ↓reduceIte, reduceCtorEq, nA, nM, nS, nE, nL, nD]; try simp only [qa, zY]
  have hlen2 : ∀ l : List (Int × List Nat × Int), (∀ t ∈ l, t ∈ vo p c n a b) → l.length ≤ 100000 → qj3 p n (ML p n l) ∧ (ML p n l).length ≤ 100000 := fun l h1 h2 => qxf (c := c) hp hc ha hb hl h1 h2
  refine WA.jn qj1 (fun s => ∃ (i : Nat) (S : List (Int × List Nat × Int)), i ≤ a.length ∧ S = ML p n (vo p c n (a.take i) b) ∧ s = ⟨[(16, .int .i64 i), (15, .int .i64 a.length), (14, .slc 0 0 a.length false 0), (5, .map 5), (4, .ptr 4 0), (3, .ptr 3 0), (2, .ptr 2 0)], [.ro (zk a), .ro (zk b), .cells [.int .i64 p, .int .i64 c, .int .i64 n, .slc 0 0 a.length false 0], .cells [.int .i64 p', .int .i64 c', .int .i64 n, .slc 1 0 b.length false 0], q47, Qp S]⟩)
    (fun s => match get s.env 16 with | .int _ x => a.length - x.toNat | _ => 0) ⟨_, qz.qx [16, 15, 14, 5, 4, 3, 2], 0, [], by omega, rfl, rfl⟩ ?_
  rintro s ⟨i, S, hi, hS, rfl⟩
  have hwi : qu .i64 ((i : Int) + 1) = ((i + 1 : Nat) : Int) := by rw [wrap64 (by omega) (by omega)]; rfl
  by_cases hlt : i < a.length
  · have hli : (i : Int) < a.length := by omega
    have hli' : (0 : Int) ≤ i := by omega
    have hg0 := kq ha.ok hlt
    have ok1 := ha.ok _ (List.getElem_mem hlt)
    have z1 := ha.dia _ (List.getElem_mem hlt)
    have c1 := ha.fac _ (List.getElem_mem hlt)
    have hb1 : i * 18 < a.length * 18 := by omega
    have hb2 : i * 18 + 18 ≤ a.length * 18 := by omega
    have hov := Jy (t := (0, List.replicate 16 0, 0)) (u := a[i]) (by simp) ok1.1
    have htl := zt (t := a[i]) ok1
    have htd := qai (t := a[i]) ok1
    have htf := gr (t := a[i]) ok1
    rw [z1.1] at htd
    have hmem : ∀ j, ∀ t ∈ vo p c n (a.take i) b ++ (b.take j).map (prT p c n a[i]), t ∈ vo p c n a b := fun j t ht => qw2 hlt ht
    have hmln : ∀ j, (vo p c n (a.take i) b ++ (b.take j).map (prT p c n a[i])).length ≤ 100000 := fun j => by
      rw [List.length_append, qep, List.length_map, List.length_take, List.length_take]
      have h1 : (min i a.length) * b.length ≤ 300 * 300 := Nat.mul_le_mul (by omega) hl.2
      omega
    have hms : vo p c n (a.take (i + 1)) b = vo p c n (a.take i) b ++ b.map (prT p c n a[i]) := qti hlt
    have hnx : ∀ j (h : j < b.length), (b.take (j + 1)).map (prT p c n a[i]) = (b.take j).map (prT p c n a[i]) ++ [prT p c n a[i] b[j]] := fun j h => qww h
    obtain ⟨t, ht⟩ : ∃ t, t = a[i] := ⟨_, rfl⟩
    rw [← ht] at hg0 ok1 z1 c1 hov htl htd htf hms
    simp only [← ht] at hmem hmln hnx
    clear ht
    simp (maxSteps := 3000000) only [qg, zH, Zf, ji, yz, uo, V0, jv, Xp, hli, hli', hal, hbl, hb1, hb2, hg0, wt, htl, vm, z8, hov, List.length_replicate, Nat.le_refl, iE, iN, iB, iC, iL, iD, iA, iS, iM, qa, zZ, ↓qo, ↓reduceIte, reduceCtorEq, nA, nM, nS, nE, nL, nD]; try simp only [qa, zY]
    have ea : vo p c n (a.take i) b = vo p c n (a.take i) b ++ (b.take 0).map (prT p c n t) := by simp
    rw [ea] at hS
    refine WA.jn qj1 (fun s => ∃ (j : Nat) (S : List (Int × List Nat × Int)), j ≤ b.length ∧ S = ML p n (vo p c n (a.take i) b ++ (b.take j).map (prT p c n t)) ∧ s = ⟨[(23, .int .i64 j), (22, .int .i64 b.length), (21, .slc 1 0 b.length false 0), (7, .ptr 6 0), (16, .int .i64 i), (15, .int .i64 a.length), (14, .slc 0 0 a.length false 0), (5, .map 5), (4, .ptr 4 0), (3, .ptr 3 0), (2, .ptr 2 0)], [.ro (zk a), .ro (zk b), .cells [.int .i64 p, .int .i64 c, .int .i64 n, .slc 0 0 a.length false 0], .cells [.int .i64 p', .int .i64 c', .int .i64 n, .slc 1 0 b.length false 0], q47, Qp S, .cells (trm t)]⟩)
      (fun s => match get s.env 23 with | .int _ x => b.length - x.toNat | _ => 0) ⟨_, qz.qx [23, 22, 21, 7, 16, 15, 14, 5, 4, 3, 2], 0, S, by omega, hS, rfl⟩ ?_
    clear hS
    rintro s ⟨j, S, hj, hS, rfl⟩
    by_cases hltj : j < b.length
    · obtain ⟨hs, hsl⟩ := hlen2 _ (hmem j) (hmln j)
      rw [← hS] at hs hsl
      have hlj : (j : Int) < b.length := by omega
      have hlj' : (0 : Int) ≤ j := by omega
      have hw : qu .i64 ((j : Int) + 1) = ((j + 1 : Nat) : Int) := by rw [wrap64 (by omega) (by omega)]; rfl
      have hq0 := kq hb.ok hltj
      have ok2 := hb.ok _ (List.getElem_mem hltj)
      have z2 := hb.dia _ (List.getElem_mem hltj)
      have c2 := hb.fac _ (List.getElem_mem hltj)
      have hb4 : j * 18 < b.length * 18 := by omega
      have hb5 : j * 18 + 18 ≤ b.length * 18 := by omega
      have hov2 := Jy (t := (0, List.replicate 16 0, 0)) (u := b[j]) (by simp) ok2.1
      have htl2 := zt (t := b[j]) ok2
      have htd2 := qai (t := b[j]) ok2
      have htf2 := gr (t := b[j]) ok2
      rw [z2.1] at htd2
      obtain ⟨t1, t2, t3, t4⟩ := qve (c := c) hp hc z1.2 z2.2 c1 c2
      have hnext : ML p n (vo p c n (a.take i) b ++ (b.take (j + 1)).map (prT p c n t)) = qco p n (prT p c n t b[j]).2.1 (prT p c n t b[j]).2.2 S := by
        rw [hnx j hltj, ← List.append_assoc, qz5, ← hS]
      obtain ⟨u, hu⟩ : ∃ u, u = b[j] := ⟨_, rfl⟩
      rw [← hu] at hq0 ok2 z2 c2 hov2 htl2 htd2 htf2 t1 t2 t3 t4 hnext
      clear hu
      have s1 := z1.2
      have s2 := z2.2
      have hprd : (prT p c n t u).2.1 = ja n.toNat t.2.1 u.2.1 := rfl
      have hprf : (prT p c n t u).2.2 = (t.2.2 * u.2.2).emod p * jk p c (lpN n.toNat t.2.1 u.2.1 n.toNat) := rfl
      rw [hprd, hprf] at hnext
      rw [hprd] at t1 t2
      rw [hprf] at t3 t4
      have hlpb : (0 : Int) ≤ ((lpN n.toNat t.2.1 u.2.1 n.toNat : Nat) : Int) ∧ ((lpN n.toNat t.2.1 u.2.1 n.toNat : Nat) : Int) ≤ 1000000 := by
        have := qgi n.toNat t.2.1 u.2.1 n.toNat; omega
      obtain ⟨w1, w2, w3, w4⟩ := pow_mul (p := p) (c := u.2.2) (x := t.2.2) hp (by omega) (by omega)
      have w5 : qu .i64 ((t.2.2 * u.2.2).emod p * jk p c (lpN n.toNat t.2.1 u.2.1 n.toNat)) = (t.2.2 * u.2.2).emod p * jk p c (lpN n.toNat t.2.1 u.2.1 n.toNat) := wrap64 (by omega) (by omega)
      have hne : p ≠ 0 := by omega
      have hn0 : 0 ≤ n := hn.1
      have t0 := t1.1
      have hvb := qy7 (by omega) hs (m := ja n.toNat t.2.1 u.2.1)
      have hkok : kok KD true (.agg (dia n (ja n.toNat t.2.1 u.2.1))) = true := qqh t0
      have hmT : Qp S = .map (esT 0 S) S.length := rfl
      have do1 := qq (n := n) ok1
      have do2 := qq (n := n) ok2
      clear hprd hprf
      cases hix : Ul n (ja n.toNat t.2.1 u.2.1) S with
      | none =>
        obtain ⟨f1, f2, f3⟩ := qox t0 hs.1.ok hix ((0 + (t.2.2 * u.2.2).emod p * jk p c (lpN n.toNat t.2.1 u.2.1 n.toNat)).emod p)
        have w6 : qu .i64 (0 + (t.2.2 * u.2.2).emod p * jk p c (lpN n.toNat t.2.1 u.2.1 n.toNat)) = 0 + (t.2.2 * u.2.2).emod p * jk p c (lpN n.toNat t.2.1 u.2.1 n.toNat) := wrap64 (by omega) (by omega)
        have w7 : Int.tmod (0 + (t.2.2 * u.2.2).emod p * jk p c (lpN n.toNat t.2.1 u.2.1 n.toNat)) p = (0 + (t.2.2 * u.2.2).emod p * jk p c (lpN n.toNat t.2.1 u.2.1 n.toNat)).emod p := Int.tmod_eq_emod_of_nonneg (by omega)
        simp (maxSteps := 3000000) only [qg, zH, b9, ji, yz, uo, V0, jv, Xp, hlj, hlj', hal, hbl, hb4, hb5, hq0, wt, htl, htl2, htd, htd2, htf, htf2, vm, z8, hov2, zn, xy, yx t0, qt t0, qb, t0, ze, List.length_replicate, Nat.le_refl, do1, do2, s1, s2, hn0, w1, w2, w5, w6, w7, hne, hp, hc, hlpb, Int.toNat_natCast, hmT, hkok, f1, vh, hw, and_self, iE, iN, iB, iC, iL, iD, iA, iS, iM, qa, zZ, ↓qo, ↓reduceIte, reduceCtorEq, nA, nM, nS, nE, nL, nD]; try simp only [qa, zY]
        rw [f3]
        refine ⟨⟨_, rfl⟩, _, qz.ve [0, 1, 2, 3, 4, 5, 6] [23, 22, 21, 7, 16, 15, 14, 5, 4, 3, 2] ⟨by decide, ?_⟩ ?_, ⟨j + 1, Gl n (ja n.toNat t.2.1 u.2.1) ((0 + (t.2.2 * u.2.2).emod p * jk p c (lpN n.toNat t.2.1 u.2.1 n.toNat)).emod p) S, by omega, by rw [hnext, qco, f2], ?_⟩, ?_⟩
        · simp only [qk _ _ (qd _), qk _ _ (yc _), Qp, ↓yn, zK, ↓reduceIte, reduceCtorEq, nE, nB, nA]
        · simp only [qk _ _ (qd _), qk _ _ (yc _), Qp, ↓yn, zK, ↓reduceIte, reduceCtorEq, nE, nB, nA]
        · simp only [qc _ _ (qd _), qc _ _ (yc _), Qp, ↓Vw, zL, ↓reduceIte, reduceCtorEq, nE, nA]
        · simp only [zL, ↓reduceIte, reduceCtorEq, nE, nA]; omega
      | some q =>
        obtain ⟨f1, f3⟩ := qpw t0 hs.1.ok hix ((W4 n (ja n.toNat t.2.1 u.2.1) S + (t.2.2 * u.2.2).emod p * jk p c (lpN n.toNat t.2.1 u.2.1 n.toNat)).emod p)
        have w6 : qu .i64 (W4 n (ja n.toNat t.2.1 u.2.1) S + (t.2.2 * u.2.2).emod p * jk p c (lpN n.toNat t.2.1 u.2.1 n.toNat)) = W4 n (ja n.toNat t.2.1 u.2.1) S + (t.2.2 * u.2.2).emod p * jk p c (lpN n.toNat t.2.1 u.2.1 n.toNat) := wrap64 (by omega) (by omega)
        have w7 : Int.tmod (W4 n (ja n.toNat t.2.1 u.2.1) S + (t.2.2 * u.2.2).emod p * jk p c (lpN n.toNat t.2.1 u.2.1 n.toNat)) p = (W4 n (ja n.toNat t.2.1 u.2.1) S + (t.2.2 * u.2.2).emod p * jk p c (lpN n.toNat t.2.1 u.2.1 n.toNat)).emod p := Int.tmod_eq_emod_of_nonneg (by omega)
        simp (maxSteps := 3000000) only [qg, zH, b9, ji, yz, uo, V0, jv, Xp, hlj, hlj', hal, hbl, hb4, hb5, hq0, wt, htl, htl2, htd, htd2, htf, htf2, vm, z8, hov2, zn, xy, yx t0, qt t0, qb, t0, ze, List.length_replicate, Nat.le_refl, do1, do2, s1, s2, hn0, w1, w2, w5, w6, w7, hne, hp, hc, hlpb, Int.toNat_natCast, hmT, hkok, f1, vh, hw, and_self, iE, iN, iB, iC, iL, iD, iA, iS, iM, qa, zZ, ↓qo, ↓reduceIte, reduceCtorEq, nA, nM, nS, nE, nL, nD]; try simp only [qa, zY]
        rw [f3]
        refine ⟨⟨_, rfl⟩, _, qz.ve [0, 1, 2, 3, 4, 5, 6] [23, 22, 21, 7, 16, 15, 14, 5, 4, 3, 2] ⟨by decide, ?_⟩ ?_, ⟨j + 1, Gl n (ja n.toNat t.2.1 u.2.1) ((W4 n (ja n.toNat t.2.1 u.2.1) S + (t.2.2 * u.2.2).emod p * jk p c (lpN n.toNat t.2.1 u.2.1 n.toNat)).emod p) S, by omega, by rw [hnext, qco], ?_⟩, ?_⟩
        · simp only [qk _ _ (qd _), qk _ _ (yc _), Qp, ↓yn, zK, ↓reduceIte, reduceCtorEq, nE, nB, nA]
        · simp only [qk _ _ (qd _), qk _ _ (yc _), Qp, ↓yn, zK, ↓reduceIte, reduceCtorEq, nE, nB, nA]
        · simp only [qc _ _ (qd _), qc _ _ (yc _), Qp, ↓Vw, zL, ↓reduceIte, reduceCtorEq, nE, nA]
        · simp only [zL, ↓reduceIte, reduceCtorEq, nE, nA]; omega
    · have hlj : ¬ ((j : Int) < b.length) := by omega
      obtain rfl : j = b.length := by omega
      simp (maxSteps := 3000000) only [qg, zH, b9, Vi, ji, yz, uo, V0, jv, Xp, hlj, hwi, hbl, Int.lt_irrefl, iE, iN, iB, iC, iL, iD, iA, iS, iM, qa, zZ, ↓qo, ↓reduceIte, reduceCtorEq, nA, nM, nS, nE, nL, nD]; try simp only [qa, zY]
      refine ⟨_, qz.ve [0, 1, 2, 3, 4, 5] [16, 15, 14, 5, 4, 3, 2] ⟨by decide, ?_⟩ ?_, ⟨i + 1, S, by omega, by rw [hS, List.take_length, hms], ?_⟩, ?_⟩
      · simp only [qk _ _ (qd _), Qp, ↓yn, zK, ↓reduceIte, reduceCtorEq, nE, nB, nA]
      · simp only [qk _ _ (qd _), Qp, ↓yn, zK, ↓reduceIte, reduceCtorEq, nE, nB, nA]
      · simp only [qc _ _ (qd _), Qp, ↓Vw, zL, ↓reduceIte, reduceCtorEq, nE, nA]
      · simp only [zL, ↓reduceIte, reduceCtorEq, nE, nA]; omega
  · have hli : ¬ ((i : Int) < a.length) := by omega
    obtain rfl : i = a.length := by omega
    rw [List.take_length] at hS
    obtain ⟨hs, hsl⟩ := hlen2 (vo p c n a b) (fun t h => h) (by
      rw [qep]
      have : a.length * b.length ≤ 300 * 300 := Nat.mul_le_mul hl.1 hl.2
      omega)
    have hlaw := qzr (p := p) (n := n) (by omega) (qor (c := c) hp hc ha hb)
    have hll : (xn p (ML p n (vo p c n a b))).length = (MP p n (vo p c n a b)).length := by rw [← hlaw]; exact (Qe _).length_eq.symm
    rw [← hll, ← hlaw]
    rw [← hS] at hs hsl ⊢
    clear hS hll hlaw
    have hap := qsg hs.1
    obtain ⟨hz1, hz2, hz3⟩ := q3o (p := p) hn hs.1
    have hSo := hs.1.ok
    have hmT : Qp S = .map (esT 0 S) S.length := rfl
    have hts := qrk (ts := S) (k := 0) hSo
    have hSl' : S.length ≤ 1000000 := by omega
    have hpp : 0 < p ∧ p ≤ 1000000 := by omega
    simp (maxSteps := 3000000) only [qg, zH, Zf, Vn, ji, yz, uo, V0, jv, Xp, hli, hmT, Int.lt_irrefl, hts, hpp, hSl', hz1, hz2, hap, and_self, elemV, iE, iN, iB, iC, iL, iD, iA, iS, iM, qa, zZ, ↓qo, ↓reduceIte, reduceCtorEq, nA, nM, nS, nE, nL, nD]; try simp only [qa, zY]
    rw [hz3]
    refine ⟨hz2, rfl, ?_⟩
    refine Ret.ve [0, 1, 6] ⟨⟨by simp, rfl, by decide⟩, ?_⟩ (rs := [.agg [.int .i64 p, .int .i64 c, .int .i64 n, .slc 6 0 (xn p S).length false 0]]) rfl rfl (by simp [xw]) ?_ ⟨?_, ?_⟩
    · simp only [qk _ _ (qd _), ↓yn, zK, ↓reduceIte, reduceCtorEq, nE, nB, nA]
    · intro j l; match j with
      | 0 => simp [zi, AO.ren]
      | 1 => simp [zi, AO.ren]
      | 2 => simp [zi, AO.ren]
      | j + 3 => simp [zi]
    · simp only [xw]
      simp only [zL, ↓reduceIte, reduceCtorEq, nE, nA]
    · simp only [qc _ _ (qd _), zL, ↓reduceIte, reduceCtorEq, nE, nA]
noncomputable def B88 : za := (B87.put 90 (U3))
theorem q2a : qn Try.prog B88 := (qj1.put (qvv qfd))
theorem qi0 {p c n : Int} (hp : 2 ≤ p ∧ p ≤ 97) (hc : 0 ≤ c ∧ c ≤ p - 1) {a b : List (Int × List Nat × Int)} (ha : vt p n a) (hb : vt p n b) (hl : a.length ≤ 300 ∧ b.length ≤ 300) : vt p n (MP p n (vo p c n a b)) ∧ (MP p n (vo p c n a b)).length ≤ 100000 := by
  have h0 : vt p n [] := ⟨(fun t h => by cases h), (fun t h => by cases h), (fun t h => by cases h), .nil⟩
  have h := qf9 (p := p) (F := 10000) (φ := id) (κ := fun _ => 1) (by omega) h0 (qor (c := c) hp hc ha hb)
  refine ⟨h.1, Nat.le_trans h.2 ?_⟩
  rw [List.length_nil, qep]
  have h1 : a.length * b.length ≤ 300 * 300 := Nat.mul_le_mul hl.1 hl.2
  omega
noncomputable def B89 : za := B88
theorem q2u : qn Try.prog B89 := q2a
theorem U6 (l : List (Int × List Nat × Int)) : AV.wv (zk l) = [] := z6 _ (qd l)
noncomputable def B91 : za := ((B89.put 143 (Qf)).put 88 (qm jl))
theorem qw9 : qn Try.prog B91 := ((q2u.put (qyj)).put (qhq q2l))
theorem Wt {m : List Nat} {i k : Nat} (hm : okD m) (hi : i < 16) (hk : k < 16) : okD ((m.set i k).set k i) := by
  refine ⟨by simp [hm.1], fun x hx => ?_⟩
  rcases List.mem_or_eq_of_mem_set hx with hx | rfl
  · rcases List.mem_or_eq_of_mem_set hx with hx | rfl
    · exact hm.2 x hx
    · omega
  · omega
def qcs : AC := .seq (.region [o0 3 (.box (.t 0)),oD 6]) (.seq (.region [oM 7 1,oM 8 2,o0 9 (.conv .u8 (.t 8)),oF 10 1 3,o0 11 (.xp 16 1 (.t 10) (.t 7)),oT 11 9]) (.seq (.region [oM 12 2,oM 13 1,o0 14 (.conv .u8 (.t 13)),oF 15 1 3,o0 16 (.xp 16 1 (.t 15) (.t 12)),oT 16 14]) (.seq (.region [oN 17 17 3,oS 17 6 17]) .ret)))
theorem qmi : zr Try.prog 139 = some ⟨18, qcs, [.Qj 6 17]⟩ := by kernel_rfl
theorem qlm (n : Int) (m : List Nat) (i k : Nat) (hm : okD m) (hi : i < 16) (hk : k < 16) :
    Am.Fn Try.prog 139 [.agg (dia n m), .int .i64 i, .int .i64 k] [] (fun v H' => v = .agg (dia n ((m.set i k).set k i)) ∧ H' = []) := by
  refine Am.Fn.jd (R := fun v => v = _) qw9 mixed qmi (by simp) (by simp) ?_
  obtain ⟨a1, a2⟩ := kg hi
  obtain ⟨b1, b2⟩ := kg hk
  have hu1 : qu .u8 (i : Int) = i := Uz (by omega)
  have hu2 : qu .u8 (k : Int) = k := Uz (by omega)
  have hml := hm.1
  have hs := (Wt hm hi hk).1
  simp (maxSteps := 3000000) only [qg, zH, qcs, zn, xy, qb, hml, List.length_set, a1, a2, b1, b2, hu1, hu2, qau, AV.one, qt hs, zy qw hs, ze, List.length_replicate, iE, iN, iB, iC, iL, iD, iA, iS, iM, qa, zZ, ↓qo, ↓reduceIte, reduceCtorEq, nA, nM, nS, nE, nL, nD]; try simp only [qa, zY]
  exact qe _ _
def u4 : List AV → Option AV
  | [.agg l, .int .i64 i, .int .i64 k] => match ui l with
    | some (n, m) => chk ((0 ≤ i ∧ i < 16) ∧ (0 ≤ k ∧ k < 16)) (some (.agg (dia n ((m.set i.toNat k.toNat).set k.toNat i.toNat))))
    | none => none
  | _ => none
theorem q0q : Am.Callee Try.prog 139 (qm u4) := Am.Callee.plain fun xs v he => by
  unfold u4 at he
  split at he
  · rename_i l i k
    split at he
    · rename_i n m hd
      obtain ⟨⟨h1, h2⟩, he⟩ := ql he
      cases he
      obtain ⟨rfl, hm⟩ := zp hd
      obtain ⟨i, rfl⟩ : ∃ j : Nat, i = j := ⟨i.toNat, by omega⟩
      obtain ⟨k, rfl⟩ : ∃ j : Nat, k = j := ⟨k.toNat, by omega⟩
      simp only [Int.toNat_natCast]
      exact ⟨by simp only [AV.zb, AV.zl, qe, Bool.and_self], by simp only [AV.zl, qe], qlm n m i k hm (by omega) (by omega)⟩
    · cases he
  · cases he
noncomputable def B92 : za := (B91.put 139 (qm u4))
theorem qpx : qn Try.prog B92 := (qw9.put (q0q))
theorem Xm : B92 103 = some (Gk y5) := rfl
theorem Qs : B92 97 = some (Z2) := rfl
theorem bq : B92 143 = some (Qf) := rfl
theorem V5 : B92 88 = some (qm jl) := rfl
theorem Zz : B92 139 = some (qm u4) := rfl
def V2 : AC := .seq (.seq (.region [oM 7 4,oM 8 0,oP 9 .lss 7 8]) (.cond 9 .skip (.exit 0))) (.seq (.block 1 (.region [oN 12 17 3,oM 13 4,oM 14 0,oM 15 4,oP 16 .add 14 15,oC 17 139 [.t 12,.t 13,.t 16],oS 17 3 17])) (.region [oM 10 4,oK 11 .add 10 1,oM 4 11]))
def Kd : AC := .seq (.region [oN 18 17 3,oS 17 2 18]) .ret
def qem : AC := .seq (.region [oD 2]) (.seq (.region [oM 5 0,o0 6 (.build [.int .i64 0,.int .u8 0,.int .u8 0,.int .u8 0,.int .u8 0,.int .u8 0,.int .u8 0,.int .u8 0,.int .u8 0,.int .u8 0,.int .u8 0,.int .u8 0,.int .u8 0,.int .u8 0,.int .u8 0,.int .u8 0,.int .u8 0] [(0,1,.t 5)]),oD 3,oS 17 3 6]) (.seq (.seq (.region [oI 4 0]) (.block 0 (.loop V2))) Kd))
theorem qqb : zr Try.prog 83 = some ⟨19, qem, [.Qj 2 17]⟩ := by kernel_rfl
theorem qpu (n : Nat) (hn : n ≤ 8) : Am.Fn Try.prog 83 [.int .i64 n] [] (fun v H' => v = .agg (dia n (gh n)) ∧ H' = []) := by
  refine Am.Fn.jd (R := fun v => v = _) qpx mixed qqb (by simp) (by simp) ?_
  simp (maxSteps := 3000000) only [qg, zH, qem, Xm, Qs, bq, V5, Zz, Z2, Qf, y5, u4, jl, zn, xy, Zq, qb, ze, zy qw qw, List.length_replicate, iE, iN, iB, iC, iL, iD, iA, iS, iM, qa, zZ, ↓qo, ↓reduceIte, reduceCtorEq, nA, nM, nS, nE, nL, nD]; try simp only [qa, zY]
  refine WA.jn qpx (fun s => ∃ i : Nat, i ≤ n ∧ s = ⟨[(4, .int .i64 i), (3, .ptr 1 0), (2, .ptr 0 0), (0, .int .i64 n)], [.cells (dia 0 (List.replicate 16 0)), .cells (dia n (Vo n i))]⟩)
    (fun s => match get s.env 4 with | .int _ x => n - x.toNat | _ => 0) ⟨_, qz.qx [4, 3, 2, 0], 0, by omega, rfl⟩ ?_
  rintro s ⟨i, hi, rfl⟩
  have hw : qu .i64 ((i : Int) + 1) = ((i + 1 : Nat) : Int) := by rw [wrap64 (by omega) (by omega)]; rfl
  have hok := qaw hn hi
  have hok1 := hok.1
  by_cases hlt : i < n
  · have hli : (i : Int) < (n : Int) := by omega
    have h2 : qu .i64 ((n : Int) + i) = ((n + i : Nat) : Int) := by rw [wrap64 (by omega) (by omega)]; rfl
    have c1 : (0 : Int) ≤ i ∧ (i : Int) < 16 := by omega
    have c2 : (0 : Int) ≤ (n + i : Nat) ∧ ((n + i : Nat) : Int) < 16 := by omega
    have hnext : Vo n (i + 1) = ((Vo n i).set i (n + i)).set (n + i) i := rfl
    have hok2 := (qaw hn hlt).1
    rw [hnext] at hok2
    simp (maxSteps := 3000000) only [qg, zH, V2, Xm, Qs, bq, V5, Zz, Z2, Qf, y5, u4, jl, hli, hw, h2, qq hok, c1, c2, qb, hok1, hok2, qt hok1, zy hok1 hok2, ze, List.length_set, and_self, iE, iN, iB, iC, iL, iD, iA, iS, iM, qa, zZ, ↓qo, ↓reduceIte, reduceCtorEq, nA, nM, nS, nE, nL, nD]; try simp only [qa, zY]
    refine ⟨_, qz.qx [4, 3, 2, 0], ⟨i + 1, by omega, ?_⟩, ?_⟩
    · simp only [zL, ↓reduceIte, reduceCtorEq, nE, nA]; rw [hnext]
    · simp only [zL, ↓reduceIte, reduceCtorEq, nE, nA]; omega
  · have hli : ¬ ((i : Int) < (n : Int)) := by omega
    obtain rfl : i = n := by omega
    simp (maxSteps := 3000000) only [qg, zH, V2, Kd, Xm, Qs, bq, V5, Zz, Z2, Qf, y5, u4, jl, hli, qb, hok1, qt hok1, zy qw hok1, ze, List.length_replicate, Int.lt_irrefl, iE, iN, iB, iC, iL, iD, iA, iS, iM, qa, zZ, ↓qo, ↓reduceIte, reduceCtorEq, nA, nM, nS, nE, nL, nD]; try simp only [qa, zY]
    exact ⟨qe _ _, rfl⟩
noncomputable def B93 : za := (B92.put 83 (qm jl))
theorem qol : qn Try.prog B93 := (qpx.put (qhq qpu))
theorem Yx : B93 103 = some (Gk y5) := rfl
theorem Vj : B93 97 = some (Z2) := rfl
theorem Zl : B93 143 = some (Qf) := rfl
theorem G6 : B93 88 = some (qm jl) := rfl
theorem Wb : B93 139 = some (qm u4) := rfl
theorem Yu : B93 83 = some (qm jl) := rfl
def Uv (n i : Nat) : List Nat := ((((gh n).set i (i + 1)).set (i + 1) i).set (n + i) (n + i + 1)).set (n + i + 1) (n + i)
theorem qyh {n : Nat} (h : 1 ≤ n ∧ n ≤ 8) : isS n (gh n) = true := by
  have h0 : ((List.range 9).all fun n => n == 0 || isS n (gh n)) = true := by decide
  have h1 := List.all_eq_true.1 h0 n (List.mem_range.2 (by omega))
  simpa [show n ≠ 0 by omega] using h1
theorem qrt {n i : Nat} (h : n ≤ 8) (hi : i + 1 < n) : isS n (Uv n i) = true := by
  have h0 : ((List.range 9).all fun n => (List.range n).all fun i => i + 1 == n || isS n (Uv n i)) = true := by decide
  have h1 := List.all_eq_true.1 (List.all_eq_true.1 h0 n (List.mem_range.2 (by omega))) i (List.mem_range.2 (by omega))
  simpa [show i + 1 ≠ n by omega] using h1
theorem Bj {n : Nat} (hn : n ≤ 8) : okD (gh n) := qaw hn (Nat.le_refl n)
theorem qac {n i : Nat} (hn : n ≤ 8) (hi : i + 1 < n) : okD (Uv n i) := Wt (Wt (Bj hn) (by omega) (by omega)) (by omega) (by omega)
def qev : AC := .seq (.region [oD 4]) (.seq (.region [oM 5 0,oC 6 83 [.t 5],oM 7 1,oM 8 1,oK 9 .add 8 1,oC 10 139 [.t 6,.t 7,.t 9],oM 11 0,oM 12 1,oP 13 .add 11 12,oM 14 0,oM 15 1,oP 16 .add 14 15,oK 17 .add 16 1,oC 18 139 [.t 10,.t 13,.t 17],oS 17 4 18]) .ret)
theorem qp1 : zr Try.prog 84 = some ⟨19, qev, [.Qj 4 17]⟩ := by kernel_rfl
theorem qo8 (n i : Nat) (hn : n ≤ 8) (hi : i + 1 < n) : Am.Fn Try.prog 84 [.int .i64 n, .int .i64 i] [] (fun v H' => v = .agg (dia n (Uv n i)) ∧ H' = []) := by
  refine Am.Fn.jd (R := fun v => v = _) qol mixed qp1 (by simp) (by simp) ?_
  have w1 : qu .i64 ((i : Int) + 1) = ((i + 1 : Nat) : Int) := by rw [wrap64 (by omega) (by omega)]; rfl
  have w2 : qu .i64 ((n : Int) + i) = ((n + i : Nat) : Int) := by rw [wrap64 (by omega) (by omega)]; rfl
  have w3 : qu .i64 (((n + i : Nat) : Int) + 1) = ((n + i + 1 : Nat) : Int) := by rw [wrap64 (by omega) (by omega)]; rfl
  have c0 : (0 : Int) ≤ n ∧ (n : Int) ≤ 8 := by omega
  have c1 : (0 : Int) ≤ i ∧ (i : Int) < 16 := by omega
  have c2 : (0 : Int) ≤ (i + 1 : Nat) ∧ ((i + 1 : Nat) : Int) < 16 := by omega
  have c3 : (0 : Int) ≤ (n + i : Nat) ∧ ((n + i : Nat) : Int) < 16 := by omega
  have c4 : (0 : Int) ≤ (n + i + 1 : Nat) ∧ ((n + i + 1 : Nat) : Int) < 16 := by omega
  have o1 := Bj hn
  have o2 := Wt (i := i) (k := i + 1) o1 (by omega) (by omega)
  have o3 : ((((gh n).set i (i + 1)).set (i + 1) i).set (n + i) (n + i + 1)).set (n + i + 1) (n + i) = Uv n i := rfl
  have o4 := (qac hn hi).1
  simp (maxSteps := 3000000) only [qg, zH, qev, Yx, Vj, Zl, G6, Wb, Yu, Z2, Qf, y5, u4, jl, w1, w2, w3, c0, c1, c2, c3, c4, qq o1, qq o2, o3, zn, xy, qb, o4, qt o4, zy qw o4, ze, List.length_replicate, and_self, iE, iN, iB, iC, iL, iD, iA, iS, iM, qa, zZ, ↓qo, ↓reduceIte, reduceCtorEq, nA, nM, nS, nE, nL, nD]; try simp only [qa, zY]
  exact qe _ _
def Zi : List AV → Option AV
  | [.int .i64 n, .int .i64 i] => chk (n ≤ 8 ∧ 0 ≤ i ∧ i + 1 < n) (some (.agg (dia n (Uv n.toNat i.toNat))))
  | _ => none
theorem qkf {f : FuncId} (h : ∀ n i : Nat, n ≤ 8 → i + 1 < n → Am.Fn Try.prog f [.int .i64 n, .int .i64 i] [] (fun v H' => v = .agg (dia n (Uv n i)) ∧ H' = [])) : Am.Callee Try.prog f (qm Zi) := Am.Callee.plain fun xs v he => by
  unfold Zi at he
  split at he
  · rename_i n i
    obtain ⟨h1, he⟩ := ql he
    cases he
    obtain ⟨n, rfl⟩ : ∃ j : Nat, n = j := ⟨n.toNat, by omega⟩
    obtain ⟨i, rfl⟩ : ∃ j : Nat, i = j := ⟨i.toNat, by omega⟩
    simp only [Int.toNat_natCast]
    exact ⟨rfl, by simp only [AV.zl, qe], h n i (by omega) (by omega)⟩
  · cases he
def Gs : AC := .seq (.region [oD 4]) (.seq (.region [oM 6 0,oC 7 88 [.t 6],oD 5,oS 17 5 7]) (.seq (.region [oM 8 1,oM 9 1,oK 10 .add 9 1,oC 11 143 [.t 5,.t 8,.t 10]]) (.seq (.region [oM 12 0,oM 13 1,oP 14 .add 12 13,oM 15 0,oM 16 1,oP 17 .add 15 16,oK 18 .add 17 1,oC 19 143 [.t 5,.t 14,.t 18]]) (.seq (.region [oN 20 17 5,oS 17 4 20]) .ret))))
theorem qg9 : zr Try.prog 125 = some ⟨21, Gs, [.Qj 4 17]⟩ := by kernel_rfl
theorem qgx (n i : Nat) (hn : n ≤ 8) (hi : i + 1 < n) : Am.Fn Try.prog 125 [.int .i64 n, .int .i64 i] [] (fun v H' => v = .agg (dia n (Uv n i)) ∧ H' = []) := by
  refine Am.Fn.jd (R := fun v => v = _) qol mixed qg9 (by simp) (by simp) ?_
  have w1 : qu .i64 ((i : Int) + 1) = ((i + 1 : Nat) : Int) := by rw [wrap64 (by omega) (by omega)]; rfl
  have w2 : qu .i64 ((n : Int) + i) = ((n + i : Nat) : Int) := by rw [wrap64 (by omega) (by omega)]; rfl
  have w3 : qu .i64 (((n + i : Nat) : Int) + 1) = ((n + i + 1 : Nat) : Int) := by rw [wrap64 (by omega) (by omega)]; rfl
  have c0 : (0 : Int) ≤ n ∧ (n : Int) ≤ 8 := by omega
  have c1 : (0 : Int) ≤ i ∧ (i : Int) < 16 := by omega
  have c2 : (0 : Int) ≤ (i + 1 : Nat) ∧ ((i + 1 : Nat) : Int) < 16 := by omega
  have c3 : (0 : Int) ≤ (n + i : Nat) ∧ ((n + i : Nat) : Int) < 16 := by omega
  have c4 : (0 : Int) ≤ (n + i + 1 : Nat) ∧ ((n + i + 1 : Nat) : Int) < 16 := by omega
  have o1 := Bj hn
  have o2 := Wt (i := i) (k := i + 1) o1 (by omega) (by omega)
  have o3 : ((((gh n).set i (i + 1)).set (i + 1) i).set (n + i) (n + i + 1)).set (n + i + 1) (n + i) = Uv n i := rfl
  have o4 := (qac hn hi).1
  have o5 := o1.1
  simp (maxSteps := 3000000) only [qg, zH, Gs, Yx, Vj, Zl, G6, Wb, Yu, Z2, Qf, y5, u4, jl, w1, w2, w3, c0, c1, c2, c3, c4, qq o1, qq o2, o3, zn, xy, qb, o4, o5, qt o4, qt o5, zy qw o4, zy qw o5, ze, List.length_replicate, and_self, iE, iN, iB, iC, iL, iD, iA, iS, iM, qa, zZ, ↓qo, ↓reduceIte, reduceCtorEq, nA, nM, nS, nE, nL, nD]; try simp only [qa, zY]
  exact qe _ _
noncomputable def B94 : za := ((B93.put 84 (qm Zi)).put 125 (qm Zi))
theorem q2p : qn Try.prog B94 := ((qol.put (qkf qo8)).put (qkf qgx))
noncomputable def B95 : za := B94
theorem qx9 : qn Try.prog B95 := q2p
noncomputable def B97 : za := B95
theorem qvz : qn Try.prog B97 := qx9
def gBl (n k : Nat) : List AO := (List.range k).map fun i => .vec 18 (zk [((n : Int), Uv n i, 1)])
def gCl (p c n : Int) (base : Nat) : Nat → List AV
  | 0 => []
  | k + 1 => gCl p c n base k ++ [.int .i64 p, .int .i64 c, .int .i64 n, .slc (base + k) 0 1 false 0]
theorem Zw {p c n : Int} {base : Nat} : ∀ k, (gCl p c n base k).length = k * 4
  | 0 => rfl
  | k + 1 => by rw [gCl, List.length_append, Zw k, Nat.succ_mul]; rfl
theorem Uk {p c n : Int} {base : Nat} : ∀ k, ∀ b ∈ AV.wv (gCl p c n base k), base ≤ b ∧ b < base + k
  | 0, b, h => by cases h
  | k + 1, b, h => by
    rw [gCl, Ya, List.mem_append] at h
    rcases h with h | h
    · have := Uk k b h; omega
    · simp [AV.wv, AV.refs] at h; omega
theorem q0t {p c n : Int} {base k m : Nat} (h : base + k ≤ m) (ids : List Nat) : (AV.wv (gCl p c n base k)).all (inL m ids) = true :=
  List.all_eq_true.2 fun b hb => by have := Uk k b hb; simp only [inL, decide_eq_true (show b < m by omega), Bool.true_or]
theorem qzo {p c n : Int} {base k m : Nat} (h : base + k ≤ m) (ids : List Nat) : AV.zh (Wp m ids) (gCl p c n base k) = gCl p c n base k :=
  kf _ fun b hb => by have := Uk k b hb; exact Jj (by omega)
def gH (p c : Int) (n k : Nat) : List AO := .ro [.int .i64 p, .int .i64 c, .int .i64 n] :: gBl n k
theorem qhj {p c : Int} {n k : Nat} : (gH p c n k).length = k + 1 := by simp [gH, gBl]
theorem qz8 {p c : Int} {n k : Nat} : gH p c n (k + 1) = gH p c n k ++ [.vec 18 (zk [((n : Int), Uv n k, 1)])] := by
  simp only [gH, gBl, List.range_succ, List.map_append, List.map_cons, List.map_nil, List.cons_append]
theorem q4t {p c : Int} {n k : Nat} : Lok (gH p c n k) := fun o ho b hb => by
  rcases List.mem_cons.1 ho with rfl | ho
  · simp [AO.refs, AV.wv, AV.refs] at hb
  · obtain ⟨i, _, rfl⟩ := List.mem_map.1 ho
    rw [AO.refs, z6 _ (qd _)] at hb; cases hb
theorem Jm : B97 125 = some (qm Zi) := rfl
theorem Y6 : B97 103 = some (Gk y5) := rfl
def wz : AC := .seq (.region [oP 12 .lss 11 10]) (.seq (.cond 12 .skip (.exit 0)) (.seq (.block 1 (.seq (.region [oM 13 11,oM 4 13]) (.draw true [oM 14 3,oM 15 0,o0 16 (.ju (.t 15)),oF 17 0 16,oL 18 17,oM 19 0,o0 20 (.ju (.t 19)),oF 21 1 20,oL 22 21,oM 23 0,o0 24 (.ju (.t 23)),oF 25 2 24,oL 26 25,oM 27 4,oC 28 125 [.t 26,.t 27],oC 29 103 [.t 18,.t 22,.t 28,(.c (.int .i64 1))],o0 30 (.ga 1 [.int .i64 0,.int .i64 0,.int .i64 0,(.v (.slice none 0 0))] [(0,4,.t 29)]),o0 31 (.append 4 48 (.t 14) (.t 30)),oM 3 31]))) (.region [oK 32 .add 11 1,oM 11 32])))
def kj : AC := .seq (.region [oM 33 3,oM 2 33]) .ret
def Q4 : AC := .seq (.region [o0 2 (.mov (.c (.v (.slice none 0 0))))]) (.seq (.region [o0 5 (.ga 0 [] []),oM 3 5]) (.seq (.seq (.region [oM 6 0,o0 7 (.ju (.t 6)),oF 8 2 7,oL 9 8,oK 10 .sub 9 1,oI 11 0]) (.block 0 (.loop wz))) kj))
theorem Ym : zr Try.prog 89 = some ⟨34, Q4, [.slot 2]⟩ := by kernel_rfl
theorem qfp (p c : Int) (n : Nat) (hp : 2 ≤ p ∧ p ≤ 97) (hn : 1 ≤ n ∧ n ≤ 8) :
    Am.Fn Try.prog 89 [.ptr 0 0] [.ro [.int .i64 p, .int .i64 c, .int .i64 n]] (fun v H' => v = .slc n 0 (n - 1) false 0 ∧ H' = gH p c n (n - 1) ++ [.vec 4 (gCl p c n 1 (n - 1))]) := by
  refine Am.Fn.ofW qvz mixed Ym (by simp [AV.qy, AV.under]) (ku rfl) ?_
  have hw1 : qu .i64 ((n : Int) - 1) = ((n - 1 : Nat) : Int) := by rw [wrap64 (by omega) (by omega)]; omega
  simp (maxSteps := 3000000) only [qg, zH, Q4, Jm, Y6, Zi, y5, hw1, iE, iN, iB, iC, iL, iD, iA, iS, iM, qa, zZ, ↓qo, ↓reduceIte, reduceCtorEq, nA, nM, nS, nE, nL, nD]; try simp only [qa, zY]
  refine WA.jn qvz (fun s => ∃ i : Nat, i ≤ n - 1 ∧ s = ⟨[(0, .ptr 0 0), (3, .slc (gH p c n i).length 0 i false 0), (10, .int .i64 (n - 1 : Nat)), (11, .int .i64 i)], gH p c n i ++ [.vec 4 (gCl p c n 1 i)]⟩)
    (fun s => match get s.env 11 with | .int _ x => n - x.toNat | _ => 0) ⟨_, qz.trans (qz.qx [0, 3, 10, 11]) (qz.vec 1 0 4 (by decide) rfl rfl rfl rfl), 0, by omega, ?_⟩ ?_
  · simp only [qx, zj, zV, ↓reduceIte, nE, reduceCtorEq, nB]
    rfl
  rintro s ⟨i, hi, rfl⟩
  have hw : qu .i64 ((i : Int) + 1) = ((i + 1 : Nat) : Int) := by rw [wrap64 (by omega) (by omega)]; rfl
  have hLok := q4t (p := p) (c := c) (n := n) (k := i)
  have hlen := qhj (p := p) (c := c) (n := n) (k := i)
  have hLn : 1 ≤ (gH p c n i).length := by omega
  have h00 : 0 < (gH p c n i).length := by omega
  have hL0 : ∀ r, (gH p c n i ++ r)[0]? = some (.ro [.int .i64 p, .int .i64 c, .int .i64 n]) := fun r => rfl
  have hcl := Zw (p := p) (c := c) (n := n) (base := 1) i
  have htk : List.take (i * 4) (gCl p c n 1 i) = gCl p c n 1 i := List.take_of_length_le (by omega)
  have hin := q0t (p := p) (c := c) (n := n) (base := 1) (k := i) (m := (gH p c n i).length) (by omega)
  have hrn := qzo (p := p) (c := c) (n := n) (base := 1) (k := i) (m := (gH p c n i).length) (by omega)
  have hnx := qz8 (p := p) (c := c) (n := n) (k := i)
  have hcx : gCl p c n 1 (i + 1) = gCl p c n 1 i ++ [.int .i64 p, .int .i64 c, .int .i64 n, .slc (gH p c n i).length 0 1 false 0] := by rw [gCl, hlen, Nat.add_comm]
  by_cases hlt : i < n - 1
  · have hli : (i : Int) < ((n - 1 : Nat) : Int) := by omega
    have c1 : (n : Int) ≤ 8 ∧ (0 : Int) ≤ i ∧ (i : Int) + 1 < n := by omega
    have c2 : 0 < p ∧ p ≤ 1000000 := by omega
    have c3 : (0 : Int) ≤ n ∧ (n : Int) ≤ 8 := by omega
    have h1 : (1 : Int).emod p = 1 := Int.emod_eq_of_lt (by omega) (by omega)
    have o1 := qac (n := n) (i := i) (by omega) (by omega)
    have hll1 : ((i : Nat) + 1) * 48 ≤ 1099511627776 := by omega
    generalize gH p c n i = L at *
    simp (maxSteps := 3000000) only [qg, zH, zA, wz, Jm, Y6, Zi, y5, hli, hw, hL0, c1, c2, c3, qq o1, h1, if_false, qoo, elemV, U5, qc _ _ (qd _), qc _ _ (qe _ _), hcl, htk, hll1, src, lim, Zk, Option.map_some, Option.map_none, Nat.sub_zero, Nat.mul_one, Nat.one_mul, and_self, Nat.le_refl, Int.toNat_natCast, iE, iN, iB, iC, iL, iD, iA, iS, iM, qa, zZ, ↓qo, ↓reduceIte, reduceCtorEq, nA, nM, nS, nE, nL, nD]; try simp only [qa, zY]
    refine ⟨⟨_, rfl⟩, ⟨_, rfl⟩, rfl, _, qz.qq9 hLok hLn [1, 3] [0, 3, 10, 11] (by simp only [hin, h00, U6, zC, zN, nB, nD, nA, nE, ↓reduceIte, reduceCtorEq]), ⟨i + 1, by omega, ?_⟩, ?_⟩
    · simp only [hrn, Jj h00, qc _ _ (qd _), zM, zL, ↓reduceIte, reduceCtorEq, nE, nA]
      rw [hnx, hcx]
      simp only [List.append_assoc, List.length_append, List.length_cons, List.length_nil, List.cons_append, List.nil_append, Nat.zero_add]
    · simp only [zM, zL, ↓reduceIte, reduceCtorEq, nE, nA]; omega
  · have hli : ¬ (i : Int) < ((n - 1 : Nat) : Int) := by omega
    obtain rfl : i = n - 1 := by omega
    simp (maxSteps := 3000000) only [qg, zH, zA, wz, kj, hli, Int.lt_irrefl, iE, iN, iB, iC, iL, iD, iA, iS, iM, qa, zZ, ↓qo, ↓reduceIte, reduceCtorEq, nA, nM, nS, nE, nL, nD]; try simp only [qa, zY]
    refine ⟨_, qz.refl _, Ret.all (rs := [.slc (gH p c n (n - 1)).length 0 (n - 1) false 0]) ?_ (by simp) rfl (fun b hb => by simp [xw, AV.refs] at hb; simp [hb]) (by simp [xw]) ?_ ⟨by simp only [xw]; rw [qhj]; congr 1; omega, rfl⟩⟩
    · intro o ho b hb
      simp only [List.length_append, List.length_cons, List.length_nil]
      rcases List.mem_append.1 ho with ho | ho
      · have := hLok o ho b hb; omega
      · simp only [List.mem_singleton] at ho
        subst ho
        have := Uk (n - 1) b hb
        omega
    · intro j l hj
      match j, hj with
      | 0, _ => exact ⟨_, rfl⟩
      | j + 1, hj =>
        exfalso
        have := List.mem_of_getElem? hj
        simp only [gH, List.cons_append, List.getElem?_cons_succ] at hj
        have := List.mem_of_getElem? hj
        rcases List.mem_append.1 this with h | h
        · obtain ⟨i, _, h⟩ := List.mem_map.1 h; cases h
        · simp at h
theorem qij {p c n : Int} {base base' : Nat} {ρ : Ren} : ∀ k, (∀ j, j < k → ρ (base + j) = some (base' + j, 0)) → AV.zh ρ (gCl p c n base k) = gCl p c n base' k
  | 0, _ => rfl
  | k + 1, h => by
    rw [gCl, Bs, qij k fun j hj => h j (by omega), gCl]
    simp [AV.zh, AV.ren, h k (by omega)]
theorem q1p {n k : Nat} {ρ : Ren} : (gBl n k).map (AO.ren ρ) = gBl n k := by
  unfold gBl
  rw [List.map_map]
  refine List.map_congr_left fun i _ => ?_
  simp only [Function.comp, AO.ren, qc _ _ (qd _)]
def Jk : BE := fun hp xs => match xs with
  | [.ptr b 0] => match rd hp b with
    | some (.int .i64 p :: .int .i64 c :: .int .i64 n :: _) => chk ((2 ≤ p ∧ p ≤ 97) ∧ (1 ≤ n ∧ n ≤ 8)) (some (.slc (hp.length + (n.toNat - 1)) 0 (n.toNat - 1) false 0, hp ++ (gBl n.toNat (n.toNat - 1) ++ [.vec 4 (gCl p c n hp.length (n.toNat - 1))])))
    | _ => none
  | _ => none
theorem q24 : Am.Callee Try.prog 89 Jk := Callee.fp fun hp xs v hp' he => by
  unfold Jk at he
  split at he
  · rename_i b
    split at he
    · rename_i p c n L hL
      obtain ⟨⟨h1, h2⟩, he⟩ := ql he
      simp only [Option.some.injEq, Prod.mk.injEq] at he
      obtain ⟨rfl, rfl⟩ := he
      obtain ⟨N, rfl⟩ : ∃ N : Nat, n = N := ⟨n.toNat, by omega⟩
      simp only [Int.toNat_natCast]
      have hext : ∀ ρ : Ren, AV.zh (ρ.ext 1 hp.length) (gCl p c N 1 (N - 1)) = gCl p c N hp.length (N - 1) := fun ρ => qij _ fun j _ => by simp [Ren.ext]
      refine ⟨[(b, 0)], [.ptr 0 0], _, _, _, qfp p c N h1 (by omega), by simp [AV.ren, AV.zh, ofL], rfl, ⟨⟨_, hL, by simp, by simp [AV.zh, AV.ren]⟩, trivial⟩, rfl, ⟨⟨trivial, trivial, trivial, trivial⟩, trivial⟩, ⟨by simp [AV.under], trivial⟩, ?_, ?_⟩
      · simp only [AV.ren, Ren.ext]
        rw [if_neg (by simp; omega)]
        try simp only [Nat.zero_add, List.length_cons, List.length_nil]
        try congr 1
        all_goals omega
      · simp only [after, upd, AO.wr, gH, List.length_cons, List.length_nil, List.cons_append, List.drop_succ_cons, List.drop_zero, List.map_append, q1p, List.map_cons, List.map_nil, AO.ren, hext, Bool.false_eq_true, if_false, Nat.zero_add]
    · cases he
  · cases he
end Go.Proofs.Ytfhckbbgmblhbaa
namespace Go.Proofs.Ytfhckbbgmblhbaa
open Go.Am Go.Dia
open Nat renaming reduceAdd → nA, reduceMul → nM, reduceSub → nS, reduceEqDiff → nE, reduceLT → nL, reduceLeDiff → nD, reduceBEq → nB
open Int renaming reduceEq → iE, reduceNe → iN, reduceBEq → iB, reduceBNe → iC, reduceLT → iL, reduceLE → iD, reduceAdd → iA, reduceSub → iS, reduceMul → iM
set_option linter.unusedSimpArgs false
set_option linter.unusedVariables false
set_option maxRecDepth 4000
set_option maxHeartbeats 2000000
def Xo (n : Int) (i : Nat) : List (Int × List Nat × Int) := [(n, Uv n.toNat i, 1)]
theorem qhl {p n : Int} {i : Nat} (hp : 2 ≤ p) (hn : 1 ≤ n ∧ n ≤ 8) (hi : i + 1 < n.toNat) : vt p n (Xo n i) :=
  ⟨fun t h => by simp [Xo] at h; subst h; exact qac (by omega) hi, fun t h => by simp [Xo] at h; subst h; exact ⟨rfl, qrt (by omega) hi⟩, fun t h => by simp [Xo] at h; subst h; show (1 : Int) ≤ 1 ∧ (1 : Int) ≤ p - 1; omega, List.pairwise_singleton ..⟩
def Gm (p c n : Int) (a : List (Int × List Nat × Int)) : List AO := .ro (zk a) :: .cells [.int .i64 p, .int .i64 c, .int .i64 n, .slc 0 0 a.length false 0] :: (gBl n.toNat (n.toNat - 1) ++ [.vec 4 (gCl p c n 2 (n.toNat - 1))])
theorem qcr {p c n : Int} {a : List (Int × List Nat × Int)} : (Gm p c n a).length = 2 + (n.toNat - 1) + 1 := by simp [Gm, gBl]; omega
theorem qzs {p c n : Int} {a : List (Int × List Nat × Int)} : Lok (Gm p c n a) := fun o ho b hb => by
  rw [qcr]
  rcases List.mem_cons.1 ho with rfl | ho
  · rw [AO.refs, z6 _ (qd _)] at hb; cases hb
  · rcases List.mem_cons.1 ho with rfl | ho
    · simp [AO.refs, AV.wv, AV.refs] at hb; omega
    · rcases List.mem_append.1 ho with ho | ho
      · obtain ⟨i, _, rfl⟩ := List.mem_map.1 ho
        rw [AO.refs, z6 _ (qd _)] at hb; cases hb
      · simp only [List.mem_singleton] at ho
        subst ho
        have := Uk (n.toNat - 1) b hb
        omega
theorem qxn {p c n : Int} {a : List (Int × List Nat × Int)} {i : Nat} (hn : 0 ≤ n) (hi : i < n.toNat - 1) (r : List AO) : (Gm p c n a ++ r)[2 + i]? = some (.vec 18 (zk (Xo n i))) := by
  rw [Nat.add_comm 2 i]
  simp only [Gm, List.cons_append, List.append_assoc, List.getElem?_cons_succ]
  rw [List.getElem?_append_left (by simp [gBl]; omega)]
  simp [gBl, hi, Xo, Int.toNat_of_nonneg hn]
theorem qw0 {p c n : Int} {a : List (Int × List Nat × Int)} (r : List AO) : (Gm p c n a ++ r)[2 + (n.toNat - 1)]? = some (.vec 4 (gCl p c n 2 (n.toNat - 1))) := by
  rw [Nat.add_comm 2 _]
  simp only [Gm, List.cons_append, List.append_assoc, List.getElem?_cons_succ]
  rw [List.getElem?_append_right (by simp [gBl])]
  simp [gBl]
theorem qv9 {p c n : Int} {base : Nat} : ∀ {k i : Nat}, i < k → List.take 4 (List.drop (i * 4) (gCl p c n base k)) = [.int .i64 p, .int .i64 c, .int .i64 n, .slc (base + i) 0 1 false 0]
  | k + 1, i, h => by
    rw [gCl]
    by_cases e : i = k
    · subst e
      rw [List.drop_append_of_le_length (by rw [Zw]; omega), List.drop_of_length_le (by rw [Zw]; omega)]
      rfl
    · have hl := Zw (p := p) (c := c) (n := n) (base := base) k
      rw [List.drop_append_of_le_length (by omega), List.take_append_of_le_length (by rw [List.length_drop]; omega)]
      exact qv9 (by omega)
end Go.Proofs.Ytfhckbbgmblhbaa
namespace Go.Proofs.Ytfhckbbgmblhbaa
open Go.Am Go.Dia
open Nat renaming reduceAdd → nA, reduceMul → nM, reduceSub → nS, reduceEqDiff → nE, reduceLT → nL, reduceLeDiff → nD, reduceBEq → nB
open Int renaming reduceEq → iE, reduceNe → iN, reduceBEq → iB, reduceBNe → iC, reduceLT → iL, reduceLE → iD, reduceAdd → iA, reduceSub → iS, reduceMul → iM
set_option linter.unusedSimpArgs false
set_option linter.unusedVariables false
set_option maxRecDepth 4000
set_option maxHeartbeats 1000000
def okI (p x : Int) : Prop := w9 p = true ∧ 1 ≤ x ∧ x ≤ p - 1
instance (p x : Int) : Decidable (okI p x) := by unfold okI; infer_instance
noncomputable def q41 : za := B95
theorem q0n : qn Try.prog q41 := qx9
def brs : Nat → Nat → List (List UInt8)
  | 0, o => if o = 0 then [[]] else []
  | r + 1, o => (brs r (o + 1)).map (40 :: ·) ++ (if 0 < o then (brs r (o - 1)).map (41 :: ·) else [])
theorem qju : ∀ {r o : Nat}, r < o → brs r o = []
  | 0, o, h => by simp only [brs]; rw [if_neg (by omega)]
  | r + 1, o, h => by
    simp only [brs]
    rw [qju (show r < o + 1 by omega), qju (show r < o - 1 by omega)]
    simp
theorem qlu {s : List UInt8} {k : Nat} (h : parts s k = none) : ∀ j, parts s (k + j) = none
  | 0 => h
  | j + 1 => by
    show parts s ((k + j) + 1) = none
    simp only [parts, qlu h j]
theorem qie {s : List UInt8} {o0 : List Nat} (hL : parts s s.length = some (o0, [])) : ∀ (r k : Nat) (out st : List Nat), k + r = s.length → parts s k = some (out, st) → s.drop k ∈ brs r st.length
  | 0, k, out, st, hk, h => by
    obtain rfl : k = s.length := by omega
    rw [hL] at h
    cases h
    rw [List.drop_length]
    simp [brs]
  | r + 1, k, out, st, hk, h => by
    have hlt : k < s.length := by omega
    have hd : s.drop k = s.getD k 0 :: s.drop (k + 1) := by
      rw [List.drop_eq_getElem_cons hlt, List.getD_eq_getElem?_getD, List.getElem?_eq_getElem hlt]; rfl
    cases h1 : parts s (k + 1) with
    | none =>
      have := qlu h1 (s.length - (k + 1))
      rw [show k + 1 + (s.length - (k + 1)) = s.length by omega, hL] at this
      cases this
    | some q =>
      obtain ⟨out', st'⟩ := q
      have ih := qie hL r (k + 1) out' st' (by omega) h1
      rw [hd]
      simp only [parts, h] at h1
      simp only [brs, List.mem_append]
      split at h1
      · rename_i h40
        cases h1
        rw [h40]
        exact .inl (List.mem_map.2 ⟨_, ih, rfl⟩)
      · split at h1
        · rename_i h41
          rw [h41]
          split at h1
          · cases h1
          · cases h1
            rename_i i st'
            right
            rw [if_pos (by simp)]
            exact List.mem_map.2 ⟨_, by simpa using ih, rfl⟩
        · cases h1
theorem ql2 {n : Nat} {m : List Nat} (h : isS n m = true) (hm : m.length = 16) : xm n m ∈ brs (2 * n) 0 := by
  rw [Zr n m hm] at h
  simp only [isI, Bool.and_eq_true, beq_iff_eq] at h
  have h1 := h.2.2
  unfold vk at h1
  split at h1
  · split at h1
    · rename_i out ho
      have := qie ho (2 * n) 0 _ _ (by rw [bo]; omega) rfl
      simpa using this
    · cases h1
  · cases h1
theorem qhp {α : Type} [DecidableEq α] : ∀ {l m : List α}, l.Nodup → (∀ x ∈ l, x ∈ m) → l.length ≤ m.length
  | [], m, _, _ => by simp
  | x :: l, m, h, hs => by
    have h1 := List.nodup_cons.1 h
    have hx := hs x (by simp)
    have ih := qhp (m := m.erase x) h1.2 fun y hy => by
      have : y ≠ x := fun e => h1.1 (e ▸ hy)
      exact (List.mem_erase_of_ne this).2 (hs y (by simp [hy]))
    rw [List.length_erase_of_mem hx] at ih
    have := List.length_pos_of_mem hx
    simp only [List.length_cons]; omega
def q2o : Bool := (List.range 7).all fun n => Nat.ble (brs (2 * n) 0).length 132
theorem quf : q2o = true := by kernel_rfl
theorem ql4 {p n : Int} {L : List (Int × List Nat × Int)} (h : vt p n L) (hn : 0 ≤ n ∧ n ≤ 6) : L.length ≤ 132 := by
  have h1 : (L.map txt).Nodup := List.pairwise_map.2 (h.up.imp fun {a b} hlt e => by
    unfold ltT at hlt
    rw [e] at hlt
    have : Op.bytesLess (txt b) (txt b) = false := by
      generalize txt b = s
      induction s with
      | nil => rfl
      | cons x s ih => simp [Op.bytesLess, ih]
    rw [this] at hlt; cases hlt)
  have h2 := qhp h1 (m := brs (2 * n.toNat) 0) fun x hx => by
    obtain ⟨t, ht, rfl⟩ := List.mem_map.1 hx
    have h3 := h.dia t ht
    have h4 := ql2 h3.2 (h.ok t ht).1
    unfold txt
    rwa [h3.1]
  rw [List.length_map] at h2
  have h3 := List.all_eq_true.1 quf n.toNat (List.mem_range.2 (by omega))
  have h4 := Nat.le_of_ble_eq_true h3
  omega
def qnx : List AV → Option (List Int)
  | [] => some []
  | .int .i64 x :: l => match qnx l with
    | some w => some (x :: w)
    | none => none
  | _ => none
theorem qh7 : ∀ w, qnx (u0 w) = some w
  | [] => rfl
  | x :: w => by
    have := qh7 w
    simp only [u0, List.map_cons] at this ⊢
    simp only [qnx, this]
theorem qbz : ∀ {l : List AV} {w : List Int}, qnx l = some w → l = u0 w
  | [], w, h => by cases h; rfl
  | x :: l, w, h => by
    unfold qnx at h
    split at h
    · rename_i e; cases e
    · rename_i y l' e
      cases e
      split at h
      · rename_i w' hw
        cases h
        rw [qbz hw]; rfl
      · cases h
    · cases h
noncomputable def q4a : za := q41
theorem q1b : qn Try.prog q4a := q0n
noncomputable def q5q : za := q4a
theorem qy2 : qn Try.prog q5q := q1b
noncomputable def q4c : za := q5q
theorem q03 : qn Try.prog q4c := qy2
noncomputable def q4u : za := q4c
theorem q0o : qn Try.prog q4u := q03
noncomputable def q4z : za := q4u
theorem q0s : qn Try.prog q4z := q0o
noncomputable def q5f : za := q4z
theorem qzg : qn Try.prog q5f := q0s
end Go.Proofs.Ytfhckbbgmblhbaa
namespace Go.Proofs.Ytfhckbbgmblhbaa
open Go.Am Go.Dia
open Nat renaming reduceAdd → nA, reduceMul → nM, reduceSub → nS, reduceEqDiff → nE, reduceLT → nL, reduceLeDiff → nD, reduceBEq → nB
open Int renaming reduceEq → iE, reduceNe → iN, reduceBEq → iB, reduceBNe → iC, reduceLT → iL, reduceLE → iD, reduceAdd → iA, reduceSub → iS, reduceMul → iM
set_option linter.unusedSimpArgs false
set_option linter.unusedVariables false
set_option maxRecDepth 4000
set_option maxHeartbeats 2000000
theorem qgo (p c n : Int) (k cap : Nat) (ex : Bool) :
    Am.Fn Try.prog 97 [.agg [.int .i64 p, .int .i64 c, .int .i64 n, .slc 0 0 k ex cap]] [.ro []] (fun v H' => v = elemV p c n 1 0 ∧ H' = [.ro [], .vec 18 []]) := by
  refine Am.Fn.ofW qo4 mixed qa1 (by simp [AV.qy, AV.under]) (ku rfl) ?_
  simp (maxSteps := 3000000) only [qg, zH, W7, qa, elemV, iE, iN, iB, iC, iL, iD, iA, iS, iM, rep, qa, zZ, ↓qo, ↓reduceIte, reduceCtorEq, nA, nM, nS, nE, nL, nD]; try simp only [qa, zY]
  refine ⟨rfl, _, qz.trans (qz.qx [2]) (qz.vec 3 0 18 (by decide) rfl rfl rfl rfl), ?_⟩
  refine Ret.ve [0, 3] ⟨⟨by simp, rfl, by decide⟩, ?_⟩ (rs := [.agg [.int .i64 p, .int .i64 c, .int .i64 n, .slc 3 0 0 false 0]]) ?_ rfl (by simp [xw]) ?_ ⟨?_, ?_⟩
  · simp only [qx, zj, zV, ↓reduceIte, nE, reduceCtorEq, nB]
    simp only [zK, ↓reduceIte, reduceCtorEq, nE, nB, nA]
  · simp only [qx, zj, zV, ↓reduceIte, nE, reduceCtorEq, nB]
    rfl
  · intro j l; match j with
    | 0 => simp [zi, Wu, AO.xe, AO.ren]
    | 1 => simp [zi, Wu, AO.xe, AO.ren]
    | j + 2 => simp [zi]
  · simp only [xw]
    simp only [zL, ↓reduceIte, reduceCtorEq, nE, nA]
  · rfl
def qfr : BE := fun hp xs => match xs with
  | [.agg [.int .i64 p, .int .i64 c, .int .i64 n, .slc b 0 k ex cap]] => match rd hp b with
    | some _ => some (elemV p c n hp.length 0, hp ++ [.vec 18 []])
    | none => none
  | _ => none
theorem qvh : Am.Callee Try.prog 97 qfr := Callee.fp fun hp xs v hp' he => by
  unfold qfr at he
  split at he
  · rename_i p c n b k ex cap
    split at he
    · rename_i L hL
      simp only [Option.some.injEq, Prod.mk.injEq] at he
      obtain ⟨rfl, rfl⟩ := he
      refine ⟨[(b, 0)], [.agg [.int .i64 p, .int .i64 c, .int .i64 n, .slc 0 0 k ex cap]], _, _, _, qgo p c n k cap ex, by simp [AV.ren, AV.zh, ofL], rfl, ⟨⟨L, hL, by simp, by simp [AV.zh]⟩, trivial⟩, rfl, ⟨trivial, trivial⟩, ⟨⟨trivial, trivial, trivial, by simp [AV.under], trivial⟩, trivial⟩, by simp [elemV, AV.ren, AV.zh, Ren.ext], ?_⟩
      simp [after, upd, AO.wr, AO.ren, AV.zh]
    · cases he
  · cases he
noncomputable def q5n : za := (q5f.put 97 (qfr))
theorem q0v : qn Try.prog q5n := (qzg.put (qvh))
noncomputable def q5a : za := q5n
theorem q0y : qn Try.prog q5a := q0v
end Go.Proofs.Ytfhckbbgmblhbaa
namespace Go.Proofs.Ytfhckbbgmblhbaa
open Go.Am Go.Dia
open Nat renaming reduceAdd → nA, reduceMul → nM, reduceSub → nS, reduceEqDiff → nE, reduceLT → nL, reduceLeDiff → nD, reduceBEq → nB
open Int renaming reduceEq → iE, reduceNe → iN, reduceBEq → iB, reduceBNe → iC, reduceLT → iL, reduceLE → iD, reduceAdd → iA, reduceSub → iS, reduceMul → iM
set_option linter.unusedSimpArgs false
set_option linter.unusedVariables false
set_option maxRecDepth 4000
set_option maxHeartbeats 2000000
set_option maxHeartbeats 2000000
end Go.Proofs.Ytfhckbbgmblhbaa
namespace Go.Proofs.Ytfhckbbgmblhbaa
open Go.Am Go.Dia
open Nat renaming reduceAdd → nA, reduceMul → nM, reduceSub → nS, reduceEqDiff → nE, reduceLT → nL, reduceLeDiff → nD, reduceBEq → nB
open Int renaming reduceEq → iE, reduceNe → iN, reduceBEq → iB, reduceBNe → iC, reduceLT → iL, reduceLE → iD, reduceAdd → iA, reduceSub → iS, reduceMul → iM
set_option linter.unusedSimpArgs false
set_option linter.unusedVariables false
set_option maxRecDepth 4000
set_option maxHeartbeats 2000000
noncomputable def q42 : za := q5a
theorem qyy : qn Try.prog q42 := q0y
noncomputable def q5w : za := q42
theorem q0c : qn Try.prog q5w := qyy
end Go.Proofs.Ytfhckbbgmblhbaa
namespace Go.Proofs.Ytfhckbbgmblhbaa
open Go.Am Go.Dia
open Nat renaming reduceAdd → nA, reduceMul → nM, reduceSub → nS, reduceEqDiff → nE, reduceLT → nL, reduceLeDiff → nD, reduceBEq → nB
open Int renaming reduceEq → iE, reduceNe → iN, reduceBEq → iB, reduceBNe → iC, reduceLT → iL, reduceLE → iD, reduceAdd → iA, reduceSub → iS, reduceMul → iM
set_option linter.unusedSimpArgs false
set_option linter.unusedVariables false
set_option maxRecDepth 4000
set_option maxHeartbeats 1000000
noncomputable def q5k : za := q5w
theorem q1o : qn Try.prog q5k := q0c
noncomputable def q4d : za := q5k
theorem qyw : qn Try.prog q4d := q1o
noncomputable def q5m : za := q4d
theorem q00 : qn Try.prog q5m := qyw
noncomputable def q4j : za := q5m
theorem qz9 : qn Try.prog q4j := q00
end Go.Proofs.Ytfhckbbgmblhbaa
namespace Go.Proofs.Ytfhckbbgmblhbaa
open Go.Am Go.Dia
open Nat renaming reduceAdd → nA, reduceMul → nM, reduceSub → nS, reduceEqDiff → nE, reduceLT → nL, reduceLeDiff → nD, reduceBEq → nB
open Int renaming reduceEq → iE, reduceNe → iN, reduceBEq → iB, reduceBNe → iC, reduceLT → iL, reduceLE → iD, reduceAdd → iA, reduceSub → iS, reduceMul → iM
set_option linter.unusedSimpArgs false
set_option linter.unusedVariables false
set_option maxRecDepth 4000
set_option maxHeartbeats 2000000
end Go.Proofs.Ytfhckbbgmblhbaa
namespace Go.Proofs.Ytfhckbbgmblhbaa
open Go.Am Go.Dia
open Nat renaming reduceAdd → nA, reduceMul → nM, reduceSub → nS, reduceEqDiff → nE, reduceLT → nL, reduceLeDiff → nD, reduceBEq → nB
open Int renaming reduceEq → iE, reduceNe → iN, reduceBEq → iB, reduceBNe → iC, reduceLT → iL, reduceLE → iD, reduceAdd → iA, reduceSub → iS, reduceMul → iM
set_option linter.unusedSimpArgs false
set_option linter.unusedVariables false
set_option maxRecDepth 4000
set_option maxHeartbeats 2000000
noncomputable def q5t : za := q4j
theorem qy5 : qn Try.prog q5t := qz9
noncomputable def q4o : za := q5t
theorem q1i : qn Try.prog q4o := qy5
noncomputable def q5v : za := q4o
theorem qz6 : qn Try.prog q5v := q1i
end Go.Proofs.Ytfhckbbgmblhbaa
namespace Go.Proofs.Ytfhckbbgmblhbaa
open Go.Am Go.Dia
open Nat renaming reduceAdd → nA, reduceMul → nM, reduceSub → nS, reduceEqDiff → nE, reduceLT → nL, reduceLeDiff → nD, reduceBEq → nB
open Int renaming reduceEq → iE, reduceNe → iN, reduceBEq → iB, reduceBNe → iC, reduceLT → iL, reduceLE → iD, reduceAdd → iA, reduceSub → iS, reduceMul → iM
set_option linter.unusedSimpArgs false
set_option linter.unusedVariables false
set_option maxRecDepth 4000
set_option maxHeartbeats 2000000
end Go.Proofs.Ytfhckbbgmblhbaa
namespace Go.Proofs.Ytfhckbbgmblhbaa
open Go.Am Go.Dia
open Nat renaming reduceAdd → nA, reduceMul → nM, reduceSub → nS, reduceEqDiff → nE, reduceLT → nL, reduceLeDiff → nD, reduceBEq → nB
open Int renaming reduceEq → iE, reduceNe → iN, reduceBEq → iB, reduceBNe → iC, reduceLT → iL, reduceLE → iD, reduceAdd → iA, reduceSub → iS, reduceMul → iM
set_option linter.unusedSimpArgs false
set_option linter.unusedVariables false
set_option maxRecDepth 4000
set_option maxHeartbeats 2000000
noncomputable def q4n : za := q5v
theorem q1g : qn Try.prog q4n := qz6
noncomputable def q44 : za := q4n
theorem q0b : qn Try.prog q44 := q1g
theorem q2k (b k m : Nat) : AV.ren (Vy m) (.slc b 0 k false 0) = .slc (m + b) 0 k false 0 := rfl
noncomputable def q5c : za := q44
theorem qzj : qn Try.prog q5c := q0b
end Go.Proofs.Ytfhckbbgmblhbaa
namespace Go.Proofs.Ytfhckbbgmblhbaa
open Go.Am Go.Dia
open Nat renaming reduceAdd → nA, reduceMul → nM, reduceSub → nS, reduceEqDiff → nE, reduceLT → nL, reduceLeDiff → nD, reduceBEq → nB
open Int renaming reduceEq → iE, reduceNe → iN, reduceBEq → iB, reduceBNe → iC, reduceLT → iL, reduceLE → iD, reduceAdd → iA, reduceSub → iS, reduceMul → iM
set_option linter.unusedSimpArgs false
set_option linter.unusedVariables false
set_option maxRecDepth 4000
set_option maxHeartbeats 1000000
noncomputable def q5i : za := q5c
theorem qze : qn Try.prog q5i := qzj
end Go.Proofs.Ytfhckbbgmblhbaa
namespace Go.Proofs.Ytfhckbbgmblhbaa
open Go.Am Go.Dia
open Nat renaming reduceAdd → nA, reduceMul → nM, reduceSub → nS, reduceEqDiff → nE, reduceLT → nL, reduceLeDiff → nD, reduceBEq → nB
open Int renaming reduceEq → iE, reduceNe → iN, reduceBEq → iB, reduceBNe → iC, reduceLT → iL, reduceLE → iD, reduceAdd → iA, reduceSub → iS, reduceMul → iM
set_option linter.unusedSimpArgs false
set_option linter.unusedVariables false
set_option maxRecDepth 4000
set_option maxHeartbeats 2000000
end Go.Proofs.Ytfhckbbgmblhbaa
namespace Go.Proofs.Ytfhckbbgmblhbaa
open Go.Am Go.Dia
open Nat renaming reduceAdd → nA, reduceMul → nM, reduceSub → nS, reduceEqDiff → nE, reduceLT → nL, reduceLeDiff → nD, reduceBEq → nB
open Int renaming reduceEq → iE, reduceNe → iN, reduceBEq → iB, reduceBNe → iC, reduceLT → iL, reduceLE → iD, reduceAdd → iA, reduceSub → iS, reduceMul → iM
set_option linter.unusedSimpArgs false
set_option linter.unusedVariables false
set_option maxRecDepth 4000
set_option maxHeartbeats 2000000
noncomputable def q4e : za := q5i
theorem qy4 : qn Try.prog q4e := qze
end Go.Proofs.Ytfhckbbgmblhbaa
namespace Go.Proofs.Ytfhckbbgmblhbaa
open Go.Am Go.Dia
open Nat renaming reduceAdd → nA, reduceMul → nM, reduceSub → nS, reduceEqDiff → nE, reduceLT → nL, reduceLeDiff → nD, reduceBEq → nB
open Int renaming reduceEq → iE, reduceNe → iN, reduceBEq → iB, reduceBNe → iC, reduceLT → iL, reduceLE → iD, reduceAdd → iA, reduceSub → iS, reduceMul → iM
set_option linter.unusedSimpArgs false
set_option linter.unusedVariables false
set_option maxRecDepth 4000
set_option maxHeartbeats 2000000
end Go.Proofs.Ytfhckbbgmblhbaa
namespace Go.Proofs.Ytfhckbbgmblhbaa
open Go.Am Go.Dia
open Nat renaming reduceAdd → nA, reduceMul → nM, reduceSub → nS, reduceEqDiff → nE, reduceLT → nL, reduceLeDiff → nD, reduceBEq → nB
open Int renaming reduceEq → iE, reduceNe → iN, reduceBEq → iB, reduceBNe → iC, reduceLT → iL, reduceLE → iD, reduceAdd → iA, reduceSub → iS, reduceMul → iM
set_option linter.unusedSimpArgs false
set_option linter.unusedVariables false
set_option maxRecDepth 4000
set_option maxHeartbeats 2000000
noncomputable def qtv : za := q4e
theorem Gd : qn Try.prog qtv := qy4
def j0 : AC := .seq (.region [oP 13 .lss 12 11]) (.seq (.cond 13 .skip (.exit 0)) (.seq (.block 1 (.seq (.region [oX 14 18 10 12,oN 15 18 14,o0 6 (.alloc [.int .i64 0,.int .u8 0,.int .u8 0,.int .u8 0,.int .u8 0,.int .u8 0,.int .u8 0,.int .u8 0,.int .u8 0,.int .u8 0,.int .u8 0,.int .u8 0,.int .u8 0,.int .u8 0,.int .u8 0,.int .u8 0,.int .u8 0,.int .i64 0]),oS 18 6 15]) (.seq (.region [oF 16 0 6,oN 17 17 16,oN 18 17 3,o0 19 (.eqs false [.int,.int,.int,.int,.int,.int,.int,.int,.int,.int,.int,.int,.int,.int,.int,.int,.int] (.t 17) (.t 18))]) (.cond 19 (.seq (.region [oF 20 17 6,oL 21 20,oM 4 21]) .ret) .skip)))) (.region [oK 22 .add 12 1,oM 12 22])))
def j3 : AC := .seq (.region [oI 4 0]) .ret
def Qn : AC := .seq (.region [o0 3 (.box (.t 1)),oI 4 0]) (.seq (.seq (.region [oM 7 0,o0 8 (.ju (.t 7)),oF 9 3 8,oL 10 9,o0 11 (.len .slc (.t 10)),oI 12 0]) (.block 0 (.loop j0))) j3)
theorem W0 : zr Try.prog 87 = some ⟨23, Qn, [.slot 4]⟩ := by kernel_rfl
theorem qsy (p c n : Int) (m : List Nat) (ts : List (Int × List Nat × Int)) (hm : okD m) (hg : vt p n ts) (hl : ts.length ≤ 300) :
    Am.Fn Try.prog 87 [.ptr 1 0, .agg (dia n m)] [.ro (zk ts), .ro (elC p c n ts.length)] (fun v H' => v = .int .i64 (cf m ts) ∧ H' = [.ro (zk ts), .ro (elC p c n ts.length)]) := by
  refine Am.Fn.jd (R := fun v => v = _) Gd mixed W0 (by simp [AV.qy, AV.under, qh _ _ (qe _ _)]) ?_ ?_
  · intro j o hj
    match j, hj with
    | 0, hj => cases hj; exact qh _ _ (qd _)
    | 1, hj => cases hj; exact ⟨trivial, trivial, trivial, by simp [AV.under], trivial⟩
    | j + 2, hj => simp at hj
  have hal := zg hg.ok
  have hap := qfc (fun t ht => (hg.dia t ht).1) hg.up
  simp (maxSteps := 3000000) only [qg, zH, Qn, qa, elC, hal, iE, iN, iB, iC, iL, iD, iA, iS, iM, qa, zZ, ↓qo, ↓reduceIte, reduceCtorEq, nA, nM, nS, nE, nL, nD]; try simp only [qa, zY]
  refine WA.jn Gd (fun s => ∃ k : Nat, k ≤ ts.length ∧ (∀ t ∈ ts.take k, t.2.1 ≠ m) ∧ s = ⟨[(0, .ptr 1 0), (3, .ptr 2 0), (4, .int .i64 0), (10, .slc 0 0 ts.length false 0), (11, .int .i64 ts.length), (12, .int .i64 k)], [.ro (zk ts), .ro [.int .i64 p, .int .i64 c, .int .i64 n, .slc 0 0 ts.length false 0], .cells (dia n m)]⟩)
    (fun s => match get s.env 12 with | .int _ x => ts.length - x.toNat | _ => 0) ⟨_, qz.qx [0, 3, 4, 10, 11, 12], 0, by omega, (by simp), rfl⟩ ?_
  rintro s ⟨k, hk, hno, rfl⟩
  by_cases hlt : k < ts.length
  · have hw : qu .i64 ((k : Int) + 1) = ((k + 1 : Nat) : Int) := by rw [wrap64 (by omega) (by omega)]; rfl
    have hli : (k : Int) < (ts.length : Int) := by omega
    have hk0 : (0 : Int) ≤ k := by omega
    have hg0 := kq hg.ok hlt
    have hok := hg.ok _ (List.getElem_mem hlt)
    have hsz := hg.dia _ (List.getElem_mem hlt)
    have hov := Jy (t := (0, List.replicate 16 0, 0)) (u := ts[k]) (by simp) hok.1
    have htl := zt hok
    have htd := qai hok
    have htf := gr hok
    rw [hsz.1] at htd
    have hb1 : k * 18 < ts.length * 18 := by omega
    have hb2 : k * 18 + 18 ≤ ts.length * 18 := by omega
    have hdl := qb (n := n) (m := m)
    by_cases he : ts[k].2.1 = m
    · have hq : j6 [.int, .int, .int, .int, .int, .int, .int, .int, .int, .int, .int, .int, .int, .int, .int, .int, .int] (dia n ts[k].2.1) (dia n m) = some true := by
        rw [Wk hok.1 hm.1]; simp [he]
      have hcf : ts[k].2.2 = cf m ts := by rw [← he]; exact (qke hap _ (List.getElem_mem hlt)).symm
      simp (maxSteps := 3000000) only [qg, zH, j0, j3, qa, hli, hk0, hal, hb1, hb2, hg0, wt, htl, htd, htf, vm, z8, hov, hw, hq, qb, hm.1, qt hm.1, List.length_replicate, Nat.le_refl, and_self, iE, iN, iB, iC, iL, iD, iA, iS, iM, qa, zZ, ↓qo, ↓reduceIte, reduceCtorEq, nA, nM, nS, nE, nL, nD]; try simp only [qa, zY]
      exact ⟨⟨_, rfl⟩, by rw [hcf]⟩
    · have hq : j6 [.int, .int, .int, .int, .int, .int, .int, .int, .int, .int, .int, .int, .int, .int, .int, .int, .int] (dia n ts[k].2.1) (dia n m) = some false := by
        rw [Wk hok.1 hm.1]; simp [he]
      simp (maxSteps := 3000000) only [qg, zH, j0, j3, qa, hli, hk0, hal, hb1, hb2, hg0, wt, htl, htd, htf, vm, z8, hov, hw, hq, qb, hm.1, qt hm.1, List.length_replicate, Nat.le_refl, and_self, iE, iN, iB, iC, iL, iD, iA, iS, iM, qa, zZ, ↓qo, ↓reduceIte, reduceCtorEq, nA, nM, nS, nE, nL, nD]; try simp only [qa, zY]
      refine ⟨_, qz.can [0, 3, 4, 10, 11, 12] (by simp only [U6, zC, nB, nD, nA, nE, ↓reduceIte, reduceCtorEq]; rfl), ⟨k + 1, by omega, fun t ht => ?_, ?_⟩, ?_⟩
      · rw [List.take_succ_eq_append_getElem hlt] at ht
        rcases List.mem_append.1 ht with ht | ht
        · exact hno t ht
        · rw [List.mem_singleton] at ht; subst ht; exact he
      · simp only [qc _ _ (qd _), zL, ↓reduceIte, reduceCtorEq, nE, nA]
      · simp only [zL, ↓reduceIte, reduceCtorEq, nE, nA]; omega
  · have hli : ¬ (k : Int) < (ts.length : Int) := by omega
    obtain rfl : k = ts.length := by omega
    rw [List.take_length] at hno
    simp (maxSteps := 3000000) only [qg, zH, j0, j3, qa, hli, Int.lt_irrefl, qa3 hno, iE, iN, iB, iC, iL, iD, iA, iS, iM, qa, zZ, ↓qo, ↓reduceIte, reduceCtorEq, nA, nM, nS, nE, nL, nD]; try simp only [qa, zY]
    exact ⟨_, rfl⟩
open Classical in
noncomputable def Ze : BE := fun hp xs => match xs with
  | [.ptr b 0, .agg d] => match rd hp b, ui d with
    | some (.int .i64 p :: .int .i64 c :: .int .i64 n :: .slc ba 0 la false 0 :: _), some (n', m) => match rd hp ba with
      | some L => match Ug la L with
        | some a => chk ((n' = n ∧ la ≤ 300) ∧ qde p n a) (some (.int .i64 (cf m a), hp))
        | none => none
      | none => none
    | _, _ => none
  | _ => none
theorem q0l : Am.Callee Try.prog 87 Ze := Callee.fp fun hp xs v hp' he => by
  unfold Ze at he
  split at he
  · rename_i b d
    split at he
    · rename_i p c n ba la L0 n' m hL0 hd
      split at he
      · rename_i L hL
        split at he
        · rename_i a h1
          obtain ⟨⟨⟨a1, a2⟩, a3⟩, he2⟩ := ql he
          simp only [Option.some.injEq, Prod.mk.injEq] at he2
          obtain ⟨rfl, rfl⟩ := he2
          obtain ⟨e1, e2, e3, e4⟩ := ya h1
          have g1 := zg e2
          have hgg := a3.q3s e2
          obtain ⟨rfl, hm⟩ := zp hd
          subst a1
          have hfn := qsy p c n' m a hm hgg (by omega)
          refine ⟨[(ba, 0), (b, 0)], [.ptr 1 0, .agg (dia n' m)], _, _, _, hfn, by simp [AV.ren, AV.zh, ofL, qc _ _ (qe _ _)], rfl,
            ⟨⟨L, hL, by omega, by rw [List.drop_zero, qc _ _ (qd _), g1, e1]; exact e3⟩, ⟨_, hL0, by simp, by simp [AV.zh, AV.ren, ofL, e1]⟩, trivial⟩, rfl,
            ⟨qh _ _ (qd _), ⟨trivial, trivial, trivial, by simp [AV.under], trivial⟩, trivial⟩, ⟨by simp [AV.under], qh _ _ (qe _ _), trivial⟩, by simp [AV.ren], ?_⟩
          simp [after, upd, AO.wr]
        · cases he
      · cases he
    · cases he
  · cases he
noncomputable def q4w : za := qtv
theorem qy1 : qn Try.prog q4w := Gd
end Go.Proofs.Ytfhckbbgmblhbaa
