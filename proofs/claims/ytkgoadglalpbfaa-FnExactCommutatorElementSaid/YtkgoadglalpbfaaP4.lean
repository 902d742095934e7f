/- Contracts: the spec's sum of elements. Contracts: the program's sum of elements. Contracts: the program's sum of elements. Contracts: multiples of elements. Plain laws of diagrams: what becomes of them when they are flipped, widened and closed. Plain laws of diagrams: flips, a line at the right, and partial closures, as lists. Plain laws of diagrams: products, as one middle point after the other is left out. Plain laws of diagrams: the middle points that lines meet, and the loops. -/
import Derived.Test.YtkgoadglalpbfaaP3
namespace Go.Proofs.Ytkgoadglalpbfaa
open Go.Am Go.Dia
open Nat renaming reduceAdd → nA, reduceMul → nM, reduceSub → nS, reduceEqDiff → nE, reduceLT → nL, reduceLeDiff → nD, reduceBEq → nB
open Int renaming reduceEq → iE, reduceNe → iN, reduceBEq → iB, reduceBNe → iC, reduceLT → iL, reduceLE → iD, reduceAdd → iA, reduceSub → iS, reduceMul → iM
set_option linter.unusedSimpArgs false
set_option linter.unusedVariables false
set_option maxRecDepth 4000
set_option maxHeartbeats 1000000
def ku (p n k : Int) (acc b : List (Int × List Nat × Int)) : List (Int × List Nat × Int) := b.foldl (fun acc t => yp p acc n t.2.1 (k * t.2.2)) acc
theorem qry {p n k : Int} {a b : List (Int × List Nat × Int)} {i : Nat} (h : i < b.length) : ku p n k a (b.take (i + 1)) = yp p (ku p n k a (b.take i)) n b[i].2.1 (k * b[i].2.2) := by
  rw [List.take_succ_eq_append_getElem h, ku, List.foldl_append]; rfl
theorem Wj {p n k : Int} {a : List (Int × List Nat × Int)} (hp : 0 < p) (ha : j0 p n a) : ∀ {b : List (Int × List Nat × Int)}, j0 p n b → j0 p n (ku p n k a b) ∧ (ku p n k a b).length ≤ a.length + b.length := by
  intro b
  unfold ku
  induction b generalizing a with
  | nil => exact fun _ => ⟨ha, by simp⟩
  | cons t b ih =>
    intro hb
    have h1 := qhu (k := k * t.2.2) hp (hb.ok t (List.mem_cons_self ..)) (hb.dia t (List.mem_cons_self ..)).2 ha
    have h2 := qm2 (p := p) (n := n) (m := t.2.1) (k := k * t.2.2) (ts := a)
    have h3 := ih h1 ⟨fun u h => hb.ok u (List.mem_cons_of_mem _ h), fun u h => hb.dia u (List.mem_cons_of_mem _ h), fun u h => hb.fac u (List.mem_cons_of_mem _ h), (List.pairwise_cons.1 hb.up).2⟩
    rw [List.foldl_cons]
    refine ⟨h3.1, ?_⟩
    have := h3.2
    simp only [List.length_cons]; omega
theorem gp : B36 70 = some (y9) := rfl
theorem Ql : B36 61 = some (Xm) := rfl
def Xc : AC := .seq (.seq (.region [oM 17 8,oF 18 3 4,oL 19 18,o0 20 (.len .slc (.t 19)),oP 21 .lss 17 20]) (.cond 21 .skip (.exit 0))) (.seq (.block 1 (.draw false [oF 24 0 3,oL 25 24,oF 26 3 7,oL 27 26,oF 28 3 4,oL 29 28,oM 30 8,oX 31 18 29 30,oF 32 0 31,oN 33 17 32,oM 34 2,oF 35 3 4,oL 36 35,oM 37 8,oX 38 18 36 37,oF 39 17 38,oL 40 39,oP 41 .mul 34 40,oC 42 61 [.t 25,.t 27,.t 33,.t 41],oF 43 3 7,oT 43 42])) (.region [oM 22 8,oK 23 .add 22 1,oM 8 23]))
def Gw : AC := .seq (.region [oN 44 4 7,oS 4 6 44]) .ret
def qet : AC := .seq (.region [o0 3 (.box (.t 0)),o0 4 (.box (.t 1)),o0 6 (.alloc [.int .i64 0,.int .i64 0,.int .i64 0,(.v (.slice none 0 0))])]) (.seq (.region [oN 9 4 3,oC 10 70 [.t 9],o0 7 (.alloc [.int .i64 0,.int .i64 0,.int .i64 0,(.v (.slice none 0 0))]),oS 4 7 10]) (.seq (.region [oF 11 3 7,oL 12 11,oF 13 3 3,oL 14 13,o0 15 (.append 18 32 (.t 12) (.t 14)),oF 16 3 7,oT 16 15]) (.seq (.seq (.region [oI 8 0]) (.block 0 (.loop Xc))) Gw)))
theorem qni : xa Try.prog 69 = some ⟨45, qet, [.kl 6 4]⟩ := by kernel_rfl
theorem qnr (p c n p' c' k : Int) (a b : List (Int × List Nat × Int)) (hp : 2 ≤ p ∧ p ≤ 97) (hn : 0 ≤ n ∧ n ≤ 8) (ha : j0 p n a) (hb : j0 p n b) (hl : a.length ≤ 100000 ∧ b.length ≤ 100000) (hk : -1000000 ≤ k ∧ k ≤ 1000000) :
    Am.Fn Try.prog 69 [elemV p c n 0 a.length, elemV p' c' n 1 b.length, .int .i64 k] [.ro (qn a), .ro (qn b)] (fun v H' => v = elemV p c n 2 (ku p n k a b).length ∧ H' = [.ro (qn a), .ro (qn b), .vec 18 (qn (ku p n k a b))]) := by
  refine Am.Fn.ofB qng mixed qni (by simp [elemV, AV.q8, AV.under]) (b9 (qb _) (qb _)) ?_
  have hal := qm ha.ok
  have hbl := qm hb.ok
  have hones : ∀ l, (qn l).all AV.one = true := fun l => by
    simp only [qn, List.all_flatMap]; simp [jr]
  have htt : List.take (a.length * 18) (qn a) = qn a := by rw [List.take_of_length_le (by omega)]
  have hby : a.length * 32 ≤ 1099511627776 := by omega
  simp (maxSteps := 3000000) only [qf, zH, qet, gp, Ql, y9, Xm, elemV, src, hal, hones, htt, hby, Nat.le_refl, iE, iN, iB, iC, iL, iD, iA, iS, iM, qa, zZ, ↓qp, ↓reduceIte, reduceCtorEq, nA, nM, nS, nE, nL, nD]; try simp only [qa, zY]
  refine ⟨rfl, rfl, ?_⟩
  refine WA.vc qng (fun s => ∃ (i : Nat) (acc : List (Int × List Nat × Int)), i ≤ b.length ∧ acc = ku p n k a (b.take i) ∧
      s = ⟨[(8, .int .i64 i), (7, .ptr 5 0), (6, .ptr 4 0), (4, .ptr 3 0), (3, .ptr 2 0), (2, .int .i64 k)], [.ro (qn a), .ro (qn b), .cells [.int .i64 p, .int .i64 c, .int .i64 n, .slc 0 0 a.length false 0],
        .cells [.int .i64 p', .int .i64 c', .int .i64 n, .slc 1 0 b.length false 0], .cells [.int .i64 0, .int .i64 0, .int .i64 0, .v (.slice none 0 0)], .cells [.int .i64 p, .int .i64 c, .int .i64 n, .slc 6 0 acc.length false 0], .vec 18 (qn acc)]⟩)
    (fun s => match get s.env 8 with | .int _ x => b.length - x.toNat | _ => 0) ⟨_, q6.xy [0, 1, 2, 3, 4, 6, 7] [8, 7, 6, 4, 3, 2] ⟨by decide, ?_⟩ ?_, 0, a, by omega, by simp [ku], ?_⟩ ?_
  · simp only [qd _ _ (qb _), zK, ↓reduceIte, reduceCtorEq, nE, nB, nA]
  · simp only [qd _ _ (qb _), zK, ↓reduceIte, reduceCtorEq, nE, nB, nA]
  · simp only [qc _ _ (qb _), zL, ↓reduceIte, reduceCtorEq, nE, nA]
    rfl
  rintro s ⟨i, acc, hi, hacc, rfl⟩
  by_cases hlt : i < b.length
  · have hg := Wj (k := k) (p := p) (by omega) ha (b := b.take i) ⟨fun u h => hb.ok u (List.mem_of_mem_take h), fun u h => hb.dia u (List.mem_of_mem_take h), fun u h => hb.fac u (List.mem_of_mem_take h), hb.up.sublist (List.take_sublist ..)⟩
    rw [← hacc] at hg
    have hgl := hg.2
    rw [List.length_take, Nat.min_eq_left hi] at hgl
    have hli : (i : Int) < b.length := by omega
    have hli' : (0 : Int) ≤ i := by omega
    have hd := uj hb.ok hlt
    have hf := Jq hb.ok hlt
    have hok := hb.ok _ (List.getElem_mem hlt)
    have hsz := hb.dia _ (List.getElem_mem hlt)
    have hfc := hb.fac _ (List.getElem_mem hlt)
    rw [hsz.1] at hd
    have hnext := qry (p := p) (n := n) (k := k) (a := a) hlt
    rw [← hacc] at hnext
    generalize b[i].2.1 = m at hd hok hsz hnext
    generalize b[i].2.2 = f at hf hfc hnext
    have hkf : q7 .i64 (k * f) = k * f := by
      have h1 : -1000000 * f ≤ k * f := Int.mul_le_mul_of_nonneg_right (by omega) (by omega)
      have h2 : k * f ≤ 1000000 * f := Int.mul_le_mul_of_nonneg_right (by omega) (by omega)
      generalize k * f = q at h1 h2 ⊢
      rw [wrap64 (by omega) (by omega)]
    have hw : q7 .i64 ((i : Int) + 1) = ((i + 1 : Nat) : Int) := by rw [wrap64 (by omega) (by omega)]; rfl
    have hb1 : i * 18 < b.length * 18 := by omega
    have hb2 : i * 18 + 17 ≤ b.length * 18 := by omega
    have hb3 : i * 18 + 17 < b.length * 18 := by omega
    have hfit := hg.1.fit (by omega) (by omega)
    have hacl := qm hg.1.ok
    have hpp : 0 < p ∧ p ≤ 1000000 := by omega
    have hrf : ∀ (x : AV) (l : List AV), x = x := fun _ _ => rfl
    by_cases hz : (k * f).emod p = 0
    · simp (maxSteps := 3000000) only [qf, zH, Xc, gp, Ql, y9, Xm, hli, hli', hbl, hb1, hb2, hb3, hd, hf, hkf, hw, z6 hg.1.ok, zb hok, hacl, hpp, hn, hfit, hz, and_self, iE, iN, iB, iC, iL, iD, iA, iS, iM, qa, zZ, ↓qp, ↓reduceIte, reduceCtorEq, nA, nM, nS, nE, nL, nD]; try simp only [qa, zY]
      refine ⟨rfl, _, q6.xy [0, 1, 2, 3, 4, 5, 6] [8, 7, 6, 4, 3, 2] ⟨by decide, ?_⟩ ?_, ⟨i + 1, acc, by omega, by rw [hnext, Gf, if_pos hz], ?_⟩, ?_⟩
      · simp only [qd _ _ (qb _), zK, ↓reduceIte, reduceCtorEq, nE, nB, nA]
      · simp only [qd _ _ (qb _), zK, ↓reduceIte, reduceCtorEq, nE, nB, nA]
      · simp only [qc _ _ (qb _), zL, ↓reduceIte, reduceCtorEq, nE, nA]
      · simp only [zL, ↓reduceIte, reduceCtorEq, nE, nA]; omega
    · simp (maxSteps := 3000000) only [qf, zH, Xc, gp, Ql, y9, Xm, hli, hli', hbl, hb1, hb2, hb3, hd, hf, hkf, hw, z6 hg.1.ok, zb hok, hacl, hpp, hn, hfit, hz, and_self, iE, iN, iB, iC, iL, iD, iA, iS, iM, qa, zZ, ↓qp, ↓reduceIte, reduceCtorEq, nA, nM, nS, nE, nL, nD]; try simp only [qa, zY]
      refine ⟨rfl, _, q6.xy [0, 1, 2, 3, 4, 5, 7] [8, 7, 6, 4, 3, 2] ⟨by decide, ?_⟩ ?_, ⟨i + 1, yp p acc n m (k * f), by omega, hnext.symm, ?_⟩, ?_⟩
      · simp only [qd _ _ (qb _), zK, ↓reduceIte, reduceCtorEq, nE, nB, nA]
      · simp only [qd _ _ (qb _), zK, ↓reduceIte, reduceCtorEq, nE, nB, nA]
      · simp only [qc _ _ (qb _), zL, ↓reduceIte, reduceCtorEq, nE, nA]
      · simp only [zL, ↓reduceIte, reduceCtorEq, nE, nA]; omega
  · have hli : ¬ ((i : Int) < b.length) := by omega
    simp (maxSteps := 3000000) only [qf, zH, Xc, Gw, gp, Ql, y9, Xm, hli, iE, iN, iB, iC, iL, iD, iA, iS, iM, qa, zZ, ↓qp, ↓reduceIte, reduceCtorEq, nA, nM, nS, nE, nL, nD]; try simp only [qa, zY]
    obtain rfl : i = b.length := by omega
    rw [List.take_length] at hacc
    subst hacc
    refine ⟨rfl, ?_⟩
    refine Ret.xy [0, 1, 6] ⟨⟨by simp, rfl, by decide⟩, ?_⟩ (rs := [.agg [.int .i64 p, .int .i64 c, .int .i64 n, .slc 6 0 (ku p n k a b).length false 0]]) rfl rfl (by simp [xj]) ?_ ⟨?_, ?_⟩
    · simp only [qd _ _ (qb _), zK, ↓reduceIte, reduceCtorEq, nE, nB, nA]
    · intro j l; match j with
      | 0 => simp [ze, AO.ren]
      | 1 => simp [ze, AO.ren]
      | 2 => simp [ze, AO.ren]
      | j + 3 => simp [ze]
    · simp only [xj]
      simp only [zL, ↓reduceIte, reduceCtorEq, nE, nA]
    · simp only [qc _ _ (qb _), zL, ↓reduceIte, reduceCtorEq, nE, nA]
def Bi (p n : Int) (ts : List (Int × List Nat × Int)) : Prop := (∀ t ∈ ts, t.1 = n ∧ isS n.toNat t.2.1 = true) ∧ (∀ t ∈ ts, 1 ≤ t.2.2 ∧ t.2.2 ≤ p - 1) ∧ (ts.Pairwise fun a b => ltT a b = true)
instance {p n : Int} {ts : List (Int × List Nat × Int)} : Decidable (Bi p n ts) := by unfold Bi; infer_instance
theorem Bi.qgj {p n : Int} {ts : List (Int × List Nat × Int)} (h : Bi p n ts) (ho : okT ts) : j0 p n ts := ⟨ho, h.1, h.2.1, h.2.2⟩
theorem j0.dec {p n : Int} {ts : List (Int × List Nat × Int)} (h : j0 p n ts) : Bi p n ts := ⟨h.dia, h.fac, h.up⟩
def Zt : BE := fun hp xs => match xs with
  | [.agg [.int .i64 p, .int .i64 c, .int .i64 n, .slc b 0 la false 0], .agg [.int .i64 p', .int .i64 c', .int .i64 n', .slc b' 0 lb false 0], .int .i64 k] => match rd hp b, rd hp b' with
    | some L, some L' => match Qa la L, Qa lb L' with
      | some ta, some tb => chk ((((2 ≤ p ∧ p ≤ 97) ∧ (0 ≤ n ∧ n ≤ 8) ∧ n' = n) ∧ Bi p n ta ∧ Bi p n tb) ∧ (ta.length ≤ 100000 ∧ tb.length ≤ 100000) ∧ (-1000000 ≤ k ∧ k ≤ 1000000)) (some (elemV p c n hp.length (ku p n k ta tb).length, hp ++ [.vec 18 (qn (ku p n k ta tb))]))
      | _, _ => none
    | _, _ => none
  | _ => none
theorem qz6 : Am.Callee Try.prog 69 Zt := Callee.fp fun hp xs v hp' he => by
  unfold Zt at he
  split at he
  · rename_i p c n b la p' c' n' b' lb k
    split at he
    · rename_i L L' hL hL'
      split at he
      · rename_i ta tb h1 h1'
        obtain ⟨⟨⟨⟨a1, a2, a3⟩, a4, a5⟩, a6, a7⟩, he2⟩ := qo he
        simp only [Option.some.injEq, Prod.mk.injEq] at he2
        obtain ⟨rfl, rfl⟩ := he2
        obtain ⟨e1, e2, e3, e4⟩ := xl h1
        obtain ⟨f1, f2, f3, f4⟩ := xl h1'
        have g1 := qm e2
        have g2 := qm f2
        subst a3
        refine ⟨[(b, 0), (b', 0)], [elemV p c n' 0 ta.length, elemV p' c' n' 1 tb.length, .int .i64 k], _, _, _, qnr p c n' p' c' k ta tb a1 a2 (a4.qgj e2) (a5.qgj f2) a6 a7, by simp [elemV, AV.ren, AV.zz, ofL, e1, f1], rfl,
          ⟨⟨L, hL, by omega, by rw [List.drop_zero, qc _ _ (qb _), g1, e1]; exact e3⟩, ⟨L', hL', by omega, by rw [List.drop_zero, qc _ _ (qb _), g2, f1]; exact f3⟩, trivial⟩, rfl,
          ⟨qk _ _ (qb _), qk _ _ (qb _), trivial⟩, ⟨⟨trivial, trivial, trivial, by simp [AV.under], trivial⟩, ⟨trivial, trivial, trivial, by simp [AV.under], trivial⟩, trivial, trivial⟩, by simp [elemV, AV.ren, AV.zz, Ren.ext], ?_⟩
        simp [after, upd, AO.wr, AO.ren, qc _ _ (qb _)]
      · cases he
    · cases he
  · cases he
def B37 : xh := (B36.put 69 (Zt))
theorem qbq : zf Try.prog B37 := (qng.put (qz6))
def Zq (n : Int) (m : List Nat) : List (Int × List Nat × Int) → Option Nat
  | [] => none
  | t :: l => if n = t.1 ∧ m = t.2.1 then some 0 else (Zq n m l).map (· + 1)
theorem Wt {n : Int} {m : List Nat} (hm : m.length = 16) : ∀ {ts : List (Int × List Nat × Int)} {k i : Nat}, okT ts →
    ud KD true (.agg (dia n m)) (esT k ts) i = some ((Zq n m ts).map fun j => (i + j, ⟨.agg (dia n m), .int .i64 (ts.getD j zT).2.2, k + j⟩))
  | [], k, i, _ => rfl
  | t :: l, k, i, h => by
    have h1 := (h t (List.mem_cons_self ..)).1
    have ih := Wt (n := n) hm (ts := l) (k := k + 1) (i := i + 1) fun u hu => h u (List.mem_cons_of_mem _ hu)
    unfold esT ud
    simp only [keq, Um hm h1, Zq]
    by_cases e : n = t.1 ∧ m = t.2.1
    · simp only [decide_eq_true e, if_pos e, Option.map_some, Nat.add_zero, List.getD_cons_zero]
      obtain ⟨rfl, rfl⟩ := e
      rfl
    · simp only [decide_eq_false e, if_neg e, ih, Option.map_map]
      congr 1
      congr 1
      funext j
      simp only [Function.comp, List.getD_cons_succ]
      rw [show i + 1 + j = i + (j + 1) by omega, show k + 1 + j = k + (j + 1) by omega]
def Zr (n : Int) (m : List Nat) (f : Int) : List (Int × List Nat × Int) → List (Int × List Nat × Int)
  | [] => [(n, m, f)]
  | t :: l => if n = t.1 ∧ m = t.2.1 then (t.1, t.2.1, t.2.2 + f) :: l else t :: Zr n m f l
theorem qjq : ∀ {a b : List (Int × List Nat × Int)} {k : Nat}, esT k (a ++ b) = esT k a ++ esT (k + a.length) b
  | [], b, k => rfl
  | t :: a, b, k => by
    simp only [List.cons_append, esT, qjq, List.length_cons]
    rw [show k + 1 + a.length = k + (a.length + 1) by omega]
theorem qio {n v : Int} {m : List Nat} : ∀ {ts : List (Int × List Nat × Int)} {k j : Nat}, (esT k ts).set j ⟨.agg (dia n m), .int .i64 v, k + j⟩ = esT k (ts.set j (n, m, v))
  | [], k, j => rfl
  | t :: ts, k, 0 => rfl
  | t :: ts, k, j + 1 => by
    simp only [esT, List.set_cons_succ]
    rw [show k + (j + 1) = k + 1 + j by omega, qio]
theorem qiu {v : Int} : ∀ {ts : List (Int × List Nat × Int)} {k j : Nat}, (esT k ts).modify j (fun x => ⟨x.key, .int .i64 v, x.born⟩) = esT k (ts.modify j fun t => (t.1, t.2.1, v))
  | [], k, j => by cases j <;> rfl
  | t :: ts, k, 0 => rfl
  | t :: ts, k, j + 1 => by
    simp only [esT, List.modify_succ_cons, qiu]
theorem qfd : ∀ {ts : List (Int × List Nat × Int)} {k j : Nat}, j < ts.length → (esT k ts).findIdx? (fun x => (x.born : Int) == ((k + j : Nat) : Int)) = some j
  | t :: ts, k, 0, _ => by simp [esT, List.findIdx?_cons]
  | t :: ts, k, j + 1, h => by
    have := qfd (ts := ts) (k := k + 1) (j := j) (by simpa using h)
    rw [show k + 1 + j = k + (j + 1) by omega] at this
    have hne : ((k : Int) == ((k + (j + 1) : Nat) : Int)) = false := by rw [beq_eq_false_iff_ne]; omega
    simp only [esT, List.findIdx?_cons, hne, this, Bool.false_eq_true, if_false, Option.map_some]
theorem By {n : Int} {m : List Nat} : ∀ {ts : List (Int × List Nat × Int)} {j : Nat}, Zq n m ts = some j → j < ts.length ∧ (ts.getD j zT).1 = n ∧ (ts.getD j zT).2.1 = m ∧ ∀ f, Zr n m f ts = ts.set j (n, m, (ts.getD j zT).2.2 + f)
  | t :: l, j, h => by
    unfold Zq at h
    split at h
    · rename_i e
      cases h
      obtain ⟨rfl, rfl⟩ := e
      exact ⟨by simp, rfl, rfl, fun f => by simp [Zr]⟩
    · rename_i e
      cases hi : Zq n m l with
      | none => rw [hi] at h; cases h
      | some i =>
        rw [hi] at h; cases h
        obtain ⟨h1, h2, h3, h4⟩ := By hi
        exact ⟨by simp; omega, by simpa using h2, by simpa using h3, fun f => by simp [Zr, if_neg e, h4]⟩
theorem qbc {n : Int} {m : List Nat} : ∀ {ts : List (Int × List Nat × Int)}, Zq n m ts = none → (∀ f, Zr n m f ts = ts ++ [(n, m, f)]) ∧ ∀ t ∈ ts, ¬ (n = t.1 ∧ m = t.2.1)
  | [], _ => ⟨fun _ => rfl, by simp⟩
  | t :: l, h => by
    unfold Zq at h
    split at h
    · cases h
    · rename_i e
      have hi : Zq n m l = none := by
        cases hi : Zq n m l with
        | none => rfl
        | some i => rw [hi] at h; cases h
      obtain ⟨h1, h2⟩ := qbc hi
      refine ⟨fun f => by simp [Zr, if_neg e, h1], fun u hu => ?_⟩
      rcases List.mem_cons.1 hu with rfl | hu
      · exact e
      · exact h2 u hu
structure qba (n M : Int) (ts : List (Int × List Nat × Int)) : Prop where
  ok : okT ts
  dia : ∀ t ∈ ts, t.1 = n ∧ isS n.toNat t.2.1 = true
  fac : ∀ t ∈ ts, -M ≤ t.2.2 ∧ t.2.2 ≤ M
  one : ts.Pairwise fun a b => a.2.1 ≠ b.2.1
theorem Wf {n f : Int} {m : List Nat} {u : Int × List Nat × Int} : ∀ {ts : List (Int × List Nat × Int)}, u ∈ Zr n m f ts → (∃ t ∈ ts, u.1 = t.1 ∧ u.2.1 = t.2.1 ∧ (u.2.2 = t.2.2 ∨ u.2.2 = t.2.2 + f)) ∨ (u = (n, m, f) ∧ ∀ t ∈ ts, ¬ (n = t.1 ∧ m = t.2.1))
  | [], h => by
    rw [Zr, List.mem_singleton] at h
    exact .inr ⟨h, by simp⟩
  | t :: l, h => by
    unfold Zr at h
    split at h
    · rcases List.mem_cons.1 h with rfl | h
      · exact .inl ⟨t, List.mem_cons_self .., rfl, rfl, .inr rfl⟩
      · exact .inl ⟨u, List.mem_cons_of_mem _ h, rfl, rfl, .inl rfl⟩
    · rename_i e
      rcases List.mem_cons.1 h with rfl | h
      · exact .inl ⟨u, List.mem_cons_self .., rfl, rfl, .inl rfl⟩
      · rcases Wf h with ⟨v, hv, h1⟩ | ⟨h1, h2⟩
        · exact .inl ⟨v, List.mem_cons_of_mem _ hv, h1⟩
        · refine .inr ⟨h1, fun v hv => ?_⟩
          rcases List.mem_cons.1 hv with rfl | hv
          · exact e
          · exact h2 v hv
theorem qfa {n f : Int} {m : List Nat} : ∀ {ts : List (Int × List Nat × Int)}, (∀ t ∈ ts, t.1 = n) → (ts.Pairwise fun a b => a.2.1 ≠ b.2.1) → (Zr n m f ts).Pairwise fun a b => a.2.1 ≠ b.2.1
  | [], _, _ => List.pairwise_singleton _ _
  | t :: l, hs, h => by
    have h' := List.pairwise_cons.1 h
    unfold Zr
    split
    · exact List.pairwise_cons.2 ⟨fun u hu => h'.1 u hu, h'.2⟩
    · rename_i e
      refine List.pairwise_cons.2 ⟨fun u hu => ?_, qfa (fun u hu => hs u (List.mem_cons_of_mem _ hu)) h'.2⟩
      rcases Wf hu with ⟨v, hv, _, h2, _⟩ | ⟨rfl, _⟩
      · rw [h2]; exact h'.1 v hv
      · intro e2; exact e ⟨(hs t (List.mem_cons_self ..)).symm, e2.symm⟩
theorem qso {n f M F : Int} {m : List Nat} {ts : List (Int × List Nat × Int)} (hm : okD m) (hs : isS n.toNat m = true) (hf : -F ≤ f ∧ f ≤ F) (hM : 0 ≤ M) (h : qba n M ts) : qba n (M + F) (Zr n m f ts) := by
  refine ⟨fun u hu => ?_, fun u hu => ?_, fun u hu => ?_, qfa (fun t ht => (h.dia t ht).1) h.one⟩
  · rcases Wf hu with ⟨v, hv, _, h2, _⟩ | ⟨rfl, _⟩
    · rw [h2]; exact h.ok v hv
    · exact hm
  · rcases Wf hu with ⟨v, hv, h1, h2, _⟩ | ⟨rfl, _⟩
    · rw [h1, h2]; exact h.dia v hv
    · exact ⟨rfl, hs⟩
  · rcases Wf hu with ⟨v, hv, _, _, h3⟩ | ⟨rfl, _⟩
    · have := h.fac v hv
      rcases h3 with h3 | h3 <;> omega
    · simp only; omega
def jj (k : Int) (acc b : List (Int × List Nat × Int)) : List (Int × List Nat × Int) := b.foldl (fun acc t => Zr t.1 t.2.1 (k * t.2.2) acc) acc
theorem qfx {k : Int} {a b : List (Int × List Nat × Int)} {i : Nat} (h : i < b.length) : jj k a (b.take (i + 1)) = Zr b[i].1 b[i].2.1 (k * b[i].2.2) (jj k a (b.take i)) := by
  rw [List.take_succ_eq_append_getElem h, jj, List.foldl_append]; rfl
theorem qk4 {n f : Int} {m : List Nat} : ∀ {ts : List (Int × List Nat × Int)}, (Zr n m f ts).length ≤ ts.length + 1
  | [] => Nat.le_refl _
  | t :: l => by
    unfold Zr
    split
    · simp
    · have := qk4 (n := n) (m := m) (f := f) (ts := l)
      simp only [List.length_cons]; omega
def cf (m : List Nat) : List (Int × List Nat × Int) → Int
  | [] => 0
  | t :: l => (if t.2.1 = m then t.2.2 else 0) + cf m l
theorem qt5 {m : List Nat} : ∀ {a b : List (Int × List Nat × Int)}, cf m (a ++ b) = cf m a + cf m b
  | [], b => by simp [cf]
  | t :: a, b => by simp only [List.cons_append, cf, qt5 (a := a)]; omega
theorem qxo {m : List Nat} {a b : List (Int × List Nat × Int)} (h : a.Perm b) : cf m a = cf m b := by
  induction h with
  | nil => rfl
  | cons x _ ih => simp only [cf, ih]
  | swap x y l => simp only [cf]; omega
  | trans _ _ h1 h2 => rw [h1, h2]
theorem qd1 (p a : Int) : p ∣ a.emod p - a := ⟨-(a / p), by
  have : a.emod p = a - p * (a / p) := Int.emod_def a p
  rw [this, Int.mul_neg]; omega⟩
theorem kz {p x y z : Int} (h1 : p ∣ x) (h2 : p ∣ y) (e : z = x + y) : p ∣ z := e ▸ Int.dvd_add h1 h2
theorem qfw {p x y z : Int} (h1 : p ∣ x) (h2 : p ∣ y) (e : z = x - y) : p ∣ z := e ▸ Int.dvd_sub h1 h2
theorem qje {p a : Int} (h : a.emod p = 0) : p ∣ a := Int.dvd_of_emod_eq_zero h
theorem qi2 {n f : Int} {m m' : List Nat} : ∀ {ts : List (Int × List Nat × Int)}, (∀ t ∈ ts, t.1 = n) → cf m (Zr n m' f ts) = cf m ts + if m' = m then f else 0
  | [], _ => by simp [Zr, cf]
  | t :: l, h => by
    have h0 := h t (List.mem_cons_self ..)
    unfold Zr
    split
    · rename_i e
      simp only [cf, e.2]
      split <;> omega
    · simp only [cf, qi2 (ts := l) fun u hu => h u (List.mem_cons_of_mem _ hu)]
      omega
theorem qp8 {p : Int} {m : List Nat} : ∀ {ts : List (Int × List Nat × Int)}, p ∣ cf m (xz p ts) - cf m ts
  | [] => by simp [xz, cf]
  | t :: l => by
    have ih := qp8 (p := p) (m := m) (ts := l)
    unfold xz at ih ⊢
    rw [List.filterMap_cons]
    split
    · rename_i e
      split at e
      · rename_i e2
        simp only [cf]
        split
        · exact qfw ih (qje e2) (by omega)
        · exact kz ih (Int.dvd_zero p) (by omega)
      · cases e
    · rename_i u e
      split at e
      · cases e
      · cases e
        simp only [cf]
        split
        · exact kz ih (qd1 p t.2.2) (by omega)
        · exact kz ih (Int.dvd_zero p) (by omega)
theorem qpu {p n kk : Int} {m m' : List Nat} : ∀ {ts : List (Int × List Nat × Int)}, (∀ t ∈ ts, t.1 = n) → p ∣ cf m (Kz p n m' kk ts) - (cf m ts + if m' = m then kk else 0)
  | [], _ => by simp [Kz, cf]
  | t :: l, h => by
    have ih := qpu (p := p) (kk := kk) (m := m) (m' := m') (ts := l) fun u hu => h u (List.mem_cons_of_mem _ hu)
    unfold Kz
    split
    · simp only [cf]
      exact kz ih (Int.dvd_zero p) (by omega)
    · split
      · rename_i e
        rw [qt5]
        split
        · rename_i e0
          simp only [cf, e.2]
          split
          · exact qfw (Int.dvd_zero p) (qje e0) (by omega)
          · exact kz (Int.dvd_zero p) (Int.dvd_zero p) (by omega)
        · simp only [cf, e.2]
          split
          · exact kz (qd1 p (t.2.2 + kk)) (Int.dvd_zero p) (by omega)
          · exact kz (Int.dvd_zero p) (Int.dvd_zero p) (by omega)
      · simp only [cf]
        exact kz (Int.dvd_zero p) (Int.dvd_zero p) (by omega)
theorem qpv {p n k : Int} {m m' : List Nat} {ts : List (Int × List Nat × Int)} (h : ∀ t ∈ ts, t.1 = n) : p ∣ cf m (yp p ts n m' k) - (cf m ts + if m' = m then k else 0) := by
  rw [Gf]
  split
  · rename_i e
    split
    · exact qfw (Int.dvd_zero p) (qje e) (by omega)
    · exact kz (Int.dvd_zero p) (Int.dvd_zero p) (by omega)
  · have h1 := qpu (p := p) (kk := k.emod p) (m := m) (m' := m') h
    split at h1
    · rename_i e
      rw [if_pos e]
      exact kz h1 (qd1 p k) (by omega)
    · rename_i e
      rw [if_neg e]; exact h1
theorem qjt {m : List Nat} : ∀ {ts : List (Int × List Nat × Int)}, (∀ t ∈ ts, t.2.1 ≠ m) → cf m ts = 0
  | [], _ => rfl
  | t :: l, h => by
    simp only [cf, if_neg (h t (List.mem_cons_self ..)), qjt (ts := l) fun u hu => h u (List.mem_cons_of_mem _ hu)]; rfl
theorem qne : ∀ {ts : List (Int × List Nat × Int)}, (ts.Pairwise fun a b => a.2.1 ≠ b.2.1) → ∀ t ∈ ts, cf t.2.1 ts = t.2.2
  | u :: l, h, t, ht => by
    have h' := List.pairwise_cons.1 h
    rcases List.mem_cons.1 ht with rfl | ht
    · simp only [cf, if_true, qjt fun v hv e => h'.1 v hv e.symm]; omega
    · simp only [cf, if_neg (h'.1 t ht), qne h'.2 t ht]; omega
theorem qu6 {ts : List (Int × List Nat × Int)} {n : Int} (hs : ∀ t ∈ ts, t.1 = n) (h : upT ts) : ts.Pairwise fun a b => a.2.1 ≠ b.2.1 := by
  refine List.Pairwise.imp_of_mem ?_ h
  intro a b ha hb hlt e
  have : txt a = txt b := by unfold txt; rw [hs a ha, hs b hb, e]
  unfold ltT at hlt
  rw [this, Q9] at hlt; cases hlt
theorem qdt {p n : Int} {ts : List (Int × List Nat × Int)} (h : j0 p n ts) (hp : 0 < p) (m : List Nat) : (0 ≤ cf m ts ∧ cf m ts ≤ p - 1) ∧ ∀ t : Int × List Nat × Int, t.2.1 = m → (t ∈ ts ↔ t.1 = n ∧ t.2.2 = cf m ts ∧ cf m ts ≠ 0) := by
  have ha := qu6 (fun t ht => (h.dia t ht).1) h.up
  by_cases hx : ∃ t ∈ ts, t.2.1 = m
  · obtain ⟨t, ht, rfl⟩ := hx
    have e := qne ha t ht
    have hf := h.fac t ht
    rw [e]
    refine ⟨by omega, fun u hu => ⟨fun hm => ?_, fun ⟨h1, h2, _⟩ => ?_⟩⟩
    · have e2 := qne ha u hm
      rw [hu, e] at e2
      exact ⟨(h.dia u hm).1, e2.symm, by omega⟩
    · have : u = t := by
        obtain ⟨a, b, c⟩ := u
        obtain ⟨a', b', c'⟩ := t
        simp only at h1 h2 hu
        rw [h1, h2, hu, ← (h.dia _ ht).1]
      rw [this]; exact ht
  · have e := qjt (m := m) (ts := ts) fun t ht e => hx ⟨t, ht, e⟩
    rw [e]
    exact ⟨by omega, fun u hu => ⟨fun hm => absurd ⟨u, hm, hu⟩ hx, fun h3 => absurd rfl h3.2.2⟩⟩
theorem qls {ts : List (Int × List Nat × Int)} (h : upT ts) : ts.Nodup := h.imp fun {a b} hlt e => by
  subst e; unfold ltT at hlt; rw [Q9] at hlt; cases hlt
theorem qcs {p n : Int} {a b : List (Int × List Nat × Int)} (hp : 0 < p) (ha : j0 p n a) (hb : j0 p n b) (h : ∀ m, p ∣ cf m a - cf m b) : a = b := by
  have he : ∀ m, cf m a = cf m b := fun m => by
    obtain ⟨q, hq⟩ := h m
    have h1 := (qdt ha hp m).1
    have h2 := (qdt hb hp m).1
    have : q = 0 := by
      rcases Int.lt_trichotomy q 0 with hl | hl | hl
      · exfalso
        have : p * q ≤ p * (-1) := Int.mul_le_mul_of_nonneg_left (by omega) (by omega)
        omega
      · exact hl
      · exfalso
        have : p * 1 ≤ p * q := Int.mul_le_mul_of_nonneg_left (by omega) (by omega)
        omega
    subst this
    omega
  refine qbf ha.up hb.up ((List.perm_ext_iff_of_nodup (qls ha.up) (qls hb.up)).2 fun t => ?_)
  rw [(qdt ha hp t.2.1).2 t rfl, (qdt hb hp t.2.1).2 t rfl, he]
theorem qko {p n M : Int} {S : List (Int × List Nat × Int)} (hp : 0 < p) (h : qba n M S) : j0 p n (Xo (xz p S)) := by
  have hmem : ∀ t ∈ Xo (xz p S), ∃ u ∈ S, t = (u.1, u.2.1, u.2.2.emod p) ∧ u.2.2.emod p ≠ 0 := fun t ht => qfc ((ki _).mem_iff.1 ht)
  refine ⟨fun t ht => ?_, fun t ht => ?_, fun t ht => ?_, qaj (qfg ?_)⟩
  · obtain ⟨u, hu, rfl, _⟩ := hmem t ht; exact h.ok u hu
  · obtain ⟨u, hu, rfl, _⟩ := hmem t ht; exact h.dia u hu
  · obtain ⟨u, hu, rfl, hne⟩ := hmem t ht
    have b1 : 0 ≤ u.2.2.emod p := Int.emod_nonneg _ (by omega)
    have b2 : u.2.2.emod p < p := Int.emod_lt_of_pos _ hp
    simp only; omega
  · unfold U9 List.Nodup
    rw [List.pairwise_map]
    refine List.Pairwise.imp_of_mem ?_ h.one
    intro a b ha hb hne e
    unfold txt at e
    have h1 := h.dia a ha
    have h2 := h.dia b hb
    rw [h1.1, h2.1] at e
    exact hne (qe1 h1.2 h2.2 (h.ok a ha).1 (h.ok b hb).1 e).2
theorem qpx {p : Int} {m : List Nat} {S : List (Int × List Nat × Int)} : p ∣ cf m (Xo (xz p S)) - cf m S := by
  rw [qxo (ki _)]; exact qp8
theorem wj (P : Program) (B : xh) (cf : Bool) (K : St → Prop) (s : St) (a : AI) (t r : AT) : Bf P B cf (.alt a t r) K s = (qaa P B cf a (Bf P B cf t K) s ∧ Bf P B cf r K s) := nrX rfl
theorem uc (P : Program) (B : xh) (cf : Bool) (K : St → Prop) (s : St) : Bf P B cf .none K s = True := nrX rfl
theorem qis {α : Type} {f : α → α} : ∀ {l : List α} {j : Nat} {a : α}, l[j]? = some a → l.modify j f = l.set j (f a)
  | [], j, a, h => by simp at h
  | x :: l, 0, a, h => by simp only [List.getElem?_cons_zero, Option.some.injEq] at h; subst h; rfl
  | x :: l, j + 1, a, h => by
    simp only [List.getElem?_cons_succ] at h
    simp only [List.modify_succ_cons, List.set_cons_succ, qis h]
theorem qh9 {n : Int} {m : List Nat} {S : List (Int × List Nat × Int)} (hmo : okD m) (ho : okT S) (h : Zq n m S = none) :
    ud KD true (.agg (dia n m)) (esT 0 S) 0 = some none ∧
    ud KD true (.agg (dia n m)) (esT 0 S ++ [(⟨.agg (dia n m), .int .i64 0, S.length⟩ : AE)]) 0 = some (some (S.length, ⟨.agg (dia n m), .int .i64 0, S.length⟩)) ∧
    (esT 0 S ++ [(⟨.agg (dia n m), .int .i64 0, S.length⟩ : AE)]).findIdx? (fun x => (x.born : Int) == (S.length : Int)) = some S.length ∧
    (∀ v, (esT 0 S ++ [(⟨.agg (dia n m), .int .i64 0, S.length⟩ : AE)]).modify S.length (fun x => ⟨x.key, .int .i64 v, x.born⟩) = esT 0 (Zr n m v S)) ∧ (∀ v, (Zr n m v S).length = S.length + 1) := by
  have h2 := qbc h
  have e0 : ∀ v : Int, esT 0 S ++ [(⟨.agg (dia n m), .int .i64 v, S.length⟩ : AE)] = esT 0 (S ++ [(n, m, v)]) := fun v => by
    rw [qjq]; simp [esT]
  have hm := hmo.1
  have hidx : ∀ (l : List (Int × List Nat × Int)), Zq n m l = none → Zq n m (l ++ [(n, m, 0)]) = some l.length := fun l => by
    induction l with
    | nil => intro _; simp [Zq]
    | cons t l ih =>
      intro h
      unfold Zq at h
      split at h
      · cases h
      · rename_i hne
        have h3 : Zq n m l = none := by
          cases hi : Zq n m l with
          | none => rfl
          | some i => rw [hi] at h; cases h
        simp only [List.cons_append, Zq, if_neg hne, ih h3, Option.map_some, List.length_cons]
  refine ⟨by rw [Wt hm ho, h]; rfl, ?_, ?_, fun v => ?_, fun v => ?_⟩
  · rw [e0, Wt hm (fun t ht => by
      rcases List.mem_append.1 ht with ht | ht
      · exact ho t ht
      · rw [List.mem_singleton.1 ht]; exact hmo), hidx S h]
    simp
  · rw [e0]
    have := qfd (ts := S ++ [(n, m, 0)]) (k := 0) (j := S.length) (by simp)
    rwa [Nat.zero_add] at this
  · rw [e0, qiu, h2.1, qis (a := (n, m, 0)) (by simp)]
    simp
  · rw [h2.1]; simp
theorem qht {n : Int} {m : List Nat} {S : List (Int × List Nat × Int)} {j : Nat} (hm : m.length = 16) (ho : okT S) (h : Zq n m S = some j) :
    ud KD true (.agg (dia n m)) (esT 0 S) 0 = some (some (j, ⟨.agg (dia n m), .int .i64 (S.getD j zT).2.2, j⟩)) ∧
    (esT 0 S).set j ⟨.agg (dia n m), .int .i64 (S.getD j zT).2.2, j⟩ = esT 0 S ∧
    (esT 0 S).findIdx? (fun x => (x.born : Int) == (j : Int)) = some j ∧
    (∀ f, (esT 0 S).modify j (fun x => ⟨x.key, .int .i64 ((S.getD j zT).2.2 + f), x.born⟩) = esT 0 (Zr n m f S)) ∧ (∀ f, (Zr n m f S).length = S.length) := by
  obtain ⟨h1, h2, h3, h4⟩ := By h
  refine ⟨by rw [Wt hm ho, h]; simp, ?_, ?_, fun f => ?_, fun f => by rw [h4]; simp⟩
  · have := qio (n := n) (v := (S.getD j zT).2.2) (m := m) (ts := S) (k := 0) (j := j)
    rw [Nat.zero_add] at this
    rw [this]
    congr 1
    have e : (n, m, (S.getD j zT).2.2) = S.getD j zT := by rw [← h2, ← h3]
    rw [e, yc h1, List.set_getElem_self]
  · have := qfd (ts := S) (k := 0) h1
    rwa [Nat.zero_add] at this
  · rw [qiu, h4]
    rw [qis (List.getElem?_eq_getElem h1), ← yc h1, h2, h3]
theorem Wx {n F k : Int} (hF : 0 ≤ F) : ∀ {b acc : List (Int × List Nat × Int)} {M : Int}, 0 ≤ M → qba n M acc → (∀ t ∈ b, okD t.2.1 ∧ t.1 = n ∧ isS n.toNat t.2.1 = true ∧ -F ≤ k * t.2.2 ∧ k * t.2.2 ≤ F) → qba n (M + F * b.length) (jj k acc b)
  | [], acc, M, hM, h, _ => by simpa [jj] using h
  | t :: b, acc, M, hM, h, hb => by
    obtain ⟨h1, h2, h3, h4⟩ := hb t (List.mem_cons_self ..)
    have h5 := qso h1 h3 h4 hM h
    have := Wx hF (b := b) (by omega) h5 fun u hu => hb u (List.mem_cons_of_mem _ hu)
    rw [← h2] at this ⊢
    rw [List.length_cons, show M + F * ((b.length + 1 : Nat) : Int) = M + F + F * b.length by rw [Int.natCast_add, Int.mul_add]; omega]
    exact this
theorem qb2 {k : Int} : ∀ {b acc : List (Int × List Nat × Int)}, (jj k acc b).length ≤ acc.length + b.length
  | [], acc => by simp [jj]
  | t :: b, acc => by
    have h1 := qk4 (n := t.1) (m := t.2.1) (f := k * t.2.2) (ts := acc)
    have h2 := qb2 (k := k) (b := b) (acc := Zr t.1 t.2.1 (k * t.2.2) acc)
    have h3 : jj k acc (t :: b) = jj k (Zr t.1 t.2.1 (k * t.2.2) acc) b := rfl
    rw [h3, List.length_cons]; omega
theorem sum_nil {n : Int} : qba n 0 [] := ⟨(fun t h => by cases h), (fun t h => by cases h), (fun t h => by cases h), .nil⟩
theorem qhz {n M : Int} {S : List (Int × List Nat × Int)} (h : qba n M S) : (S.map txt).Nodup := by
  unfold List.Nodup
  rw [List.pairwise_map]
  refine List.Pairwise.imp_of_mem ?_ h.one
  intro a b ha hb hne e
  unfold txt at e
  have h1 := h.dia a ha
  have h2 := h.dia b hb
  rw [h1.1, h2.1] at e
  exact hne (qe1 h1.2 h2.2 (h.ok a ha).1 (h.ok b hb).1 e).2
theorem qt7 {n M p : Int} {S : List (Int × List Nat × Int)} (hn : 0 ≤ n ∧ n ≤ 8) (h : qba n M S) : (0 ≤ qd6 S ∧ qd6 S ≤ 8) ∧ (∀ t ∈ S, t.1 = qd6 S) ∧ (if xz p S = [] then n else qd6 S) = n := by
  match S, h with
  | [], h => exact ⟨by simp [qd6], by simp, by simp [xz]⟩
  | t :: l, h =>
    have e : qd6 (t :: l) = n := (h.dia t (List.mem_cons_self ..)).1
    rw [e]
    exact ⟨hn, fun u hu => (h.dia u hu).1, by split <;> rfl⟩
theorem zu : B37 113 = some (yw) := rfl
def Uy : AT := (.one (oM 20 7) (.one (oF 21 0 9) (.one (oN 22 17 21) (.one (oF 24 17 9) (.one (oL 25 24) (.alt (o0 23 (.lookup [.int,.int,.int,.int,.int,.int,.int,.int,.int,.int,.int,.int,.int,.int,.int,.int,.int] true (.int .i64 0) false (.t 20) (.t 22))) (.one (oP 26 .add 23 25) (.one (o0 27 (.V1 [.int,.int,.int,.int,.int,.int,.int,.int,.int,.int,.int,.int,.int,.int,.int,.int,.int] true (.int .i64 0) (.t 20) (.t 22))) (.one (oE 28 1 27) (.one ⟨none,none,.op (.Gl (.t 20) (.t 28) (.t 26))⟩ (.nil))))) (.alt (o0 27 (.V1 [.int,.int,.int,.int,.int,.int,.int,.int,.int,.int,.int,.int,.int,.int,.int,.int,.int] true (.int .i64 0) (.t 20) (.t 22))) (.one (o0 23 (.lookup [.int,.int,.int,.int,.int,.int,.int,.int,.int,.int,.int,.int,.int,.int,.int,.int,.int] true (.int .i64 0) false (.t 20) (.t 22))) (.one (oP 26 .add 23 25) (.one (oE 28 1 27) (.one ⟨none,none,.op (.Gl (.t 20) (.t 28) (.t 26))⟩ (.nil))))) (.none))))))))
def qcl : AC := .region [oK 29 .add 16 1,oM 16 29]
def U1 : AC := .seq (.region [oP 17 .lss 16 15]) (.seq (.cond 17 .skip (.exit 0)) (.seq (.block 1 (.seq (.region [oX 18 18 14 16,oN 19 18 18,o0 9 (.alloc [.int .i64 0,.int .u8 0,.int .u8 0,.int .u8 0,.int .u8 0,.int .u8 0,.int .u8 0,.int .u8 0,.int .u8 0,.int .u8 0,.int .u8 0,.int .u8 0,.int .u8 0,.int .u8 0,.int .u8 0,.int .u8 0,.int .u8 0,.int .i64 0]),oS 18 9 19]) (.tree false Uy))) qcl))
def Bd : AT := (.one (oM 37 7) (.one (oF 38 0 11) (.one (oN 39 17 38) (.one (oM 41 2) (.one (oF 42 17 11) (.one (oL 43 42) (.one (oP 44 .mul 41 43) (.alt (o0 40 (.lookup [.int,.int,.int,.int,.int,.int,.int,.int,.int,.int,.int,.int,.int,.int,.int,.int,.int] true (.int .i64 0) false (.t 37) (.t 39))) (.one (oP 45 .add 40 44) (.one (o0 46 (.V1 [.int,.int,.int,.int,.int,.int,.int,.int,.int,.int,.int,.int,.int,.int,.int,.int,.int] true (.int .i64 0) (.t 37) (.t 39))) (.one (oE 47 1 46) (.one ⟨none,none,.op (.Gl (.t 37) (.t 47) (.t 45))⟩ (.nil))))) (.alt (o0 46 (.V1 [.int,.int,.int,.int,.int,.int,.int,.int,.int,.int,.int,.int,.int,.int,.int,.int,.int] true (.int .i64 0) (.t 37) (.t 39))) (.one (o0 40 (.lookup [.int,.int,.int,.int,.int,.int,.int,.int,.int,.int,.int,.int,.int,.int,.int,.int,.int] true (.int .i64 0) false (.t 37) (.t 39))) (.one (oP 45 .add 40 44) (.one (oE 47 1 46) (.one ⟨none,none,.op (.Gl (.t 37) (.t 47) (.t 45))⟩ (.nil))))) (.none))))))))))
def qcn : AC := .region [oK 48 .add 33 1,oM 33 48]
def Uu : AC := .seq (.region [oP 34 .lss 33 32]) (.seq (.cond 34 .skip (.exit 2)) (.seq (.block 3 (.seq (.region [oX 35 18 31 33,oN 36 18 35,o0 11 (.alloc [.int .i64 0,.int .u8 0,.int .u8 0,.int .u8 0,.int .u8 0,.int .u8 0,.int .u8 0,.int .u8 0,.int .u8 0,.int .u8 0,.int .u8 0,.int .u8 0,.int .u8 0,.int .u8 0,.int .u8 0,.int .u8 0,.int .u8 0,.int .i64 0]),oS 18 11 36]) (.tree false Bd))) qcn))
def qdd : AC := .seq (.region [oM 49 7,oC 50 113 [.t 3,.t 49],oS 4 6 50]) .ret
def qck : AC := .seq (.seq (.region [oF 30 3 4,oL 31 30,o0 32 (.len .slc (.t 31)),oI 33 0]) (.block 2 (.loop Uu))) qdd
def qm5 : AC := .seq (.region [o0 3 (.box (.t 0)),o0 4 (.box (.t 1)),o0 6 (.alloc [.int .i64 0,.int .i64 0,.int .i64 0,(.v (.slice none 0 0))])]) (.seq (.region [o0 12 (.K7),oM 7 12]) (.seq (.seq (.region [oF 13 3 3,oL 14 13,o0 15 (.len .slc (.t 14)),oI 16 0]) (.block 0 (.loop U1))) qck))
theorem qu5 : xa Try.prog 71 = some ⟨51, qm5, [.kl 6 4]⟩ := by kernel_rfl
theorem qvo (p c n p' c' k : Int) (a b : List (Int × List Nat × Int)) (hp : 2 ≤ p ∧ p ≤ 97) (hn : 0 ≤ n ∧ n ≤ 8) (ha : j0 p n a) (hb : j0 p n b) (hl : a.length ≤ 100000 ∧ b.length ≤ 100000) (hk : -1000001 ≤ k ∧ k ≤ 1000001) :
    Am.Fn Try.prog 71 [elemV p c n 0 a.length, elemV p' c' n 1 b.length, .int .i64 k] [.ro (qn a), .ro (qn b)] (fun v H' => v = elemV p c n 2 (xz p (jj k (jj 1 [] a) b)).length ∧ H' = [.ro (qn a), .ro (qn b), .vec 18 (qn (Xo (xz p (jj k (jj 1 [] a) b))))]) := by
  refine Am.Fn.ofB qbq mixed qu5 (by simp [elemV, AV.q8, AV.under]) (b9 (qb _) (qb _)) ?_
  have hal := qm ha.ok
  have hbl := qm hb.ok
  simp (maxSteps := 3000000) only [qf, zH, qm5, zu, yw, elemV, hal, Nat.le_refl, iE, iN, iB, iC, iL, iD, iA, iS, iM, qa, zZ, ↓qp, ↓reduceIte, reduceCtorEq, nA, nM, nS, nE, nL, nD]; try simp only [qa, zY]
  have hsum1 : ∀ i : Nat, i ≤ a.length → qba n (100 * i) (jj 1 [] (a.take i)) ∧ (jj 1 [] (a.take i)).length ≤ i := fun i hi => by
    have h1 := Wx (n := n) (F := 100) (k := 1) (by omega) (b := a.take i) (acc := []) (M := 0) (by omega) sum_nil fun t ht => by
      have hm := List.mem_of_mem_take ht
      have h2 := ha.fac t hm
      exact ⟨ha.ok t hm, (ha.dia t hm).1, (ha.dia t hm).2, by omega, by omega⟩
    have h2 := qb2 (k := 1) (acc := []) (b := a.take i)
    rw [List.length_take, Nat.min_eq_left hi] at h1 h2
    exact ⟨by simpa using h1, by simpa using h2⟩
  refine WA.vc qbq (fun s => ∃ (i : Nat), i ≤ a.length ∧
      s = ⟨[(16, .int .i64 i), (15, .int .i64 a.length), (14, .slc 0 0 a.length false 0), (7, .map 5), (6, .ptr 4 0), (4, .ptr 3 0), (3, .ptr 2 0), (2, .int .i64 k)], [.ro (qn a), .ro (qn b), .cells [.int .i64 p, .int .i64 c, .int .i64 n, .slc 0 0 a.length false 0],
        .cells [.int .i64 p', .int .i64 c', .int .i64 n, .slc 1 0 b.length false 0], .cells [.int .i64 0, .int .i64 0, .int .i64 0, .v (.slice none 0 0)], ym (jj 1 [] (a.take i))]⟩)
    (fun s => match get s.env 16 with | .int _ x => a.length - x.toNat | _ => 0) ⟨_, q6.za [16, 15, 14, 7, 6, 4, 3, 2], 0, by omega, rfl⟩ ?_
  rintro s ⟨i, hi, rfl⟩
  obtain ⟨hS, hSl⟩ := hsum1 i hi
  by_cases hlt : i < a.length
  · have hli : (i : Int) < a.length := by omega
    have hli' : (0 : Int) ≤ i := by omega
    have hw : q7 .i64 ((i : Int) + 1) = ((i + 1 : Nat) : Int) := by rw [wrap64 (by omega) (by omega)]; rfl
    have hd := uj ha.ok hlt
    have hf := Jq ha.ok hlt
    have hg := b7 ha.ok hlt
    have hok := ha.ok _ (List.getElem_mem hlt)
    have hsz := ha.dia _ (List.getElem_mem hlt)
    have hfc := ha.fac _ (List.getElem_mem hlt)
    have hb1 : i * 18 < a.length * 18 := by omega
    have hb2 : i * 18 + 18 ≤ a.length * 18 := by omega
    have hb3 : i * 18 + 17 < a.length * 18 := by omega
    have hn1 := qfx (k := 1) (a := []) hlt
    obtain ⟨t, ht⟩ : ∃ t, t = a[i] := ⟨_, rfl⟩
    rw [← ht] at hd hf hg hok hsz hfc hn1
    clear ht
    obtain ⟨tn, m, f⟩ := t
    simp only at hd hf hg hok hsz hfc hn1
    obtain ⟨hsz1, hs⟩ := hsz
    have hsz1 := hsz1.symm
    subst hsz1
    have hov := Qe (t := (0, List.replicate 16 0, 0)) (u := (n, m, f)) (by simp) hok.1
    have htl := zx (t := (n, m, f)) hok
    have htd := Bj (t := (n, m, f)) hok
    have htf := ur (t := (n, m, f)) hok
    simp (maxSteps := 3000000) only [qf, zH, U1, zu, yw, hli, hli', hal, hb1, hb2, hb3, hw, hg, jr, htl, jq, xp, hov, iE, iN, iB, iC, iL, iD, iA, iS, iM, qa, zZ, ↓qp, ↓reduceIte, reduceCtorEq, nA, nM, nS, nE, nL, nD]; try simp only [qa, zY]
    refine WA.Jz qbq (fun s => s = ⟨[(16, .int .i64 i), (15, .int .i64 a.length), (14, .slc 0 0 a.length false 0), (7, .map 5), (6, .ptr 4 0), (4, .ptr 3 0), (3, .ptr 2 0), (2, .int .i64 k)], [.ro (qn a), .ro (qn b), .cells [.int .i64 p, .int .i64 c, .int .i64 n, .slc 0 0 a.length false 0],
        .cells [.int .i64 p', .int .i64 c', .int .i64 n, .slc 1 0 b.length false 0], .cells [.int .i64 0, .int .i64 0, .int .i64 0, .v (.slice none 0 0)], ym (jj 1 [] (a.take (i + 1)))]⟩) ?_ ?_
    · rw [hn1, Int.one_mul]
      generalize jj 1 [] (a.take i) = S at hS hSl
      have hmT : ym S = .map (esT 0 S) S.length := rfl
      have hkok : kok KD true (.agg (dia n m)) = true := qjj hok.1
      cases hix : Zq n m S with
      | none =>
        obtain ⟨f1, f2, f3, f4, f5⟩ := qh9 hok hS.ok hix
        have hw0 : q7 .i64 (0 + f) = f := by rw [wrap64 (by omega) (by omega)]; omega
        unfold Uy
        simp (maxSteps := 3000000) only [qf, zH, zu, yw, wj, uc, hmT, hkok, f1, f2, f3, f4, htl, htd, htf, hw0, vn, iE, iN, iB, iC, iL, iD, iA, iS, iM, qa, zZ, ↓qp, ↓reduceIte, reduceCtorEq, nA, nM, nS, nE, nL, nD]; try simp only [qa, zY]
        refine ⟨⟨_, q6.xy [0, 1, 2, 3, 4, 5] [16, 15, 14, 7, 6, 4, 3, 2] ⟨by decide, ?_⟩ ?_, ?_⟩, _, q6.xy [0, 1, 2, 3, 4, 5] [16, 15, 14, 7, 6, 4, 3, 2] ⟨by decide, ?_⟩ ?_, ?_⟩
        · simp only [qd _ _ (qb _), ↓zy, zK, ↓reduceIte, reduceCtorEq, nE, nB, nA]
        · simp only [qd _ _ (qb _), ↓zy, zK, ↓reduceIte, reduceCtorEq, nE, nB, nA]
        · simp only [qc _ _ (qb _), ↓uw, zL, ↓reduceIte, reduceCtorEq, nE, nA]
          rw [ym, f5]
        · simp only [qd _ _ (qb _), ↓zy, zK, ↓reduceIte, reduceCtorEq, nE, nB, nA]
        · simp only [qd _ _ (qb _), ↓zy, zK, ↓reduceIte, reduceCtorEq, nE, nB, nA]
        · simp only [qc _ _ (qb _), ↓uw, zL, ↓reduceIte, reduceCtorEq, nE, nA]
          rw [ym, f5]
      | some j =>
        obtain ⟨f1, f2, f3, f4, f5⟩ := qht hok.1 hS.ok hix
        have hj := By hix
        have hfj := hS.fac _ (show S.getD j zT ∈ S by rw [yc hj.1]; exact List.getElem_mem _)
        have hw0 : q7 .i64 ((S.getD j zT).2.2 + f) = (S.getD j zT).2.2 + f := wrap64 (by omega) (by omega)
        unfold Uy
        simp (maxSteps := 3000000) only [qf, zH, zu, yw, wj, uc, hmT, hkok, f1, f2, f3, f4, htl, htd, htf, hw0, vn, iE, iN, iB, iC, iL, iD, iA, iS, iM, qa, zZ, ↓qp, ↓reduceIte, reduceCtorEq, nA, nM, nS, nE, nL, nD]; try simp only [qa, zY]
        refine ⟨⟨_, q6.xy [0, 1, 2, 3, 4, 5] [16, 15, 14, 7, 6, 4, 3, 2] ⟨by decide, ?_⟩ ?_, ?_⟩, _, q6.xy [0, 1, 2, 3, 4, 5] [16, 15, 14, 7, 6, 4, 3, 2] ⟨by decide, ?_⟩ ?_, ?_⟩
        · simp only [qd _ _ (qb _), ↓zy, zK, ↓reduceIte, reduceCtorEq, nE, nB, nA]
        · simp only [qd _ _ (qb _), ↓zy, zK, ↓reduceIte, reduceCtorEq, nE, nB, nA]
        · simp only [qc _ _ (qb _), ↓uw, zL, ↓reduceIte, reduceCtorEq, nE, nA]
          rw [ym, f5]
        · simp only [qd _ _ (qb _), ↓zy, zK, ↓reduceIte, reduceCtorEq, nE, nB, nA]
        · simp only [qd _ _ (qb _), ↓zy, zK, ↓reduceIte, reduceCtorEq, nE, nB, nA]
        · simp only [qc _ _ (qb _), ↓uw, zL, ↓reduceIte, reduceCtorEq, nE, nA]
          rw [ym, f5]
    · rintro s rfl
      simp (maxSteps := 3000000) only [qf, zH, qcl, zu, yw, hw, iE, iN, iB, iC, iL, iD, iA, iS, iM, qa, zZ, ↓qp, ↓reduceIte, reduceCtorEq, nA, nM, nS, nE, nL, nD]; try simp only [qa, zY]
      refine ⟨_, q6.za [16, 15, 14, 7, 6, 4, 3, 2], ⟨i + 1, by omega, rfl⟩, ?_⟩
      simp only [zL, ↓reduceIte, reduceCtorEq, nE, nA]; omega
  have hli : ¬ ((i : Int) < a.length) := by omega
  obtain rfl : i = a.length := by omega
  have htk : a.take a.length = a := List.take_length
  rw [htk] at hS hSl
  have hmT : ym (jj 1 [] (a.take a.length)) = ym (jj 1 [] a) := by rw [htk]
  simp (maxSteps := 3000000) only [qf, zH, U1, qck, zu, yw, hli, hmT, Int.lt_irrefl, hbl, iE, iN, iB, iC, iL, iD, iA, iS, iM, qa, zZ, ↓qp, ↓reduceIte, reduceCtorEq, nA, nM, nS, nE, nL, nD]; try simp only [qa, zY]
  have hsum2 : ∀ i : Nat, i ≤ b.length → qba n (10000000 + 100000000 * i) (jj k (jj 1 [] a) (b.take i)) ∧ (jj k (jj 1 [] a) (b.take i)).length ≤ a.length + i := fun i hi => by
    have h1 := Wx (n := n) (F := 100000000) (k := k) (by omega) (b := b.take i) (acc := jj 1 [] a) (M := 100 * a.length) (by omega) hS fun t ht => by
      have hm := List.mem_of_mem_take ht
      have h2 := hb.fac t hm
      have h3 : -1000001 * t.2.2 ≤ k * t.2.2 := Int.mul_le_mul_of_nonneg_right (by omega) (by omega)
      have h4 : k * t.2.2 ≤ 1000001 * t.2.2 := Int.mul_le_mul_of_nonneg_right (by omega) (by omega)
      generalize k * t.2.2 = q at h3 h4 ⊢
      exact ⟨hb.ok t hm, (hb.dia t hm).1, (hb.dia t hm).2, by omega, by omega⟩
    have h2 := qb2 (k := k) (acc := jj 1 [] a) (b := b.take i)
    rw [List.length_take, Nat.min_eq_left hi] at h1 h2
    exact ⟨⟨h1.ok, h1.dia, fun t ht => by have := h1.fac t ht; omega, h1.one⟩, by omega⟩
  refine WA.vc qbq (fun s => ∃ (i : Nat), i ≤ b.length ∧
      s = ⟨[(33, .int .i64 i), (32, .int .i64 b.length), (31, .slc 1 0 b.length false 0), (7, .map 5), (6, .ptr 4 0), (3, .ptr 2 0), (2, .int .i64 k)], [.ro (qn a), .ro (qn b), .cells [.int .i64 p, .int .i64 c, .int .i64 n, .slc 0 0 a.length false 0],
        .cells [.int .i64 p', .int .i64 c', .int .i64 n, .slc 1 0 b.length false 0], .cells [.int .i64 0, .int .i64 0, .int .i64 0, .v (.slice none 0 0)], ym (jj k (jj 1 [] a) (b.take i))]⟩)
    (fun s => match get s.env 33 with | .int _ x => b.length - x.toNat | _ => 0) ⟨_, q6.za [33, 32, 31, 7, 6, 3, 2], 0, by omega, rfl⟩ ?_
  clear hS hSl hmT htk hi hlt hli
  rintro s ⟨i, hi, rfl⟩
  obtain ⟨hS, hSl⟩ := hsum2 i hi
  by_cases hlt : i < b.length
  · have hli : (i : Int) < b.length := by omega
    have hli' : (0 : Int) ≤ i := by omega
    have hw : q7 .i64 ((i : Int) + 1) = ((i + 1 : Nat) : Int) := by rw [wrap64 (by omega) (by omega)]; rfl
    have hd := uj hb.ok hlt
    have hf := Jq hb.ok hlt
    have hg := b7 hb.ok hlt
    have hok := hb.ok _ (List.getElem_mem hlt)
    have hsz := hb.dia _ (List.getElem_mem hlt)
    have hfc := hb.fac _ (List.getElem_mem hlt)
    have hb1 : i * 18 < b.length * 18 := by omega
    have hb2 : i * 18 + 18 ≤ b.length * 18 := by omega
    have hn1 := qfx (k := k) (a := jj 1 [] a) hlt
    obtain ⟨t, ht⟩ : ∃ t, t = b[i] := ⟨_, rfl⟩
    rw [← ht] at hd hf hg hok hsz hfc hn1
    clear ht
    obtain ⟨tn, m, f⟩ := t
    simp only at hd hf hg hok hsz hfc hn1
    obtain ⟨hsz1, hs⟩ := hsz
    have hsz1 := hsz1.symm
    subst hsz1
    have hov := Qe (t := (0, List.replicate 16 0, 0)) (u := (n, m, f)) (by simp) hok.1
    have htl := zx (t := (n, m, f)) hok
    have htd := Bj (t := (n, m, f)) hok
    have htf := ur (t := (n, m, f)) hok
    have hkf : -100000000 ≤ k * f ∧ k * f ≤ 100000000 := by
      have h1 : -1000001 * f ≤ k * f := Int.mul_le_mul_of_nonneg_right (by omega) (by omega)
      have h2 : k * f ≤ 1000001 * f := Int.mul_le_mul_of_nonneg_right (by omega) (by omega)
      generalize k * f = q at h1 h2 ⊢
      omega
    obtain ⟨kf, hkfe⟩ : ∃ kf, kf = k * f := ⟨_, rfl⟩
    have hwk : q7 .i64 (k * f) = kf := by rw [hkfe]; exact wrap64 (by omega) (by omega)
    rw [← hkfe] at hkf hn1
    simp (maxSteps := 3000000) only [qf, zH, Uu, zu, yw, hli, hli', hbl, hb1, hb2, hw, hg, jr, htl, jq, xp, hov, iE, iN, iB, iC, iL, iD, iA, iS, iM, qa, zZ, ↓qp, ↓reduceIte, reduceCtorEq, nA, nM, nS, nE, nL, nD]; try simp only [qa, zY]
    refine WA.Jz qbq (fun s => s = ⟨[(33, .int .i64 i), (32, .int .i64 b.length), (31, .slc 1 0 b.length false 0), (7, .map 5), (6, .ptr 4 0), (3, .ptr 2 0), (2, .int .i64 k)], [.ro (qn a), .ro (qn b), .cells [.int .i64 p, .int .i64 c, .int .i64 n, .slc 0 0 a.length false 0],
        .cells [.int .i64 p', .int .i64 c', .int .i64 n, .slc 1 0 b.length false 0], .cells [.int .i64 0, .int .i64 0, .int .i64 0, .v (.slice none 0 0)], ym (jj k (jj 1 [] a) (b.take (i + 1)))]⟩) ?_ ?_
    · rw [hn1]
      generalize jj k (jj 1 [] a) (b.take i) = S at hS hSl
      have hmT : ym S = .map (esT 0 S) S.length := rfl
      have hkok : kok KD true (.agg (dia n m)) = true := qjj hok.1
      cases hix : Zq n m S with
      | none =>
        obtain ⟨f1, f2, f3, f4, f5⟩ := qh9 hok hS.ok hix
        have hw0 : q7 .i64 (0 + kf) = kf := by rw [wrap64 (by omega) (by omega)]; omega
        unfold Bd
        simp (maxSteps := 3000000) only [qf, zH, zu, yw, wj, uc, hmT, hkok, f1, f2, f3, f4, htl, htd, htf, hw0, hwk, vn, iE, iN, iB, iC, iL, iD, iA, iS, iM, qa, zZ, ↓qp, ↓reduceIte, reduceCtorEq, nA, nM, nS, nE, nL, nD]; try simp only [qa, zY]
        refine ⟨⟨_, q6.xy [0, 1, 2, 3, 4, 5] [33, 32, 31, 7, 6, 3, 2] ⟨by decide, ?_⟩ ?_, ?_⟩, _, q6.xy [0, 1, 2, 3, 4, 5] [33, 32, 31, 7, 6, 3, 2] ⟨by decide, ?_⟩ ?_, ?_⟩
        · simp only [qd _ _ (qb _), ↓zy, zK, ↓reduceIte, reduceCtorEq, nE, nB, nA]
        · simp only [qd _ _ (qb _), ↓zy, zK, ↓reduceIte, reduceCtorEq, nE, nB, nA]
        · simp only [qc _ _ (qb _), ↓uw, zL, ↓reduceIte, reduceCtorEq, nE, nA]
          rw [ym, f5]
        · simp only [qd _ _ (qb _), ↓zy, zK, ↓reduceIte, reduceCtorEq, nE, nB, nA]
        · simp only [qd _ _ (qb _), ↓zy, zK, ↓reduceIte, reduceCtorEq, nE, nB, nA]
        · simp only [qc _ _ (qb _), ↓uw, zL, ↓reduceIte, reduceCtorEq, nE, nA]
          rw [ym, f5]
      | some j =>
        obtain ⟨f1, f2, f3, f4, f5⟩ := qht hok.1 hS.ok hix
        have hj := By hix
        have hfj := hS.fac _ (show S.getD j zT ∈ S by rw [yc hj.1]; exact List.getElem_mem _)
        have hw0 : q7 .i64 ((S.getD j zT).2.2 + kf) = (S.getD j zT).2.2 + kf := wrap64 (by omega) (by omega)
        unfold Bd
        simp (maxSteps := 3000000) only [qf, zH, zu, yw, wj, uc, hmT, hkok, f1, f2, f3, f4, htl, htd, htf, hw0, hwk, vn, iE, iN, iB, iC, iL, iD, iA, iS, iM, qa, zZ, ↓qp, ↓reduceIte, reduceCtorEq, nA, nM, nS, nE, nL, nD]; try simp only [qa, zY]
        refine ⟨⟨_, q6.xy [0, 1, 2, 3, 4, 5] [33, 32, 31, 7, 6, 3, 2] ⟨by decide, ?_⟩ ?_, ?_⟩, _, q6.xy [0, 1, 2, 3, 4, 5] [33, 32, 31, 7, 6, 3, 2] ⟨by decide, ?_⟩ ?_, ?_⟩
        · simp only [qd _ _ (qb _), ↓zy, zK, ↓reduceIte, reduceCtorEq, nE, nB, nA]
        · simp only [qd _ _ (qb _), ↓zy, zK, ↓reduceIte, reduceCtorEq, nE, nB, nA]
        · simp only [qc _ _ (qb _), ↓uw, zL, ↓reduceIte, reduceCtorEq, nE, nA]
          rw [ym, f5]
        · simp only [qd _ _ (qb _), ↓zy, zK, ↓reduceIte, reduceCtorEq, nE, nB, nA]
        · simp only [qd _ _ (qb _), ↓zy, zK, ↓reduceIte, reduceCtorEq, nE, nB, nA]
        · simp only [qc _ _ (qb _), ↓uw, zL, ↓reduceIte, reduceCtorEq, nE, nA]
          rw [ym, f5]
    · rintro s rfl
      simp (maxSteps := 3000000) only [qf, zH, qcn, zu, yw, hw, iE, iN, iB, iC, iL, iD, iA, iS, iM, qa, zZ, ↓qp, ↓reduceIte, reduceCtorEq, nA, nM, nS, nE, nL, nD]; try simp only [qa, zY]
      refine ⟨_, q6.za [33, 32, 31, 7, 6, 3, 2], ⟨i + 1, by omega, rfl⟩, ?_⟩
      simp only [zL, ↓reduceIte, reduceCtorEq, nE, nA]; omega
  have hli : ¬ ((i : Int) < b.length) := by omega
  obtain rfl : i = b.length := by omega
  have htk : b.take b.length = b := List.take_length
  rw [htk] at hS hSl ⊢
  have hap := qhz hS
  obtain ⟨hz1, hz2, hz3⟩ := qt7 (p := p) hn hS
  have hSo := hS.ok
  generalize jj k (jj 1 [] a) b = S at *
  have hmT : ym S = .map (esT 0 S) S.length := rfl
  have hts := qjv (ts := S) (k := 0) hSo
  have hSl' : S.length ≤ 1000000 := by omega
  have hpp : 0 < p ∧ p ≤ 1000000 := by omega
  simp (maxSteps := 3000000) only [qf, zH, Uu, qdd, zu, yw, hli, hmT, Int.lt_irrefl, hts, hpp, hSl', hz1, hz2, hz3, hap, and_self, elemV, iE, iN, iB, iC, iL, iD, iA, iS, iM, qa, zZ, ↓qp, ↓reduceIte, reduceCtorEq, nA, nM, nS, nE, nL, nD]; try simp only [qa, zY]
  refine ⟨hz2, rfl, ?_⟩
  refine Ret.xy [0, 1, 6] ⟨⟨by simp, rfl, by decide⟩, ?_⟩ (rs := [.agg [.int .i64 p, .int .i64 c, .int .i64 n, .slc 6 0 (xz p S).length false 0]]) rfl rfl (by simp [xj]) ?_ ⟨?_, ?_⟩
  · simp only [qd _ _ (qb _), ↓zy, zK, ↓reduceIte, reduceCtorEq, nE, nB, nA]
  · intro j l; match j with
    | 0 => simp [ze, AO.ren]
    | 1 => simp [ze, AO.ren]
    | 2 => simp [ze, AO.ren]
    | j + 3 => simp [ze]
  · simp only [xj]
    simp only [zL, ↓reduceIte, reduceCtorEq, nE, nA]
  · simp only [qc _ _ (qb _), zL, ↓reduceIte, reduceCtorEq, nE, nA]
theorem qfo {n k : Int} {m : List Nat} : ∀ {b acc : List (Int × List Nat × Int)}, (∀ t ∈ acc, t.1 = n) → (∀ t ∈ b, t.1 = n) → cf m (jj k acc b) = cf m acc + k * cf m b ∧ ∀ t ∈ jj k acc b, t.1 = n
  | [], acc, h, _ => ⟨by simp [jj, cf], h⟩
  | t :: b, acc, h, hb => by
    have h0 := hb t (List.mem_cons_self ..)
    have h1 : ∀ u ∈ Zr t.1 t.2.1 (k * t.2.2) acc, u.1 = n := fun u hu => by
      rcases Wf hu with ⟨v, hv, e, _⟩ | ⟨rfl, _⟩
      · rw [e]; exact h v hv
      · exact h0
    have ih := qfo (k := k) (m := m) (b := b) h1 fun u hu => hb u (List.mem_cons_of_mem _ hu)
    have e : jj k acc (t :: b) = jj k (Zr t.1 t.2.1 (k * t.2.2) acc) b := rfl
    rw [e]
    refine ⟨?_, ih.2⟩
    have h2 := qi2 (f := k * t.2.2) (m := m) (m' := t.2.1) h
    rw [← h0] at h2
    rw [ih.1, h2, cf, Int.mul_add]
    split
    · omega
    · rw [Int.mul_zero]; omega
theorem qpq {p n k : Int} {m : List Nat} {ts : List (Int × List Nat × Int)} (h : ∀ t ∈ ts, t.1 = n) : ∀ t ∈ yp p ts n m k, t.1 = n := fun t ht => by
  rw [Gf] at ht
  split at ht
  · exact h t ht
  · rcases Wu ht with h1 | ⟨h1, _⟩
    · exact h t h1
    · exact h1
theorem qpm {p n k : Int} {m : List Nat} : ∀ {b acc : List (Int × List Nat × Int)}, (∀ t ∈ acc, t.1 = n) → p ∣ cf m (ku p n k acc b) - (cf m acc + k * cf m b)
  | [], acc, h => by simp [ku, cf]
  | t :: b, acc, h => by
    have ih := qpm (p := p) (k := k) (m := m) (b := b) (qpq (p := p) (m := t.2.1) (k := k * t.2.2) h)
    have h1 := qpv (p := p) (k := k * t.2.2) (m := m) (m' := t.2.1) h
    have e : ku p n k acc (t :: b) = ku p n k (yp p acc n t.2.1 (k * t.2.2)) b := rfl
    rw [e]
    refine kz ih h1 ?_
    rw [cf, Int.mul_add]
    split
    · omega
    · rw [Int.mul_zero]; omega
theorem qss {p n k M : Int} {a b : List (Int × List Nat × Int)} (hp : 0 < p) (ha : j0 p n a) (hb : j0 p n b) (h : qba n M (jj k (jj 1 [] a) b)) : Xo (xz p (jj k (jj 1 [] a) b)) = ku p n k a b := by
  have ha' : ∀ t ∈ a, t.1 = n := fun t ht => (ha.dia t ht).1
  have hb' : ∀ t ∈ b, t.1 = n := fun t ht => (hb.dia t ht).1
  refine qcs hp (qko hp h) (Wj hp ha hb).1 fun m => ?_
  have h1 := qfo (n := n) (k := 1) (m := m) (acc := []) (b := a) (by simp) ha'
  have h2 := qfo (k := k) (m := m) h1.2 hb'
  have h3 := qpx (p := p) (m := m) (S := jj k (jj 1 [] a) b)
  have h4 := qpm (p := p) (k := k) (m := m) (b := b) ha'
  refine qfw h3 h4 ?_
  rw [h2.1, h1.1]
  simp only [cf]; omega
theorem qsy {p n k : Int} {a b : List (Int × List Nat × Int)} (hp : 2 ≤ p ∧ p ≤ 97) (ha : j0 p n a) (hb : j0 p n b) (hk : -1000001 ≤ k ∧ k ≤ 1000001) : ∃ M, qba n M (jj k (jj 1 [] a) b) := by
  have h1 := Wx (n := n) (F := 100) (k := 1) (by omega) (b := a) (acc := []) (M := 0) (by omega) sum_nil fun t hm => by
    have h2 := ha.fac t hm
    exact ⟨ha.ok t hm, (ha.dia t hm).1, (ha.dia t hm).2, by omega, by omega⟩
  exact ⟨_, Wx (n := n) (F := 100000000) (k := k) (by omega) (b := b) (by omega) h1 fun t hm => by
    have h2 := hb.fac t hm
    have h3 : -1000001 * t.2.2 ≤ k * t.2.2 := Int.mul_le_mul_of_nonneg_right (by omega) (by omega)
    have h4 : k * t.2.2 ≤ 1000001 * t.2.2 := Int.mul_le_mul_of_nonneg_right (by omega) (by omega)
    generalize k * t.2.2 = q at h3 h4 ⊢
    exact ⟨hb.ok t hm, (hb.dia t hm).1, (hb.dia t hm).2, by omega, by omega⟩⟩
def gf : BE := fun hp xs => match xs with
  | [.agg [.int .i64 p, .int .i64 c, .int .i64 n, .slc b 0 la false 0], .agg [.int .i64 p', .int .i64 c', .int .i64 n', .slc b' 0 lb false 0], .int .i64 k] => match rd hp b, rd hp b' with
    | some L, some L' => match Qa la L, Qa lb L' with
      | some ta, some tb => chk ((((2 ≤ p ∧ p ≤ 97) ∧ (0 ≤ n ∧ n ≤ 8) ∧ n' = n) ∧ Bi p n ta ∧ Bi p n tb) ∧ (ta.length ≤ 100000 ∧ tb.length ≤ 100000) ∧ (-1000001 ≤ k ∧ k ≤ 1000001)) (some (elemV p c n hp.length (ku p n k ta tb).length, hp ++ [.vec 18 (qn (ku p n k ta tb))]))
      | _, _ => none
    | _, _ => none
  | _ => none
theorem qzi : Am.Callee Try.prog 71 gf := Callee.fp fun hp xs v hp' he => by
  unfold gf at he
  split at he
  · rename_i p c n b la p' c' n' b' lb k
    split at he
    · rename_i L L' hL hL'
      split at he
      · rename_i ta tb h1 h1'
        obtain ⟨⟨⟨⟨a1, a2, a3⟩, a4, a5⟩, a6, a7⟩, he2⟩ := qo he
        simp only [Option.some.injEq, Prod.mk.injEq] at he2
        obtain ⟨rfl, rfl⟩ := he2
        obtain ⟨e1, e2, e3, e4⟩ := xl h1
        obtain ⟨f1, f2, f3, f4⟩ := xl h1'
        have g1 := qm e2
        have g2 := qm f2
        subst a3
        have hfn := qvo p c n' p' c' k ta tb a1 a2 (a4.qgj e2) (a5.qgj f2) a6 a7
        obtain ⟨M, hM⟩ := qsy a1 (a4.qgj e2) (a5.qgj f2) a7
        have hlaw := qss (by omega) (a4.qgj e2) (a5.qgj f2) hM
        have hlen : (xz p (jj k (jj 1 [] ta) tb)).length = (ku p n' k ta tb).length := by rw [← hlaw]; exact (ki _).length_eq.symm
        rw [hlaw, hlen] at hfn
        refine ⟨[(b, 0), (b', 0)], [elemV p c n' 0 ta.length, elemV p' c' n' 1 tb.length, .int .i64 k], _, _, _, hfn, by simp [elemV, AV.ren, AV.zz, ofL, e1, f1], rfl,
          ⟨⟨L, hL, by omega, by rw [List.drop_zero, qc _ _ (qb _), g1, e1]; exact e3⟩, ⟨L', hL', by omega, by rw [List.drop_zero, qc _ _ (qb _), g2, f1]; exact f3⟩, trivial⟩, rfl,
          ⟨qk _ _ (qb _), qk _ _ (qb _), trivial⟩, ⟨⟨trivial, trivial, trivial, by simp [AV.under], trivial⟩, ⟨trivial, trivial, trivial, by simp [AV.under], trivial⟩, trivial, trivial⟩, by simp [elemV, AV.ren, AV.zz, Ren.ext], ?_⟩
        simp [after, upd, AO.wr, AO.ren, qc _ _ (qb _)]
      · cases he
    · cases he
  · cases he
def B38 : xh := (B37.put 71 (gf))
theorem qy8 : zf Try.prog B38 := (qbq.put (qzi))
abbrev qbt : AO := .cells [.int .i64 0, .int .i64 0, .int .i64 0, .v (.slice none 0 0)]
theorem Bu {p c n : Int} {a : List (Int × List Nat × Int)} (h : j7 p c n a = true) : (2 ≤ p ∧ p ≤ 97) ∧ (0 ≤ c ∧ c ≤ p - 1) ∧ (1 ≤ n ∧ n ≤ 8) ∧ a.length ≤ 140 := by
  simp only [j7, Bool.and_eq_true, decide_eq_true_eq] at h
  have := qk0 h.1.1.1.1
  exact ⟨by omega, h.1.1.1.2, h.1.1.2, h.1.2⟩
abbrev ER := Int × Int × Int × List (Int × List Nat × Int) × Int
def qzr (r : ER) : Prop := okT r.2.2.2.1 ∧ r.2.2.2.1.length ≤ 300
def B39 : xh := B38
theorem qn7 : zf Try.prog B39 := qy8
structure NC (L : Nat) (F : Nat → Nat) : Prop where
  lt : ∀ k, k < L → F k < L
  inv : ∀ k, k < L → F (F k) = k
  fix : ∀ k, k < L → F k ≠ k
  vj : ∀ j l, j < L → l < L → ¬(j < l ∧ l < F j ∧ F j < F l)
def mf (n : Nat) (m : List Nat) (k : Nat) : Nat := place n (m.getD (place n k) 0)
theorem jw {n : Nat} {m : List Nat} (h : isS n m = true) : (1 ≤ n ∧ n ≤ 8) ∧ (∀ i, i < 2 * n → m.getD i 0 < 2 * n ∧ m.getD i 0 ≠ i ∧ m.getD (m.getD i 0) 0 = i) ∧ ∀ i, 2 * n ≤ i → i < 16 → m.getD i 0 = 0 := by
  unfold isS at h
  simp only [Bool.and_eq_true, decide_eq_true_eq] at h
  obtain ⟨hn, hp, hc⟩ := h
  refine ⟨hn, fun i hi => ?_, fun i hi hi' => ?_⟩
  · have := List.all_eq_true.1 hp i (List.mem_range.2 (by omega))
    rw [if_neg (by omega)] at this
    simpa using this
  · have := List.all_eq_true.1 hp i (List.mem_range.2 hi')
    rw [if_pos hi] at this
    simpa using this
theorem qih {n : Nat} {m : List Nat} (h : isS n m = true) : NC (2 * n) (mf n m) := by
  obtain ⟨hn, hp', hz⟩ := jw h
  unfold isS at h
  simp only [Bool.and_eq_true, decide_eq_true_eq] at h
  obtain ⟨_, _, hc⟩ := h
  refine ⟨fun k hk => zp (hp' _ (zp hk)).1, fun k hk => ?_, fun k hk e => ?_, ?_⟩
  · show place n (m.getD (place n (place n (m.getD (place n k) 0))) 0) = k
    rw [zq (hp' _ (zp hk)).1, (hp' _ (zp hk)).2.2, zq hk]
  · apply (hp' _ (zp hk)).2.1
    rw [← zq (hp' _ (zp hk)).1]
    show place n (mf n m k) = place n k
    rw [e]
  · rintro j l hj hl ⟨b1, b2, b3⟩
    have h1 := List.all_eq_true.1 (List.all_eq_true.1 hc (place n j) (List.mem_range.2 (zp hj))) (place n l) (List.mem_range.2 (zp hl))
    simp only [Vk, Vj, zq hj, zq hl, Bool.not_eq_true', decide_eq_false_iff_not] at h1
    apply h1
    show min j (mf n m j) < min l (mf n m l) ∧ min l (mf n m l) < max j (mf n m j) ∧ max j (mf n m j) < max l (mf n m l)
    omega
theorem qzb {n : Nat} {m : List Nat} (hn : 1 ≤ n ∧ n ≤ 8) (hz : ∀ i, 2 * n ≤ i → i < 16 → m.getD i 0 = 0) (hl : ∀ i, i < 2 * n → m.getD i 0 < 2 * n) (h : NC (2 * n) (mf n m)) : isS n m = true := by
  have hm : ∀ i, i < 2 * n → mf n m (place n i) = place n (m.getD i 0) := fun i hi => by unfold mf; rw [zq hi]
  unfold isS
  simp only [Bool.and_eq_true, decide_eq_true_eq]
  refine ⟨hn, List.all_eq_true.2 fun i hi => ?_, List.all_eq_true.2 fun i hi => List.all_eq_true.2 fun k hk => ?_⟩
  · have hi' := List.mem_range.1 hi
    split
    · rename_i g1; simpa using hz i g1 hi'
    · rename_i g1
      have hi2 : i < 2 * n := by omega
      have h1 := hl i hi2
      simp only [decide_eq_true_eq]
      refine ⟨h1, fun e => ?_, ?_⟩
      · apply h.fix (place n i) (zp hi2)
        rw [hm i hi2, e]
      · have h2 := h.inv (place n i) (zp hi2)
        rw [hm i hi2, hm _ h1] at h2
        have h3 := congrArg (place n) h2
        rwa [zq (hl _ h1), zq hi2] at h3
  · have hi' := List.mem_range.1 hi
    have hk' := List.mem_range.1 hk
    simp only [Vk, Vj, ← hm i hi', ← hm k hk', Bool.not_eq_true', decide_eq_false_iff_not]
    rintro ⟨b1, b2, b3⟩
    have hx := zp hi'
    have hy := zp hk'
    generalize place n i = x at *
    generalize place n k = y at *
    have a := h.lt x hx
    have a' := h.lt y hy
    have c := h.inv x hx
    have c' := h.inv y hy
    have k1 := h.vj x y hx hy
    have k2 := h.vj x (mf n m y) hx a'
    have k3 := h.vj (mf n m x) y a hy
    have k4 := h.vj (mf n m x) (mf n m y) a a'
    rw [c'] at k2
    rw [c] at k3
    rw [c, c'] at k4
    omega
def up (j k : Nat) : Nat := if k < j then k else k + 2
def dn (j k : Nat) : Nat := if k < j then k else k - 2
theorem qp0 {j k : Nat} (h1 : k ≠ j) (h2 : k ≠ j + 1) : up j (dn j k) = k := by
  unfold up dn
  by_cases h : k < j
  · rw [if_pos h, if_pos h]
  · rw [if_neg h, if_neg (by omega)]; omega
theorem qqe {j k : Nat} : dn j (up j k) = k := by
  unfold up dn
  by_cases h : k < j
  · rw [if_pos h, if_pos h]
  · rw [if_neg h, if_neg (by omega)]; omega
theorem qg7 {j k : Nat} : up j k ≠ j ∧ up j k ≠ j + 1 := by unfold up; split <;> omega
theorem qhj {j k k' : Nat} : up j k < up j k' ↔ k < k' := by unfold up; split <;> split <;> omega
theorem ql5 {j k L : Nat} (hj : j ≤ L) : up j k < L + 2 ↔ k < L := by unfold up; split <;> omega
theorem NC.insert {L j : Nat} {F F' : Nat → Nat} (h : NC L F) (hj : j ≤ L) (e1 : F' j = j + 1) (e2 : F' (j + 1) = j) (e : ∀ k, k < L → F' (up j k) = up j (F k)) : NC (L + 2) F' := by
  have hc : ∀ k, k < L + 2 → k = j ∨ k = j + 1 ∨ ∃ i, i < L ∧ k = up j i := fun k hk => by
    by_cases h1 : k = j
    · exact .inl h1
    by_cases h2 : k = j + 1
    · exact .inr (.inl h2)
    exact .inr (.inr ⟨dn j k, (ql5 hj).1 (by rw [qp0 h1 h2]; exact hk), (qp0 h1 h2).symm⟩)
  refine ⟨fun k hk => ?_, fun k hk => ?_, fun k hk => ?_, fun a b ha hb => ?_⟩
  · rcases hc k hk with rfl | rfl | ⟨i, hi, rfl⟩
    · omega
    · omega
    · rw [e i hi]; exact (ql5 hj).2 (h.lt i hi)
  · rcases hc k hk with rfl | rfl | ⟨i, hi, rfl⟩
    · rw [e1, e2]
    · rw [e2, e1]
    · rw [e i hi, e _ (h.lt i hi), h.inv i hi]
  · rcases hc k hk with rfl | rfl | ⟨i, hi, rfl⟩
    · omega
    · omega
    · rw [e i hi]
      intro h2
      have := congrArg (dn j) h2
      rw [qqe, qqe] at this
      exact h.fix i hi this
  · rcases hc a ha with rfl | rfl | ⟨i, hi, rfl⟩
    · rw [e1]; omega
    · rw [e2]; omega
    · rcases hc b hb with rfl | rfl | ⟨l, hl, rfl⟩
      · rw [e1, e i hi]; have := @qg7 b (F i); omega
      · rw [e2, e i hi]; have := @qg7 j (F i); have := @qg7 j i; omega
      · rw [e i hi, e l hl, qhj, qhj, qhj]; exact h.vj i l hi hl
theorem NC.remove {L j : Nat} {F F' : Nat → Nat} (h : NC (L + 2) F) (hj : j ≤ L) (e : ∀ k, k < L → F' k = dn j (if F (up j k) = j then F (j + 1) else if F (up j k) = j + 1 then F j else F (up j k))) : NC L F' := by
  let G : Nat → Nat := fun x => if F x = j then F (j + 1) else if F x = j + 1 then F j else F x
  have hG : ∀ x, x < L + 2 → x ≠ j → x ≠ j + 1 → G x < L + 2 ∧ G x ≠ j ∧ G x ≠ j + 1 ∧ G (G x) = x ∧ G x ≠ x := fun x hx n1 n2 => by
    have a := h.lt x hx
    have c := h.inv x hx
    have f := h.fix x hx
    have a0 := h.lt j (by omega)
    have c0 := h.inv j (by omega)
    have f0 := h.fix j (by omega)
    have a1 := h.lt (j + 1) (by omega)
    have c1 := h.inv (j + 1) (by omega)
    have f1 := h.fix (j + 1) (by omega)
    show (if F x = j then F (j + 1) else if F x = j + 1 then F j else F x) < L + 2 ∧ _
    by_cases g1 : F x = j
    · have e0 : F j = x := by rw [← g1]; exact c
      have e3 : G x = F (j + 1) := if_pos g1
      have n3 : F (j + 1) ≠ j := fun g => by rw [g] at c1; omega
      refine ⟨by rw [if_pos g1]; exact a1, by rw [e3]; exact n3, by rw [e3]; exact f1, ?_, ?_⟩
      · rw [e3]
        show (if F (F (j + 1)) = j then F (j + 1) else if F (F (j + 1)) = j + 1 then F j else F (F (j + 1))) = x
        rw [c1, if_neg (by omega), if_pos rfl, e0]
      · rw [e3]; intro g; rw [g] at c1; omega
    · by_cases g2 : F x = j + 1
      · have e0 : F (j + 1) = x := by rw [← g2]; exact c
        have e3 : G x = F j := by show (if F x = j then F (j + 1) else if F x = j + 1 then F j else F x) = _; rw [if_neg g1, if_pos g2]
        have n3 : F j ≠ j + 1 := fun g => by rw [g] at c0; omega
        refine ⟨by rw [if_neg g1, if_pos g2]; exact a0, by rw [e3]; exact f0, by rw [e3]; exact n3, ?_, ?_⟩
        · rw [e3]
          show (if F (F j) = j then F (j + 1) else if F (F j) = j + 1 then F j else F (F j)) = x
          rw [c0, if_pos rfl, e0]
        · rw [e3]; intro g; rw [g] at c0; omega
      · have e3 : G x = F x := by show (if F x = j then F (j + 1) else if F x = j + 1 then F j else F x) = _; rw [if_neg g1, if_neg g2]
        refine ⟨by rw [if_neg g1, if_neg g2]; exact a, by rw [e3]; exact g1, by rw [e3]; exact g2, ?_, by rw [e3]; exact f⟩
        rw [e3]
        show (if F (F x) = j then F (j + 1) else if F (F x) = j + 1 then F j else F (F x)) = x
        rw [c, if_neg n1, if_neg n2]
  have hX : ∀ x y, x < L + 2 → y < L + 2 → x ≠ j → x ≠ j + 1 → y ≠ j → y ≠ j + 1 → ¬(x < y ∧ y < G x ∧ G x < G y) := fun x y hx hy n1 n2 n3 n4 => by
    have a := h.lt x hx
    have c := h.inv x hx
    have b := h.lt y hy
    have d := h.inv y hy
    have a0 := h.lt j (by omega)
    have c0 := h.inv j (by omega)
    have f0 := h.fix j (by omega)
    have a1 := h.lt (j + 1) (by omega)
    have c1 := h.inv (j + 1) (by omega)
    have f1 := h.fix (j + 1) (by omega)
    have gx : G x = if F x = j then F (j + 1) else if F x = j + 1 then F j else F x := rfl
    have gy : G y = if F y = j then F (j + 1) else if F y = j + 1 then F j else F y := rfl
    have k1 := h.vj x y hx hy
    by_cases g1 : F x = j
    · have e0 : F j = x := by rw [← g1]; exact c
      rw [gx, if_pos g1]
      by_cases g3 : F y = j
      · have : F j = y := by rw [← g3]; exact d
        omega
      by_cases g4 : F y = j + 1
      · have e4 : F (j + 1) = y := by rw [← g4]; exact d
        omega
      rw [gy, if_neg g3, if_neg g4]
      have k2 := h.vj (j + 1) y (by omega) hy
      have k3 := h.vj (F (j + 1)) (F y) a1 b
      have k4 := h.vj y (j + 1) hy (by omega)
      have k5 := h.vj x y hx hy
      have k6 := h.vj y (F (j + 1)) hy a1
      rw [c1, d] at k3
      rw [c1] at k6
      omega
    · by_cases g2 : F x = j + 1
      · have e0 : F (j + 1) = x := by rw [← g2]; exact c
        rw [gx, if_neg g1, if_pos g2]
        by_cases g3 : F y = j
        · have e3 : F j = y := by rw [← g3]; exact d
          omega
        by_cases g4 : F y = j + 1
        · have : F (j + 1) = y := by rw [← g4]; exact d
          omega
        rw [gy, if_neg g3, if_neg g4]
        have k2 := h.vj j y (by omega) hy
        have k3 := h.vj (F j) (F y) a0 b
        have k4 := h.vj y j hy (by omega)
        have k6 := h.vj y (F j) hy a0
        rw [c0, d] at k3
        rw [c0] at k6
        omega
      · rw [gx, if_neg g1, if_neg g2]
        by_cases g3 : F y = j
        · have e3 : F j = y := by rw [← g3]; exact d
          rw [gy, if_pos g3]
          have k2 := h.vj x (j + 1) hx (by omega)
          have k3 := h.vj (F (j + 1)) x a1 hx
          have k4 := h.vj x (F (j + 1)) hx a1
          have k5 := h.vj (j + 1) (F x) (by omega) a
          have k6 := h.vj j x (by omega) hx
          have k7 := h.vj (j + 1) x (by omega) hx
          rw [c1] at k3 k4
          rw [c] at k5
          omega
        by_cases g4 : F y = j + 1
        · have e4 : F (j + 1) = y := by rw [← g4]; exact d
          rw [gy, if_neg g3, if_pos g4]
          have k2 := h.vj x j hx (by omega)
          have k3 := h.vj (F j) x a0 hx
          have k4 := h.vj x (F j) hx a0
          have k5 := h.vj j (F x) (by omega) a
          have k6 := h.vj j x (by omega) hx
          have k7 := h.vj (j + 1) x (by omega) hx
          rw [c0] at k3 k4
          rw [c] at k5
          omega
        rw [gy, if_neg g3, if_neg g4]
        exact k1
  have hu : ∀ k, k < L → up j k < L + 2 ∧ up j k ≠ j ∧ up j k ≠ j + 1 := fun k hk => ⟨(ql5 hj).2 hk, qg7.1, qg7.2⟩
  have he : ∀ k, k < L → F' k = dn j (G (up j k)) := e
  have hue : ∀ k, k < L → up j (F' k) = G (up j k) := fun k hk => by
    obtain ⟨b1, b2, b3⟩ := hu k hk
    obtain ⟨_, b4, b5, _⟩ := hG _ b1 b2 b3
    rw [he k hk, qp0 b4 b5]
  have hlt : ∀ k, k < L → F' k < L := fun k hk => by
    obtain ⟨b1, b2, b3⟩ := hu k hk
    obtain ⟨b0, b4, b5, _⟩ := hG _ b1 b2 b3
    rw [← ql5 hj, hue k hk]; exact b0
  have upi : ∀ {a b : Nat}, up j a = up j b → a = b := fun {a b} hab => by have := congrArg (dn j) hab; rwa [qqe, qqe] at this
  refine ⟨hlt, fun k hk => ?_, fun k hk => ?_, fun a b ha hb => ?_⟩
  · obtain ⟨b1, b2, b3⟩ := hu k hk
    apply upi
    rw [hue _ (hlt k hk), hue k hk]
    exact (hG _ b1 b2 b3).2.2.2.1
  · obtain ⟨b1, b2, b3⟩ := hu k hk
    intro g
    have := hue k hk
    rw [g] at this
    exact (hG _ b1 b2 b3).2.2.2.2 this.symm
  · obtain ⟨b1, b2, b3⟩ := hu a ha
    obtain ⟨d1, d2, d3⟩ := hu b hb
    have := hX _ _ b1 d1 b2 b3 d2 d3
    rw [← hue a ha, ← hue b hb, qhj, qhj, qhj] at this
    exact this
def fl (n i : Nat) : Nat := (i + n) % (2 * n)
def cl (n i : Nat) : Nat := if i < n then i else i - 1
def FF (n : Nat) (d e : List Nat) (k : Nat) : Nat := if k < 2 * n then mf n d k else 2 * n + mf n e (k - 2 * n)
theorem qx1 {n : Nat} {d e : List Nat} (hd : NC (2 * n) (mf n d)) (he : NC (2 * n) (mf n e)) : NC (4 * n) (FF n d e) := by
  have hL : ∀ k, k < 2 * n → FF n d e k = mf n d k := fun k hk => if_pos hk
  have hR : ∀ k, ¬ k < 2 * n → FF n d e k = 2 * n + mf n e (k - 2 * n) := fun k hk => if_neg hk
  refine ⟨fun k hk => ?_, fun k hk => ?_, fun k hk => ?_, fun a b ha hb => ?_⟩
  · by_cases h : k < 2 * n
    · rw [hL k h]; have := hd.lt k h; omega
    · rw [hR k h]; have := he.lt (k - 2 * n) (by omega); omega
  · by_cases h : k < 2 * n
    · rw [hL k h, hL _ (hd.lt k h), hd.inv k h]
    · have h1 := he.lt (k - 2 * n) (by omega)
      rw [hR k h, hR _ (by omega), show 2 * n + mf n e (k - 2 * n) - 2 * n = mf n e (k - 2 * n) by omega, he.inv _ (by omega)]; omega
  · by_cases h : k < 2 * n
    · rw [hL k h]; exact hd.fix k h
    · have h1 := he.fix (k - 2 * n) (by omega)
      rw [hR k h]; omega
  · by_cases h : a < 2 * n
    · have h1 := hd.lt a h
      rw [hL a h]
      by_cases h' : b < 2 * n
      · rw [hL b h']; exact hd.vj a b h h'
      · omega
    · by_cases h' : b < 2 * n
      · omega
      · have := he.vj (a - 2 * n) (b - 2 * n) (by omega) (by omega)
        rw [hR a h, hR b h']; omega
def GG (n : Nat) (F : Nat → Nat) : Nat → Nat → Nat
  | 0, k => F k
  | t + 1, k => dn (2 * n - 1 - t) (if GG n F t (up (2 * n - 1 - t) k) = 2 * n - 1 - t then GG n F t (2 * n - 1 - t + 1) else if GG n F t (up (2 * n - 1 - t) k) = 2 * n - 1 - t + 1 then GG n F t (2 * n - 1 - t) else GG n F t (up (2 * n - 1 - t) k))
theorem qv4 {n : Nat} {F : Nat → Nat} (h : NC (4 * n) F) : ∀ t, t ≤ n → NC (4 * n - 2 * t) (GG n F t)
  | 0, _ => h
  | t + 1, ht => by
    have ih := qv4 h t (by omega)
    rw [show 4 * n - 2 * t = 4 * n - 2 * (t + 1) + 2 by omega] at ih
    exact ih.remove (j := 2 * n - 1 - t) (by omega) fun k hk => rfl
def Zs (n t z : Nat) : Prop := 2 * n - t ≤ z ∧ z < 2 * n + t
inductive Path (n : Nat) (F : Nat → Nat) (t : Nat) : Nat → Nat → Prop
  | done {x y : Nat} : F x = y → ¬ Zs n t y → Path n F t x y
  | go {x y : Nat} : Zs n t (F x) → Path n F t (4 * n - 1 - F x) y → Path n F t x y
theorem Path.mono {n t x y : Nat} {F : Nat → Nat} (h : Path n F t x y) (hy : ¬ Zs n (t + 1) y) : Path n F (t + 1) x y := by
  induction h with
  | done h1 h2 => exact .done h1 hy
  | go h1 _ ih => exact .go (by unfold Zs at h1 ⊢; omega) (ih hy)
theorem Path.cat {n t x y w : Nat} {F : Nat → Nat} (h : Path n F t x w) (hw : Zs n (t + 1) w) (h2 : Path n F t (4 * n - 1 - w) y) (hy : ¬ Zs n (t + 1) y) : Path n F (t + 1) x y := by
  induction h with
  | done h1 _ => subst h1; exact .go hw (h2.mono hy)
  | go h1 _ ih => exact .go (by unfold Zs at h1 ⊢; omega) (ih hw h2)
def oo (n t k : Nat) : Nat := if k < 2 * n - t then k else k + 2 * t
theorem qps {n : Nat} {F : Nat → Nat} (h : NC (4 * n) F) : ∀ t, t ≤ n → ∀ k, k < 4 * n - 2 * t → Path n F t (oo n t k) (oo n t (GG n F t k))
  | 0, _, k, hk => by
    have e : ∀ k, oo n 0 k = k := fun k => by unfold oo; split <;> omega
    rw [e, e]
    exact .done rfl (by unfold Zs; omega)
  | t + 1, ht, k, hk => by
    have ih := qps h t (by omega)
    have hnc := qv4 h t (by omega)
    have hj : ∃ j, j = 2 * n - 1 - t := ⟨_, rfl⟩
    obtain ⟨j, hj⟩ := hj
    have g1 : ∀ k, oo n (t + 1) k = oo n t (up j k) := fun k => by
      unfold oo up
      by_cases h1 : k < j
      · rw [if_pos h1, if_pos (by omega), if_pos (by omega)]
      · rw [if_neg h1, if_neg (by omega), if_neg (by omega)]; omega
    have g2 : ∀ y, y ≠ j → y ≠ j + 1 → oo n (t + 1) (dn j y) = oo n t y := fun y h1 h2 => by rw [g1, qp0 h1 h2]
    have g3 : oo n t j = j := by unfold oo; rw [if_pos (by omega)]
    have g4 : oo n t (j + 1) = 4 * n - 1 - j := by unfold oo; rw [if_neg (by omega)]; omega
    have gl : ∀ y, y ≠ j → y ≠ j + 1 → ¬ Zs n (t + 1) (oo n t y) := fun y h1 h2 => by
      unfold oo Zs
      by_cases h3 : y < 2 * n - t
      · rw [if_pos h3]; omega
      · rw [if_neg h3]; omega
    have hu := @qg7 j k
    have hx : up j k < 4 * n - 2 * t := by
      have := (ql5 (j := j) (k := k) (L := 4 * n - 2 * (t + 1)) (by omega)).2 hk
      omega
    have hp := ih _ hx
    have a := hnc.lt _ hx
    have c := hnc.inv _ hx
    have f := hnc.fix _ hx
    have a0 := hnc.lt j (by omega)
    have c0 := hnc.inv j (by omega)
    have f0 := hnc.fix j (by omega)
    have a1 := hnc.lt (j + 1) (by omega)
    have c1 := hnc.inv (j + 1) (by omega)
    have f1 := hnc.fix (j + 1) (by omega)
    have p0 := ih j (by omega)
    have p1 := ih (j + 1) (by omega)
    rw [g3] at p0
    rw [g4] at p1
    have gj : Zs n (t + 1) j := by unfold Zs; omega
    have gj1 : Zs n (t + 1) (4 * n - 1 - j) := by unfold Zs; omega
    rw [g1 k]
    simp only [GG, ← hj]
    generalize hX : up j k = x at *
    by_cases e1 : GG n F t x = j
    · rw [if_pos e1]
      rw [e1] at hp c
      have n1 : GG n F t (j + 1) ≠ j := fun e => by rw [e] at c1; omega
      rw [g2 _ n1 f1]
      rw [g3] at hp
      exact hp.cat gj p1 (gl _ n1 f1)
    · rw [if_neg e1]
      by_cases e2 : GG n F t x = j + 1
      · rw [if_pos e2]
        rw [e2] at hp c
        have n1 : GG n F t j ≠ j + 1 := fun e => by rw [e] at c0; omega
        rw [g2 _ f0 n1]
        rw [g4] at hp
        refine hp.cat gj1 ?_ (gl _ f0 n1)
        rw [show 4 * n - 1 - (4 * n - 1 - j) = j by omega]
        exact p0
      · rw [if_neg e2, g2 _ e1 e2]
        exact hp.mono (gl _ e1 e2)
def pr (n : Nat) (d e : List Nat) (i : Nat) : Nat := place n (GG n (FF n d e) n (place n i))
theorem qnc {n : Nat} {d e : List Nat} (hd : isS n d = true) (he : isS n e = true) : NC (2 * n) (GG n (FF n d e) n) := by
  have := qv4 (qx1 (qih hd) (qih he)) n (Nat.le_refl _)
  rwa [show 4 * n - 2 * n = 2 * n by omega] at this
def xg (n : Nat) (d e : List Nat) : Nat → Bool → Nat → List Bool → Option (Nat × Bool × List Bool)
  | 0, _, _, _ => none
  | f + 1, true, i, met => if d.getD i 0 < n then some (d.getD i 0, true, met) else xg n d e f false (d.getD i 0 - n) (met.set (d.getD i 0 - n) true)
  | f + 1, false, i, met => if n ≤ e.getD i 0 then some (e.getD i 0, false, met) else xg n d e f true (n + e.getD i 0) (met.set (e.getD i 0) true)
def at2 (n : Nat) (u : Bool) (i : Nat) : Nat := if u then place n i else 2 * n + place n i
def qle (n y : Nat) : Nat := if y < 2 * n then y else place n (y - 2 * n)
theorem qke {n : Nat} {d e : List Nat} (hd : isS n d = true) (he : isS n e = true) {x y : Nat} (h : Path n (FF n d e) n x y) : ∀ (u : Bool) (i : Nat) (met : List Bool), i < 2 * n → x = at2 n u i →
    ∃ f met', xg n d e f u i met = some (qle n y, decide (y < 2 * n), met') := by
  obtain ⟨hn, hpd, _⟩ := jw hd
  obtain ⟨_, hpe, _⟩ := jw he
  have F1 : ∀ i, i < 2 * n → FF n d e (at2 n true i) = place n (d.getD i 0) := fun i hi => by
    show FF n d e (place n i) = _
    unfold FF
    rw [if_pos (zp hi)]
    unfold mf
    rw [zq hi]
  have F2 : ∀ i, i < 2 * n → FF n d e (at2 n false i) = 2 * n + place n (e.getD i 0) := fun i hi => by
    show FF n d e (2 * n + place n i) = _
    unfold FF
    rw [if_neg (by omega), show 2 * n + place n i - 2 * n = place n i by omega]
    unfold mf
    rw [zq hi]
  induction h with
  | @done x y h1 h2 =>
    intro u i met hi hx
    subst hx
    cases u with
    | true =>
      rw [F1 i hi] at h1
      have hl := (hpd i hi).1
      have hlt : d.getD i 0 < n := by
        unfold place at h1; unfold Zs at h2
        split at h1
        · assumption
        · omega
      have hy : y = d.getD i 0 := by rw [← h1]; unfold place; rw [if_pos hlt]
      refine ⟨1, met, ?_⟩
      simp only [xg, if_pos hlt]
      rw [hy]
      unfold qle
      rw [if_pos (by omega), decide_eq_true (by omega)]
    | false =>
      rw [F2 i hi] at h1
      have hl := (hpe i hi).1
      have hlt : n ≤ e.getD i 0 := by
        unfold place at h1; unfold Zs at h2
        split at h1
        · omega
        · omega
      refine ⟨1, met, ?_⟩
      simp only [xg, if_pos hlt]
      rw [← h1]
      unfold qle
      rw [if_neg (by omega), show 2 * n + place n (e.getD i 0) - 2 * n = place n (e.getD i 0) by omega, zq hl, decide_eq_false (by omega)]
  | @go x y h1 h2 ih =>
    intro u i met hi hx
    subst hx
    cases u with
    | true =>
      rw [F1 i hi] at h1 ih
      have hl := (hpd i hi).1
      have hge : ¬ d.getD i 0 < n := fun hlt => by
        unfold place Zs at h1; rw [if_pos hlt] at h1; omega
      obtain ⟨f, met', hf⟩ := ih false (d.getD i 0 - n) (met.set (d.getD i 0 - n) true) (by omega) (by
        show 4 * n - 1 - place n (d.getD i 0) = 2 * n + place n (d.getD i 0 - n)
        unfold place
        rw [if_neg hge, if_pos (by omega)]
        omega)
      exact ⟨f + 1, met', by simp only [xg, if_neg hge]; exact hf⟩
    | false =>
      rw [F2 i hi] at h1 ih
      have hl := (hpe i hi).1
      have hlt : ¬ n ≤ e.getD i 0 := fun hge => by
        unfold place Zs at h1; rw [if_neg (by omega)] at h1; omega
      obtain ⟨f, met', hf⟩ := ih true (n + e.getD i 0) (met.set (e.getD i 0) true) (by omega) (by
        show 4 * n - 1 - (2 * n + place n (e.getD i 0)) = place n (n + e.getD i 0)
        unfold place
        rw [if_pos (by omega), if_neg (by omega)]
        omega)
      exact ⟨f + 1, met', by simp only [xg, if_neg hlt]; exact hf⟩
theorem V8 {n : Nat} {d e : List Nat} (hd : isS n d = true) (he : isS n e = true) {i : Nat} (hi : i < 2 * n) (met : List Bool) : ∃ f met', xg n d e f (decide (i < n)) i met = some (pr n d e i, decide (pr n d e i < n), met') := by
  have hp := qps (qx1 (qih hd) (qih he)) n (Nat.le_refl _) (place n i) (by have := zp hi; omega)
  have hg := (qnc hd he).lt _ (zp hi)
  have e1 : oo n n (place n i) = at2 n (decide (i < n)) i := by
    unfold oo at2 place
    by_cases h : i < n
    · rw [if_pos h, if_pos (by omega)]; simp [h]
    · rw [if_neg h, if_neg (by omega)]; simp only [h, decide_false, Bool.false_eq_true, if_false]; omega
  rw [e1] at hp
  obtain ⟨f, met', hf⟩ := qke hd he hp _ i met hi rfl
  refine ⟨f, met', ?_⟩
  rw [hf]
  have e2 : qle n (oo n n (GG n (FF n d e) n (place n i))) = pr n d e i := by
    unfold pr qle
    generalize GG n (FF n d e) n (place n i) = k at *
    by_cases h : k < n
    · have e3 : oo n n k = k := if_pos (by omega)
      rw [e3, if_pos (by omega)]; unfold place; rw [if_pos h]
    · have e3 : oo n n k = k + 2 * n := if_neg (by omega)
      rw [e3, if_neg (by omega), show k + 2 * n - 2 * n = k by omega]
  rw [e2]
  congr 3
  unfold pr
  generalize GG n (FF n d e) n (place n i) = k at *
  by_cases h : k < n
  · have e3 : oo n n k = k := if_pos (by omega)
    have e4 : place n k = k := if_pos h
    rw [e3, e4, decide_eq_true h, decide_eq_true (by omega)]
  · have e3 : oo n n k = k + 2 * n := if_neg (by omega)
    have e4 : place n k = 3 * n - 1 - k := if_neg h
    rw [e3, e4, decide_eq_false (by omega), decide_eq_false (by omega)]
def Wc (n : Nat) (d e : List Nat) : Nat → List Nat
  | 0 => List.replicate 16 0
  | k + 1 => ((Wc n d e k).set k (pr n d e k)).set (n + k) (pr n d e (n + k))
def vo (n : Nat) (d e : List Nat) : List Nat := Wc n d e n
theorem y5 (n : Nat) (d e : List Nat) : ∀ k, (Wc n d e k).length = 16
  | 0 => by simp [Wc]
  | k + 1 => by simp [Wc, y5 n d e k]
theorem Ge {n : Nat} {d e : List Nat} (hn : n ≤ 8) : ∀ k, k ≤ n → ∀ i, i < 16 → (Wc n d e k).getD i 0 = if i < k ∨ (n ≤ i ∧ i < n + k) then pr n d e i else 0
  | 0, _, i, hi => by
    rw [if_neg (by omega)]
    simp only [Wc, List.getD_eq_getElem?_getD, List.getElem?_replicate]
    split <;> simp
  | k + 1, hk, i, hi => by
    simp only [Wc]
    rw [Qd, Qd, List.length_set, y5, Ge hn k (by omega) i hi]
    by_cases h1 : n + k = i
    · rw [if_pos ⟨h1, hi⟩, if_pos (by omega), h1]
    · rw [if_neg (by omega)]
      by_cases h2 : k = i
      · rw [if_pos ⟨h2, hi⟩, if_pos (by omega), h2]
      · rw [if_neg (by omega)]
        by_cases h3 : i < k ∨ (n ≤ i ∧ i < n + k)
        · rw [if_pos h3, if_pos (by omega)]
        · rw [if_neg h3, if_neg (by omega)]
theorem qco {n : Nat} {d e : List Nat} (hd : isS n d = true) (he : isS n e = true) {i : Nat} (hi : i < 2 * n) : pr n d e i < 2 * n := zp ((qnc hd he).lt _ (zp hi))
theorem qvn {n : Nat} {d e : List Nat} (hd : isS n d = true) (he : isS n e = true) : isS n (vo n d e) = true ∧ okD (vo n d e) := by
  obtain ⟨hn, _, _⟩ := jw hd
  have hg : ∀ i, i < 2 * n → (vo n d e).getD i 0 = pr n d e i := fun i hi => by
    unfold vo
    rw [Ge hn.2 n (Nat.le_refl _) i (by omega), if_pos (by omega)]
  have ht := qnc hd he
  refine ⟨qzb hn (fun i h1 h2 => ?_) (fun i hi => ?_) ?_, y5 _ _ _ _, ?_⟩
  · unfold vo
    rw [Ge hn.2 n (Nat.le_refl _) i h2, if_neg (by omega)]
  · rw [hg i hi]; exact qco hd he hi
  · have e1 : ∀ k, k < 2 * n → mf n (vo n d e) k = GG n (FF n d e) n k := fun k hk => by
      unfold mf
      rw [hg _ (zp hk)]
      unfold pr
      rw [zq hk, zq (ht.lt k hk)]
    refine ⟨fun k hk => ?_, fun k hk => ?_, fun k hk => ?_, fun a b ha hb => ?_⟩
    · rw [e1 k hk]; exact ht.lt k hk
    · rw [e1 k hk, e1 _ (ht.lt k hk)]; exact ht.inv k hk
    · rw [e1 k hk]; exact ht.fix k hk
    · rw [e1 a ha, e1 b hb]; exact ht.vj a b ha hb
  · intro x hx
    obtain ⟨i, hi, rfl⟩ := List.getElem_of_mem hx
    have hl : (vo n d e).length = 16 := y5 _ _ _ _
    have h1 : (vo n d e).getD i 0 = (vo n d e)[i] := by simp [List.getD_eq_getElem?_getD, hi]
    rw [← h1]
    by_cases h2 : i < 2 * n
    · rw [hg i h2]; have := qco hd he h2; omega
    · unfold vo
      rw [Ge hn.2 n (Nat.le_refl _) i (by omega), if_neg (by omega)]; omega
def mt (met : List Bool) (x : Nat) : Prop := met.getD x false = true
theorem gg {met : List Bool} {i x : Nat} (hi : i < met.length) : mt (met.set i true) x ↔ x = i ∨ mt met x := by
  unfold mt
  simp only [List.getD_eq_getElem?_getD, List.getElem?_set]
  by_cases h : i = x
  · subst h; simp [hi]
  · rw [if_neg h]
    exact ⟨.inr, fun h2 => h2.elim (fun e => absurd e.symm h) id⟩
theorem qpf {x k : Nat} : ¬ mt (List.replicate k false) x := by
  unfold mt
  simp only [List.getD_eq_getElem?_getD, List.getElem?_replicate]
  split <;> simp
theorem W4 {n : Nat} {d e : List Nat} {r : Nat × Bool × List Bool} : ∀ {f : Nat} {u : Bool} {i : Nat} {met : List Bool}, xg n d e f u i met = some r → xg n d e (f + 1) u i met = some r
  | 0, _, _, _, h => by simp [xg] at h
  | f + 1, true, i, met, h => by
    rw [xg] at h ⊢
    split
    · rename_i h1; rw [if_pos h1] at h; exact h
    · rename_i h1; rw [if_neg h1] at h; exact W4 h
  | f + 1, false, i, met, h => by
    rw [xg] at h ⊢
    split
    · rename_i h1; rw [if_pos h1] at h; exact h
    · rename_i h1; rw [if_neg h1] at h; exact W4 h
theorem Yo {n : Nat} {d e : List Nat} {r : Nat × Bool × List Bool} {f : Nat} {u : Bool} {i : Nat} {met : List Bool} (h : xg n d e f u i met = some r) : ∀ k, xg n d e (f + k) u i met = some r
  | 0 => h
  | k + 1 => W4 (Yo h k)
theorem qil {n : Nat} {d e : List Nat} {r r' : Nat × Bool × List Bool} {f f' : Nat} {u : Bool} {i : Nat} {met : List Bool} (h : xg n d e f u i met = some r) (h' : xg n d e f' u i met = some r') : r = r' := by
  have h1 := Yo h f'
  have h2 := Yo h' f
  rw [Nat.add_comm f' f, h1] at h2
  exact Option.some.inj h2
def CLs (n : Nat) (d e : List Nat) (M : Nat → Prop) : Prop := ∀ x, x < n → M x → (n ≤ d.getD (n + x) 0 → M (d.getD (n + x) 0 - n)) ∧ (e.getD x 0 < n → M (e.getD x 0))
theorem Jj {n : Nat} {d e : List Nat} (hd : isS n d = true) (he : isS n e = true) {r : Nat} {s : Bool} {met' : List Bool} : ∀ {f : Nat} {u : Bool} {i : Nat} {met : List Bool}, xg n d e f u i met = some (r, s, met') → i < 2 * n → met.length = 8 →
    (u = true → n ≤ i → mt met (i - n)) → (u = false → i < n → mt met i) →
    met'.length = 8 ∧ (∀ x, mt met x → mt met' x) ∧ (∀ x, mt met' x → x < n ∨ mt met x) ∧ (∀ x, x < n → mt met' x → mt met x ∨ ((n ≤ d.getD (n + x) 0 → mt met' (d.getD (n + x) 0 - n)) ∧ (e.getD x 0 < n → mt met' (e.getD x 0)))) ∧
      (u = true → n ≤ d.getD i 0 → mt met' (d.getD i 0 - n)) ∧ (u = false → e.getD i 0 < n → mt met' (e.getD i 0))
  | 0, _, _, _, h, _, _, _, _ => by simp [xg] at h
  | f + 1, true, i, met, h, hi, hl, p1, p2 => by
    obtain ⟨hn, hpd, _⟩ := jw hd
    rw [xg] at h
    split at h
    · rename_i hlt
      cases h
      exact ⟨hl, fun x h => h, fun x h => .inr h, fun x _ h => .inl h, fun _ h => absurd hlt (by omega), fun h => by cases h⟩
    · rename_i hlt
      have hs := (hpd i hi).1
      have hinv := (hpd i hi).2.2
      have hsl : d.getD i 0 - n < met.length := by omega
      obtain ⟨a1, a2, a3, a4, _, a6⟩ := Jj hd he h (by omega) (by rw [List.length_set]; exact hl) (fun h => by cases h) (fun _ _ => (gg hsl).2 (.inl rfl))
      have hself : mt met' (d.getD i 0 - n) := a2 _ ((gg hsl).2 (.inl rfl))
      refine ⟨a1, fun x hx => a2 x ((gg hsl).2 (.inr hx)), fun x hx => ?_, fun x hx hm => ?_, fun _ _ => hself, fun h => by cases h⟩
      · rcases a3 x hx with h1 | h1
        · exact .inl h1
        · rcases (gg hsl).1 h1 with rfl | h1
          · exact .inl (by omega)
          · exact .inr h1
      · rcases a4 x hx hm with h1 | h1
        · rcases (gg hsl).1 h1 with rfl | h1
          · refine .inr ⟨fun h2 => ?_, fun h2 => a6 rfl h2⟩
            rw [show n + (d.getD i 0 - n) = d.getD i 0 by omega, hinv] at h2 ⊢
            exact a2 _ ((gg hsl).2 (.inr (p1 rfl h2)))
          · exact .inl h1
        · exact .inr h1
  | f + 1, false, i, met, h, hi, hl, p1, p2 => by
    obtain ⟨hn, hpe, _⟩ := jw he
    rw [xg] at h
    split at h
    · rename_i hlt
      cases h
      exact ⟨hl, fun x h => h, fun x h => .inr h, fun x _ h => .inl h, (fun h => by cases h), fun _ h => absurd hlt (by omega)⟩
    · rename_i hlt
      have hs := (hpe i hi).1
      have hinv := (hpe i hi).2.2
      have hsl : e.getD i 0 < met.length := by omega
      obtain ⟨a1, a2, a3, a4, a5, _⟩ := Jj hd he h (by omega) (by rw [List.length_set]; exact hl) (fun _ _ => (gg hsl).2 (.inl (by omega))) (fun h => by cases h)
      have hself : mt met' (e.getD i 0) := a2 _ ((gg hsl).2 (.inl rfl))
      refine ⟨a1, fun x hx => a2 x ((gg hsl).2 (.inr hx)), fun x hx => ?_, fun x hx hm => ?_, (fun h => by cases h), fun _ _ => hself⟩
      · rcases a3 x hx with h1 | h1
        · exact .inl h1
        · rcases (gg hsl).1 h1 with rfl | h1
          · exact .inl (by omega)
          · exact .inr h1
      · rcases a4 x hx hm with h1 | h1
        · rcases (gg hsl).1 h1 with rfl | h1
          · refine .inr ⟨fun h2 => a5 rfl h2, fun h2 => ?_⟩
            rw [hinv] at h2 ⊢
            exact a2 _ ((gg hsl).2 (.inr (p2 rfl h2)))
          · exact .inl h1
        · exact .inr h1
noncomputable def fol (n : Nat) (d e : List Nat) (u : Bool) (i : Nat) (met : List Bool) : List Bool := (Classical.epsilon fun r : Nat × Bool × List Bool => ∃ f, xg n d e f u i met = some r).2.2
theorem qfl {n : Nat} {d e : List Nat} {f : Nat} {u : Bool} {i : Nat} {met : List Bool} {r : Nat × Bool × List Bool} (h : xg n d e f u i met = some r) : fol n d e u i met = r.2.2 := by
  have : ∃ r : Nat × Bool × List Bool, ∃ f, xg n d e f u i met = some r := ⟨r, f, h⟩
  obtain ⟨f', h'⟩ := Classical.epsilon_spec this
  unfold fol
  rw [qil h' h]
noncomputable def qdp (n : Nat) (d e : List Nat) : Nat → List Bool
  | 0 => List.replicate 8 false
  | k + 1 => fol n d e false (n + k) (fol n d e true k (qdp n d e k))
structure Met (n : Nat) (d e : List Nat) (k : Nat) (met : List Bool) : Prop where
  len : met.length = 8
  lt : ∀ x, mt met x → x < n
  cl : CLs n d e (mt met)
  top : ∀ i, i < k → n ≤ d.getD i 0 → mt met (d.getD i 0 - n)
  bot : ∀ i, i < k → e.getD (n + i) 0 < n → mt met (e.getD (n + i) 0)
theorem Ji {n : Nat} {d e : List Nat} (hd : isS n d = true) (he : isS n e = true) : ∀ k, k ≤ n → Met n d e k (qdp n d e k)
  | 0, _ => ⟨by simp [qdp], fun x h => absurd h qpf, fun x _ h => absurd h qpf, fun i hi => by omega, fun i hi => by omega⟩
  | k + 1, hk => by
    have ih := Ji hd he k (by omega)
    obtain ⟨f1, m1, e1⟩ := V8 hd he (i := k) (by omega) (qdp n d e k)
    rw [decide_eq_true (by omega)] at e1
    have g1 := qfl e1
    obtain ⟨a1, a2, a3, a4, a5, _⟩ := Jj hd he e1 (by omega) ih.len (fun _ h => by omega) (fun h => by cases h)
    obtain ⟨f2, m2, e2⟩ := V8 hd he (i := n + k) (by omega) m1
    rw [decide_eq_false (by omega)] at e2
    have g2 := qfl e2
    obtain ⟨b1, b2, b3, b4, _, b6⟩ := Jj hd he e2 (by omega) a1 (fun h => by cases h) (fun _ h => by omega)
    simp only [qdp, g1, g2]
    refine ⟨b1, fun x hx => ?_, fun x hx hm => ?_, fun i hi h => ?_, fun i hi h => ?_⟩
    · rcases b3 x hx with h | h
      · exact h
      · rcases a3 x h with h | h
        · exact h
        · exact ih.lt x h
    · rcases b4 x hx hm with h | h
      · rcases a4 x hx h with h | h
        · have := ih.cl x hx h
          exact ⟨fun h => b2 _ (a2 _ (this.1 h)), fun h => b2 _ (a2 _ (this.2 h))⟩
        · exact ⟨fun h1 => b2 _ (h.1 h1), fun h1 => b2 _ (h.2 h1)⟩
      · exact h
    · by_cases e : i = k
      · subst e; exact b2 _ (a5 rfl h)
      · exact b2 _ (a2 _ (ih.top i (by omega) h))
    · by_cases e : i = k
      · subst e; exact b6 rfl h
      · exact b2 _ (a2 _ (ih.bot i (by omega) h))
def M0 (n : Nat) (d e : List Nat) (x : Nat) : Prop := mt (qdp n d e n) x
def dm (n : Nat) (d : List Nat) (x : Nat) : Nat := d.getD (n + x) 0 - n
def em (e : List Nat) (x : Nat) : Nat := e.getD x 0
structure Inv (X : Nat → Prop) (f : Nat → Nat) : Prop where
  mem : ∀ x, X x → X (f x)
  inv : ∀ x, X x → f (f x) = x
  fix : ∀ x, X x → f x ≠ x
def XX (n : Nat) (d e : List Nat) (x : Nat) : Prop := x < n ∧ ¬ M0 n d e x
theorem qhb {n : Nat} {d e : List Nat} (hd : isS n d = true) (he : isS n e = true) {x : Nat} (h : XX n d e x) : n ≤ d.getD (n + x) 0 ∧ d.getD (n + x) 0 < 2 * n ∧ e.getD x 0 < n := by
  obtain ⟨hn, hpd, _⟩ := jw hd
  obtain ⟨_, hpe, _⟩ := jw he
  have hm := Ji hd he n (Nat.le_refl _)
  have h1 := hpd (n + x) (by have := h.1; omega)
  have h2 := hpe x (by have := h.1; omega)
  have hx := h.1
  refine ⟨Nat.le_of_not_lt fun hlt => h.2 ?_, h1.1, Nat.lt_of_not_le fun hge => h.2 ?_⟩
  · have := hm.top _ hlt (by rw [h1.2.2]; omega)
    rw [h1.2.2, show n + x - n = x by omega] at this
    exact this
  · have := hm.bot (e.getD x 0 - n) (by omega) (by rw [show n + (e.getD x 0 - n) = e.getD x 0 by omega, h2.2.2]; exact hx)
    rw [show n + (e.getD x 0 - n) = e.getD x 0 by omega, h2.2.2] at this
    exact this
theorem Km {n : Nat} {d e : List Nat} (hd : isS n d = true) (he : isS n e = true) : Inv (XX n d e) (dm n d) := by
  obtain ⟨hn, hpd, _⟩ := jw hd
  have hm := Ji hd he n (Nat.le_refl _)
  have key : ∀ x, XX n d e x → n + dm n d x = d.getD (n + x) 0 ∧ d.getD (d.getD (n + x) 0) 0 = n + x ∧ dm n d x < n := fun x hx => by
    have h1 := hpd (n + x) (by have := hx.1; omega)
    obtain ⟨g1, g2, g3⟩ := qhb hd he hx
    unfold dm
    exact ⟨by omega, h1.2.2, by omega⟩
  refine ⟨fun x hx => ?_, fun x hx => ?_, fun x hx e => ?_⟩
  · obtain ⟨k1, k2, k3⟩ := key x hx
    refine ⟨k3, fun hM => hx.2 ?_⟩
    have := (hm.cl (dm n d x) k3 hM).1 (by rw [k1, k2]; omega)
    rw [k1, k2, show n + x - n = x by omega] at this
    exact this
  · obtain ⟨k1, k2, k3⟩ := key x hx
    show d.getD (n + dm n d x) 0 - n = x
    rw [k1, k2]; omega
  · obtain ⟨k1, k2, k3⟩ := key x hx
    have h1 := hpd (n + x) (by have := hx.1; omega)
    rw [e] at k1
    exact h1.2.1 k1.symm
theorem Kx {n : Nat} {d e : List Nat} (hd : isS n d = true) (he : isS n e = true) : Inv (XX n d e) (em e) := by
  obtain ⟨hn, hpe, _⟩ := jw he
  have hm := Ji hd he n (Nat.le_refl _)
  refine ⟨fun x hx => ?_, fun x hx => (hpe x (by have := hx.1; omega)).2.2, fun x hx => (hpe x (by have := hx.1; omega)).2.1⟩
  obtain ⟨g1, g2, g3⟩ := qhb hd he hx
  refine ⟨g3, fun hM => hx.2 ?_⟩
  have h1 := (hpe x (by have := hx.1; omega)).2.2
  have := (hm.cl _ g3 hM).2 (by show e.getD (e.getD x 0) 0 < n; rw [h1]; exact hx.1)
  have h2 : M0 n d e (e.getD (e.getD x 0) 0) := this
  rw [h1] at h2
  exact h2
inductive Ring (f g : Nat → Nat) (k0 : Nat) : Nat → Prop
  | base : Ring f g k0 k0
  | one {x : Nat} : Ring f g k0 x → Ring f g k0 (f x)
  | two {x : Nat} : Ring f g k0 x → Ring f g k0 (g x)
theorem Ring.swap {f g : Nat → Nat} {k0 x : Nat} (h : Ring f g k0 x) : Ring g f k0 x := by
  induction h with
  | base => exact .base
  | one _ ih => exact .two ih
  | two _ ih => exact .one ih
theorem Ring.mem {X : Nat → Prop} {f g : Nat → Nat} (hf : Inv X f) (hg : Inv X g) {k0 x : Nat} (h0 : X k0) (h : Ring f g k0 x) : X x := by
  induction h with
  | base => exact h0
  | one _ ih => exact hf.mem _ ih
  | two _ ih => exact hg.mem _ ih
theorem Ring.trans {f g : Nat → Nat} {a b c : Nat} (h : Ring f g a b) (h' : Ring f g b c) : Ring f g a c := by
  induction h' with
  | base => exact h
  | one _ ih => exact .one ih
  | two _ ih => exact .two ih
theorem Ring.symm {X : Nat → Prop} {f g : Nat → Nat} (hf : Inv X f) (hg : Inv X g) {a b : Nat} (h0 : X a) (h : Ring f g a b) : Ring f g b a := by
  induction h with
  | base => exact .base
  | @one x hx ih =>
    have : Ring f g (f x) x := by
      have := Ring.one (Ring.base (f := f) (g := g) (k0 := f x))
      rwa [hf.inv x (Ring.mem hf hg h0 hx)] at this
    exact this.trans ih
  | @two x hx ih =>
    have : Ring f g (g x) x := by
      have := Ring.two (Ring.base (f := f) (g := g) (k0 := g x))
      rwa [hg.inv x (Ring.mem hf hg h0 hx)] at this
    exact this.trans ih
structure qdj (X : Nat → Prop) (f g : Nat → Nat) (k0 : Nat) (T : Nat → Prop) (last : Nat) : Prop where
  ring : ∀ x, T x → Ring f g k0 x
  m0 : T k0
  lm : T last
  ne : last ≠ k0
  cl : ∀ x, T x → T (f x)
  st : ∀ x, T x → x ≠ k0 → x ≠ last → T (g x) ∧ g x ≠ k0 ∧ g x ≠ last
theorem qdj.start {X : Nat → Prop} {f g : Nat → Nat} (hf : Inv X f) {k0 : Nat} (h0 : X k0) : qdj X f g k0 (fun x => x = k0 ∨ x = f k0) (f k0) :=
  ⟨fun x h => h.elim (fun e => e ▸ .base) (fun e => e ▸ .one .base), .inl rfl, .inr rfl, hf.fix k0 h0, fun x h => h.elim (fun e => .inr (by rw [e])) (fun e => .inl (by rw [e]; exact hf.inv _ h0)), fun x h h1 h2 => h.elim (fun e => absurd e h1) (fun e => absurd e h2)⟩
theorem qdj.stop {X : Nat → Prop} {f g : Nat → Nat} (hf : Inv X f) (hg : Inv X g) {k0 last : Nat} {T : Nat → Prop} (h0 : X k0) (h : qdj X f g k0 T last) (hk : T (g last)) : g last = k0 ∧ ∀ x, T x ↔ Ring f g k0 x := by
  have hX : ∀ x, T x → X x := fun x hx => Ring.mem hf hg h0 (h.ring x hx)
  have e : g last = k0 := Classical.byContradiction fun hne => by
    have h1 := hg.fix last (hX _ h.lm)
    have h2 := (h.st _ hk hne h1).2.2
    exact h2 (hg.inv _ (hX _ h.lm))
  have hcl : ∀ x, T x → T (g x) := fun x hx => by
    by_cases h1 : x = k0
    · subst h1
      rw [← e, hg.inv _ (hX _ h.lm)]; exact h.lm
    by_cases h2 : x = last
    · subst h2; rw [e]; exact h.m0
    · exact (h.st x hx h1 h2).1
  refine ⟨e, fun x => ⟨h.ring x, fun hr => ?_⟩⟩
  induction hr with
  | base => exact h.m0
  | one _ ih => exact h.cl _ ih
  | two _ ih => exact hcl _ ih
theorem qdj.next {X : Nat → Prop} {f g : Nat → Nat} (hf : Inv X f) (hg : Inv X g) {k0 last : Nat} {T : Nat → Prop} (h0 : X k0) (h : qdj X f g k0 T last) (hk : ¬ T (g last)) : qdj X f g k0 (fun x => x = g last ∨ x = f (g last) ∨ T x) (f (g last)) ∧ ¬ T (f (g last)) ∧ f (g last) ≠ g last := by
  have hX : ∀ x, T x → X x := fun x hx => Ring.mem hf hg h0 (h.ring x hx)
  have hk' : X (g last) := hg.mem _ (hX _ h.lm)
  have hne : f (g last) ≠ g last := hf.fix _ hk'
  have hnT : ¬ T (f (g last)) := fun hT => hk (by have := h.cl _ hT; rwa [hf.inv _ hk'] at this)
  refine ⟨⟨fun x hx => ?_, .inr (.inr h.m0), .inr (.inl rfl), fun e => hnT (by rw [e]; exact h.m0), fun x hx => ?_, fun x hx h1 h2 => ?_⟩, hnT, hne⟩
  · rcases hx with rfl | rfl | hx
    · exact .two (h.ring _ h.lm)
    · exact .one (.two (h.ring _ h.lm))
    · exact h.ring x hx
  · rcases hx with rfl | rfl | hx
    · exact .inr (.inl rfl)
    · rw [hf.inv _ hk']; exact .inl rfl
    · exact .inr (.inr (h.cl x hx))
  · rcases hx with rfl | rfl | hx
    · rw [hg.inv _ (hX _ h.lm)]
      exact ⟨.inr (.inr h.lm), h.ne, fun e => hnT (by rw [← e]; exact h.lm)⟩
    · exact absurd rfl h2
    · by_cases e : x = last
      · subst e
        exact ⟨.inl rfl, fun e => hk (by rw [e]; exact h.m0), fun e => hne e.symm⟩
      · obtain ⟨q1, q2, q3⟩ := h.st x hx h1 e
        exact ⟨.inr (.inr q1), q2, fun e2 => hnT (by rw [← e2]; exact q1)⟩
def Seen (n : Nat) (d e : List Nat) (i x : Nat) : Prop := M0 n d e x ∨ ∃ j, j < i ∧ XX n d e j ∧ Ring (dm n d) (em e) j x
open Classical in
noncomputable def lpN (n : Nat) (d e : List Nat) : Nat → Nat
  | 0 => 0
  | i + 1 => if Seen n d e i i then lpN n d e i else lpN n d e i + 1
theorem qes (n : Nat) (d e : List Nat) : ∀ i, lpN n d e i ≤ i
  | 0 => Nat.le_refl _
  | i + 1 => by
    have := qes n d e i
    unfold lpN; split <;> omega
theorem qxu {n : Nat} {d e : List Nat} (hd : isS n d = true) (he : isS n e = true) {i x : Nat} (h : Seen n d e i x) : x < n := by
  rcases h with h | ⟨j, _, hj, hr⟩
  · exact (Ji hd he n (Nat.le_refl _)).lt x h
  · exact (Ring.mem (Km hd he) (Kx hd he) hj hr).1
theorem qjz {n : Nat} {d e : List Nat} (hd : isS n d = true) (he : isS n e = true) {i : Nat} (hi : Seen n d e i i) (x : Nat) : Seen n d e (i + 1) x ↔ Seen n d e i x := by
  constructor
  · rintro (h | ⟨j, hj, hX, hr⟩)
    · exact .inl h
    · by_cases e1 : j = i
      · subst e1
        rcases hi with h | ⟨k, hk, hX', hr'⟩
        · exact absurd h hX.2
        · exact .inr ⟨k, hk, hX', hr'.trans hr⟩
      · exact .inr ⟨j, by omega, hX, hr⟩
  · rintro (h | ⟨j, hj, hX, hr⟩)
    · exact .inl h
    · exact .inr ⟨j, by omega, hX, hr⟩
theorem qmt {n : Nat} {d e : List Nat} {i : Nat} (hin : i < n) (hi : ¬ Seen n d e i i) (x : Nat) : Seen n d e (i + 1) x ↔ Seen n d e i x ∨ Ring (dm n d) (em e) i x := by
  have hX : XX n d e i := ⟨hin, fun h => hi (.inl h)⟩
  constructor
  · rintro (h | ⟨j, hj, hX', hr⟩)
    · exact .inl (.inl h)
    · by_cases e1 : j = i
      · subst e1; exact .inr hr
      · exact .inl (.inr ⟨j, by omega, hX', hr⟩)
  · rintro ((h | ⟨j, hj, hX', hr⟩) | hr)
    · exact .inl h
    · exact .inr ⟨j, by omega, hX', hr⟩
    · exact .inr ⟨i, by omega, hX, hr⟩
theorem Yt {n : Nat} {d e : List Nat} (hd : isS n d = true) (he : isS n e = true) {i x : Nat} (hin : i < n) (hi : ¬ Seen n d e i i) (h : Ring (dm n d) (em e) i x) : ¬ Seen n d e i x := by
  have hX : XX n d e i := ⟨hin, fun h => hi (.inl h)⟩
  rintro (h1 | ⟨j, hj, hX', hr⟩)
  · exact (Ring.mem (Km hd he) (Kx hd he) hX h).2 h1
  · exact hi (.inr ⟨j, hj, hX', hr.trans (h.symm (Km hd he) (Kx hd he) hX)⟩)
end Go.Proofs.Ytkgoadglalpbfaa
