/- Contracts of functions of the program, and plain laws, part 3: each text of this part is proved without further condition. -/
import Derived.Test.YtfhckbbgmblhbaaZ2
namespace Go.Proofs.Ytfhckbbgmblhbaa
open Go.Am Go.Dia
open Nat renaming reduceAdd → nA, reduceMul → nM, reduceSub → nS, reduceEqDiff → nE, reduceLT → nL, reduceLeDiff → nD, reduceBEq → nB
open Int renaming reduceEq → iE, reduceNe → iN, reduceBEq → iB, reduceBNe → iC, reduceLT → iL, reduceLE → iD, reduceAdd → iA, reduceSub → iS, reduceMul → iM
set_option linter.unusedSimpArgs false
set_option linter.unusedVariables false
set_option maxRecDepth 4000
set_option maxHeartbeats 1000000
theorem ka (P : Program) (B : zc) (cf : Bool) (K : St → Prop) (s : St) (a : AI) (t r : AT) : Kc P B cf (.alt a t r) K s = (qcz P B cf a (Kc P B cf t K) s ∧ Kc P B cf r K s) := nrX rfl
theorem Xa (P : Program) (B : zc) (cf : Bool) (K : St → Prop) (s : St) : Kc P B cf .none K s = True := nrX rfl
theorem qmt {α : Type} {f : α → α} : ∀ {l : List α} {j : Nat} {a : α}, l[j]? = some a → l.modify j f = l.set j (f a)
  | [], j, a, h => by simp at h
  | x :: l, 0, a, h => by simp only [List.getElem?_cons_zero, Option.some.injEq] at h; subst h; rfl
  | x :: l, j + 1, a, h => by
    simp only [List.getElem?_cons_succ] at h
    simp only [List.modify_succ_cons, List.set_cons_succ, qmt h]
theorem qek {n : Int} {m : List Nat} {S : List (Int × List Nat × Int)} (hmo : okD m) (ho : okT S) (h : Zq n m S = none) :
    wx KD true (.agg (dia n m)) (esT 0 S) 0 = some none ∧
    wx KD true (.agg (dia n m)) (esT 0 S ++ [(⟨.agg (dia n m), .int .i64 0, S.length⟩ : AE)]) 0 = some (some (S.length, ⟨.agg (dia n m), .int .i64 0, S.length⟩)) ∧
    (esT 0 S ++ [(⟨.agg (dia n m), .int .i64 0, S.length⟩ : AE)]).findIdx? (fun x => (x.born : Int) == (S.length : Int)) = some S.length ∧
    (∀ v, (esT 0 S ++ [(⟨.agg (dia n m), .int .i64 0, S.length⟩ : AE)]).modify S.length (fun x => ⟨x.key, .int .i64 v, x.born⟩) = esT 0 (kx n m v S)) ∧ (∀ v, (kx n m v S).length = S.length + 1) := by
  have h2 := qfl h
  have e0 : ∀ v : Int, esT 0 S ++ [(⟨.agg (dia n m), .int .i64 v, S.length⟩ : AE)] = esT 0 (S ++ [(n, m, v)]) := fun v => by
    rw [qoc]; simp [esT]
  have hm := hmo.1
  have hidx : ∀ (l : List (Int × List Nat × Int)), Zq n m l = none → Zq n m (l ++ [(n, m, 0)]) = some l.length := fun l => by
    induction l with
    | nil => intro _; simp [Zq]
    | cons t l ih =>
      intro h
      unfold Zq at h
      split at h
      · cases h
      · rename_i hne
        have h3 : Zq n m l = none := by
          cases hi : Zq n m l with
          | none => rfl
          | some i => rw [hi] at h; cases h
        simp only [List.cons_append, Zq, if_neg hne, ih h3, Option.map_some, List.length_cons]
  refine ⟨by rw [Uh hm ho, h]; rfl, ?_, ?_, fun v => ?_, fun v => ?_⟩
  · rw [e0, Uh hm (fun t ht => by
      rcases List.mem_append.1 ht with ht | ht
      · exact ho t ht
      · rw [List.mem_singleton.1 ht]; exact hmo), hidx S h]
    simp
  · rw [e0]
    have := qir (ts := S ++ [(n, m, 0)]) (k := 0) (j := S.length) (by simp)
    rwa [Nat.zero_add] at this
  · rw [e0, qnk, h2.1, qmt (a := (n, m, 0)) (by simp)]
    simp
  · rw [h2.1]; simp
theorem qfj {n : Int} {m : List Nat} {S : List (Int × List Nat × Int)} {j : Nat} (hm : m.length = 16) (ho : okT S) (h : Zq n m S = some j) :
    wx KD true (.agg (dia n m)) (esT 0 S) 0 = some (some (j, ⟨.agg (dia n m), .int .i64 (S.getD j zT).2.2, j⟩)) ∧
    (esT 0 S).set j ⟨.agg (dia n m), .int .i64 (S.getD j zT).2.2, j⟩ = esT 0 S ∧
    (esT 0 S).findIdx? (fun x => (x.born : Int) == (j : Int)) = some j ∧
    (∀ f, (esT 0 S).modify j (fun x => ⟨x.key, .int .i64 ((S.getD j zT).2.2 + f), x.born⟩) = esT 0 (kx n m f S)) ∧ (∀ f, (kx n m f S).length = S.length) := by
  obtain ⟨h1, h2, h3, h4⟩ := Bo h
  refine ⟨by rw [Uh hm ho, h]; simp, ?_, ?_, fun f => ?_, fun f => by rw [h4]; simp⟩
  · have := qnm (n := n) (v := (S.getD j zT).2.2) (m := m) (ts := S) (k := 0) (j := j)
    rw [Nat.zero_add] at this
    rw [this]
    congr 1
    have e : (n, m, (S.getD j zT).2.2) = S.getD j zT := by rw [← h2, ← h3]
    rw [e, qaw h1, List.set_getElem_self]
  · have := qir (ts := S) (k := 0) h1
    rwa [Nat.zero_add] at this
  · rw [qnk, h4]
    rw [qmt (List.getElem?_eq_getElem h1), ← qaw h1, h2, h3]
theorem Uw {n F k : Int} (hF : 0 ≤ F) : ∀ {b acc : List (Int × List Nat × Int)} {M : Int}, 0 ≤ M → qa6 n M acc → (∀ t ∈ b, okD t.2.1 ∧ t.1 = n ∧ isS n.toNat t.2.1 = true ∧ -F ≤ k * t.2.2 ∧ k * t.2.2 ≤ F) → qa6 n (M + F * b.length) (xo k acc b)
  | [], acc, M, hM, h, _ => by simpa [xo] using h
  | t :: b, acc, M, hM, h, hb => by
    obtain ⟨h1, h2, h3, h4⟩ := hb t (List.mem_cons_self ..)
    have h5 := qqz h1 h3 h4 hM h
    have := Uw hF (b := b) (by omega) h5 fun u hu => hb u (List.mem_cons_of_mem _ hu)
    rw [← h2] at this ⊢
    rw [List.length_cons, show M + F * ((b.length + 1 : Nat) : Int) = M + F + F * b.length by rw [Int.natCast_add, Int.mul_add]; omega]
    exact this
theorem qew {k : Int} : ∀ {b acc : List (Int × List Nat × Int)}, (xo k acc b).length ≤ acc.length + b.length
  | [], acc => by simp [xo]
  | t :: b, acc => by
    have h1 := qjo (n := t.1) (m := t.2.1) (f := k * t.2.2) (ts := acc)
    have h2 := qew (k := k) (b := b) (acc := kx t.1 t.2.1 (k * t.2.2) acc)
    have h3 : xo k acc (t :: b) = xo k (kx t.1 t.2.1 (k * t.2.2) acc) b := rfl
    rw [h3, List.length_cons]; omega
theorem sum_nil {n : Int} : qa6 n 0 [] := ⟨(fun t h => by cases h), (fun t h => by cases h), (fun t h => by cases h), .nil⟩
theorem qev {n M : Int} {S : List (Int × List Nat × Int)} (h : qa6 n M S) : (S.map txt).Nodup := by
  unfold List.Nodup
  rw [List.pairwise_map]
  refine List.Pairwise.imp_of_mem ?_ h.one
  intro a b ha hb hne e
  unfold txt at e
  have h1 := h.dia a ha
  have h2 := h.dia b hb
  rw [h1.1, h2.1] at e
  exact hne (qih h1.2 h2.2 (h.ok a ha).1 (h.ok b hb).1 e).2
theorem qsm {n M p : Int} {S : List (Int × List Nat × Int)} (hn : 0 ≤ n ∧ n ≤ 8) (h : qa6 n M S) : (0 ≤ qg1 S ∧ qg1 S ≤ 8) ∧ (∀ t ∈ S, t.1 = qg1 S) ∧ (if zw p S = [] then n else qg1 S) = n := by
  match S, h with
  | [], h => exact ⟨by simp [qg1], by simp, by simp [zw]⟩
  | t :: l, h =>
    have e : qg1 (t :: l) = n := (h.dia t (List.mem_cons_self ..)).1
    rw [e]
    exact ⟨hn, fun u hu => (h.dia u hu).1, by split <;> rfl⟩
theorem zm : B37 105 = some (j6) := rfl
def Kf : AT := (.one (oM 20 7) (.one (oF 21 0 9) (.one (oN 22 17 21) (.one (oF 24 17 9) (.one (oL 25 24) (.alt (o0 23 (.lookup [.int,.int,.int,.int,.int,.int,.int,.int,.int,.int,.int,.int,.int,.int,.int,.int,.int] true (.int .i64 0) false (.t 20) (.t 22))) (.one (oP 26 .add 23 25) (.one (o0 27 (.J8 [.int,.int,.int,.int,.int,.int,.int,.int,.int,.int,.int,.int,.int,.int,.int,.int,.int] true (.int .i64 0) (.t 20) (.t 22))) (.one (oE 28 1 27) (.one ⟨none,none,.op (.Gu (.t 20) (.t 28) (.t 26))⟩ (.nil))))) (.alt (o0 27 (.J8 [.int,.int,.int,.int,.int,.int,.int,.int,.int,.int,.int,.int,.int,.int,.int,.int,.int] true (.int .i64 0) (.t 20) (.t 22))) (.one (o0 23 (.lookup [.int,.int,.int,.int,.int,.int,.int,.int,.int,.int,.int,.int,.int,.int,.int,.int,.int] true (.int .i64 0) false (.t 20) (.t 22))) (.one (oP 26 .add 23 25) (.one (oE 28 1 27) (.one ⟨none,none,.op (.Gu (.t 20) (.t 28) (.t 26))⟩ (.nil))))) (.none))))))))
def qgd : AC := .region [oK 29 .add 16 1,oM 16 29]
def Kt : AC := .seq (.region [oP 17 .lss 16 15]) (.seq (.cond 17 .skip (.exit 0)) (.seq (.block 1 (.seq (.region [oX 18 18 14 16,oN 19 18 18,o0 9 (.alloc [.int .i64 0,.int .u8 0,.int .u8 0,.int .u8 0,.int .u8 0,.int .u8 0,.int .u8 0,.int .u8 0,.int .u8 0,.int .u8 0,.int .u8 0,.int .u8 0,.int .u8 0,.int .u8 0,.int .u8 0,.int .u8 0,.int .u8 0,.int .i64 0]),oS 18 9 19]) (.tree false Kf))) qgd))
def G3 : AT := (.one (oM 37 7) (.one (oF 38 0 11) (.one (oN 39 17 38) (.one (oM 41 2) (.one (oF 42 17 11) (.one (oL 43 42) (.one (oP 44 .mul 41 43) (.alt (o0 40 (.lookup [.int,.int,.int,.int,.int,.int,.int,.int,.int,.int,.int,.int,.int,.int,.int,.int,.int] true (.int .i64 0) false (.t 37) (.t 39))) (.one (oP 45 .add 40 44) (.one (o0 46 (.J8 [.int,.int,.int,.int,.int,.int,.int,.int,.int,.int,.int,.int,.int,.int,.int,.int,.int] true (.int .i64 0) (.t 37) (.t 39))) (.one (oE 47 1 46) (.one ⟨none,none,.op (.Gu (.t 37) (.t 47) (.t 45))⟩ (.nil))))) (.alt (o0 46 (.J8 [.int,.int,.int,.int,.int,.int,.int,.int,.int,.int,.int,.int,.int,.int,.int,.int,.int] true (.int .i64 0) (.t 37) (.t 39))) (.one (o0 40 (.lookup [.int,.int,.int,.int,.int,.int,.int,.int,.int,.int,.int,.int,.int,.int,.int,.int,.int] true (.int .i64 0) false (.t 37) (.t 39))) (.one (oP 45 .add 40 44) (.one (oE 47 1 46) (.one ⟨none,none,.op (.Gu (.t 37) (.t 47) (.t 45))⟩ (.nil))))) (.none))))))))))
def qgi : AC := .region [oK 48 .add 33 1,oM 33 48]
def Kn : AC := .seq (.region [oP 34 .lss 33 32]) (.seq (.cond 34 .skip (.exit 2)) (.seq (.block 3 (.seq (.region [oX 35 18 31 33,oN 36 18 35,o0 11 (.alloc [.int .i64 0,.int .u8 0,.int .u8 0,.int .u8 0,.int .u8 0,.int .u8 0,.int .u8 0,.int .u8 0,.int .u8 0,.int .u8 0,.int .u8 0,.int .u8 0,.int .u8 0,.int .u8 0,.int .u8 0,.int .u8 0,.int .u8 0,.int .i64 0]),oS 18 11 36]) (.tree false G3))) qgi))
def qgw : AC := .seq (.region [oM 49 7,oC 50 105 [.t 3,.t 49],oS 4 6 50]) .ret
def qgq : AC := .seq (.seq (.region [oF 30 3 4,oL 31 30,o0 32 (.len .slc (.t 31)),oI 33 0]) (.block 2 (.loop Kn))) qgw
def qrj : AC := .seq (.region [o0 3 (.box (.t 0)),o0 4 (.box (.t 1)),oZ 6]) (.seq (.region [o0 12 (.K1),oM 7 12]) (.seq (.seq (.region [oF 13 3 3,oL 14 13,o0 15 (.len .slc (.t 14)),oI 16 0]) (.block 0 (.loop Kt))) qgq))
theorem qzh : zl Try.prog 124 = some ⟨51, qrj, [.yn 6 4]⟩ := by kernel_rfl
theorem q0e (p c n p' c' k : Int) (a b : List (Int × List Nat × Int)) (hp : 2 ≤ p ∧ p ≤ 97) (hn : 0 ≤ n ∧ n ≤ 8) (ha : xd p n a) (hb : xd p n b) (hl : a.length ≤ 100000 ∧ b.length ≤ 100000) (hk : -1000001 ≤ k ∧ k ≤ 1000001) :
    Am.Fn Try.prog 124 [elemV p c n 0 a.length, elemV p' c' n 1 b.length, .int .i64 k] [.ro (xc a), .ro (xc b)] (fun v H' => v = elemV p c n 2 (zw p (xo k (xo 1 [] a) b)).length ∧ H' = [.ro (xc a), .ro (xc b), .vec 18 (xc (Q7 (zw p (xo k (xo 1 [] a) b))))]) := by
  refine Am.Fn.ofB qff mixed qzh (by simp [elemV, AV.qv, AV.under]) (qax (qe _) (qe _)) ?_
  have hal := xe ha.ok
  have hbl := xe hb.ok
  simp (maxSteps := 3000000) only [qh, zH, qrj, zm, j6, elemV, hal, Nat.le_refl, iE, iN, iB, iC, iL, iD, iA, iS, iM, qa, zZ, ↓qq, ↓reduceIte, reduceCtorEq, nA, nM, nS, nE, nL, nD]; try simp only [qa, zY]
  have hsum1 : ∀ i : Nat, i ≤ a.length → qa6 n (100 * i) (xo 1 [] (a.take i)) ∧ (xo 1 [] (a.take i)).length ≤ i := fun i hi => by
    have h1 := Uw (n := n) (F := 100) (k := 1) (by omega) (b := a.take i) (acc := []) (M := 0) (by omega) sum_nil fun t ht => by
      have hm := List.mem_of_mem_take ht
      have h2 := ha.fac t hm
      exact ⟨ha.ok t hm, (ha.dia t hm).1, (ha.dia t hm).2, by omega, by omega⟩
    have h2 := qew (k := 1) (acc := []) (b := a.take i)
    rw [List.length_take, Nat.min_eq_left hi] at h1 h2
    exact ⟨by simpa using h1, by simpa using h2⟩
  refine WA.xr qff (fun s => ∃ (i : Nat), i ≤ a.length ∧
      s = ⟨[(16, .int .i64 i), (15, .int .i64 a.length), (14, .slc 0 0 a.length false 0), (7, .map 5), (6, .ptr 4 0), (4, .ptr 3 0), (3, .ptr 2 0), (2, .int .i64 k)], [.ro (xc a), .ro (xc b), .cells [.int .i64 p, .int .i64 c, .int .i64 n, .slc 0 0 a.length false 0],
        .cells [.int .i64 p', .int .i64 c', .int .i64 n, .slc 1 0 b.length false 0], .cells [.int .i64 0, .int .i64 0, .int .i64 0, .v (.slice none 0 0)], j7 (xo 1 [] (a.take i))]⟩)
    (fun s => match get s.env 16 with | .int _ x => a.length - x.toNat | _ => 0) ⟨_, qw.qx [16, 15, 14, 7, 6, 4, 3, 2], 0, by omega, rfl⟩ ?_
  rintro s ⟨i, hi, rfl⟩
  obtain ⟨hS, hSl⟩ := hsum1 i hi
  by_cases hlt : i < a.length
  · have hli : (i : Int) < a.length := by omega
    have hli' : (0 : Int) ≤ i := by omega
    have hw : qo .i64 ((i : Int) + 1) = ((i + 1 : Nat) : Int) := by rw [wrap64 (by omega) (by omega)]; rfl
    have hd := qhx ha.ok hlt
    have hf := qpt ha.ok hlt
    have hg := Zr ha.ok hlt
    have hok := ha.ok _ (List.getElem_mem hlt)
    have hsz := ha.dia _ (List.getElem_mem hlt)
    have hfc := ha.fac _ (List.getElem_mem hlt)
    have hb1 : i * 18 < a.length * 18 := by omega
    have hb2 : i * 18 + 18 ≤ a.length * 18 := by omega
    have hb3 : i * 18 + 17 < a.length * 18 := by omega
    have hn1 := qjx (k := 1) (a := []) hlt
    obtain ⟨t, ht⟩ : ∃ t, t = a[i] := ⟨_, rfl⟩
    rw [← ht] at hd hf hg hok hsz hfc hn1
    clear ht
    obtain ⟨tn, m, f⟩ := t
    simp only at hd hf hg hok hsz hfc hn1
    obtain ⟨hsz1, hs⟩ := hsz
    have hsz1 := hsz1.symm
    subst hsz1
    have hov := Jt (t := (0, List.replicate 16 0, 0)) (u := (n, m, f)) (by simp) hok.1
    have htl := x6 (t := (n, m, f)) hok
    have htd := Uk (t := (n, m, f)) hok
    have htf := Qx (t := (n, m, f)) hok
    simp (maxSteps := 3000000) only [qh, zH, Kt, zm, j6, hli, hli', hal, hb1, hb2, hb3, hw, hg, Qm, htl, Qh, vb, hov, iE, iN, iB, iC, iL, iD, iA, iS, iM, qa, zZ, ↓qq, ↓reduceIte, reduceCtorEq, nA, nM, nS, nE, nL, nD]; try simp only [qa, zY]
    refine WA.qf0 qff (fun s => s = ⟨[(16, .int .i64 i), (15, .int .i64 a.length), (14, .slc 0 0 a.length false 0), (7, .map 5), (6, .ptr 4 0), (4, .ptr 3 0), (3, .ptr 2 0), (2, .int .i64 k)], [.ro (xc a), .ro (xc b), .cells [.int .i64 p, .int .i64 c, .int .i64 n, .slc 0 0 a.length false 0],
        .cells [.int .i64 p', .int .i64 c', .int .i64 n, .slc 1 0 b.length false 0], .cells [.int .i64 0, .int .i64 0, .int .i64 0, .v (.slice none 0 0)], j7 (xo 1 [] (a.take (i + 1)))]⟩) ?_ ?_
    · rw [hn1, Int.one_mul]
      generalize xo 1 [] (a.take i) = S at hS hSl
      have hmT : j7 S = .map (esT 0 S) S.length := rfl
      have hkok : kok KD true (.agg (dia n m)) = true := qc0 hok.1
      cases hix : Zq n m S with
      | none =>
        obtain ⟨f1, f2, f3, f4, f5⟩ := qek hok hS.ok hix
        have hw0 : qo .i64 (0 + f) = f := by rw [wrap64 (by omega) (by omega)]; omega
        unfold Kf
        simp (maxSteps := 3000000) only [qh, zH, zm, j6, ka, Xa, hmT, hkok, f1, f2, f3, f4, htl, htd, htf, hw0, jo, iE, iN, iB, iC, iL, iD, iA, iS, iM, qa, zZ, ↓qq, ↓reduceIte, reduceCtorEq, nA, nM, nS, nE, nL, nD]; try simp only [qa, zY]
        refine ⟨⟨_, qw.x7 [0, 1, 2, 3, 4, 5] [16, 15, 14, 7, 6, 4, 3, 2] ⟨by decide, ?_⟩ ?_, ?_⟩, _, qw.x7 [0, 1, 2, 3, 4, 5] [16, 15, 14, 7, 6, 4, 3, 2] ⟨by decide, ?_⟩ ?_, ?_⟩
        · simp only [qg _ _ (qe _), ↓zb, zK, ↓reduceIte, reduceCtorEq, nE, nB, nA]
        · simp only [qg _ _ (qe _), ↓zb, zK, ↓reduceIte, reduceCtorEq, nE, nB, nA]
        · simp only [qb _ _ (qe _), ↓vm, zL, ↓reduceIte, reduceCtorEq, nE, nA]
          rw [j7, f5]
        · simp only [qg _ _ (qe _), ↓zb, zK, ↓reduceIte, reduceCtorEq, nE, nB, nA]
        · simp only [qg _ _ (qe _), ↓zb, zK, ↓reduceIte, reduceCtorEq, nE, nB, nA]
        · simp only [qb _ _ (qe _), ↓vm, zL, ↓reduceIte, reduceCtorEq, nE, nA]
          rw [j7, f5]
      | some j =>
        obtain ⟨f1, f2, f3, f4, f5⟩ := qfj hok.1 hS.ok hix
        have hj := Bo hix
        have hfj := hS.fac _ (show S.getD j zT ∈ S by rw [qaw hj.1]; exact List.getElem_mem _)
        have hw0 : qo .i64 ((S.getD j zT).2.2 + f) = (S.getD j zT).2.2 + f := wrap64 (by omega) (by omega)
        unfold Kf
        simp (maxSteps := 3000000) only [qh, zH, zm, j6, ka, Xa, hmT, hkok, f1, f2, f3, f4, htl, htd, htf, hw0, jo, iE, iN, iB, iC, iL, iD, iA, iS, iM, qa, zZ, ↓qq, ↓reduceIte, reduceCtorEq, nA, nM, nS, nE, nL, nD]; try simp only [qa, zY]
        refine ⟨⟨_, qw.x7 [0, 1, 2, 3, 4, 5] [16, 15, 14, 7, 6, 4, 3, 2] ⟨by decide, ?_⟩ ?_, ?_⟩, _, qw.x7 [0, 1, 2, 3, 4, 5] [16, 15, 14, 7, 6, 4, 3, 2] ⟨by decide, ?_⟩ ?_, ?_⟩
        · simp only [qg _ _ (qe _), ↓zb, zK, ↓reduceIte, reduceCtorEq, nE, nB, nA]
        · simp only [qg _ _ (qe _), ↓zb, zK, ↓reduceIte, reduceCtorEq, nE, nB, nA]
        · simp only [qb _ _ (qe _), ↓vm, zL, ↓reduceIte, reduceCtorEq, nE, nA]
          rw [j7, f5]
        · simp only [qg _ _ (qe _), ↓zb, zK, ↓reduceIte, reduceCtorEq, nE, nB, nA]
        · simp only [qg _ _ (qe _), ↓zb, zK, ↓reduceIte, reduceCtorEq, nE, nB, nA]
        · simp only [qb _ _ (qe _), ↓vm, zL, ↓reduceIte, reduceCtorEq, nE, nA]
          rw [j7, f5]
    · rintro s rfl
      simp (maxSteps := 3000000) only [qh, zH, qgd, zm, j6, hw, iE, iN, iB, iC, iL, iD, iA, iS, iM, qa, zZ, ↓qq, ↓reduceIte, reduceCtorEq, nA, nM, nS, nE, nL, nD]; try simp only [qa, zY]
      refine ⟨_, qw.qx [16, 15, 14, 7, 6, 4, 3, 2], ⟨i + 1, by omega, rfl⟩, ?_⟩
      simp only [zL, ↓reduceIte, reduceCtorEq, nE, nA]; omega
  have hli : ¬ ((i : Int) < a.length) := by omega
  obtain rfl : i = a.length := by omega
  have htk : a.take a.length = a := List.take_length
  rw [htk] at hS hSl
  have hmT : j7 (xo 1 [] (a.take a.length)) = j7 (xo 1 [] a) := by rw [htk]
  simp (maxSteps := 3000000) only [qh, zH, Kt, qgq, zm, j6, hli, hmT, Int.lt_irrefl, hbl, iE, iN, iB, iC, iL, iD, iA, iS, iM, qa, zZ, ↓qq, ↓reduceIte, reduceCtorEq, nA, nM, nS, nE, nL, nD]; try simp only [qa, zY]
  have hsum2 : ∀ i : Nat, i ≤ b.length → qa6 n (10000000 + 100000000 * i) (xo k (xo 1 [] a) (b.take i)) ∧ (xo k (xo 1 [] a) (b.take i)).length ≤ a.length + i := fun i hi => by
    have h1 := Uw (n := n) (F := 100000000) (k := k) (by omega) (b := b.take i) (acc := xo 1 [] a) (M := 100 * a.length) (by omega) hS fun t ht => by
      have hm := List.mem_of_mem_take ht
      have h2 := hb.fac t hm
      have h3 : -1000001 * t.2.2 ≤ k * t.2.2 := Int.mul_le_mul_of_nonneg_right (by omega) (by omega)
      have h4 : k * t.2.2 ≤ 1000001 * t.2.2 := Int.mul_le_mul_of_nonneg_right (by omega) (by omega)
      generalize k * t.2.2 = q at h3 h4 ⊢
      exact ⟨hb.ok t hm, (hb.dia t hm).1, (hb.dia t hm).2, by omega, by omega⟩
    have h2 := qew (k := k) (acc := xo 1 [] a) (b := b.take i)
    rw [List.length_take, Nat.min_eq_left hi] at h1 h2
    exact ⟨⟨h1.ok, h1.dia, fun t ht => by have := h1.fac t ht; omega, h1.one⟩, by omega⟩
  refine WA.xr qff (fun s => ∃ (i : Nat), i ≤ b.length ∧
      s = ⟨[(33, .int .i64 i), (32, .int .i64 b.length), (31, .slc 1 0 b.length false 0), (7, .map 5), (6, .ptr 4 0), (3, .ptr 2 0), (2, .int .i64 k)], [.ro (xc a), .ro (xc b), .cells [.int .i64 p, .int .i64 c, .int .i64 n, .slc 0 0 a.length false 0],
        .cells [.int .i64 p', .int .i64 c', .int .i64 n, .slc 1 0 b.length false 0], .cells [.int .i64 0, .int .i64 0, .int .i64 0, .v (.slice none 0 0)], j7 (xo k (xo 1 [] a) (b.take i))]⟩)
    (fun s => match get s.env 33 with | .int _ x => b.length - x.toNat | _ => 0) ⟨_, qw.qx [33, 32, 31, 7, 6, 3, 2], 0, by omega, rfl⟩ ?_
  clear hS hSl hmT htk hi hlt hli
  rintro s ⟨i, hi, rfl⟩
  obtain ⟨hS, hSl⟩ := hsum2 i hi
  by_cases hlt : i < b.length
  · have hli : (i : Int) < b.length := by omega
    have hli' : (0 : Int) ≤ i := by omega
    have hw : qo .i64 ((i : Int) + 1) = ((i + 1 : Nat) : Int) := by rw [wrap64 (by omega) (by omega)]; rfl
    have hd := qhx hb.ok hlt
    have hf := qpt hb.ok hlt
    have hg := Zr hb.ok hlt
    have hok := hb.ok _ (List.getElem_mem hlt)
    have hsz := hb.dia _ (List.getElem_mem hlt)
    have hfc := hb.fac _ (List.getElem_mem hlt)
    have hb1 : i * 18 < b.length * 18 := by omega
    have hb2 : i * 18 + 18 ≤ b.length * 18 := by omega
    have hn1 := qjx (k := k) (a := xo 1 [] a) hlt
    obtain ⟨t, ht⟩ : ∃ t, t = b[i] := ⟨_, rfl⟩
    rw [← ht] at hd hf hg hok hsz hfc hn1
    clear ht
    obtain ⟨tn, m, f⟩ := t
    simp only at hd hf hg hok hsz hfc hn1
    obtain ⟨hsz1, hs⟩ := hsz
    have hsz1 := hsz1.symm
    subst hsz1
    have hov := Jt (t := (0, List.replicate 16 0, 0)) (u := (n, m, f)) (by simp) hok.1
    have htl := x6 (t := (n, m, f)) hok
    have htd := Uk (t := (n, m, f)) hok
    have htf := Qx (t := (n, m, f)) hok
    have hkf : -100000000 ≤ k * f ∧ k * f ≤ 100000000 := by
      have h1 : -1000001 * f ≤ k * f := Int.mul_le_mul_of_nonneg_right (by omega) (by omega)
      have h2 : k * f ≤ 1000001 * f := Int.mul_le_mul_of_nonneg_right (by omega) (by omega)
      generalize k * f = q at h1 h2 ⊢
      omega
    obtain ⟨kf, hkfe⟩ : ∃ kf, kf = k * f := ⟨_, rfl⟩
    have hwk : qo .i64 (k * f) = kf := by rw [hkfe]; exact wrap64 (by omega) (by omega)
    rw [← hkfe] at hkf hn1
    simp (maxSteps := 3000000) only [qh, zH, Kn, zm, j6, hli, hli', hbl, hb1, hb2, hw, hg, Qm, htl, Qh, vb, hov, iE, iN, iB, iC, iL, iD, iA, iS, iM, qa, zZ, ↓qq, ↓reduceIte, reduceCtorEq, nA, nM, nS, nE, nL, nD]; try simp only [qa, zY]
    refine WA.qf0 qff (fun s => s = ⟨[(33, .int .i64 i), (32, .int .i64 b.length), (31, .slc 1 0 b.length false 0), (7, .map 5), (6, .ptr 4 0), (3, .ptr 2 0), (2, .int .i64 k)], [.ro (xc a), .ro (xc b), .cells [.int .i64 p, .int .i64 c, .int .i64 n, .slc 0 0 a.length false 0],
        .cells [.int .i64 p', .int .i64 c', .int .i64 n, .slc 1 0 b.length false 0], .cells [.int .i64 0, .int .i64 0, .int .i64 0, .v (.slice none 0 0)], j7 (xo k (xo 1 [] a) (b.take (i + 1)))]⟩) ?_ ?_
    · rw [hn1]
      generalize xo k (xo 1 [] a) (b.take i) = S at hS hSl
      have hmT : j7 S = .map (esT 0 S) S.length := rfl
      have hkok : kok KD true (.agg (dia n m)) = true := qc0 hok.1
      cases hix : Zq n m S with
      | none =>
        obtain ⟨f1, f2, f3, f4, f5⟩ := qek hok hS.ok hix
        have hw0 : qo .i64 (0 + kf) = kf := by rw [wrap64 (by omega) (by omega)]; omega
        unfold G3
        simp (maxSteps := 3000000) only [qh, zH, zm, j6, ka, Xa, hmT, hkok, f1, f2, f3, f4, htl, htd, htf, hw0, hwk, jo, iE, iN, iB, iC, iL, iD, iA, iS, iM, qa, zZ, ↓qq, ↓reduceIte, reduceCtorEq, nA, nM, nS, nE, nL, nD]; try simp only [qa, zY]
        refine ⟨⟨_, qw.x7 [0, 1, 2, 3, 4, 5] [33, 32, 31, 7, 6, 3, 2] ⟨by decide, ?_⟩ ?_, ?_⟩, _, qw.x7 [0, 1, 2, 3, 4, 5] [33, 32, 31, 7, 6, 3, 2] ⟨by decide, ?_⟩ ?_, ?_⟩
        · simp only [qg _ _ (qe _), ↓zb, zK, ↓reduceIte, reduceCtorEq, nE, nB, nA]
        · simp only [qg _ _ (qe _), ↓zb, zK, ↓reduceIte, reduceCtorEq, nE, nB, nA]
        · simp only [qb _ _ (qe _), ↓vm, zL, ↓reduceIte, reduceCtorEq, nE, nA]
          rw [j7, f5]
        · simp only [qg _ _ (qe _), ↓zb, zK, ↓reduceIte, reduceCtorEq, nE, nB, nA]
        · simp only [qg _ _ (qe _), ↓zb, zK, ↓reduceIte, reduceCtorEq, nE, nB, nA]
        · simp only [qb _ _ (qe _), ↓vm, zL, ↓reduceIte, reduceCtorEq, nE, nA]
          rw [j7, f5]
      | some j =>
        obtain ⟨f1, f2, f3, f4, f5⟩ := qfj hok.1 hS.ok hix
        have hj := Bo hix
        have hfj := hS.fac _ (show S.getD j zT ∈ S by rw [qaw hj.1]; exact List.getElem_mem _)
        have hw0 : qo .i64 ((S.getD j zT).2.2 + kf) = (S.getD j zT).2.2 + kf := wrap64 (by omega) (by omega)
        unfold G3
        simp (maxSteps := 3000000) only [qh, zH, zm, j6, ka, Xa, hmT, hkok, f1, f2, f3, f4, htl, htd, htf, hw0, hwk, jo, iE, iN, iB, iC, iL, iD, iA, iS, iM, qa, zZ, ↓qq, ↓reduceIte, reduceCtorEq, nA, nM, nS, nE, nL, nD]; try simp only [qa, zY]
        refine ⟨⟨_, qw.x7 [0, 1, 2, 3, 4, 5] [33, 32, 31, 7, 6, 3, 2] ⟨by decide, ?_⟩ ?_, ?_⟩, _, qw.x7 [0, 1, 2, 3, 4, 5] [33, 32, 31, 7, 6, 3, 2] ⟨by decide, ?_⟩ ?_, ?_⟩
        · simp only [qg _ _ (qe _), ↓zb, zK, ↓reduceIte, reduceCtorEq, nE, nB, nA]
        · simp only [qg _ _ (qe _), ↓zb, zK, ↓reduceIte, reduceCtorEq, nE, nB, nA]
        · simp only [qb _ _ (qe _), ↓vm, zL, ↓reduceIte, reduceCtorEq, nE, nA]
          rw [j7, f5]
        · simp only [qg _ _ (qe _), ↓zb, zK, ↓reduceIte, reduceCtorEq, nE, nB, nA]
        · simp only [qg _ _ (qe _), ↓zb, zK, ↓reduceIte, reduceCtorEq, nE, nB, nA]
        · simp only [qb _ _ (qe _), ↓vm, zL, ↓reduceIte, reduceCtorEq, nE, nA]
          rw [j7, f5]
    · rintro s rfl
      simp (maxSteps := 3000000) only [qh, zH, qgi, zm, j6, hw, iE, iN, iB, iC, iL, iD, iA, iS, iM, qa, zZ, ↓qq, ↓reduceIte, reduceCtorEq, nA, nM, nS, nE, nL, nD]; try simp only [qa, zY]
      refine ⟨_, qw.qx [33, 32, 31, 7, 6, 3, 2], ⟨i + 1, by omega, rfl⟩, ?_⟩
      simp only [zL, ↓reduceIte, reduceCtorEq, nE, nA]; omega
  have hli : ¬ ((i : Int) < b.length) := by omega
  obtain rfl : i = b.length := by omega
  have htk : b.take b.length = b := List.take_length
  rw [htk] at hS hSl ⊢
  have hap := qev hS
  obtain ⟨hz1, hz2, hz3⟩ := qsm (p := p) hn hS
  have hSo := hS.ok
  generalize xo k (xo 1 [] a) b = S at *
  have hmT : j7 S = .map (esT 0 S) S.length := rfl
  have hts := qhr (ts := S) (k := 0) hSo
  have hSl' : S.length ≤ 1000000 := by omega
  have hpp : 0 < p ∧ p ≤ 1000000 := by omega
  simp (maxSteps := 3000000) only [qh, zH, Kn, qgw, zm, j6, hli, hmT, Int.lt_irrefl, hts, hpp, hSl', hz1, hz2, hz3, hap, and_self, elemV, iE, iN, iB, iC, iL, iD, iA, iS, iM, qa, zZ, ↓qq, ↓reduceIte, reduceCtorEq, nA, nM, nS, nE, nL, nD]; try simp only [qa, zY]
  refine ⟨hz2, rfl, ?_⟩
  refine Ret.x7 [0, 1, 6] ⟨⟨by simp, rfl, by decide⟩, ?_⟩ (rs := [.agg [.int .i64 p, .int .i64 c, .int .i64 n, .slc 6 0 (zw p S).length false 0]]) rfl rfl (by simp [xl]) ?_ ⟨?_, ?_⟩
  · simp only [qg _ _ (qe _), ↓zb, zK, ↓reduceIte, reduceCtorEq, nE, nB, nA]
  · intro j l; match j with
    | 0 => simp [zo, AO.ren]
    | 1 => simp [zo, AO.ren]
    | 2 => simp [zo, AO.ren]
    | j + 3 => simp [zo]
  · simp only [xl]
    simp only [zL, ↓reduceIte, reduceCtorEq, nE, nA]
  · simp only [qb _ _ (qe _), zL, ↓reduceIte, reduceCtorEq, nE, nA]
theorem qj2 {n k : Int} {m : List Nat} : ∀ {b acc : List (Int × List Nat × Int)}, (∀ t ∈ acc, t.1 = n) → (∀ t ∈ b, t.1 = n) → cf m (xo k acc b) = cf m acc + k * cf m b ∧ ∀ t ∈ xo k acc b, t.1 = n
  | [], acc, h, _ => ⟨by simp [xo, cf], h⟩
  | t :: b, acc, h, hb => by
    have h0 := hb t (List.mem_cons_self ..)
    have h1 : ∀ u ∈ kx t.1 t.2.1 (k * t.2.2) acc, u.1 = n := fun u hu => by
      rcases Wr hu with ⟨v, hv, e, _⟩ | ⟨rfl, _⟩
      · rw [e]; exact h v hv
      · exact h0
    have ih := qj2 (k := k) (m := m) (b := b) h1 fun u hu => hb u (List.mem_cons_of_mem _ hu)
    have e : xo k acc (t :: b) = xo k (kx t.1 t.2.1 (k * t.2.2) acc) b := rfl
    rw [e]
    refine ⟨?_, ih.2⟩
    have h2 := qhp (f := k * t.2.2) (m := m) (m' := t.2.1) h
    rw [← h0] at h2
    rw [ih.1, h2, cf, Int.mul_add]
    split
    · omega
    · rw [Int.mul_zero]; omega
theorem qva {p n k : Int} {m : List Nat} {ts : List (Int × List Nat × Int)} (h : ∀ t ∈ ts, t.1 = n) : ∀ t ∈ qjh p ts n m k, t.1 = n := fun t ht => by
  rw [qhj] at ht
  split at ht
  · exact h t ht
  · rcases Uq ht with h1 | ⟨h1, _⟩
    · exact h t h1
    · exact h1
theorem qn4 {p n k : Int} {m : List Nat} : ∀ {b acc : List (Int × List Nat × Int)}, (∀ t ∈ acc, t.1 = n) → p ∣ cf m (qcd p n k acc b) - (cf m acc + k * cf m b)
  | [], acc, h => by simp [qcd, cf]
  | t :: b, acc, h => by
    have ih := qn4 (p := p) (k := k) (m := m) (b := b) (qva (p := p) (m := t.2.1) (k := k * t.2.2) h)
    have h1 := qut (p := p) (k := k * t.2.2) (m := m) (m' := t.2.1) h
    have e : qcd p n k acc (t :: b) = qcd p n k (qjh p acc n t.2.1 (k * t.2.2)) b := rfl
    rw [e]
    refine br ih h1 ?_
    rw [cf, Int.mul_add]
    split
    · omega
    · rw [Int.mul_zero]; omega
theorem q1h {p n k M : Int} {a b : List (Int × List Nat × Int)} (hp : 0 < p) (ha : xd p n a) (hb : xd p n b) (h : qa6 n M (xo k (xo 1 [] a) b)) : Q7 (zw p (xo k (xo 1 [] a) b)) = qcd p n k a b := by
  have ha' : ∀ t ∈ a, t.1 = n := fun t ht => (ha.dia t ht).1
  have hb' : ∀ t ∈ b, t.1 = n := fun t ht => (hb.dia t ht).1
  refine Ki hp (qip hp h) (qex hp ha hb).1 fun m => ?_
  have h1 := qj2 (n := n) (k := 1) (m := m) (acc := []) (b := a) (by simp) ha'
  have h2 := qj2 (k := k) (m := m) h1.2 hb'
  have h3 := qn3 (p := p) (m := m) (S := xo k (xo 1 [] a) b)
  have h4 := qn4 (p := p) (k := k) (m := m) (b := b) ha'
  refine Ys h3 h4 ?_
  rw [h2.1, h1.1]
  simp only [cf]; omega
theorem q17 {p n k : Int} {a b : List (Int × List Nat × Int)} (hp : 2 ≤ p ∧ p ≤ 97) (ha : xd p n a) (hb : xd p n b) (hk : -1000001 ≤ k ∧ k ≤ 1000001) : ∃ M, qa6 n M (xo k (xo 1 [] a) b) := by
  have h1 := Uw (n := n) (F := 100) (k := 1) (by omega) (b := a) (acc := []) (M := 0) (by omega) sum_nil fun t hm => by
    have h2 := ha.fac t hm
    exact ⟨ha.ok t hm, (ha.dia t hm).1, (ha.dia t hm).2, by omega, by omega⟩
  exact ⟨_, Uw (n := n) (F := 100000000) (k := k) (by omega) (b := b) (by omega) h1 fun t hm => by
    have h2 := hb.fac t hm
    have h3 : -1000001 * t.2.2 ≤ k * t.2.2 := Int.mul_le_mul_of_nonneg_right (by omega) (by omega)
    have h4 : k * t.2.2 ≤ 1000001 * t.2.2 := Int.mul_le_mul_of_nonneg_right (by omega) (by omega)
    generalize k * t.2.2 = q at h3 h4 ⊢
    exact ⟨hb.ok t hm, (hb.dia t hm).1, (hb.dia t hm).2, by omega, by omega⟩⟩
def qch : BE := fun hp xs => match xs with
  | [.agg [.int .i64 p, .int .i64 c, .int .i64 n, .slc b 0 la false 0], .agg [.int .i64 p', .int .i64 c', .int .i64 n', .slc b' 0 lb false 0], .int .i64 k] => match rd hp b, rd hp b' with
    | some L, some L' => match qa3 la L, qa3 lb L' with
      | some ta, some tb => chk ((((2 ≤ p ∧ p ≤ 97) ∧ (0 ≤ n ∧ n ≤ 8) ∧ n' = n) ∧ Ux p n ta ∧ Ux p n tb) ∧ (ta.length ≤ 100000 ∧ tb.length ≤ 100000) ∧ (-1000001 ≤ k ∧ k ≤ 1000001)) (some (elemV p c n hp.length (qcd p n k ta tb).length, hp ++ [.vec 18 (xc (qcd p n k ta tb))]))
      | _, _ => none
    | _, _ => none
  | _ => none
theorem q7h : Am.Callee Try.prog 124 qch := Callee.fp fun hp xs v hp' he => by
  unfold qch at he
  split at he
  · rename_i p c n b la p' c' n' b' lb k
    split at he
    · rename_i L L' hL hL'
      split at he
      · rename_i ta tb h1 h1'
        obtain ⟨⟨⟨⟨a1, a2, a3⟩, a4, a5⟩, a6, a7⟩, he2⟩ := ql he
        simp only [Option.some.injEq, Prod.mk.injEq] at he2
        obtain ⟨rfl, rfl⟩ := he2
        obtain ⟨e1, e2, e3, e4⟩ := kz h1
        obtain ⟨f1, f2, f3, f4⟩ := kz h1'
        have g1 := xe e2
        have g2 := xe f2
        subst a3
        have hfn := q0e p c n' p' c' k ta tb a1 a2 (a4.qg8 e2) (a5.qg8 f2) a6 a7
        obtain ⟨M, hM⟩ := q17 a1 (a4.qg8 e2) (a5.qg8 f2) a7
        have hlaw := q1h (by omega) (a4.qg8 e2) (a5.qg8 f2) hM
        have hlen : (zw p (xo k (xo 1 [] ta) tb)).length = (qcd p n' k ta tb).length := by rw [← hlaw]; exact (uy _).length_eq.symm
        rw [hlaw, hlen] at hfn
        refine ⟨[(b, 0), (b', 0)], [elemV p c n' 0 ta.length, elemV p' c' n' 1 tb.length, .int .i64 k], _, _, _, hfn, by simp [elemV, AV.ren, AV.zp, ofL, e1, f1], rfl,
          ⟨⟨L, hL, by omega, by rw [List.drop_zero, qb _ _ (qe _), g1, e1]; exact e3⟩, ⟨L', hL', by omega, by rw [List.drop_zero, qb _ _ (qe _), g2, f1]; exact f3⟩, trivial⟩, rfl,
          ⟨qk _ _ (qe _), qk _ _ (qe _), trivial⟩, ⟨⟨trivial, trivial, trivial, by simp [AV.under], trivial⟩, ⟨trivial, trivial, trivial, by simp [AV.under], trivial⟩, trivial, trivial⟩, by simp [elemV, AV.ren, AV.zp, Ren.ext], ?_⟩
        simp [after, upd, AO.wr, AO.ren, qb _ _ (qe _)]
      · cases he
    · cases he
  · cases he
def B38 : zc := (B37.put 124 (qch))
theorem q6y : qp Try.prog B38 := (qff.put (q7h))
abbrev q79 : AO := .cells [.int .i64 0, .int .i64 0, .int .i64 0, .v (.slice none 0 0)]
theorem qw7 {p n : Int} : Ux p n [] := ⟨(fun t h => by cases h), (fun t h => by cases h), .nil⟩
abbrev ER := Int × Int × Int × List (Int × List Nat × Int) × Int
def za2 (r : ER) : Prop := okT r.2.2.2.1 ∧ r.2.2.2.1.length ≤ 300
def B39 : zc := B38
theorem qsq : qp Try.prog B39 := q6y
structure NC (L : Nat) (F : Nat → Nat) : Prop where
  lt : ∀ k, k < L → F k < L
  inv : ∀ k, k < L → F (F k) = k
  fix : ∀ k, k < L → F k ≠ k
  jl : ∀ j l, j < L → l < L → ¬(j < l ∧ l < F j ∧ F j < F l)
def mf (n : Nat) (m : List Nat) (k : Nat) : Nat := place n (m.getD (place n k) 0)
theorem xk {n : Nat} {m : List Nat} (h : isS n m = true) : (1 ≤ n ∧ n ≤ 8) ∧ (∀ i, i < 2 * n → m.getD i 0 < 2 * n ∧ m.getD i 0 ≠ i ∧ m.getD (m.getD i 0) 0 = i) ∧ ∀ i, 2 * n ≤ i → i < 16 → m.getD i 0 = 0 := by
  unfold isS at h
  simp only [Bool.and_eq_true, decide_eq_true_eq] at h
  obtain ⟨hn, hp, hc⟩ := h
  refine ⟨hn, fun i hi => ?_, fun i hi hi' => ?_⟩
  · have := List.all_eq_true.1 hp i (List.mem_range.2 (by omega))
    rw [if_neg (by omega)] at this
    simpa using this
  · have := List.all_eq_true.1 hp i (List.mem_range.2 hi')
    rw [if_pos hi] at this
    simpa using this
theorem qin {n : Nat} {m : List Nat} (h : isS n m = true) : NC (2 * n) (mf n m) := by
  obtain ⟨hn, hp', hz⟩ := xk h
  unfold isS at h
  simp only [Bool.and_eq_true, decide_eq_true_eq] at h
  obtain ⟨_, _, hc⟩ := h
  refine ⟨fun k hk => q7 (hp' _ (q7 hk)).1, fun k hk => ?_, fun k hk e => ?_, ?_⟩
  · show place n (m.getD (place n (place n (m.getD (place n k) 0))) 0) = k
    rw [ze (hp' _ (q7 hk)).1, (hp' _ (q7 hk)).2.2, ze hk]
  · apply (hp' _ (q7 hk)).2.1
    rw [← ze (hp' _ (q7 hk)).1]
    show place n (mf n m k) = place n k
    rw [e]
  · rintro j l hj hl ⟨b1, b2, b3⟩
    have h1 := List.all_eq_true.1 (List.all_eq_true.1 hc (place n j) (List.mem_range.2 (q7 hj))) (place n l) (List.mem_range.2 (q7 hl))
    simp only [Yk, W9, ze hj, ze hl, Bool.not_eq_true', decide_eq_false_iff_not] at h1
    apply h1
    show min j (mf n m j) < min l (mf n m l) ∧ min l (mf n m l) < max j (mf n m j) ∧ max j (mf n m j) < max l (mf n m l)
    omega
theorem q1c {n : Nat} {m : List Nat} (hn : 1 ≤ n ∧ n ≤ 8) (hz : ∀ i, 2 * n ≤ i → i < 16 → m.getD i 0 = 0) (hl : ∀ i, i < 2 * n → m.getD i 0 < 2 * n) (h : NC (2 * n) (mf n m)) : isS n m = true := by
  have hm : ∀ i, i < 2 * n → mf n m (place n i) = place n (m.getD i 0) := fun i hi => by unfold mf; rw [ze hi]
  unfold isS
  simp only [Bool.and_eq_true, decide_eq_true_eq]
  refine ⟨hn, List.all_eq_true.2 fun i hi => ?_, List.all_eq_true.2 fun i hi => List.all_eq_true.2 fun k hk => ?_⟩
  · have hi' := List.mem_range.1 hi
    split
    · rename_i g1; simpa using hz i g1 hi'
    · rename_i g1
      have hi2 : i < 2 * n := by omega
      have h1 := hl i hi2
      simp only [decide_eq_true_eq]
      refine ⟨h1, fun e => ?_, ?_⟩
      · apply h.fix (place n i) (q7 hi2)
        rw [hm i hi2, e]
      · have h2 := h.inv (place n i) (q7 hi2)
        rw [hm i hi2, hm _ h1] at h2
        have h3 := congrArg (place n) h2
        rwa [ze (hl _ h1), ze hi2] at h3
  · have hi' := List.mem_range.1 hi
    have hk' := List.mem_range.1 hk
    simp only [Yk, W9, ← hm i hi', ← hm k hk', Bool.not_eq_true', decide_eq_false_iff_not]
    rintro ⟨b1, b2, b3⟩
    have hx := q7 hi'
    have hy := q7 hk'
    generalize place n i = x at *
    generalize place n k = y at *
    have a := h.lt x hx
    have a' := h.lt y hy
    have c := h.inv x hx
    have c' := h.inv y hy
    have k1 := h.jl x y hx hy
    have k2 := h.jl x (mf n m y) hx a'
    have k3 := h.jl (mf n m x) y a hy
    have k4 := h.jl (mf n m x) (mf n m y) a a'
    rw [c'] at k2
    rw [c] at k3
    rw [c, c'] at k4
    omega
def up (j k : Nat) : Nat := if k < j then k else k + 2
def dn (j k : Nat) : Nat := if k < j then k else k - 2
theorem qvw {j k : Nat} (h1 : k ≠ j) (h2 : k ≠ j + 1) : up j (dn j k) = k := by
  unfold up dn
  by_cases h : k < j
  · rw [if_pos h, if_pos h]
  · rw [if_neg h, if_neg (by omega)]; omega
theorem qv9 {j k : Nat} : dn j (up j k) = k := by
  unfold up dn
  by_cases h : k < j
  · rw [if_pos h, if_pos h]
  · rw [if_neg h, if_neg (by omega)]; omega
theorem qln {j k : Nat} : up j k ≠ j ∧ up j k ≠ j + 1 := by unfold up; split <;> omega
theorem qlo {j k k' : Nat} : up j k < up j k' ↔ k < k' := by unfold up; split <;> split <;> omega
theorem qow {j k L : Nat} (hj : j ≤ L) : up j k < L + 2 ↔ k < L := by unfold up; split <;> omega
theorem NC.insert {L j : Nat} {F F' : Nat → Nat} (h : NC L F) (hj : j ≤ L) (e1 : F' j = j + 1) (e2 : F' (j + 1) = j) (e : ∀ k, k < L → F' (up j k) = up j (F k)) : NC (L + 2) F' := by
  have hc : ∀ k, k < L + 2 → k = j ∨ k = j + 1 ∨ ∃ i, i < L ∧ k = up j i := fun k hk => by
    by_cases h1 : k = j
    · exact .inl h1
    by_cases h2 : k = j + 1
    · exact .inr (.inl h2)
    exact .inr (.inr ⟨dn j k, (qow hj).1 (by rw [qvw h1 h2]; exact hk), (qvw h1 h2).symm⟩)
  refine ⟨fun k hk => ?_, fun k hk => ?_, fun k hk => ?_, fun a b ha hb => ?_⟩
  · rcases hc k hk with rfl | rfl | ⟨i, hi, rfl⟩
    · omega
    · omega
    · rw [e i hi]; exact (qow hj).2 (h.lt i hi)
  · rcases hc k hk with rfl | rfl | ⟨i, hi, rfl⟩
    · rw [e1, e2]
    · rw [e2, e1]
    · rw [e i hi, e _ (h.lt i hi), h.inv i hi]
  · rcases hc k hk with rfl | rfl | ⟨i, hi, rfl⟩
    · omega
    · omega
    · rw [e i hi]
      intro h2
      have := congrArg (dn j) h2
      rw [qv9, qv9] at this
      exact h.fix i hi this
  · rcases hc a ha with rfl | rfl | ⟨i, hi, rfl⟩
    · rw [e1]; omega
    · rw [e2]; omega
    · rcases hc b hb with rfl | rfl | ⟨l, hl, rfl⟩
      · rw [e1, e i hi]; have := @qln b (F i); omega
      · rw [e2, e i hi]; have := @qln j (F i); have := @qln j i; omega
      · rw [e i hi, e l hl, qlo, qlo, qlo]; exact h.jl i l hi hl
theorem NC.remove {L j : Nat} {F F' : Nat → Nat} (h : NC (L + 2) F) (hj : j ≤ L) (e : ∀ k, k < L → F' k = dn j (if F (up j k) = j then F (j + 1) else if F (up j k) = j + 1 then F j else F (up j k))) : NC L F' := by
  let G : Nat → Nat := fun x => if F x = j then F (j + 1) else if F x = j + 1 then F j else F x
  have hG : ∀ x, x < L + 2 → x ≠ j → x ≠ j + 1 → G x < L + 2 ∧ G x ≠ j ∧ G x ≠ j + 1 ∧ G (G x) = x ∧ G x ≠ x := fun x hx n1 n2 => by
    have a := h.lt x hx
    have c := h.inv x hx
    have f := h.fix x hx
    have a0 := h.lt j (by omega)
    have c0 := h.inv j (by omega)
    have f0 := h.fix j (by omega)
    have a1 := h.lt (j + 1) (by omega)
    have c1 := h.inv (j + 1) (by omega)
    have f1 := h.fix (j + 1) (by omega)
    show (if F x = j then F (j + 1) else if F x = j + 1 then F j else F x) < L + 2 ∧ _
    by_cases g1 : F x = j
    · have e0 : F j = x := by rw [← g1]; exact c
      have e3 : G x = F (j + 1) := if_pos g1
      have n3 : F (j + 1) ≠ j := fun g => by rw [g] at c1; omega
      refine ⟨by rw [if_pos g1]; exact a1, by rw [e3]; exact n3, by rw [e3]; exact f1, ?_, ?_⟩
      · rw [e3]
        show (if F (F (j + 1)) = j then F (j + 1) else if F (F (j + 1)) = j + 1 then F j else F (F (j + 1))) = x
        rw [c1, if_neg (by omega), if_pos rfl, e0]
      · rw [e3]; intro g; rw [g] at c1; omega
    · by_cases g2 : F x = j + 1
      · have e0 : F (j + 1) = x := by rw [← g2]; exact c
        have e3 : G x = F j := by show (if F x = j then F (j + 1) else if F x = j + 1 then F j else F x) = _; rw [if_neg g1, if_pos g2]
        have n3 : F j ≠ j + 1 := fun g => by rw [g] at c0; omega
        refine ⟨by rw [if_neg g1, if_pos g2]; exact a0, by rw [e3]; exact f0, by rw [e3]; exact n3, ?_, ?_⟩
        · rw [e3]
          show (if F (F j) = j then F (j + 1) else if F (F j) = j + 1 then F j else F (F j)) = x
          rw [c0, if_pos rfl, e0]
        · rw [e3]; intro g; rw [g] at c0; omega
      · have e3 : G x = F x := by show (if F x = j then F (j + 1) else if F x = j + 1 then F j else F x) = _; rw [if_neg g1, if_neg g2]
        refine ⟨by rw [if_neg g1, if_neg g2]; exact a, by rw [e3]; exact g1, by rw [e3]; exact g2, ?_, by rw [e3]; exact f⟩
        rw [e3]
        show (if F (F x) = j then F (j + 1) else if F (F x) = j + 1 then F j else F (F x)) = x
        rw [c, if_neg n1, if_neg n2]
  have hX : ∀ x y, x < L + 2 → y < L + 2 → x ≠ j → x ≠ j + 1 → y ≠ j → y ≠ j + 1 → ¬(x < y ∧ y < G x ∧ G x < G y) := fun x y hx hy n1 n2 n3 n4 => by
    have a := h.lt x hx
    have c := h.inv x hx
    have b := h.lt y hy
    have d := h.inv y hy
    have a0 := h.lt j (by omega)
    have c0 := h.inv j (by omega)
    have f0 := h.fix j (by omega)
    have a1 := h.lt (j + 1) (by omega)
    have c1 := h.inv (j + 1) (by omega)
    have f1 := h.fix (j + 1) (by omega)
    have gx : G x = if F x = j then F (j + 1) else if F x = j + 1 then F j else F x := rfl
    have gy : G y = if F y = j then F (j + 1) else if F y = j + 1 then F j else F y := rfl
    have k1 := h.jl x y hx hy
    by_cases g1 : F x = j
    · have e0 : F j = x := by rw [← g1]; exact c
      rw [gx, if_pos g1]
      by_cases g3 : F y = j
      · have : F j = y := by rw [← g3]; exact d
        omega
      by_cases g4 : F y = j + 1
      · have e4 : F (j + 1) = y := by rw [← g4]; exact d
        omega
      rw [gy, if_neg g3, if_neg g4]
      have k2 := h.jl (j + 1) y (by omega) hy
      have k3 := h.jl (F (j + 1)) (F y) a1 b
      have k4 := h.jl y (j + 1) hy (by omega)
      have k5 := h.jl x y hx hy
      have k6 := h.jl y (F (j + 1)) hy a1
      rw [c1, d] at k3
      rw [c1] at k6
      omega
    · by_cases g2 : F x = j + 1
      · have e0 : F (j + 1) = x := by rw [← g2]; exact c
        rw [gx, if_neg g1, if_pos g2]
        by_cases g3 : F y = j
        · have e3 : F j = y := by rw [← g3]; exact d
          omega
        by_cases g4 : F y = j + 1
        · have : F (j + 1) = y := by rw [← g4]; exact d
          omega
        rw [gy, if_neg g3, if_neg g4]
        have k2 := h.jl j y (by omega) hy
        have k3 := h.jl (F j) (F y) a0 b
        have k4 := h.jl y j hy (by omega)
        have k6 := h.jl y (F j) hy a0
        rw [c0, d] at k3
        rw [c0] at k6
        omega
      · rw [gx, if_neg g1, if_neg g2]
        by_cases g3 : F y = j
        · have e3 : F j = y := by rw [← g3]; exact d
          rw [gy, if_pos g3]
          have k2 := h.jl x (j + 1) hx (by omega)
          have k3 := h.jl (F (j + 1)) x a1 hx
          have k4 := h.jl x (F (j + 1)) hx a1
          have k5 := h.jl (j + 1) (F x) (by omega) a
          have k6 := h.jl j x (by omega) hx
          have k7 := h.jl (j + 1) x (by omega) hx
          rw [c1] at k3 k4
          rw [c] at k5
          omega
        by_cases g4 : F y = j + 1
        · have e4 : F (j + 1) = y := by rw [← g4]; exact d
          rw [gy, if_neg g3, if_pos g4]
          have k2 := h.jl x j hx (by omega)
          have k3 := h.jl (F j) x a0 hx
          have k4 := h.jl x (F j) hx a0
          have k5 := h.jl j (F x) (by omega) a
          have k6 := h.jl j x (by omega) hx
          have k7 := h.jl (j + 1) x (by omega) hx
          rw [c0] at k3 k4
          rw [c] at k5
          omega
        rw [gy, if_neg g3, if_neg g4]
        exact k1
  have hu : ∀ k, k < L → up j k < L + 2 ∧ up j k ≠ j ∧ up j k ≠ j + 1 := fun k hk => ⟨(qow hj).2 hk, qln.1, qln.2⟩
  have he : ∀ k, k < L → F' k = dn j (G (up j k)) := e
  have hue : ∀ k, k < L → up j (F' k) = G (up j k) := fun k hk => by
    obtain ⟨b1, b2, b3⟩ := hu k hk
    obtain ⟨_, b4, b5, _⟩ := hG _ b1 b2 b3
    rw [he k hk, qvw b4 b5]
  have hlt : ∀ k, k < L → F' k < L := fun k hk => by
    obtain ⟨b1, b2, b3⟩ := hu k hk
    obtain ⟨b0, b4, b5, _⟩ := hG _ b1 b2 b3
    rw [← qow hj, hue k hk]; exact b0
  have upi : ∀ {a b : Nat}, up j a = up j b → a = b := fun {a b} hab => by have := congrArg (dn j) hab; rwa [qv9, qv9] at this
  refine ⟨hlt, fun k hk => ?_, fun k hk => ?_, fun a b ha hb => ?_⟩
  · obtain ⟨b1, b2, b3⟩ := hu k hk
    apply upi
    rw [hue _ (hlt k hk), hue k hk]
    exact (hG _ b1 b2 b3).2.2.2.1
  · obtain ⟨b1, b2, b3⟩ := hu k hk
    intro g
    have := hue k hk
    rw [g] at this
    exact (hG _ b1 b2 b3).2.2.2.2 this.symm
  · obtain ⟨b1, b2, b3⟩ := hu a ha
    obtain ⟨d1, d2, d3⟩ := hu b hb
    have := hX _ _ b1 d1 b2 b3 d2 d3
    rw [← hue a ha, ← hue b hb, qlo, qlo, qlo] at this
    exact this
def Zo (at' : Nat → Nat) (to : Nat → Nat) (ok : Nat → Bool) : Nat → List Nat
  | 0 => List.replicate 16 0
  | k + 1 => if ok k then (Zo at' to ok k).set (at' k) (to k) else Zo at' to ok k
theorem bh (a t : Nat → Nat) (ok : Nat → Bool) : ∀ k, (Zo a t ok k).length = 16
  | 0 => by simp [Zo]
  | k + 1 => by unfold Zo; split <;> simp [bh a t ok k]
theorem qi2 {a t : Nat → Nat} {ok : Nat → Bool} {L : Nat} (hinj : ∀ i j, i < L → j < L → ok i = true → ok j = true → a i = a j → i = j) (ha : ∀ i, i < L → ok i = true → a i < 16) : ∀ k, k ≤ L → ∀ i, i < L → ok i = true → (Zo a t ok k).getD (a i) 0 = if i < k then t i else 0
  | 0, _, i, hi, _ => by
    simp only [Zo, List.getD_eq_getElem?_getD, List.getElem?_replicate]
    split <;> simp
  | k + 1, hk, i, hi, ho => by
    have ih := qi2 (t := t) hinj ha k (by omega) i hi ho
    unfold Zo
    split
    · rename_i hok
      rw [j3, bh]
      by_cases e : k = i
      · subst e; rw [if_pos ⟨rfl, ha k hi ho⟩, if_pos (by omega)]
      · rw [if_neg (fun h => e (hinj k i (by omega) hi hok ho h.1)), ih]
        by_cases h : i < k
        · rw [if_pos h, if_pos (by omega)]
        · rw [if_neg h, if_neg (by omega)]
    · rename_i hok
      rw [ih]
      by_cases e : k = i
      · subst e; exact absurd ho hok
      by_cases h : i < k
      · rw [if_pos h, if_pos (by omega)]
      · rw [if_neg h, if_neg (by omega)]
theorem qdf {a t : Nat → Nat} {ok : Nat → Bool} {x : Nat} : ∀ k, (∀ i, i < k → ok i = true → a i ≠ x) → (Zo a t ok k).getD x 0 = 0
  | 0, _ => by
    simp only [Zo, List.getD_eq_getElem?_getD, List.getElem?_replicate]
    split <;> simp
  | k + 1, h => by
    have ih := qdf (t := t) k fun i hi => h i (by omega)
    unfold Zo
    split
    · rename_i hok
      rw [j3, if_neg (fun h2 => h k (by omega) hok h2.1), ih]
    · exact ih
theorem qlz {a t : Nat → Nat} {ok : Nat → Bool} {B : Nat} (hB : 0 < B) : ∀ k, (∀ i, i < k → ok i = true → t i < B) → ∀ x ∈ Zo a t ok k, x < B
  | 0, _, x, hx => by rw [(List.mem_replicate.1 hx).2]; exact hB
  | k + 1, h, x, hx => by
    have ih := qlz (a := a) hB k fun i hi => h i (by omega)
    unfold Zo at hx
    split at hx
    · rename_i hok
      rcases List.mem_or_eq_of_mem_set hx with h1 | h1
      · exact ih x h1
      · rw [h1]; exact h k (by omega) hok
    · exact ih x hx
def fl (n i : Nat) : Nat := (i + n) % (2 * n)
def wd (n i : Nat) : Nat := if i < n then i else i + 1
def qbk (n : Nat) (m : List Nat) (k : Nat) : List Nat := Zo (wd n) (fun i => wd n (m.getD i 0)) (fun _ => true) k
def xi (n : Nat) (m : List Nat) : List Nat := ((qbk n m (2 * n)).set n (2 * n + 1)).set (2 * n + 1) n
theorem qjs {n : Nat} {m : List Nat} (hn8 : n < 8) (h : isS n m = true) : isS (n + 1) (xi n m) = true ∧ okD (xi n m) := by
  obtain ⟨hn, hp, hz⟩ := xk h
  have hwl : ∀ i, i < 2 * n → wd n i < 2 * n + 1 := fun i hi => by unfold wd; split <;> omega
  have hwn : ∀ i, wd n i ≠ n := fun i => by unfold wd; split <;> omega
  have hinj : ∀ i j, wd n i = wd n j → i = j := fun i j e => by unfold wd at e; split at e <;> split at e <;> omega
  have hg : ∀ i, i < 2 * n → (xi n m).getD (wd n i) 0 = wd n (m.getD i 0) := fun i hi => by
    have := qi2 (a := wd n) (t := fun i => wd n (m.getD i 0)) (ok := fun _ => true) (L := 2 * n) (fun i j hi hj _ _ e => hinj i j e) (fun i hi _ => by have := hwl i hi; omega) (2 * n) (Nat.le_refl _) i hi rfl
    rw [if_pos hi] at this
    have h1 := hwl i hi
    have h2 := hwn i
    unfold xi
    rw [j3, if_neg (by omega), j3, if_neg (by omega)]
    exact this
  have hgn : (xi n m).getD n 0 = 2 * n + 1 := by
    unfold xi
    rw [j3, if_neg (by omega), j3, if_pos ⟨rfl, by unfold qbk; rw [bh]; omega⟩]
  have hgl : (xi n m).getD (2 * n + 1) 0 = n := by
    unfold xi
    rw [j3, if_pos ⟨rfl, by unfold qbk; rw [List.length_set, bh]; omega⟩]
  have hcase : ∀ i, i < 2 * (n + 1) → i = n ∨ i = 2 * n + 1 ∨ ∃ k, k < 2 * n ∧ i = wd n k := fun i hi => by
    by_cases h1 : i = n
    · exact .inl h1
    by_cases h2 : i = 2 * n + 1
    · exact .inr (.inl h2)
    by_cases h3 : i < n
    · exact .inr (.inr ⟨i, by omega, by unfold wd; rw [if_pos h3]⟩)
    · exact .inr (.inr ⟨i - 1, by omega, by unfold wd; rw [if_neg (by omega)]; omega⟩)
  have hpw : ∀ k, k < 2 * n → place (n + 1) (wd n k) = up n (place n k) := fun k hk => by
    unfold wd place up
    by_cases h1 : k < n
    · rw [if_pos h1, if_pos h1, if_pos (by omega), if_pos h1]
    · rw [if_neg h1, if_neg h1, if_neg (by omega), if_neg (by omega)]; omega
  refine ⟨q1c (by omega) (fun i h1 h2 => ?_) (fun i hi => ?_) ?_, ?_, ?_⟩
  · unfold xi
    rw [j3, if_neg (by omega), j3, if_neg (by omega)]
    exact qdf _ fun j hj _ e => by have := hwl j hj; omega
  · rcases hcase i hi with rfl | rfl | ⟨k, hk, rfl⟩
    · rw [hgn]; omega
    · rw [hgl]; omega
    · rw [hg k hk]; have := hwl _ (hp k hk).1; omega
  · have hp1 : place (n + 1) n = n := by unfold place; rw [if_pos (by omega)]
    have hp2 : place (n + 1) (2 * n + 1) = n + 1 := by unfold place; rw [if_neg (by omega)]; omega
    have hp3 : place (n + 1) (n + 1) = 2 * n + 1 := by unfold place; rw [if_neg (by omega)]; omega
    rw [show 2 * (n + 1) = 2 * n + 2 by omega]
    refine (qin h).insert (j := n) (by omega) ?_ ?_ fun k hk => ?_
    · unfold mf; rw [hp1, hgn, hp2]
    · unfold mf; rw [hp3, hgl, hp1]
    · have h1 := hpw (place n k) (q7 hk)
      rw [ze hk] at h1
      have h2 : place (n + 1) (up n k) = wd n (place n k) := by
        rw [← h1, ze (by have := hwl _ (q7 hk); omega)]
      unfold mf
      rw [h2, hg _ (q7 hk), hpw _ (hp _ (q7 hk)).1]
  · unfold xi qbk; rw [List.length_set, List.length_set, bh]
  · intro x hx
    unfold xi at hx
    rcases List.mem_or_eq_of_mem_set hx with hx | rfl
    · rcases List.mem_or_eq_of_mem_set hx with hx | rfl
      · refine Nat.lt_trans (qlz (B := 20) (by omega) _ (fun i hi _ => ?_) x hx) (by omega)
        have := hwl _ (hp i hi).1
        show wd n (m.getD i 0) < 20
        omega
      · omega
    · omega
def cl (n i : Nat) : Nat := if i < n then i else i - 1
def FF (n : Nat) (d e : List Nat) (k : Nat) : Nat := if k < 2 * n then mf n d k else 2 * n + mf n e (k - 2 * n)
theorem q6p {n : Nat} {d e : List Nat} (hd : NC (2 * n) (mf n d)) (he : NC (2 * n) (mf n e)) : NC (4 * n) (FF n d e) := by
  have hL : ∀ k, k < 2 * n → FF n d e k = mf n d k := fun k hk => if_pos hk
  have hR : ∀ k, ¬ k < 2 * n → FF n d e k = 2 * n + mf n e (k - 2 * n) := fun k hk => if_neg hk
  refine ⟨fun k hk => ?_, fun k hk => ?_, fun k hk => ?_, fun a b ha hb => ?_⟩
  · by_cases h : k < 2 * n
    · rw [hL k h]; have := hd.lt k h; omega
    · rw [hR k h]; have := he.lt (k - 2 * n) (by omega); omega
  · by_cases h : k < 2 * n
    · rw [hL k h, hL _ (hd.lt k h), hd.inv k h]
    · have h1 := he.lt (k - 2 * n) (by omega)
      rw [hR k h, hR _ (by omega), show 2 * n + mf n e (k - 2 * n) - 2 * n = mf n e (k - 2 * n) by omega, he.inv _ (by omega)]; omega
  · by_cases h : k < 2 * n
    · rw [hL k h]; exact hd.fix k h
    · have h1 := he.fix (k - 2 * n) (by omega)
      rw [hR k h]; omega
  · by_cases h : a < 2 * n
    · have h1 := hd.lt a h
      rw [hL a h]
      by_cases h' : b < 2 * n
      · rw [hL b h']; exact hd.jl a b h h'
      · omega
    · by_cases h' : b < 2 * n
      · omega
      · have := he.jl (a - 2 * n) (b - 2 * n) (by omega) (by omega)
        rw [hR a h, hR b h']; omega
def GG (n : Nat) (F : Nat → Nat) : Nat → Nat → Nat
  | 0, k => F k
  | t + 1, k => dn (2 * n - 1 - t) (if GG n F t (up (2 * n - 1 - t) k) = 2 * n - 1 - t then GG n F t (2 * n - 1 - t + 1) else if GG n F t (up (2 * n - 1 - t) k) = 2 * n - 1 - t + 1 then GG n F t (2 * n - 1 - t) else GG n F t (up (2 * n - 1 - t) k))
theorem qy1 {n : Nat} {F : Nat → Nat} (h : NC (4 * n) F) : ∀ t, t ≤ n → NC (4 * n - 2 * t) (GG n F t)
  | 0, _ => h
  | t + 1, ht => by
    have ih := qy1 h t (by omega)
    rw [show 4 * n - 2 * t = 4 * n - 2 * (t + 1) + 2 by omega] at ih
    exact ih.remove (j := 2 * n - 1 - t) (by omega) fun k hk => rfl
def Xs (n t z : Nat) : Prop := 2 * n - t ≤ z ∧ z < 2 * n + t
inductive Path (n : Nat) (F : Nat → Nat) (t : Nat) : Nat → Nat → Prop
  | done {x y : Nat} : F x = y → ¬ Xs n t y → Path n F t x y
  | go {x y : Nat} : Xs n t (F x) → Path n F t (4 * n - 1 - F x) y → Path n F t x y
theorem Path.mono {n t x y : Nat} {F : Nat → Nat} (h : Path n F t x y) (hy : ¬ Xs n (t + 1) y) : Path n F (t + 1) x y := by
  induction h with
  | done h1 h2 => exact .done h1 hy
  | go h1 _ ih => exact .go (by unfold Xs at h1 ⊢; omega) (ih hy)
theorem Path.cat {n t x y w : Nat} {F : Nat → Nat} (h : Path n F t x w) (hw : Xs n (t + 1) w) (h2 : Path n F t (4 * n - 1 - w) y) (hy : ¬ Xs n (t + 1) y) : Path n F (t + 1) x y := by
  induction h with
  | done h1 _ => subst h1; exact .go hw (h2.mono hy)
  | go h1 _ ih => exact .go (by unfold Xs at h1 ⊢; omega) (ih hw h2)
def oo (n t k : Nat) : Nat := if k < 2 * n - t then k else k + 2 * t
theorem qwc {n : Nat} {F : Nat → Nat} (h : NC (4 * n) F) : ∀ t, t ≤ n → ∀ k, k < 4 * n - 2 * t → Path n F t (oo n t k) (oo n t (GG n F t k))
  | 0, _, k, hk => by
    have e : ∀ k, oo n 0 k = k := fun k => by unfold oo; split <;> omega
    rw [e, e]
    exact .done rfl (by unfold Xs; omega)
  | t + 1, ht, k, hk => by
    have ih := qwc h t (by omega)
    have hnc := qy1 h t (by omega)
    have hj : ∃ j, j = 2 * n - 1 - t := ⟨_, rfl⟩
    obtain ⟨j, hj⟩ := hj
    have g1 : ∀ k, oo n (t + 1) k = oo n t (up j k) := fun k => by
      unfold oo up
      by_cases h1 : k < j
      · rw [if_pos h1, if_pos (by omega), if_pos (by omega)]
      · rw [if_neg h1, if_neg (by omega), if_neg (by omega)]; omega
    have g2 : ∀ y, y ≠ j → y ≠ j + 1 → oo n (t + 1) (dn j y) = oo n t y := fun y h1 h2 => by rw [g1, qvw h1 h2]
    have g3 : oo n t j = j := by unfold oo; rw [if_pos (by omega)]
    have g4 : oo n t (j + 1) = 4 * n - 1 - j := by unfold oo; rw [if_neg (by omega)]; omega
    have gl : ∀ y, y ≠ j → y ≠ j + 1 → ¬ Xs n (t + 1) (oo n t y) := fun y h1 h2 => by
      unfold oo Xs
      by_cases h3 : y < 2 * n - t
      · rw [if_pos h3]; omega
      · rw [if_neg h3]; omega
    have hu := @qln j k
    have hx : up j k < 4 * n - 2 * t := by
      have := (qow (j := j) (k := k) (L := 4 * n - 2 * (t + 1)) (by omega)).2 hk
      omega
    have hp := ih _ hx
    have a := hnc.lt _ hx
    have c := hnc.inv _ hx
    have f := hnc.fix _ hx
    have a0 := hnc.lt j (by omega)
    have c0 := hnc.inv j (by omega)
    have f0 := hnc.fix j (by omega)
    have a1 := hnc.lt (j + 1) (by omega)
    have c1 := hnc.inv (j + 1) (by omega)
    have f1 := hnc.fix (j + 1) (by omega)
    have p0 := ih j (by omega)
    have p1 := ih (j + 1) (by omega)
    rw [g3] at p0
    rw [g4] at p1
    have gj : Xs n (t + 1) j := by unfold Xs; omega
    have gj1 : Xs n (t + 1) (4 * n - 1 - j) := by unfold Xs; omega
    rw [g1 k]
    simp only [GG, ← hj]
    generalize hX : up j k = x at *
    by_cases e1 : GG n F t x = j
    · rw [if_pos e1]
      rw [e1] at hp c
      have n1 : GG n F t (j + 1) ≠ j := fun e => by rw [e] at c1; omega
      rw [g2 _ n1 f1]
      rw [g3] at hp
      exact hp.cat gj p1 (gl _ n1 f1)
    · rw [if_neg e1]
      by_cases e2 : GG n F t x = j + 1
      · rw [if_pos e2]
        rw [e2] at hp c
        have n1 : GG n F t j ≠ j + 1 := fun e => by rw [e] at c0; omega
        rw [g2 _ f0 n1]
        rw [g4] at hp
        refine hp.cat gj1 ?_ (gl _ f0 n1)
        rw [show 4 * n - 1 - (4 * n - 1 - j) = j by omega]
        exact p0
      · rw [if_neg e2, g2 _ e1 e2]
        exact hp.mono (gl _ e1 e2)
def pr (n : Nat) (d e : List Nat) (i : Nat) : Nat := place n (GG n (FF n d e) n (place n i))
theorem qt9 {n : Nat} {d e : List Nat} (hd : isS n d = true) (he : isS n e = true) : NC (2 * n) (GG n (FF n d e) n) := by
  have := qy1 (q6p (qin hd) (qin he)) n (Nat.le_refl _)
  rwa [show 4 * n - 2 * n = 2 * n by omega] at this
def zt (n : Nat) (d e : List Nat) : Nat → Bool → Nat → List Bool → Option (Nat × Bool × List Bool)
  | 0, _, _, _ => none
  | f + 1, true, i, met => if d.getD i 0 < n then some (d.getD i 0, true, met) else zt n d e f false (d.getD i 0 - n) (met.set (d.getD i 0 - n) true)
  | f + 1, false, i, met => if n ≤ e.getD i 0 then some (e.getD i 0, false, met) else zt n d e f true (n + e.getD i 0) (met.set (e.getD i 0) true)
def at2 (n : Nat) (u : Bool) (i : Nat) : Nat := if u then place n i else 2 * n + place n i
def qp2 (n y : Nat) : Nat := if y < 2 * n then y else place n (y - 2 * n)
theorem qr0 {n : Nat} {d e : List Nat} (hd : isS n d = true) (he : isS n e = true) {x y : Nat} (h : Path n (FF n d e) n x y) : ∀ (u : Bool) (i : Nat) (met : List Bool), i < 2 * n → x = at2 n u i →
    ∃ f met', zt n d e f u i met = some (qp2 n y, decide (y < 2 * n), met') := by
  obtain ⟨hn, hpd, _⟩ := xk hd
  obtain ⟨_, hpe, _⟩ := xk he
  have F1 : ∀ i, i < 2 * n → FF n d e (at2 n true i) = place n (d.getD i 0) := fun i hi => by
    show FF n d e (place n i) = _
    unfold FF
    rw [if_pos (q7 hi)]
    unfold mf
    rw [ze hi]
  have F2 : ∀ i, i < 2 * n → FF n d e (at2 n false i) = 2 * n + place n (e.getD i 0) := fun i hi => by
    show FF n d e (2 * n + place n i) = _
    unfold FF
    rw [if_neg (by omega), show 2 * n + place n i - 2 * n = place n i by omega]
    unfold mf
    rw [ze hi]
  induction h with
  | @done x y h1 h2 =>
    intro u i met hi hx
    subst hx
    cases u with
    | true =>
      rw [F1 i hi] at h1
      have hl := (hpd i hi).1
      have hlt : d.getD i 0 < n := by
        unfold place at h1; unfold Xs at h2
        split at h1
        · assumption
        · omega
      have hy : y = d.getD i 0 := by rw [← h1]; unfold place; rw [if_pos hlt]
      refine ⟨1, met, ?_⟩
      simp only [zt, if_pos hlt]
      rw [hy]
      unfold qp2
      rw [if_pos (by omega), decide_eq_true (by omega)]
    | false =>
      rw [F2 i hi] at h1
      have hl := (hpe i hi).1
      have hlt : n ≤ e.getD i 0 := by
        unfold place at h1; unfold Xs at h2
        split at h1
        · omega
        · omega
      refine ⟨1, met, ?_⟩
      simp only [zt, if_pos hlt]
      rw [← h1]
      unfold qp2
      rw [if_neg (by omega), show 2 * n + place n (e.getD i 0) - 2 * n = place n (e.getD i 0) by omega, ze hl, decide_eq_false (by omega)]
  | @go x y h1 h2 ih =>
    intro u i met hi hx
    subst hx
    cases u with
    | true =>
      rw [F1 i hi] at h1 ih
      have hl := (hpd i hi).1
      have hge : ¬ d.getD i 0 < n := fun hlt => by
        unfold place Xs at h1; rw [if_pos hlt] at h1; omega
      obtain ⟨f, met', hf⟩ := ih false (d.getD i 0 - n) (met.set (d.getD i 0 - n) true) (by omega) (by
        show 4 * n - 1 - place n (d.getD i 0) = 2 * n + place n (d.getD i 0 - n)
        unfold place
        rw [if_neg hge, if_pos (by omega)]
        omega)
      exact ⟨f + 1, met', by simp only [zt, if_neg hge]; exact hf⟩
    | false =>
      rw [F2 i hi] at h1 ih
      have hl := (hpe i hi).1
      have hlt : ¬ n ≤ e.getD i 0 := fun hge => by
        unfold place Xs at h1; rw [if_neg (by omega)] at h1; omega
      obtain ⟨f, met', hf⟩ := ih true (n + e.getD i 0) (met.set (e.getD i 0) true) (by omega) (by
        show 4 * n - 1 - (2 * n + place n (e.getD i 0)) = place n (n + e.getD i 0)
        unfold place
        rw [if_pos (by omega), if_neg (by omega)]
        omega)
      exact ⟨f + 1, met', by simp only [zt, if_neg hlt]; exact hf⟩
theorem Up {n : Nat} {d e : List Nat} (hd : isS n d = true) (he : isS n e = true) {i : Nat} (hi : i < 2 * n) (met : List Bool) : ∃ f met', zt n d e f (decide (i < n)) i met = some (pr n d e i, decide (pr n d e i < n), met') := by
  have hp := qwc (q6p (qin hd) (qin he)) n (Nat.le_refl _) (place n i) (by have := q7 hi; omega)
  have hg := (qt9 hd he).lt _ (q7 hi)
  have e1 : oo n n (place n i) = at2 n (decide (i < n)) i := by
    unfold oo at2 place
    by_cases h : i < n
    · rw [if_pos h, if_pos (by omega)]; simp [h]
    · rw [if_neg h, if_neg (by omega)]; simp only [h, decide_false, Bool.false_eq_true, if_false]; omega
  rw [e1] at hp
  obtain ⟨f, met', hf⟩ := qr0 hd he hp _ i met hi rfl
  refine ⟨f, met', ?_⟩
  rw [hf]
  have e2 : qp2 n (oo n n (GG n (FF n d e) n (place n i))) = pr n d e i := by
    unfold pr qp2
    generalize GG n (FF n d e) n (place n i) = k at *
    by_cases h : k < n
    · have e3 : oo n n k = k := if_pos (by omega)
      rw [e3, if_pos (by omega)]; unfold place; rw [if_pos h]
    · have e3 : oo n n k = k + 2 * n := if_neg (by omega)
      rw [e3, if_neg (by omega), show k + 2 * n - 2 * n = k by omega]
  rw [e2]
  congr 3
  unfold pr
  generalize GG n (FF n d e) n (place n i) = k at *
  by_cases h : k < n
  · have e3 : oo n n k = k := if_pos (by omega)
    have e4 : place n k = k := if_pos h
    rw [e3, e4, decide_eq_true h, decide_eq_true (by omega)]
  · have e3 : oo n n k = k + 2 * n := if_neg (by omega)
    have e4 : place n k = 3 * n - 1 - k := if_neg h
    rw [e3, e4, decide_eq_false (by omega), decide_eq_false (by omega)]
def Ud (n : Nat) (d e : List Nat) : Nat → List Nat
  | 0 => List.replicate 16 0
  | k + 1 => ((Ud n d e k).set k (pr n d e k)).set (n + k) (pr n d e (n + k))
def xt (n : Nat) (d e : List Nat) : List Nat := Ud n d e n
theorem yb (n : Nat) (d e : List Nat) : ∀ k, (Ud n d e k).length = 16
  | 0 => by simp [Ud]
  | k + 1 => by simp [Ud, yb n d e k]
theorem qas {n : Nat} {d e : List Nat} (hn : n ≤ 8) : ∀ k, k ≤ n → ∀ i, i < 16 → (Ud n d e k).getD i 0 = if i < k ∨ (n ≤ i ∧ i < n + k) then pr n d e i else 0
  | 0, _, i, hi => by
    rw [if_neg (by omega)]
    simp only [Ud, List.getD_eq_getElem?_getD, List.getElem?_replicate]
    split <;> simp
  | k + 1, hk, i, hi => by
    simp only [Ud]
    rw [j3, j3, List.length_set, yb, qas hn k (by omega) i hi]
    by_cases h1 : n + k = i
    · rw [if_pos ⟨h1, hi⟩, if_pos (by omega), h1]
    · rw [if_neg (by omega)]
      by_cases h2 : k = i
      · rw [if_pos ⟨h2, hi⟩, if_pos (by omega), h2]
      · rw [if_neg (by omega)]
        by_cases h3 : i < k ∨ (n ≤ i ∧ i < n + k)
        · rw [if_pos h3, if_pos (by omega)]
        · rw [if_neg h3, if_neg (by omega)]
theorem qf2 {n : Nat} {d e : List Nat} (hd : isS n d = true) (he : isS n e = true) {i : Nat} (hi : i < 2 * n) : pr n d e i < 2 * n := q7 ((qt9 hd he).lt _ (q7 hi))
theorem qp3 {n : Nat} {d e : List Nat} (hd : isS n d = true) (he : isS n e = true) : isS n (xt n d e) = true ∧ okD (xt n d e) := by
  obtain ⟨hn, _, _⟩ := xk hd
  have hg : ∀ i, i < 2 * n → (xt n d e).getD i 0 = pr n d e i := fun i hi => by
    unfold xt
    rw [qas hn.2 n (Nat.le_refl _) i (by omega), if_pos (by omega)]
  have ht := qt9 hd he
  refine ⟨q1c hn (fun i h1 h2 => ?_) (fun i hi => ?_) ?_, yb _ _ _ _, ?_⟩
  · unfold xt
    rw [qas hn.2 n (Nat.le_refl _) i h2, if_neg (by omega)]
  · rw [hg i hi]; exact qf2 hd he hi
  · have e1 : ∀ k, k < 2 * n → mf n (xt n d e) k = GG n (FF n d e) n k := fun k hk => by
      unfold mf
      rw [hg _ (q7 hk)]
      unfold pr
      rw [ze hk, ze (ht.lt k hk)]
    refine ⟨fun k hk => ?_, fun k hk => ?_, fun k hk => ?_, fun a b ha hb => ?_⟩
    · rw [e1 k hk]; exact ht.lt k hk
    · rw [e1 k hk, e1 _ (ht.lt k hk)]; exact ht.inv k hk
    · rw [e1 k hk]; exact ht.fix k hk
    · rw [e1 a ha, e1 b hb]; exact ht.jl a b ha hb
  · intro x hx
    obtain ⟨i, hi, rfl⟩ := List.getElem_of_mem hx
    have hl : (xt n d e).length = 16 := yb _ _ _ _
    have h1 : (xt n d e).getD i 0 = (xt n d e)[i] := by simp [List.getD_eq_getElem?_getD, hi]
    rw [← h1]
    by_cases h2 : i < 2 * n
    · rw [hg i h2]; have := qf2 hd he h2; omega
    · unfold xt
      rw [qas hn.2 n (Nat.le_refl _) i (by omega), if_neg (by omega)]; omega
def mt (met : List Bool) (x : Nat) : Prop := met.getD x false = true
theorem bt {met : List Bool} {i x : Nat} (hi : i < met.length) : mt (met.set i true) x ↔ x = i ∨ mt met x := by
  unfold mt
  simp only [List.getD_eq_getElem?_getD, List.getElem?_set]
  by_cases h : i = x
  · subst h; simp [hi]
  · rw [if_neg h]
    exact ⟨.inr, fun h2 => h2.elim (fun e => absurd e.symm h) id⟩
theorem quv {x k : Nat} : ¬ mt (List.replicate k false) x := by
  unfold mt
  simp only [List.getD_eq_getElem?_getD, List.getElem?_replicate]
  split <;> simp
theorem Bj {n : Nat} {d e : List Nat} {r : Nat × Bool × List Bool} : ∀ {f : Nat} {u : Bool} {i : Nat} {met : List Bool}, zt n d e f u i met = some r → zt n d e (f + 1) u i met = some r
  | 0, _, _, _, h => by simp [zt] at h
  | f + 1, true, i, met, h => by
    rw [zt] at h ⊢
    split
    · rename_i h1; rw [if_pos h1] at h; exact h
    · rename_i h1; rw [if_neg h1] at h; exact Bj h
  | f + 1, false, i, met, h => by
    rw [zt] at h ⊢
    split
    · rename_i h1; rw [if_pos h1] at h; exact h
    · rename_i h1; rw [if_neg h1] at h; exact Bj h
theorem Bw {n : Nat} {d e : List Nat} {r : Nat × Bool × List Bool} {f : Nat} {u : Bool} {i : Nat} {met : List Bool} (h : zt n d e f u i met = some r) : ∀ k, zt n d e (f + k) u i met = some r
  | 0 => h
  | k + 1 => Bj (Bw h k)
theorem qn7 {n : Nat} {d e : List Nat} {r r' : Nat × Bool × List Bool} {f f' : Nat} {u : Bool} {i : Nat} {met : List Bool} (h : zt n d e f u i met = some r) (h' : zt n d e f' u i met = some r') : r = r' := by
  have h1 := Bw h f'
  have h2 := Bw h' f
  rw [Nat.add_comm f' f, h1] at h2
  exact Option.some.inj h2
def CLs (n : Nat) (d e : List Nat) (M : Nat → Prop) : Prop := ∀ x, x < n → M x → (n ≤ d.getD (n + x) 0 → M (d.getD (n + x) 0 - n)) ∧ (e.getD x 0 < n → M (e.getD x 0))
theorem Vq {n : Nat} {d e : List Nat} (hd : isS n d = true) (he : isS n e = true) {r : Nat} {s : Bool} {met' : List Bool} : ∀ {f : Nat} {u : Bool} {i : Nat} {met : List Bool}, zt n d e f u i met = some (r, s, met') → i < 2 * n → met.length = 8 →
    (u = true → n ≤ i → mt met (i - n)) → (u = false → i < n → mt met i) →
    met'.length = 8 ∧ (∀ x, mt met x → mt met' x) ∧ (∀ x, mt met' x → x < n ∨ mt met x) ∧ (∀ x, x < n → mt met' x → mt met x ∨ ((n ≤ d.getD (n + x) 0 → mt met' (d.getD (n + x) 0 - n)) ∧ (e.getD x 0 < n → mt met' (e.getD x 0)))) ∧
      (u = true → n ≤ d.getD i 0 → mt met' (d.getD i 0 - n)) ∧ (u = false → e.getD i 0 < n → mt met' (e.getD i 0))
  | 0, _, _, _, h, _, _, _, _ => by simp [zt] at h
  | f + 1, true, i, met, h, hi, hl, p1, p2 => by
    obtain ⟨hn, hpd, _⟩ := xk hd
    rw [zt] at h
    split at h
    · rename_i hlt
      cases h
      exact ⟨hl, fun x h => h, fun x h => .inr h, fun x _ h => .inl h, fun _ h => absurd hlt (by omega), fun h => by cases h⟩
    · rename_i hlt
      have hs := (hpd i hi).1
      have hinv := (hpd i hi).2.2
      have hsl : d.getD i 0 - n < met.length := by omega
      obtain ⟨a1, a2, a3, a4, _, a6⟩ := Vq hd he h (by omega) (by rw [List.length_set]; exact hl) (fun h => by cases h) (fun _ _ => (bt hsl).2 (.inl rfl))
      have hself : mt met' (d.getD i 0 - n) := a2 _ ((bt hsl).2 (.inl rfl))
      refine ⟨a1, fun x hx => a2 x ((bt hsl).2 (.inr hx)), fun x hx => ?_, fun x hx hm => ?_, fun _ _ => hself, fun h => by cases h⟩
      · rcases a3 x hx with h1 | h1
        · exact .inl h1
        · rcases (bt hsl).1 h1 with rfl | h1
          · exact .inl (by omega)
          · exact .inr h1
      · rcases a4 x hx hm with h1 | h1
        · rcases (bt hsl).1 h1 with rfl | h1
          · refine .inr ⟨fun h2 => ?_, fun h2 => a6 rfl h2⟩
            rw [show n + (d.getD i 0 - n) = d.getD i 0 by omega, hinv] at h2 ⊢
            exact a2 _ ((bt hsl).2 (.inr (p1 rfl h2)))
          · exact .inl h1
        · exact .inr h1
  | f + 1, false, i, met, h, hi, hl, p1, p2 => by
    obtain ⟨hn, hpe, _⟩ := xk he
    rw [zt] at h
    split at h
    · rename_i hlt
      cases h
      exact ⟨hl, fun x h => h, fun x h => .inr h, fun x _ h => .inl h, (fun h => by cases h), fun _ h => absurd hlt (by omega)⟩
    · rename_i hlt
      have hs := (hpe i hi).1
      have hinv := (hpe i hi).2.2
      have hsl : e.getD i 0 < met.length := by omega
      obtain ⟨a1, a2, a3, a4, a5, _⟩ := Vq hd he h (by omega) (by rw [List.length_set]; exact hl) (fun _ _ => (bt hsl).2 (.inl (by omega))) (fun h => by cases h)
      have hself : mt met' (e.getD i 0) := a2 _ ((bt hsl).2 (.inl rfl))
      refine ⟨a1, fun x hx => a2 x ((bt hsl).2 (.inr hx)), fun x hx => ?_, fun x hx hm => ?_, (fun h => by cases h), fun _ _ => hself⟩
      · rcases a3 x hx with h1 | h1
        · exact .inl h1
        · rcases (bt hsl).1 h1 with rfl | h1
          · exact .inl (by omega)
          · exact .inr h1
      · rcases a4 x hx hm with h1 | h1
        · rcases (bt hsl).1 h1 with rfl | h1
          · refine .inr ⟨fun h2 => a5 rfl h2, fun h2 => ?_⟩
            rw [hinv] at h2 ⊢
            exact a2 _ ((bt hsl).2 (.inr (p2 rfl h2)))
          · exact .inl h1
        · exact .inr h1
noncomputable def fol (n : Nat) (d e : List Nat) (u : Bool) (i : Nat) (met : List Bool) : List Bool := (Classical.epsilon fun r : Nat × Bool × List Bool => ∃ f, zt n d e f u i met = some r).2.2
theorem qjd {n : Nat} {d e : List Nat} {f : Nat} {u : Bool} {i : Nat} {met : List Bool} {r : Nat × Bool × List Bool} (h : zt n d e f u i met = some r) : fol n d e u i met = r.2.2 := by
  have : ∃ r : Nat × Bool × List Bool, ∃ f, zt n d e f u i met = some r := ⟨r, f, h⟩
  obtain ⟨f', h'⟩ := Classical.epsilon_spec this
  unfold fol
  rw [qn7 h' h]
noncomputable def qg7 (n : Nat) (d e : List Nat) : Nat → List Bool
  | 0 => List.replicate 8 false
  | k + 1 => fol n d e false (n + k) (fol n d e true k (qg7 n d e k))
structure Met (n : Nat) (d e : List Nat) (k : Nat) (met : List Bool) : Prop where
  len : met.length = 8
  lt : ∀ x, mt met x → x < n
  cl : CLs n d e (mt met)
  top : ∀ i, i < k → n ≤ d.getD i 0 → mt met (d.getD i 0 - n)
  bot : ∀ i, i < k → e.getD (n + i) 0 < n → mt met (e.getD (n + i) 0)
theorem Vn {n : Nat} {d e : List Nat} (hd : isS n d = true) (he : isS n e = true) : ∀ k, k ≤ n → Met n d e k (qg7 n d e k)
  | 0, _ => ⟨by simp [qg7], fun x h => absurd h quv, fun x _ h => absurd h quv, fun i hi => by omega, fun i hi => by omega⟩
  | k + 1, hk => by
    have ih := Vn hd he k (by omega)
    obtain ⟨f1, m1, e1⟩ := Up hd he (i := k) (by omega) (qg7 n d e k)
    rw [decide_eq_true (by omega)] at e1
    have g1 := qjd e1
    obtain ⟨a1, a2, a3, a4, a5, _⟩ := Vq hd he e1 (by omega) ih.len (fun _ h => by omega) (fun h => by cases h)
    obtain ⟨f2, m2, e2⟩ := Up hd he (i := n + k) (by omega) m1
    rw [decide_eq_false (by omega)] at e2
    have g2 := qjd e2
    obtain ⟨b1, b2, b3, b4, _, b6⟩ := Vq hd he e2 (by omega) a1 (fun h => by cases h) (fun _ h => by omega)
    simp only [qg7, g1, g2]
    refine ⟨b1, fun x hx => ?_, fun x hx hm => ?_, fun i hi h => ?_, fun i hi h => ?_⟩
    · rcases b3 x hx with h | h
      · exact h
      · rcases a3 x h with h | h
        · exact h
        · exact ih.lt x h
    · rcases b4 x hx hm with h | h
      · rcases a4 x hx h with h | h
        · have := ih.cl x hx h
          exact ⟨fun h => b2 _ (a2 _ (this.1 h)), fun h => b2 _ (a2 _ (this.2 h))⟩
        · exact ⟨fun h1 => b2 _ (h.1 h1), fun h1 => b2 _ (h.2 h1)⟩
      · exact h
    · by_cases e : i = k
      · subst e; exact b2 _ (a5 rfl h)
      · exact b2 _ (a2 _ (ih.top i (by omega) h))
    · by_cases e : i = k
      · subst e; exact b6 rfl h
      · exact b2 _ (a2 _ (ih.bot i (by omega) h))
def M0 (n : Nat) (d e : List Nat) (x : Nat) : Prop := mt (qg7 n d e n) x
def dm (n : Nat) (d : List Nat) (x : Nat) : Nat := d.getD (n + x) 0 - n
def em (e : List Nat) (x : Nat) : Nat := e.getD x 0
structure Inv (X : Nat → Prop) (f : Nat → Nat) : Prop where
  mem : ∀ x, X x → X (f x)
  inv : ∀ x, X x → f (f x) = x
  fix : ∀ x, X x → f x ≠ x
def XX (n : Nat) (d e : List Nat) (x : Nat) : Prop := x < n ∧ ¬ M0 n d e x
theorem ql7 {n : Nat} {d e : List Nat} (hd : isS n d = true) (he : isS n e = true) {x : Nat} (h : XX n d e x) : n ≤ d.getD (n + x) 0 ∧ d.getD (n + x) 0 < 2 * n ∧ e.getD x 0 < n := by
  obtain ⟨hn, hpd, _⟩ := xk hd
  obtain ⟨_, hpe, _⟩ := xk he
  have hm := Vn hd he n (Nat.le_refl _)
  have h1 := hpd (n + x) (by have := h.1; omega)
  have h2 := hpe x (by have := h.1; omega)
  have hx := h.1
  refine ⟨Nat.le_of_not_lt fun hlt => h.2 ?_, h1.1, Nat.lt_of_not_le fun hge => h.2 ?_⟩
  · have := hm.top _ hlt (by rw [h1.2.2]; omega)
    rw [h1.2.2, show n + x - n = x by omega] at this
    exact this
  · have := hm.bot (e.getD x 0 - n) (by omega) (by rw [show n + (e.getD x 0 - n) = e.getD x 0 by omega, h2.2.2]; exact hx)
    rw [show n + (e.getD x 0 - n) = e.getD x 0 by omega, h2.2.2] at this
    exact this
theorem qcm {n : Nat} {d e : List Nat} (hd : isS n d = true) (he : isS n e = true) : Inv (XX n d e) (dm n d) := by
  obtain ⟨hn, hpd, _⟩ := xk hd
  have hm := Vn hd he n (Nat.le_refl _)
  have key : ∀ x, XX n d e x → n + dm n d x = d.getD (n + x) 0 ∧ d.getD (d.getD (n + x) 0) 0 = n + x ∧ dm n d x < n := fun x hx => by
    have h1 := hpd (n + x) (by have := hx.1; omega)
    obtain ⟨g1, g2, g3⟩ := ql7 hd he hx
    unfold dm
    exact ⟨by omega, h1.2.2, by omega⟩
  refine ⟨fun x hx => ?_, fun x hx => ?_, fun x hx e => ?_⟩
  · obtain ⟨k1, k2, k3⟩ := key x hx
    refine ⟨k3, fun hM => hx.2 ?_⟩
    have := (hm.cl (dm n d x) k3 hM).1 (by rw [k1, k2]; omega)
    rw [k1, k2, show n + x - n = x by omega] at this
    exact this
  · obtain ⟨k1, k2, k3⟩ := key x hx
    show d.getD (n + dm n d x) 0 - n = x
    rw [k1, k2]; omega
  · obtain ⟨k1, k2, k3⟩ := key x hx
    have h1 := hpd (n + x) (by have := hx.1; omega)
    rw [e] at k1
    exact h1.2.1 k1.symm
theorem qb7 {n : Nat} {d e : List Nat} (hd : isS n d = true) (he : isS n e = true) : Inv (XX n d e) (em e) := by
  obtain ⟨hn, hpe, _⟩ := xk he
  have hm := Vn hd he n (Nat.le_refl _)
  refine ⟨fun x hx => ?_, fun x hx => (hpe x (by have := hx.1; omega)).2.2, fun x hx => (hpe x (by have := hx.1; omega)).2.1⟩
  obtain ⟨g1, g2, g3⟩ := ql7 hd he hx
  refine ⟨g3, fun hM => hx.2 ?_⟩
  have h1 := (hpe x (by have := hx.1; omega)).2.2
  have := (hm.cl _ g3 hM).2 (by show e.getD (e.getD x 0) 0 < n; rw [h1]; exact hx.1)
  have h2 : M0 n d e (e.getD (e.getD x 0) 0) := this
  rw [h1] at h2
  exact h2
inductive Ring (f g : Nat → Nat) (k0 : Nat) : Nat → Prop
  | base : Ring f g k0 k0
  | one {x : Nat} : Ring f g k0 x → Ring f g k0 (f x)
  | two {x : Nat} : Ring f g k0 x → Ring f g k0 (g x)
theorem Ring.swap {f g : Nat → Nat} {k0 x : Nat} (h : Ring f g k0 x) : Ring g f k0 x := by
  induction h with
  | base => exact .base
  | one _ ih => exact .two ih
  | two _ ih => exact .one ih
theorem Ring.mem {X : Nat → Prop} {f g : Nat → Nat} (hf : Inv X f) (hg : Inv X g) {k0 x : Nat} (h0 : X k0) (h : Ring f g k0 x) : X x := by
  induction h with
  | base => exact h0
  | one _ ih => exact hf.mem _ ih
  | two _ ih => exact hg.mem _ ih
theorem Ring.trans {f g : Nat → Nat} {a b c : Nat} (h : Ring f g a b) (h' : Ring f g b c) : Ring f g a c := by
  induction h' with
  | base => exact h
  | one _ ih => exact .one ih
  | two _ ih => exact .two ih
theorem Ring.symm {X : Nat → Prop} {f g : Nat → Nat} (hf : Inv X f) (hg : Inv X g) {a b : Nat} (h0 : X a) (h : Ring f g a b) : Ring f g b a := by
  induction h with
  | base => exact .base
  | @one x hx ih =>
    have : Ring f g (f x) x := by
      have := Ring.one (Ring.base (f := f) (g := g) (k0 := f x))
      rwa [hf.inv x (Ring.mem hf hg h0 hx)] at this
    exact this.trans ih
  | @two x hx ih =>
    have : Ring f g (g x) x := by
      have := Ring.two (Ring.base (f := f) (g := g) (k0 := g x))
      rwa [hg.inv x (Ring.mem hf hg h0 hx)] at this
    exact this.trans ih
structure qg4 (X : Nat → Prop) (f g : Nat → Nat) (k0 : Nat) (T : Nat → Prop) (last : Nat) : Prop where
  ring : ∀ x, T x → Ring f g k0 x
  m0 : T k0
  lm : T last
  ne : last ≠ k0
  cl : ∀ x, T x → T (f x)
  st : ∀ x, T x → x ≠ k0 → x ≠ last → T (g x) ∧ g x ≠ k0 ∧ g x ≠ last
theorem qg4.start {X : Nat → Prop} {f g : Nat → Nat} (hf : Inv X f) {k0 : Nat} (h0 : X k0) : qg4 X f g k0 (fun x => x = k0 ∨ x = f k0) (f k0) :=
  ⟨fun x h => h.elim (fun e => e ▸ .base) (fun e => e ▸ .one .base), .inl rfl, .inr rfl, hf.fix k0 h0, fun x h => h.elim (fun e => .inr (by rw [e])) (fun e => .inl (by rw [e]; exact hf.inv _ h0)), fun x h h1 h2 => h.elim (fun e => absurd e h1) (fun e => absurd e h2)⟩
theorem qg4.stop {X : Nat → Prop} {f g : Nat → Nat} (hf : Inv X f) (hg : Inv X g) {k0 last : Nat} {T : Nat → Prop} (h0 : X k0) (h : qg4 X f g k0 T last) (hk : T (g last)) : g last = k0 ∧ ∀ x, T x ↔ Ring f g k0 x := by
  have hX : ∀ x, T x → X x := fun x hx => Ring.mem hf hg h0 (h.ring x hx)
  have e : g last = k0 := Classical.byContradiction fun hne => by
    have h1 := hg.fix last (hX _ h.lm)
    have h2 := (h.st _ hk hne h1).2.2
    exact h2 (hg.inv _ (hX _ h.lm))
  have hcl : ∀ x, T x → T (g x) := fun x hx => by
    by_cases h1 : x = k0
    · subst h1
      rw [← e, hg.inv _ (hX _ h.lm)]; exact h.lm
    by_cases h2 : x = last
    · subst h2; rw [e]; exact h.m0
    · exact (h.st x hx h1 h2).1
  refine ⟨e, fun x => ⟨h.ring x, fun hr => ?_⟩⟩
  induction hr with
  | base => exact h.m0
  | one _ ih => exact h.cl _ ih
  | two _ ih => exact hcl _ ih
theorem qg4.next {X : Nat → Prop} {f g : Nat → Nat} (hf : Inv X f) (hg : Inv X g) {k0 last : Nat} {T : Nat → Prop} (h0 : X k0) (h : qg4 X f g k0 T last) (hk : ¬ T (g last)) : qg4 X f g k0 (fun x => x = g last ∨ x = f (g last) ∨ T x) (f (g last)) ∧ ¬ T (f (g last)) ∧ f (g last) ≠ g last := by
  have hX : ∀ x, T x → X x := fun x hx => Ring.mem hf hg h0 (h.ring x hx)
  have hk' : X (g last) := hg.mem _ (hX _ h.lm)
  have hne : f (g last) ≠ g last := hf.fix _ hk'
  have hnT : ¬ T (f (g last)) := fun hT => hk (by have := h.cl _ hT; rwa [hf.inv _ hk'] at this)
  refine ⟨⟨fun x hx => ?_, .inr (.inr h.m0), .inr (.inl rfl), fun e => hnT (by rw [e]; exact h.m0), fun x hx => ?_, fun x hx h1 h2 => ?_⟩, hnT, hne⟩
  · rcases hx with rfl | rfl | hx
    · exact .two (h.ring _ h.lm)
    · exact .one (.two (h.ring _ h.lm))
    · exact h.ring x hx
  · rcases hx with rfl | rfl | hx
    · exact .inr (.inl rfl)
    · rw [hf.inv _ hk']; exact .inl rfl
    · exact .inr (.inr (h.cl x hx))
  · rcases hx with rfl | rfl | hx
    · rw [hg.inv _ (hX _ h.lm)]
      exact ⟨.inr (.inr h.lm), h.ne, fun e => hnT (by rw [← e]; exact h.lm)⟩
    · exact absurd rfl h2
    · by_cases e : x = last
      · subst e
        exact ⟨.inl rfl, fun e => hk (by rw [e]; exact h.m0), fun e => hne e.symm⟩
      · obtain ⟨q1, q2, q3⟩ := h.st x hx h1 e
        exact ⟨.inr (.inr q1), q2, fun e2 => hnT (by rw [← e2]; exact q1)⟩
def Seen (n : Nat) (d e : List Nat) (i x : Nat) : Prop := M0 n d e x ∨ ∃ j, j < i ∧ XX n d e j ∧ Ring (dm n d) (em e) j x
open Classical in
noncomputable def lpN (n : Nat) (d e : List Nat) : Nat → Nat
  | 0 => 0
  | i + 1 => if Seen n d e i i then lpN n d e i else lpN n d e i + 1
theorem qil (n : Nat) (d e : List Nat) : ∀ i, lpN n d e i ≤ i
  | 0 => Nat.le_refl _
  | i + 1 => by
    have := qil n d e i
    unfold lpN; split <;> omega
theorem q56 {n : Nat} {d e : List Nat} (hd : isS n d = true) (he : isS n e = true) {i x : Nat} (h : Seen n d e i x) : x < n := by
  rcases h with h | ⟨j, _, hj, hr⟩
  · exact (Vn hd he n (Nat.le_refl _)).lt x h
  · exact (Ring.mem (qcm hd he) (qb7 hd he) hj hr).1
theorem qqh {n : Nat} {d e : List Nat} (hd : isS n d = true) (he : isS n e = true) {i : Nat} (hi : Seen n d e i i) (x : Nat) : Seen n d e (i + 1) x ↔ Seen n d e i x := by
  constructor
  · rintro (h | ⟨j, hj, hX, hr⟩)
    · exact .inl h
    · by_cases e1 : j = i
      · subst e1
        rcases hi with h | ⟨k, hk, hX', hr'⟩
        · exact absurd h hX.2
        · exact .inr ⟨k, hk, hX', hr'.trans hr⟩
      · exact .inr ⟨j, by omega, hX, hr⟩
  · rintro (h | ⟨j, hj, hX, hr⟩)
    · exact .inl h
    · exact .inr ⟨j, by omega, hX, hr⟩
theorem qp7 {n : Nat} {d e : List Nat} {i : Nat} (hin : i < n) (hi : ¬ Seen n d e i i) (x : Nat) : Seen n d e (i + 1) x ↔ Seen n d e i x ∨ Ring (dm n d) (em e) i x := by
  have hX : XX n d e i := ⟨hin, fun h => hi (.inl h)⟩
  constructor
  · rintro (h | ⟨j, hj, hX', hr⟩)
    · exact .inl (.inl h)
    · by_cases e1 : j = i
      · subst e1; exact .inr hr
      · exact .inl (.inr ⟨j, by omega, hX', hr⟩)
  · rintro ((h | ⟨j, hj, hX', hr⟩) | hr)
    · exact .inl h
    · exact .inr ⟨j, by omega, hX', hr⟩
    · exact .inr ⟨i, by omega, hX, hr⟩
theorem U5 {n : Nat} {d e : List Nat} (hd : isS n d = true) (he : isS n e = true) {i x : Nat} (hin : i < n) (hi : ¬ Seen n d e i i) (h : Ring (dm n d) (em e) i x) : ¬ Seen n d e i x := by
  have hX : XX n d e i := ⟨hin, fun h => hi (.inl h)⟩
  rintro (h1 | ⟨j, hj, hX', hr⟩)
  · exact (Ring.mem (qcm hd he) (qb7 hd he) hX h).2 h1
  · exact hi (.inr ⟨j, hj, hX', hr.trans (h.symm (qcm hd he) (qb7 hd he) hX)⟩)
def chL (n : Int) (φ : List Nat → List Nat) (κ : List Nat → Int) (acc a : List (Int × List Nat × Int)) : List (Int × List Nat × Int) := a.foldl (fun acc t => kx n (φ t.2.1) (t.2.2 * κ t.2.1) acc) acc
def chP (p n : Int) (φ : List Nat → List Nat) (κ : List Nat → Int) (acc a : List (Int × List Nat × Int)) : List (Int × List Nat × Int) := a.foldl (fun acc t => qjh p acc n (φ t.2.1) (t.2.2 * κ t.2.1)) acc
def Js (φ : List Nat → List Nat) (κ : List Nat → Int) (m : List Nat) : List (Int × List Nat × Int) → Int
  | [] => 0
  | t :: l => (if φ t.2.1 = m then t.2.2 * κ t.2.1 else 0) + Js φ κ m l
theorem q00 {n : Int} {φ : List Nat → List Nat} {κ : List Nat → Int} {acc a : List (Int × List Nat × Int)} {i : Nat} (h : i < a.length) : chL n φ κ acc (a.take (i + 1)) = kx n (φ a[i].2.1) (a[i].2.2 * κ a[i].2.1) (chL n φ κ acc (a.take i)) := by
  rw [List.take_succ_eq_append_getElem h, chL, List.foldl_append]; rfl
theorem qu9 {n : Int} {φ : List Nat → List Nat} {κ : List Nat → Int} : ∀ {a acc : List (Int × List Nat × Int)}, (chL n φ κ acc a).length ≤ acc.length + a.length
  | [], acc => by simp [chL]
  | t :: b, acc => by
    have h1 := qjo (n := n) (m := φ t.2.1) (f := t.2.2 * κ t.2.1) (ts := acc)
    have h2 := qu9 (n := n) (φ := φ) (κ := κ) (a := b) (acc := kx n (φ t.2.1) (t.2.2 * κ t.2.1) acc)
    have h3 : chL n φ κ acc (t :: b) = chL n φ κ (kx n (φ t.2.1) (t.2.2 * κ t.2.1) acc) b := rfl
    rw [h3, List.length_cons]; omega
def qja (n : Int) (F : Int) (φ : List Nat → List Nat) (κ : List Nat → Int) (a : List (Int × List Nat × Int)) : Prop := ∀ t ∈ a, okD (φ t.2.1) ∧ isS n.toNat (φ t.2.1) = true ∧ -F ≤ t.2.2 * κ t.2.1 ∧ t.2.2 * κ t.2.1 ≤ F
theorem qja.take {n F : Int} {φ : List Nat → List Nat} {κ : List Nat → Int} {a : List (Int × List Nat × Int)} (h : qja n F φ κ a) (i : Nat) : qja n F φ κ (a.take i) := fun t ht => h t (List.mem_of_mem_take ht)
theorem qnr {n F : Int} {φ : List Nat → List Nat} {κ : List Nat → Int} (hF : 0 ≤ F) : ∀ {a acc : List (Int × List Nat × Int)} {M : Int}, 0 ≤ M → qa6 n M acc → qja n F φ κ a → qa6 n (M + F * a.length) (chL n φ κ acc a)
  | [], acc, M, hM, h, _ => by simpa [chL] using h
  | t :: b, acc, M, hM, h, hb => by
    obtain ⟨h1, h3, h4⟩ := hb t (List.mem_cons_self ..)
    have h5 := qqz h1 h3 h4 hM h
    have := qnr hF (a := b) (by omega) h5 fun u hu => hb u (List.mem_cons_of_mem _ hu)
    rw [List.length_cons, show M + F * ((b.length + 1 : Nat) : Int) = M + F + F * b.length by rw [Int.natCast_add, Int.mul_add]; omega]
    exact this
theorem G7 {p n F : Int} {φ : List Nat → List Nat} {κ : List Nat → Int} (hp : 0 < p) : ∀ {a acc : List (Int × List Nat × Int)}, xd p n acc → qja n F φ κ a → xd p n (chP p n φ κ acc a) ∧ (chP p n φ κ acc a).length ≤ acc.length + a.length
  | [], acc, h, _ => ⟨h, by simp [chP]⟩
  | t :: b, acc, h, hb => by
    obtain ⟨h1, h3, h4⟩ := hb t (List.mem_cons_self ..)
    have h5 := qly (k := t.2.2 * κ t.2.1) hp h1 h3 h
    have h6 := qp8 (p := p) (n := n) (m := φ t.2.1) (k := t.2.2 * κ t.2.1) (ts := acc)
    have := G7 hp (a := b) h5 fun u hu => hb u (List.mem_cons_of_mem _ hu)
    refine ⟨this.1, ?_⟩
    have h7 := this.2
    have h3 : chP p n φ κ acc (t :: b) = chP p n φ κ (qjh p acc n (φ t.2.1) (t.2.2 * κ t.2.1)) b := rfl
    rw [h3, List.length_cons]; omega
theorem q0d {n : Int} {φ : List Nat → List Nat} {κ : List Nat → Int} {m : List Nat} : ∀ {a acc : List (Int × List Nat × Int)}, (∀ t ∈ acc, t.1 = n) → cf m (chL n φ κ acc a) = cf m acc + Js φ κ m a
  | [], acc, h => by simp [chL, Js]
  | t :: b, acc, h => by
    have h1 : ∀ u ∈ kx n (φ t.2.1) (t.2.2 * κ t.2.1) acc, u.1 = n := fun u hu => by
      rcases Wr hu with ⟨v, hv, e, _⟩ | ⟨rfl, _⟩
      · rw [e]; exact h v hv
      · rfl
    have ih := q0d (φ := φ) (κ := κ) (m := m) (a := b) h1
    have e : chL n φ κ acc (t :: b) = chL n φ κ (kx n (φ t.2.1) (t.2.2 * κ t.2.1) acc) b := rfl
    rw [e, ih, qhp h, Js]
    omega
theorem qix {p n : Int} {φ : List Nat → List Nat} {κ : List Nat → Int} {m : List Nat} : ∀ {a acc : List (Int × List Nat × Int)}, (∀ t ∈ acc, t.1 = n) → p ∣ cf m (chP p n φ κ acc a) - (cf m acc + Js φ κ m a)
  | [], acc, h => by simp [chP, Js]
  | t :: b, acc, h => by
    have ih := qix (p := p) (φ := φ) (κ := κ) (m := m) (a := b) (qva (p := p) (m := φ t.2.1) (k := t.2.2 * κ t.2.1) h)
    have h1 := qut (p := p) (k := t.2.2 * κ t.2.1) (m := m) (m' := φ t.2.1) h
    have e : chP p n φ κ acc (t :: b) = chP p n φ κ (qjh p acc n (φ t.2.1) (t.2.2 * κ t.2.1)) b := rfl
    rw [e]
    refine br ih h1 ?_
    rw [Js]
    omega
theorem q7m {p n F : Int} {φ : List Nat → List Nat} {κ : List Nat → Int} {a : List (Int × List Nat × Int)} (hp : 0 < p) (hF : 0 ≤ F) (h : qja n F φ κ a) : Q7 (zw p (chL n φ κ [] a)) = chP p n φ κ [] a := by
  have h0 : xd p n [] := ⟨(fun t h => by cases h), (fun t h => by cases h), (fun t h => by cases h), .nil⟩
  refine Ki hp (qip hp (qnr hF (Int.le_refl 0) sum_nil h)) (G7 hp h0 h).1 fun m => ?_
  have h1 := q0d (n := n) (φ := φ) (κ := κ) (m := m) (acc := []) (a := a) (by simp)
  have h2 := qix (p := p) (n := n) (φ := φ) (κ := κ) (m := m) (acc := []) (a := a) (by simp)
  have h3 := qn3 (p := p) (m := m) (S := chL n φ κ [] a)
  refine Ys h3 h2 ?_
  rw [h1]
  simp only [cf]; omega
def xv (p c : Int) : Nat → Int
  | 0 => 1
  | k + 1 => (xv p c k * c).emod p
theorem qvs {p c : Int} (hp : 2 ≤ p) : ∀ k, 0 ≤ xv p c k ∧ xv p c k ≤ p - 1
  | 0 => by unfold xv; omega
  | k + 1 => by
    have h1 := Int.emod_nonneg (xv p c k * c) (show p ≠ 0 by omega)
    have h2 := Int.emod_lt_of_pos (xv p c k * c) (show 0 < p by omega)
    show 0 ≤ (xv p c k * c) % p ∧ (xv p c k * c) % p ≤ p - 1
    omega
theorem pow_mul {p c x : Int} (hp : 2 ≤ p ∧ p ≤ 97) (hc : 0 ≤ c ∧ c ≤ p - 1) (hx : 0 ≤ x ∧ x ≤ p - 1) : qo .i64 (x * c) = x * c ∧ Int.tmod (x * c) p = (x * c).emod p ∧ 0 ≤ x * c ∧ x * c ≤ 9216 := by
  have h0 : 0 ≤ x * c := Int.mul_nonneg hx.1 hc.1
  have h1 : x * c ≤ 96 * 96 := Int.mul_le_mul (by omega) (by omega) hc.1 (by omega)
  exact ⟨wrap64 (by omega) (by omega), Int.tmod_eq_emod_of_nonneg h0, h0, by omega⟩
def B53 : zc := B39
theorem q8x : qp Try.prog B53 := qsq
theorem qiq {N : Nat} {m : List Nat} (h : isS N m = true) {i : Nat} (hi : i < 2 * N) : m.getD i 0 < 2 * N := ((xk h).2.1 i hi).1
theorem Bg {n : Int} {m : List Nat} : List.take 1 (dia n m) = [.int .i64 n] := rfl
theorem v7 {x : Nat} (h : x < 16) : ((0 : Int) ≤ (x : Int) ∧ (x : Int) < ((16 : Nat) : Int)) ∧ 1 + x < 17 := by omega
theorem q9j (a b : Nat) : Int.tdiv (a : Int) (b : Int) = ((a / b : Nat) : Int) := rfl
abbrev elC (p c n : Int) (k : Nat) : List AV := [.int .i64 p, .int .i64 c, .int .i64 n, .slc 0 0 k false 0]
def uw : AT := (.one (oM 30 7) (.one (oN 31 17 10) (.one (oF 33 17 9) (.one (oL 34 33) (.one (oM 35 11) (.one (oP 36 .mul 34 35) (.alt (o0 32 (.lookup [.int,.int,.int,.int,.int,.int,.int,.int,.int,.int,.int,.int,.int,.int,.int,.int,.int] true (.int .i64 0) false (.t 30) (.t 31))) (.one (oP 37 .add 32 36) (.one (o0 38 (.J8 [.int,.int,.int,.int,.int,.int,.int,.int,.int,.int,.int,.int,.int,.int,.int,.int,.int] true (.int .i64 0) (.t 30) (.t 31))) (.one (oE 39 1 38) (.one ⟨none,none,.op (.Gu (.t 30) (.t 39) (.t 37))⟩ (.nil))))) (.alt (o0 38 (.J8 [.int,.int,.int,.int,.int,.int,.int,.int,.int,.int,.int,.int,.int,.int,.int,.int,.int] true (.int .i64 0) (.t 30) (.t 31))) (.one (o0 32 (.lookup [.int,.int,.int,.int,.int,.int,.int,.int,.int,.int,.int,.int,.int,.int,.int,.int,.int] true (.int .i64 0) false (.t 30) (.t 31))) (.one (oP 37 .add 32 36) (.one (oE 39 1 38) (.one ⟨none,none,.op (.Gu (.t 30) (.t 39) (.t 37))⟩ (.nil))))) (.none)))))))))
def Xh : AC := .region [oK 40 .add 19 1,oM 19 40]
def u4 : AC := .seq (.region [oP 20 .lss 19 18]) (.seq (.cond 20 .skip (.exit 0)) (.seq (.block 1 (.seq (.region [oX 21 18 17 19,oN 22 18 21,o0 9 (.alloc [.int .i64 0,.int .u8 0,.int .u8 0,.int .u8 0,.int .u8 0,.int .u8 0,.int .u8 0,.int .u8 0,.int .u8 0,.int .u8 0,.int .u8 0,.int .u8 0,.int .u8 0,.int .u8 0,.int .u8 0,.int .u8 0,.int .u8 0,.int .i64 0]),oS 18 9 22]) (.seq (.region [oM 24 2,oF 25 0 9,oN 26 17 25,⟨some 27,none,.call (.t 24) [.t 26]⟩,oM 23 27,oE 28 0 23,oE 29 1 23,oD 10,oS 17 10 28,oM 11 29]) (.tree false uw)))) Xh))
def Zk : AC := .seq (.region [oM 41 0,oM 42 7,oC 43 105 [.t 41,.t 42],oZ 12,oS 4 12 43]) (.seq (.region [oM 44 1,oF 45 2 12,oT 45 44]) (.seq (.region [oN 46 4 12,oS 4 6 46]) .ret))
def Vi : AC := .seq (.region [oZ 6]) (.seq (.region [o0 13 (.K1),oM 7 13]) (.seq (.seq (.region [oM 14 0,o0 15 (.jx (.t 14)),oF 16 3 15,oL 17 16,o0 18 (.len .slc (.t 17)),oI 19 0]) (.block 0 (.loop u4))) Zk))
theorem qa5 : zl Try.prog 175 = some ⟨47, Vi, [.yn 6 4]⟩ := by kernel_rfl
theorem qwq {B : zc} (hB : qp Try.prog B) (hwith : B 105 = some j6) {fid : Nat} {g : BE} (hf : B fid = some g) {caps : List AV} (hc1 : AV.qv 2 caps) (hc2 : AV.xg [0, 1, 2, 3] caps = true) (hc3 : AV.zp (yw [0, 1, 2, 3]) caps = caps)
    (p c n n' : Int) (a : List (Int × List Nat × Int)) (φ : List Nat → List Nat) (κ : List Nat → Int) (hp : 2 ≤ p ∧ p ≤ 97) (hn : 0 ≤ n' ∧ n' ≤ 8) (ha : okT a) (has : ∀ t ∈ a, t.1 = n) (hl : a.length ≤ 100000) (hch : qja n' 10000 φ κ a)
    (hg : ∀ t ∈ a, ∀ rest, g (.ro (xc a) :: .ro (elC p c n a.length) :: rest) (.agg (dia n t.2.1) :: caps) = some (.tup [.agg (dia n' (φ t.2.1)), .int .i64 (κ t.2.1)], .ro (xc a) :: .ro (elC p c n a.length) :: rest)) :
    Am.Fn Try.prog 175 [.ptr 1 0, .int .i64 n', .fn fid [] caps] [.ro (xc a), .ro (elC p c n a.length)] (fun v H' => v = elemV p c n' 2 (zw p (chL n' φ κ [] a)).length ∧ H' = [.ro (xc a), .ro (elC p c n a.length), .vec 18 (xc (Q7 (zw p (chL n' φ κ [] a))))]) := by
  refine Am.Fn.ofB hB mixed qa5 (by simp [AV.qv, AV.under]) ?_ ?_
  · intro j o hj
    match j, hj with
    | 0, hj => cases hj; exact qk _ _ (qe _)
    | 1, hj => cases hj; exact ⟨trivial, trivial, trivial, by simp [AV.under], trivial⟩
    | j + 2, hj => simp at hj
  have hal := xe ha
  simp (maxSteps := 3000000) only [qh, zH, Vi, elC, elemV, hal, Nat.le_refl, iE, iN, iB, iC, iL, iD, iA, iS, iM, qa, zZ, ↓qq, ↓reduceIte, reduceCtorEq, nA, nM, nS, nE, nL, nD]; try simp only [qa, zY]
  have hsum1 : ∀ i : Nat, i ≤ a.length → qa6 n' (10000 * i) (chL n' φ κ [] (a.take i)) ∧ (chL n' φ κ [] (a.take i)).length ≤ i := fun i hi => by
    have h1 := qnr (n := n') (F := 10000) (φ := φ) (κ := κ) (by omega) (a := a.take i) (acc := []) (M := 0) (by omega) sum_nil (hch.take i)
    have h2 := qu9 (n := n') (φ := φ) (κ := κ) (acc := []) (a := a.take i)
    rw [List.length_take, Nat.min_eq_left hi] at h1 h2
    exact ⟨by simpa using h1, by simpa using h2⟩
  refine WA.xr hB (fun s => ∃ (i : Nat), i ≤ a.length ∧ s = ⟨[(19, .int .i64 i), (18, .int .i64 a.length), (17, .slc 0 0 a.length false 0), (7, .map 3), (6, .ptr 2 0), (2, .fn fid [] caps), (1, .int .i64 n'), (0, .ptr 1 0)], [.ro (xc a), .ro (elC p c n a.length), .cells [.int .i64 0, .int .i64 0, .int .i64 0, .v (.slice none 0 0)], j7 (chL n' φ κ [] (a.take i))]⟩)
    (fun s => match get s.env 19 with | .int _ x => a.length - x.toNat | _ => 0) ⟨_, qw.qx [19, 18, 17, 7, 6, 2, 1, 0], 0, by omega, rfl⟩ ?_
  rintro s ⟨i, hi, rfl⟩
  obtain ⟨hS, hSl⟩ := hsum1 i hi
  by_cases hlt : i < a.length
  · have hli : (i : Int) < a.length := by omega
    have hli' : (0 : Int) ≤ i := by omega
    have hw : qo .i64 ((i : Int) + 1) = ((i + 1 : Nat) : Int) := by rw [wrap64 (by omega) (by omega)]; rfl
    have hg0 := Zr ha hlt
    have hok := ha _ (List.getElem_mem hlt)
    have hsz := has _ (List.getElem_mem hlt)
    have hgt := hg _ (List.getElem_mem hlt)
    obtain ⟨hokφ, hsφ, hk1, hk2⟩ := hch _ (List.getElem_mem hlt)
    have hb1 : i * 18 < a.length * 18 := by omega
    have hb2 : i * 18 + 18 ≤ a.length * 18 := by omega
    have hn1 := q00 (n := n') (φ := φ) (κ := κ) (acc := []) hlt
    obtain ⟨t, ht⟩ : ∃ t, t = a[i] := ⟨_, rfl⟩
    rw [← ht] at hg0 hok hsz hgt hokφ hsφ hk1 hk2 hn1
    clear ht
    obtain ⟨tn, m, f⟩ := t
    simp only at hg0 hok hsz hgt hokφ hsφ hk1 hk2 hn1
    have hsz1 := hsz.symm
    subst hsz1
    have hov := Jt (t := (0, List.replicate 16 0, 0)) (u := (n, m, f)) (by simp) hok.1
    have htl := x6 (t := (n, m, f)) hok
    have htd := Uk (t := (n, m, f)) hok
    have htf := Qx (t := (n, m, f)) hok
    obtain ⟨kf, hkfe⟩ : ∃ kf, kf = f * κ m := ⟨_, rfl⟩
    have hwk : qo .i64 (f * κ m) = kf := by rw [hkfe]; exact wrap64 (by omega) (by omega)
    rw [← hkfe] at hk1 hk2 hn1
    have hφl := hokφ.1
    generalize φ m = m' at hgt hokφ hsφ hn1 hφl
    simp (maxSteps := 3000000) only [qh, zH, u4, hf, hgt, elC, hli, hli', hal, hb1, hb2, hw, hg0, Qm, htl, htd, htf, Qh, vb, hov, zk, zf, j4 hφl, qc, hφl, za, List.length_replicate, Nat.le_refl, iE, iN, iB, iC, iL, iD, iA, iS, iM, qa, zZ, ↓qq, ↓reduceIte, reduceCtorEq, nA, nM, nS, nE, nL, nD]; try simp only [qa, zY]
    refine WA.qf0 hB (fun s => s = ⟨[(19, .int .i64 i), (18, .int .i64 a.length), (17, .slc 0 0 a.length false 0), (7, .map 3), (6, .ptr 2 0), (2, .fn fid [] caps), (1, .int .i64 n'), (0, .ptr 1 0)], [.ro (xc a), .ro (elC p c n a.length), .cells [.int .i64 0, .int .i64 0, .int .i64 0, .v (.slice none 0 0)], j7 (chL n' φ κ [] (a.take (i + 1)))]⟩) ?_ ?_
    · rw [hn1]
      generalize chL n' φ κ [] (a.take i) = S at hS hSl
      have hmT : j7 S = .map (esT 0 S) S.length := rfl
      have hkok : kok KD true (.agg (dia n' m')) = true := qc0 hφl
      have hall := qn (n := n') hφl
      cases hix : Zq n' m' S with
      | none =>
        obtain ⟨f1, f2, f3, f4, f5⟩ := qek hokφ hS.ok hix
        have hw0 : qo .i64 (0 + kf) = kf := by rw [wrap64 (by omega) (by omega)]; omega
        unfold uw
        simp (maxSteps := 3000000) only [qh, zH, ka, Xa, hmT, hkok, f1, f2, f3, f4, htl, htd, htf, hw0, hwk, qc, hφl, hall, jo, iE, iN, iB, iC, iL, iD, iA, iS, iM, qa, zZ, ↓qq, ↓reduceIte, reduceCtorEq, nA, nM, nS, nE, nL, nD]; try simp only [qa, zY]
        refine ⟨⟨_, qw.x7 [0, 1, 2, 3] [19, 18, 17, 7, 6, 2, 1, 0] ⟨by decide, ?_⟩ ?_, ?_⟩, _, qw.x7 [0, 1, 2, 3] [19, 18, 17, 7, 6, 2, 1, 0] ⟨by decide, ?_⟩ ?_, ?_⟩
        · simp only [qg _ _ (qe _), ↓zb, elC, zK, ↓reduceIte, reduceCtorEq, nE, nB, nA]
        · simp only [qg _ _ (qe _), ↓zb, hc2, zK, ↓reduceIte, reduceCtorEq, nE, nB, nA]
        · simp only [qb _ _ (qe _), ↓vm, hc3, elC, zL, ↓reduceIte, reduceCtorEq, nE, nA]
          rw [j7, f5]
        · simp only [qg _ _ (qe _), ↓zb, elC, zK, ↓reduceIte, reduceCtorEq, nE, nB, nA]
        · simp only [qg _ _ (qe _), ↓zb, hc2, zK, ↓reduceIte, reduceCtorEq, nE, nB, nA]
        · simp only [qb _ _ (qe _), ↓vm, hc3, elC, zL, ↓reduceIte, reduceCtorEq, nE, nA]
          rw [j7, f5]
      | some j =>
        obtain ⟨f1, f2, f3, f4, f5⟩ := qfj hφl hS.ok hix
        have hj := Bo hix
        have hfj := hS.fac _ (show S.getD j zT ∈ S by rw [qaw hj.1]; exact List.getElem_mem _)
        have hw0 : qo .i64 ((S.getD j zT).2.2 + kf) = (S.getD j zT).2.2 + kf := wrap64 (by omega) (by omega)
        unfold uw
        simp (maxSteps := 3000000) only [qh, zH, ka, Xa, hmT, hkok, f1, f2, f3, f4, htl, htd, htf, hw0, hwk, qc, hφl, hall, jo, iE, iN, iB, iC, iL, iD, iA, iS, iM, qa, zZ, ↓qq, ↓reduceIte, reduceCtorEq, nA, nM, nS, nE, nL, nD]; try simp only [qa, zY]
        refine ⟨⟨_, qw.x7 [0, 1, 2, 3] [19, 18, 17, 7, 6, 2, 1, 0] ⟨by decide, ?_⟩ ?_, ?_⟩, _, qw.x7 [0, 1, 2, 3] [19, 18, 17, 7, 6, 2, 1, 0] ⟨by decide, ?_⟩ ?_, ?_⟩
        · simp only [qg _ _ (qe _), ↓zb, elC, zK, ↓reduceIte, reduceCtorEq, nE, nB, nA]
        · simp only [qg _ _ (qe _), ↓zb, hc2, zK, ↓reduceIte, reduceCtorEq, nE, nB, nA]
        · simp only [qb _ _ (qe _), ↓vm, hc3, elC, zL, ↓reduceIte, reduceCtorEq, nE, nA]
          rw [j7, f5]
        · simp only [qg _ _ (qe _), ↓zb, elC, zK, ↓reduceIte, reduceCtorEq, nE, nB, nA]
        · simp only [qg _ _ (qe _), ↓zb, hc2, zK, ↓reduceIte, reduceCtorEq, nE, nB, nA]
        · simp only [qb _ _ (qe _), ↓vm, hc3, elC, zL, ↓reduceIte, reduceCtorEq, nE, nA]
          rw [j7, f5]
    · rintro s rfl
      simp (maxSteps := 3000000) only [qh, zH, Xh, hw, iE, iN, iB, iC, iL, iD, iA, iS, iM, qa, zZ, ↓qq, ↓reduceIte, reduceCtorEq, nA, nM, nS, nE, nL, nD]; try simp only [qa, zY]
      refine ⟨_, qw.qx [19, 18, 17, 7, 6, 2, 1, 0], ⟨i + 1, by omega, rfl⟩, ?_⟩
      simp only [zL, ↓reduceIte, reduceCtorEq, nE, nA]; omega
  have hli : ¬ ((i : Int) < a.length) := by omega
  obtain rfl : i = a.length := by omega
  have htk : a.take a.length = a := List.take_length
  rw [htk] at hS hSl ⊢
  have hap := qev hS
  obtain ⟨hz1, hz2, hz3⟩ := qsm (p := p) hn hS
  have hSo := hS.ok
  generalize chL n' φ κ [] a = S at *
  have hmT : j7 S = .map (esT 0 S) S.length := rfl
  have hts := qhr (ts := S) (k := 0) hSo
  have hSl' : S.length ≤ 1000000 := by omega
  have hpp : 0 < p ∧ p ≤ 1000000 := by omega
  simp (maxSteps := 3000000) only [qh, zH, u4, Zk, hwith, j6, hli, hmT, Int.lt_irrefl, hts, hpp, hSl', hz1, hz2, hap, and_self, elC, elemV, iE, iN, iB, iC, iL, iD, iA, iS, iM, qa, zZ, ↓qq, ↓reduceIte, reduceCtorEq, nA, nM, nS, nE, nL, nD]; try simp only [qa, zY]
  refine ⟨hz2, rfl, rfl, rfl, ?_⟩
  refine Ret.x7 [0, 1, 4] ⟨⟨by simp, rfl, by decide⟩, ?_⟩ (rs := [.agg [.int .i64 p, .int .i64 c, .int .i64 n', .slc 4 0 (zw p S).length false 0]]) rfl rfl (by simp [xl]) ?_ ⟨?_, ?_⟩
  · simp only [qg _ _ (qe _), ↓zb, zK, ↓reduceIte, reduceCtorEq, nE, nB, nA]
  · intro j l; match j with
    | 0 => exact fun _ => ⟨_, rfl⟩
    | 1 => exact fun _ => ⟨_, rfl⟩
    | 2 => simp [zo, AO.ren]
    | j + 3 => simp [zo]
  · simp only [xl]
    simp only [zL, ↓reduceIte, reduceCtorEq, nE, nA]
  · simp only [qb _ _ (qe _), zL, ↓reduceIte, reduceCtorEq, nE, nA]
def ql5 (fid : Nat) (nn : Int → Int) (φ : Nat → List Nat → List Nat) (lo hi : Int) : BE := fun hp xs => match xs with
  | [.ptr b 0, .int .i64 n', .fn f [] []] => match rd hp b with
    | some (.int .i64 p :: .int .i64 c :: .int .i64 n :: .slc ba 0 la false 0 :: _) => match rd hp ba with
      | some L => match qa3 la L with
        | some a => chk ((f = fid ∧ n' = nn n) ∧ ((2 ≤ p ∧ p ≤ 97) ∧ (lo ≤ n ∧ n ≤ hi)) ∧ Ux p n a ∧ la ≤ 100000) (some (elemV p c n' hp.length (chP p n' (φ n.toNat) (fun _ => 1) [] a).length, hp ++ [.vec 18 (xc (chP p n' (φ n.toNat) (fun _ => 1) [] a))]))
        | none => none
      | none => none
    | _ => none
  | _ => none
theorem zac {B : zc} (hB : qp Try.prog B) (hwith : B 105 = some j6) {fid : Nat} {gf : List AV → Option AV} (hf : B fid = some (qj gf)) {nn : Int → Int} {φ : Nat → List Nat → List Nat} {lo hi : Int}
    (hφ : ∀ n m, lo ≤ n ∧ n ≤ hi → isS n.toNat m = true → okD (φ n.toNat m) ∧ isS (nn n).toNat (φ n.toNat m) = true) (hnn : ∀ n, lo ≤ n ∧ n ≤ hi → 0 ≤ nn n ∧ nn n ≤ 8)
    (hgf : ∀ n m, lo ≤ n ∧ n ≤ hi → okD m → isS n.toNat m = true → gf [.agg (dia n m)] = some (.tup [.agg (dia (nn n) (φ n.toNat m)), .int .i64 1])) : Am.Callee Try.prog 175 (ql5 fid nn φ lo hi) := Callee.fp fun hp xs v hp' he => by
  unfold ql5 at he
  split at he
  · rename_i b n' f
    split at he
    · rename_i p c n ba la L0 hL0
      split at he
      · rename_i L hL
        split at he
        · rename_i a h1
          obtain ⟨⟨⟨a1, a2⟩, ⟨a3, a4⟩, a5, a6⟩, he2⟩ := ql he
          simp only [Option.some.injEq, Prod.mk.injEq] at he2
          obtain ⟨rfl, rfl⟩ := he2
          subst a1; subst a2
          obtain ⟨e1, e2, e3, e4⟩ := kz h1
          have g1 := xe e2
          have hgg := a5.qg8 e2
          have hch : qja (nn n) 10000 (φ n.toNat) (fun _ => 1) a := fun t ht => by
            have h2 := hφ n t.2.1 a4 (hgg.dia t ht).2
            have h3 := hgg.fac t ht
            exact ⟨h2.1, h2.2, by show -10000 ≤ t.2.2 * 1; omega, by show t.2.2 * 1 ≤ 10000; omega⟩
          have hfn := qwq hB hwith hf (caps := []) trivial rfl rfl p c n (nn n) a (φ n.toNat) (fun _ => 1) a3 (hnn n a4) e2 (fun t ht => (hgg.dia t ht).1) (by omega) hch fun t ht rest => by
            simp only [qj, hgf n t.2.1 a4 (e2 t ht) (hgg.dia t ht).2]
          have hlaw := q7m (p := p) (by omega) (by omega) hch
          have hlen : (zw p (chL (nn n) (φ n.toNat) (fun _ => 1) [] a)).length = (chP p (nn n) (φ n.toNat) (fun _ => 1) [] a).length := by rw [← hlaw]; exact (uy _).length_eq.symm
          rw [hlaw, hlen] at hfn
          refine ⟨[(ba, 0), (b, 0)], [.ptr 1 0, .int .i64 (nn n), .fn f [] []], _, _, _, hfn, by simp [AV.ren, AV.zp, ofL], rfl,
            ⟨⟨L, hL, by omega, by rw [List.drop_zero, qb _ _ (qe _), g1, e1]; exact e3⟩, ⟨_, hL0, by simp, by simp [AV.zp, AV.ren, ofL, e1]⟩, trivial⟩, rfl,
            ⟨qk _ _ (qe _), ⟨trivial, trivial, trivial, by simp [AV.under], trivial⟩, trivial⟩, ⟨by simp [AV.under], trivial, ⟨trivial, trivial⟩, trivial⟩, by simp [elemV, AV.ren, AV.zp, Ren.ext], ?_⟩
          simp [after, upd, AO.wr, AO.ren, qb _ _ (qe _)]
        · cases he
      · cases he
    · cases he
  · cases he
end Go.Proofs.Ytfhckbbgmblhbaa
