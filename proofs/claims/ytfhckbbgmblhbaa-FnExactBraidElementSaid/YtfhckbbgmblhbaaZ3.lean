/- Contracts of functions of the program, and plain laws, part 3: each text of this part is proved without further condition. -/
import Derived.Test.YtfhckbbgmblhbaaZ2
namespace Go.Proofs.Ytfhckbbgmblhbaa
open Go.Am Go.Dia
open Nat renaming reduceAdd → nA, reduceMul → nM, reduceSub → nS, reduceEqDiff → nE, reduceLT → nL, reduceLeDiff → nD, reduceBEq → nB
open Int renaming reduceEq → iE, reduceNe → iN, reduceBEq → iB, reduceBNe → iC, reduceLT → iL, reduceLE → iD, reduceAdd → iA, reduceSub → iS, reduceMul → iM
set_option linter.unusedSimpArgs false
set_option linter.unusedVariables false
set_option maxRecDepth 4000
set_option maxHeartbeats 1000000
theorem J4 (P : Program) (B : zk) (cf : Bool) (K : St → Prop) (s : St) (a : AI) (t r : AT) : Ga P B cf (.alt a t r) K s = (qbe P B cf a (Ga P B cf t K) s ∧ Ga P B cf r K s) := nrX rfl
theorem Ym (P : Program) (B : zk) (cf : Bool) (K : St → Prop) (s : St) : Ga P B cf .none K s = True := nrX rfl
theorem qkt {α : Type} {f : α → α} : ∀ {l : List α} {j : Nat} {a : α}, l[j]? = some a → l.modify j f = l.set j (f a)
  | [], j, a, h => by simp at h
  | x :: l, 0, a, h => by simp only [List.getElem?_cons_zero, Option.some.injEq] at h; subst h; rfl
  | x :: l, j + 1, a, h => by
    simp only [List.getElem?_cons_succ] at h
    simp only [List.modify_succ_cons, List.set_cons_succ, qkt h]
theorem qio {n : Int} {m : List Nat} {S : List (Int × List Nat × Int)} (hmo : okD m) (ho : okT S) (h : Zb n m S = none) :
    wi KD true (.agg (dia n m)) (esT 0 S) 0 = some none ∧
    wi KD true (.agg (dia n m)) (esT 0 S ++ [(⟨.agg (dia n m), .int .i64 0, S.length⟩ : AE)]) 0 = some (some (S.length, ⟨.agg (dia n m), .int .i64 0, S.length⟩)) ∧
    (esT 0 S ++ [(⟨.agg (dia n m), .int .i64 0, S.length⟩ : AE)]).findIdx? (fun x => (x.born : Int) == (S.length : Int)) = some S.length ∧
    (∀ v, (esT 0 S ++ [(⟨.agg (dia n m), .int .i64 0, S.length⟩ : AE)]).modify S.length (fun x => ⟨x.key, .int .i64 v, x.born⟩) = esT 0 (Zc n m v S)) ∧ (∀ v, (Zc n m v S).length = S.length + 1) := by
  have h2 := qbk h
  have e0 : ∀ v : Int, esT 0 S ++ [(⟨.agg (dia n m), .int .i64 v, S.length⟩ : AE)] = esT 0 (S ++ [(n, m, v)]) := fun v => by
    rw [qko]; simp [esT]
  have hm := hmo.1
  have hidx : ∀ (l : List (Int × List Nat × Int)), Zb n m l = none → Zb n m (l ++ [(n, m, 0)]) = some l.length := fun l => by
    induction l with
    | nil => intro _; simp [Zb]
    | cons t l ih =>
      intro h
      unfold Zb at h
      split at h
      · cases h
      · rename_i hne
        have h3 : Zb n m l = none := by
          cases hi : Zb n m l with
          | none => rfl
          | some i => rw [hi] at h; cases h
        simp only [List.cons_append, Zb, if_neg hne, ih h3, Option.map_some, List.length_cons]
  refine ⟨by rw [Wl hm ho, h]; rfl, ?_, ?_, fun v => ?_, fun v => ?_⟩
  · rw [e0, Wl hm (fun t ht => by
      rcases List.mem_append.1 ht with ht | ht
      · exact ho t ht
      · rw [List.mem_singleton.1 ht]; exact hmo), hidx S h]
    simp
  · rw [e0]
    have := qfd (ts := S ++ [(n, m, 0)]) (k := 0) (j := S.length) (by simp)
    rwa [Nat.zero_add] at this
  · rw [e0, qj8, h2.1, qkt (a := (n, m, 0)) (by simp)]
    simp
  · rw [h2.1]; simp
theorem qip {n : Int} {m : List Nat} {S : List (Int × List Nat × Int)} {j : Nat} (hm : m.length = 16) (ho : okT S) (h : Zb n m S = some j) :
    wi KD true (.agg (dia n m)) (esT 0 S) 0 = some (some (j, ⟨.agg (dia n m), .int .i64 (S.getD j zT).2.2, j⟩)) ∧
    (esT 0 S).set j ⟨.agg (dia n m), .int .i64 (S.getD j zT).2.2, j⟩ = esT 0 S ∧
    (esT 0 S).findIdx? (fun x => (x.born : Int) == (j : Int)) = some j ∧
    (∀ f, (esT 0 S).modify j (fun x => ⟨x.key, .int .i64 ((S.getD j zT).2.2 + f), x.born⟩) = esT 0 (Zc n m f S)) ∧ (∀ f, (Zc n m f S).length = S.length) := by
  obtain ⟨h1, h2, h3, h4⟩ := Gj h
  refine ⟨by rw [Wl hm ho, h]; simp, ?_, ?_, fun f => ?_, fun f => by rw [h4]; simp⟩
  · have := qjo (n := n) (v := (S.getD j zT).2.2) (m := m) (ts := S) (k := 0) (j := j)
    rw [Nat.zero_add] at this
    rw [this]
    congr 1
    have e : (n, m, (S.getD j zT).2.2) = S.getD j zT := by rw [← h2, ← h3]
    rw [e, X4 h1, List.set_getElem_self]
  · have := qfd (ts := S) (k := 0) h1
    rwa [Nat.zero_add] at this
  · rw [qj8, h4]
    rw [qkt (List.getElem?_eq_getElem h1), ← X4 h1, h2, h3]
theorem W1 {n F k : Int} (hF : 0 ≤ F) : ∀ {b acc : List (Int × List Nat × Int)} {M : Int}, 0 ≤ M → qcn n M acc → (∀ t ∈ b, okD t.2.1 ∧ t.1 = n ∧ isS n.toNat t.2.1 = true ∧ -F ≤ k * t.2.2 ∧ k * t.2.2 ≤ F) → qcn n (M + F * b.length) (xb k acc b)
  | [], acc, M, hM, h, _ => by simpa [xb] using h
  | t :: b, acc, M, hM, h, hb => by
    obtain ⟨h1, h2, h3, h4⟩ := hb t (List.mem_cons_self ..)
    have h5 := qup h1 h3 h4 hM h
    have := W1 hF (b := b) (by omega) h5 fun u hu => hb u (List.mem_cons_of_mem _ hu)
    rw [← h2] at this ⊢
    rw [List.length_cons, show M + F * ((b.length + 1 : Nat) : Int) = M + F + F * b.length by rw [Int.natCast_add, Int.mul_add]; omega]
    exact this
theorem qby {k : Int} : ∀ {b acc : List (Int × List Nat × Int)}, (xb k acc b).length ≤ acc.length + b.length
  | [], acc => by simp [xb]
  | t :: b, acc => by
    have h1 := qlo (n := t.1) (m := t.2.1) (f := k * t.2.2) (ts := acc)
    have h2 := qby (k := k) (b := b) (acc := Zc t.1 t.2.1 (k * t.2.2) acc)
    have h3 : xb k acc (t :: b) = xb k (Zc t.1 t.2.1 (k * t.2.2) acc) b := rfl
    rw [h3, List.length_cons]; omega
theorem sum_nil {n : Int} : qcn n 0 [] := ⟨(fun t h => by cases h), (fun t h => by cases h), (fun t h => by cases h), .nil⟩
theorem qi4 {n M : Int} {S : List (Int × List Nat × Int)} (h : qcn n M S) : (S.map txt).Nodup := by
  unfold List.Nodup
  rw [List.pairwise_map]
  refine List.Pairwise.imp_of_mem ?_ h.one
  intro a b ha hb hne e
  unfold txt at e
  have h1 := h.dia a ha
  have h2 := h.dia b hb
  rw [h1.1, h2.1] at e
  exact hne (qer h1.2 h2.2 (h.ok a ha).1 (h.ok b hb).1 e).2
theorem qvi {n M p : Int} {S : List (Int × List Nat × Int)} (hn : 0 ≤ n ∧ n ≤ 8) (h : qcn n M S) : (0 ≤ qd7 S ∧ qd7 S ≤ 8) ∧ (∀ t ∈ S, t.1 = qd7 S) ∧ (if zs p S = [] then n else qd7 S) = n := by
  match S, h with
  | [], h => exact ⟨by simp [qd7], by simp, by simp [zs]⟩
  | t :: l, h =>
    have e : qd7 (t :: l) = n := (h.dia t (List.mem_cons_self ..)).1
    rw [e]
    exact ⟨hn, fun u hu => (h.dia u hu).1, by split <;> rfl⟩
theorem zi : B37 105 = some (vk) := rfl
def Bz : AT := (.one (oM 20 7) (.one (oF 21 0 9) (.one (oN 22 17 21) (.one (oF 24 17 9) (.one (oL 25 24) (.alt (o0 23 (.lookup [.int,.int,.int,.int,.int,.int,.int,.int,.int,.int,.int,.int,.int,.int,.int,.int,.int] true (.int .i64 0) false (.t 20) (.t 22))) (.one (oP 26 .add 23 25) (.one (o0 27 (.V2 [.int,.int,.int,.int,.int,.int,.int,.int,.int,.int,.int,.int,.int,.int,.int,.int,.int] true (.int .i64 0) (.t 20) (.t 22))) (.one (oE 28 1 27) (.one ⟨none,none,.op (.G7 (.t 20) (.t 28) (.t 26))⟩ (.nil))))) (.alt (o0 27 (.V2 [.int,.int,.int,.int,.int,.int,.int,.int,.int,.int,.int,.int,.int,.int,.int,.int,.int] true (.int .i64 0) (.t 20) (.t 22))) (.one (o0 23 (.lookup [.int,.int,.int,.int,.int,.int,.int,.int,.int,.int,.int,.int,.int,.int,.int,.int,.int] true (.int .i64 0) false (.t 20) (.t 22))) (.one (oP 26 .add 23 25) (.one (oE 28 1 27) (.one ⟨none,none,.op (.G7 (.t 20) (.t 28) (.t 26))⟩ (.nil))))) (.none))))))))
def qcy : AC := .region [oK 29 .add 16 1,oM 16 29]
def Gg : AC := .seq (.region [oP 17 .lss 16 15]) (.seq (.cond 17 .skip (.exit 0)) (.seq (.block 1 (.seq (.region [oX 18 18 14 16,oN 19 18 18,o0 9 (.alloc [.int .i64 0,.int .u8 0,.int .u8 0,.int .u8 0,.int .u8 0,.int .u8 0,.int .u8 0,.int .u8 0,.int .u8 0,.int .u8 0,.int .u8 0,.int .u8 0,.int .u8 0,.int .u8 0,.int .u8 0,.int .u8 0,.int .u8 0,.int .i64 0]),oS 18 9 19]) (.tree false Bz))) qcy))
def Bd : AT := (.one (oM 37 7) (.one (oF 38 0 11) (.one (oN 39 17 38) (.one (oM 41 2) (.one (oF 42 17 11) (.one (oL 43 42) (.one (oP 44 .mul 41 43) (.alt (o0 40 (.lookup [.int,.int,.int,.int,.int,.int,.int,.int,.int,.int,.int,.int,.int,.int,.int,.int,.int] true (.int .i64 0) false (.t 37) (.t 39))) (.one (oP 45 .add 40 44) (.one (o0 46 (.V2 [.int,.int,.int,.int,.int,.int,.int,.int,.int,.int,.int,.int,.int,.int,.int,.int,.int] true (.int .i64 0) (.t 37) (.t 39))) (.one (oE 47 1 46) (.one ⟨none,none,.op (.G7 (.t 37) (.t 47) (.t 45))⟩ (.nil))))) (.alt (o0 46 (.V2 [.int,.int,.int,.int,.int,.int,.int,.int,.int,.int,.int,.int,.int,.int,.int,.int,.int] true (.int .i64 0) (.t 37) (.t 39))) (.one (o0 40 (.lookup [.int,.int,.int,.int,.int,.int,.int,.int,.int,.int,.int,.int,.int,.int,.int,.int,.int] true (.int .i64 0) false (.t 37) (.t 39))) (.one (oP 45 .add 40 44) (.one (oE 47 1 46) (.one ⟨none,none,.op (.G7 (.t 37) (.t 47) (.t 45))⟩ (.nil))))) (.none))))))))))
def qc1 : AC := .region [oK 48 .add 33 1,oM 33 48]
def Bp : AC := .seq (.region [oP 34 .lss 33 32]) (.seq (.cond 34 .skip (.exit 2)) (.seq (.block 3 (.seq (.region [oX 35 18 31 33,oN 36 18 35,o0 11 (.alloc [.int .i64 0,.int .u8 0,.int .u8 0,.int .u8 0,.int .u8 0,.int .u8 0,.int .u8 0,.int .u8 0,.int .u8 0,.int .u8 0,.int .u8 0,.int .u8 0,.int .u8 0,.int .u8 0,.int .u8 0,.int .u8 0,.int .u8 0,.int .i64 0]),oS 18 11 36]) (.tree false Bd))) qc1))
def qdg : AC := .seq (.region [oM 49 7,oC 50 105 [.t 3,.t 49],oS 4 6 50]) .ret
def qdq : AC := .seq (.seq (.region [oF 30 3 4,oL 31 30,o0 32 (.len .slc (.t 31)),oI 33 0]) (.block 2 (.loop Bp))) qdg
def qnv : AC := .seq (.region [o0 3 (.box (.t 0)),o0 4 (.box (.t 1)),oZ 6]) (.seq (.region [o0 12 (.Gy),oM 7 12]) (.seq (.seq (.region [oF 13 3 3,oL 14 13,o0 15 (.len .slc (.t 14)),oI 16 0]) (.block 0 (.loop Gg))) qdq))
theorem qu6 : zl Try.prog 124 = some ⟨51, qnv, [.bg 6 4]⟩ := by kernel_rfl
theorem qvv (p c n p' c' k : Int) (a b : List (Int × List Nat × Int)) (hp : 2 ≤ p ∧ p ≤ 97) (hn : 0 ≤ n ∧ n ≤ 8) (ha : xh p n a) (hb : xh p n b) (hl : a.length ≤ 100000 ∧ b.length ≤ 100000) (hk : -1000001 ≤ k ∧ k ≤ 1000001) :
    Am.Fn Try.prog 124 [elemV p c n 0 a.length, elemV p' c' n 1 b.length, .int .i64 k] [.ro (qq a), .ro (qq b)] (fun v H' => v = elemV p c n 2 (zs p (xb k (xb 1 [] a) b)).length ∧ H' = [.ro (qq a), .ro (qq b), .vec 18 (qq (Ze (zs p (xb k (xb 1 [] a) b))))]) := by
  refine Am.Fn.ofB qcm mixed qu6 (by simp [elemV, AV.qp, AV.under]) (Qg (qb _) (qb _)) ?_
  have hal := qw ha.ok
  have hbl := qw hb.ok
  simp (maxSteps := 3000000) only [qh, zH, qnv, zi, vk, elemV, hal, Nat.le_refl, iE, iN, iB, iC, iL, iD, iA, iS, iM, qa, zZ, ↓qt, ↓reduceIte, reduceCtorEq, nA, nM, nS, nE, nL, nD]; try simp only [qa, zY]
  have hsum1 : ∀ i : Nat, i ≤ a.length → qcn n (100 * i) (xb 1 [] (a.take i)) ∧ (xb 1 [] (a.take i)).length ≤ i := fun i hi => by
    have h1 := W1 (n := n) (F := 100) (k := 1) (by omega) (b := a.take i) (acc := []) (M := 0) (by omega) sum_nil fun t ht => by
      have hm := List.mem_of_mem_take ht
      have h2 := ha.fac t hm
      exact ⟨ha.ok t hm, (ha.dia t hm).1, (ha.dia t hm).2, by omega, by omega⟩
    have h2 := qby (k := 1) (acc := []) (b := a.take i)
    rw [List.length_take, Nat.min_eq_left hi] at h1 h2
    exact ⟨by simpa using h1, by simpa using h2⟩
  refine WA.jh qcm (fun s => ∃ (i : Nat), i ≤ a.length ∧
      s = ⟨[(16, .int .i64 i), (15, .int .i64 a.length), (14, .slc 0 0 a.length false 0), (7, .map 5), (6, .ptr 4 0), (4, .ptr 3 0), (3, .ptr 2 0), (2, .int .i64 k)], [.ro (qq a), .ro (qq b), .cells [.int .i64 p, .int .i64 c, .int .i64 n, .slc 0 0 a.length false 0],
        .cells [.int .i64 p', .int .i64 c', .int .i64 n, .slc 1 0 b.length false 0], .cells [.int .i64 0, .int .i64 0, .int .i64 0, .v (.slice none 0 0)], v8 (xb 1 [] (a.take i))]⟩)
    (fun s => match get s.env 16 with | .int _ x => a.length - x.toNat | _ => 0) ⟨_, qx.qy [16, 15, 14, 7, 6, 4, 3, 2], 0, by omega, rfl⟩ ?_
  rintro s ⟨i, hi, rfl⟩
  obtain ⟨hS, hSl⟩ := hsum1 i hi
  by_cases hlt : i < a.length
  · have hli : (i : Int) < a.length := by omega
    have hli' : (0 : Int) ≤ i := by omega
    have hw : qm .i64 ((i : Int) + 1) = ((i + 1 : Nat) : Int) := by rw [wrap64 (by omega) (by omega)]; rfl
    have hd := Zi ha.ok hlt
    have hf := Bk ha.ok hlt
    have hg := kj ha.ok hlt
    have hok := ha.ok _ (List.getElem_mem hlt)
    have hsz := ha.dia _ (List.getElem_mem hlt)
    have hfc := ha.fac _ (List.getElem_mem hlt)
    have hb1 : i * 18 < a.length * 18 := by omega
    have hb2 : i * 18 + 18 ≤ a.length * 18 := by omega
    have hb3 : i * 18 + 17 < a.length * 18 := by omega
    have hn1 := qgf (k := 1) (a := []) hlt
    obtain ⟨t, ht⟩ : ∃ t, t = a[i] := ⟨_, rfl⟩
    rw [← ht] at hd hf hg hok hsz hfc hn1
    clear ht
    obtain ⟨tn, m, f⟩ := t
    simp only at hd hf hg hok hsz hfc hn1
    obtain ⟨hsz1, hs⟩ := hsz
    have hsz1 := hsz1.symm
    subst hsz1
    have hov := kd (t := (0, List.replicate 16 0, 0)) (u := (n, m, f)) (by simp) hok.1
    have htl := z8 (t := (n, m, f)) hok
    have htd := qap (t := (n, m, f)) hok
    have htf := b9 (t := (n, m, f)) hok
    simp (maxSteps := 3000000) only [qh, zH, Gg, zi, vk, hli, hli', hal, hb1, hb2, hb3, hw, hg, jo, htl, wc, ui, hov, iE, iN, iB, iC, iL, iD, iA, iS, iM, qa, zZ, ↓qt, ↓reduceIte, reduceCtorEq, nA, nM, nS, nE, nL, nD]; try simp only [qa, zY]
    refine WA.qlh qcm (fun s => s = ⟨[(16, .int .i64 i), (15, .int .i64 a.length), (14, .slc 0 0 a.length false 0), (7, .map 5), (6, .ptr 4 0), (4, .ptr 3 0), (3, .ptr 2 0), (2, .int .i64 k)], [.ro (qq a), .ro (qq b), .cells [.int .i64 p, .int .i64 c, .int .i64 n, .slc 0 0 a.length false 0],
        .cells [.int .i64 p', .int .i64 c', .int .i64 n, .slc 1 0 b.length false 0], .cells [.int .i64 0, .int .i64 0, .int .i64 0, .v (.slice none 0 0)], v8 (xb 1 [] (a.take (i + 1)))]⟩) ?_ ?_
    · rw [hn1, Int.one_mul]
      generalize xb 1 [] (a.take i) = S at hS hSl
      have hmT : v8 S = .map (esT 0 S) S.length := rfl
      have hkok : kok KD true (.agg (dia n m)) = true := qec hok.1
      cases hix : Zb n m S with
      | none =>
        obtain ⟨f1, f2, f3, f4, f5⟩ := qio hok hS.ok hix
        have hw0 : qm .i64 (0 + f) = f := by rw [wrap64 (by omega) (by omega)]; omega
        unfold Bz
        simp (maxSteps := 3000000) only [qh, zH, zi, vk, J4, Ym, hmT, hkok, f1, f2, f3, f4, htl, htd, htf, hw0, jg, iE, iN, iB, iC, iL, iD, iA, iS, iM, qa, zZ, ↓qt, ↓reduceIte, reduceCtorEq, nA, nM, nS, nE, nL, nD]; try simp only [qa, zY]
        refine ⟨⟨_, qx.xf [0, 1, 2, 3, 4, 5] [16, 15, 14, 7, 6, 4, 3, 2] ⟨by decide, ?_⟩ ?_, ?_⟩, _, qx.xf [0, 1, 2, 3, 4, 5] [16, 15, 14, 7, 6, 4, 3, 2] ⟨by decide, ?_⟩ ?_, ?_⟩
        · simp only [qd _ _ (qb _), ↓zj, zK, ↓reduceIte, reduceCtorEq, nE, nB, nA]
        · simp only [qd _ _ (qb _), ↓zj, zK, ↓reduceIte, reduceCtorEq, nE, nB, nA]
        · simp only [qc _ _ (qb _), ↓yl, zL, ↓reduceIte, reduceCtorEq, nE, nA]
          rw [v8, f5]
        · simp only [qd _ _ (qb _), ↓zj, zK, ↓reduceIte, reduceCtorEq, nE, nB, nA]
        · simp only [qd _ _ (qb _), ↓zj, zK, ↓reduceIte, reduceCtorEq, nE, nB, nA]
        · simp only [qc _ _ (qb _), ↓yl, zL, ↓reduceIte, reduceCtorEq, nE, nA]
          rw [v8, f5]
      | some j =>
        obtain ⟨f1, f2, f3, f4, f5⟩ := qip hok.1 hS.ok hix
        have hj := Gj hix
        have hfj := hS.fac _ (show S.getD j zT ∈ S by rw [X4 hj.1]; exact List.getElem_mem _)
        have hw0 : qm .i64 ((S.getD j zT).2.2 + f) = (S.getD j zT).2.2 + f := wrap64 (by omega) (by omega)
        unfold Bz
        simp (maxSteps := 3000000) only [qh, zH, zi, vk, J4, Ym, hmT, hkok, f1, f2, f3, f4, htl, htd, htf, hw0, jg, iE, iN, iB, iC, iL, iD, iA, iS, iM, qa, zZ, ↓qt, ↓reduceIte, reduceCtorEq, nA, nM, nS, nE, nL, nD]; try simp only [qa, zY]
        refine ⟨⟨_, qx.xf [0, 1, 2, 3, 4, 5] [16, 15, 14, 7, 6, 4, 3, 2] ⟨by decide, ?_⟩ ?_, ?_⟩, _, qx.xf [0, 1, 2, 3, 4, 5] [16, 15, 14, 7, 6, 4, 3, 2] ⟨by decide, ?_⟩ ?_, ?_⟩
        · simp only [qd _ _ (qb _), ↓zj, zK, ↓reduceIte, reduceCtorEq, nE, nB, nA]
        · simp only [qd _ _ (qb _), ↓zj, zK, ↓reduceIte, reduceCtorEq, nE, nB, nA]
        · simp only [qc _ _ (qb _), ↓yl, zL, ↓reduceIte, reduceCtorEq, nE, nA]
          rw [v8, f5]
        · simp only [qd _ _ (qb _), ↓zj, zK, ↓reduceIte, reduceCtorEq, nE, nB, nA]
        · simp only [qd _ _ (qb _), ↓zj, zK, ↓reduceIte, reduceCtorEq, nE, nB, nA]
        · simp only [qc _ _ (qb _), ↓yl, zL, ↓reduceIte, reduceCtorEq, nE, nA]
          rw [v8, f5]
    · rintro s rfl
      simp (maxSteps := 3000000) only [qh, zH, qcy, zi, vk, hw, iE, iN, iB, iC, iL, iD, iA, iS, iM, qa, zZ, ↓qt, ↓reduceIte, reduceCtorEq, nA, nM, nS, nE, nL, nD]; try simp only [qa, zY]
      refine ⟨_, qx.qy [16, 15, 14, 7, 6, 4, 3, 2], ⟨i + 1, by omega, rfl⟩, ?_⟩
      simp only [zL, ↓reduceIte, reduceCtorEq, nE, nA]; omega
  have hli : ¬ ((i : Int) < a.length) := by omega
  obtain rfl : i = a.length := by omega
  have htk : a.take a.length = a := List.take_length
  rw [htk] at hS hSl
  have hmT : v8 (xb 1 [] (a.take a.length)) = v8 (xb 1 [] a) := by rw [htk]
  simp (maxSteps := 3000000) only [qh, zH, Gg, qdq, zi, vk, hli, hmT, Int.lt_irrefl, hbl, iE, iN, iB, iC, iL, iD, iA, iS, iM, qa, zZ, ↓qt, ↓reduceIte, reduceCtorEq, nA, nM, nS, nE, nL, nD]; try simp only [qa, zY]
  have hsum2 : ∀ i : Nat, i ≤ b.length → qcn n (10000000 + 100000000 * i) (xb k (xb 1 [] a) (b.take i)) ∧ (xb k (xb 1 [] a) (b.take i)).length ≤ a.length + i := fun i hi => by
    have h1 := W1 (n := n) (F := 100000000) (k := k) (by omega) (b := b.take i) (acc := xb 1 [] a) (M := 100 * a.length) (by omega) hS fun t ht => by
      have hm := List.mem_of_mem_take ht
      have h2 := hb.fac t hm
      have h3 : -1000001 * t.2.2 ≤ k * t.2.2 := Int.mul_le_mul_of_nonneg_right (by omega) (by omega)
      have h4 : k * t.2.2 ≤ 1000001 * t.2.2 := Int.mul_le_mul_of_nonneg_right (by omega) (by omega)
      generalize k * t.2.2 = q at h3 h4 ⊢
      exact ⟨hb.ok t hm, (hb.dia t hm).1, (hb.dia t hm).2, by omega, by omega⟩
    have h2 := qby (k := k) (acc := xb 1 [] a) (b := b.take i)
    rw [List.length_take, Nat.min_eq_left hi] at h1 h2
    exact ⟨⟨h1.ok, h1.dia, fun t ht => by have := h1.fac t ht; omega, h1.one⟩, by omega⟩
  refine WA.jh qcm (fun s => ∃ (i : Nat), i ≤ b.length ∧
      s = ⟨[(33, .int .i64 i), (32, .int .i64 b.length), (31, .slc 1 0 b.length false 0), (7, .map 5), (6, .ptr 4 0), (3, .ptr 2 0), (2, .int .i64 k)], [.ro (qq a), .ro (qq b), .cells [.int .i64 p, .int .i64 c, .int .i64 n, .slc 0 0 a.length false 0],
        .cells [.int .i64 p', .int .i64 c', .int .i64 n, .slc 1 0 b.length false 0], .cells [.int .i64 0, .int .i64 0, .int .i64 0, .v (.slice none 0 0)], v8 (xb k (xb 1 [] a) (b.take i))]⟩)
    (fun s => match get s.env 33 with | .int _ x => b.length - x.toNat | _ => 0) ⟨_, qx.qy [33, 32, 31, 7, 6, 3, 2], 0, by omega, rfl⟩ ?_
  clear hS hSl hmT htk hi hlt hli
  rintro s ⟨i, hi, rfl⟩
  obtain ⟨hS, hSl⟩ := hsum2 i hi
  by_cases hlt : i < b.length
  · have hli : (i : Int) < b.length := by omega
    have hli' : (0 : Int) ≤ i := by omega
    have hw : qm .i64 ((i : Int) + 1) = ((i + 1 : Nat) : Int) := by rw [wrap64 (by omega) (by omega)]; rfl
    have hd := Zi hb.ok hlt
    have hf := Bk hb.ok hlt
    have hg := kj hb.ok hlt
    have hok := hb.ok _ (List.getElem_mem hlt)
    have hsz := hb.dia _ (List.getElem_mem hlt)
    have hfc := hb.fac _ (List.getElem_mem hlt)
    have hb1 : i * 18 < b.length * 18 := by omega
    have hb2 : i * 18 + 18 ≤ b.length * 18 := by omega
    have hn1 := qgf (k := k) (a := xb 1 [] a) hlt
    obtain ⟨t, ht⟩ : ∃ t, t = b[i] := ⟨_, rfl⟩
    rw [← ht] at hd hf hg hok hsz hfc hn1
    clear ht
    obtain ⟨tn, m, f⟩ := t
    simp only at hd hf hg hok hsz hfc hn1
    obtain ⟨hsz1, hs⟩ := hsz
    have hsz1 := hsz1.symm
    subst hsz1
    have hov := kd (t := (0, List.replicate 16 0, 0)) (u := (n, m, f)) (by simp) hok.1
    have htl := z8 (t := (n, m, f)) hok
    have htd := qap (t := (n, m, f)) hok
    have htf := b9 (t := (n, m, f)) hok
    have hkf : -100000000 ≤ k * f ∧ k * f ≤ 100000000 := by
      have h1 : -1000001 * f ≤ k * f := Int.mul_le_mul_of_nonneg_right (by omega) (by omega)
      have h2 : k * f ≤ 1000001 * f := Int.mul_le_mul_of_nonneg_right (by omega) (by omega)
      generalize k * f = q at h1 h2 ⊢
      omega
    obtain ⟨kf, hkfe⟩ : ∃ kf, kf = k * f := ⟨_, rfl⟩
    have hwk : qm .i64 (k * f) = kf := by rw [hkfe]; exact wrap64 (by omega) (by omega)
    rw [← hkfe] at hkf hn1
    simp (maxSteps := 3000000) only [qh, zH, Bp, zi, vk, hli, hli', hbl, hb1, hb2, hw, hg, jo, htl, wc, ui, hov, iE, iN, iB, iC, iL, iD, iA, iS, iM, qa, zZ, ↓qt, ↓reduceIte, reduceCtorEq, nA, nM, nS, nE, nL, nD]; try simp only [qa, zY]
    refine WA.qlh qcm (fun s => s = ⟨[(33, .int .i64 i), (32, .int .i64 b.length), (31, .slc 1 0 b.length false 0), (7, .map 5), (6, .ptr 4 0), (3, .ptr 2 0), (2, .int .i64 k)], [.ro (qq a), .ro (qq b), .cells [.int .i64 p, .int .i64 c, .int .i64 n, .slc 0 0 a.length false 0],
        .cells [.int .i64 p', .int .i64 c', .int .i64 n, .slc 1 0 b.length false 0], .cells [.int .i64 0, .int .i64 0, .int .i64 0, .v (.slice none 0 0)], v8 (xb k (xb 1 [] a) (b.take (i + 1)))]⟩) ?_ ?_
    · rw [hn1]
      generalize xb k (xb 1 [] a) (b.take i) = S at hS hSl
      have hmT : v8 S = .map (esT 0 S) S.length := rfl
      have hkok : kok KD true (.agg (dia n m)) = true := qec hok.1
      cases hix : Zb n m S with
      | none =>
        obtain ⟨f1, f2, f3, f4, f5⟩ := qio hok hS.ok hix
        have hw0 : qm .i64 (0 + kf) = kf := by rw [wrap64 (by omega) (by omega)]; omega
        unfold Bd
        simp (maxSteps := 3000000) only [qh, zH, zi, vk, J4, Ym, hmT, hkok, f1, f2, f3, f4, htl, htd, htf, hw0, hwk, jg, iE, iN, iB, iC, iL, iD, iA, iS, iM, qa, zZ, ↓qt, ↓reduceIte, reduceCtorEq, nA, nM, nS, nE, nL, nD]; try simp only [qa, zY]
        refine ⟨⟨_, qx.xf [0, 1, 2, 3, 4, 5] [33, 32, 31, 7, 6, 3, 2] ⟨by decide, ?_⟩ ?_, ?_⟩, _, qx.xf [0, 1, 2, 3, 4, 5] [33, 32, 31, 7, 6, 3, 2] ⟨by decide, ?_⟩ ?_, ?_⟩
        · simp only [qd _ _ (qb _), ↓zj, zK, ↓reduceIte, reduceCtorEq, nE, nB, nA]
        · simp only [qd _ _ (qb _), ↓zj, zK, ↓reduceIte, reduceCtorEq, nE, nB, nA]
        · simp only [qc _ _ (qb _), ↓yl, zL, ↓reduceIte, reduceCtorEq, nE, nA]
          rw [v8, f5]
        · simp only [qd _ _ (qb _), ↓zj, zK, ↓reduceIte, reduceCtorEq, nE, nB, nA]
        · simp only [qd _ _ (qb _), ↓zj, zK, ↓reduceIte, reduceCtorEq, nE, nB, nA]
        · simp only [qc _ _ (qb _), ↓yl, zL, ↓reduceIte, reduceCtorEq, nE, nA]
          rw [v8, f5]
      | some j =>
        obtain ⟨f1, f2, f3, f4, f5⟩ := qip hok.1 hS.ok hix
        have hj := Gj hix
        have hfj := hS.fac _ (show S.getD j zT ∈ S by rw [X4 hj.1]; exact List.getElem_mem _)
        have hw0 : qm .i64 ((S.getD j zT).2.2 + kf) = (S.getD j zT).2.2 + kf := wrap64 (by omega) (by omega)
        unfold Bd
        simp (maxSteps := 3000000) only [qh, zH, zi, vk, J4, Ym, hmT, hkok, f1, f2, f3, f4, htl, htd, htf, hw0, hwk, jg, iE, iN, iB, iC, iL, iD, iA, iS, iM, qa, zZ, ↓qt, ↓reduceIte, reduceCtorEq, nA, nM, nS, nE, nL, nD]; try simp only [qa, zY]
        refine ⟨⟨_, qx.xf [0, 1, 2, 3, 4, 5] [33, 32, 31, 7, 6, 3, 2] ⟨by decide, ?_⟩ ?_, ?_⟩, _, qx.xf [0, 1, 2, 3, 4, 5] [33, 32, 31, 7, 6, 3, 2] ⟨by decide, ?_⟩ ?_, ?_⟩
        · simp only [qd _ _ (qb _), ↓zj, zK, ↓reduceIte, reduceCtorEq, nE, nB, nA]
        · simp only [qd _ _ (qb _), ↓zj, zK, ↓reduceIte, reduceCtorEq, nE, nB, nA]
        · simp only [qc _ _ (qb _), ↓yl, zL, ↓reduceIte, reduceCtorEq, nE, nA]
          rw [v8, f5]
        · simp only [qd _ _ (qb _), ↓zj, zK, ↓reduceIte, reduceCtorEq, nE, nB, nA]
        · simp only [qd _ _ (qb _), ↓zj, zK, ↓reduceIte, reduceCtorEq, nE, nB, nA]
        · simp only [qc _ _ (qb _), ↓yl, zL, ↓reduceIte, reduceCtorEq, nE, nA]
          rw [v8, f5]
    · rintro s rfl
      simp (maxSteps := 3000000) only [qh, zH, qc1, zi, vk, hw, iE, iN, iB, iC, iL, iD, iA, iS, iM, qa, zZ, ↓qt, ↓reduceIte, reduceCtorEq, nA, nM, nS, nE, nL, nD]; try simp only [qa, zY]
      refine ⟨_, qx.qy [33, 32, 31, 7, 6, 3, 2], ⟨i + 1, by omega, rfl⟩, ?_⟩
      simp only [zL, ↓reduceIte, reduceCtorEq, nE, nA]; omega
  have hli : ¬ ((i : Int) < b.length) := by omega
  obtain rfl : i = b.length := by omega
  have htk : b.take b.length = b := List.take_length
  rw [htk] at hS hSl ⊢
  have hap := qi4 hS
  obtain ⟨hz1, hz2, hz3⟩ := qvi (p := p) hn hS
  have hSo := hS.ok
  generalize xb k (xb 1 [] a) b = S at *
  have hmT : v8 S = .map (esT 0 S) S.length := rfl
  have hts := qje (ts := S) (k := 0) hSo
  have hSl' : S.length ≤ 1000000 := by omega
  have hpp : 0 < p ∧ p ≤ 1000000 := by omega
  simp (maxSteps := 3000000) only [qh, zH, Bp, qdg, zi, vk, hli, hmT, Int.lt_irrefl, hts, hpp, hSl', hz1, hz2, hz3, hap, and_self, elemV, iE, iN, iB, iC, iL, iD, iA, iS, iM, qa, zZ, ↓qt, ↓reduceIte, reduceCtorEq, nA, nM, nS, nE, nL, nD]; try simp only [qa, zY]
  refine ⟨hz2, rfl, ?_⟩
  refine Ret.xf [0, 1, 6] ⟨⟨by simp, rfl, by decide⟩, ?_⟩ (rs := [.agg [.int .i64 p, .int .i64 c, .int .i64 n, .slc 6 0 (zs p S).length false 0]]) rfl rfl (by simp [zt]) ?_ ⟨?_, ?_⟩
  · simp only [qd _ _ (qb _), ↓zj, zK, ↓reduceIte, reduceCtorEq, nE, nB, nA]
  · intro j l; match j with
    | 0 => simp [q7, AO.ren]
    | 1 => simp [q7, AO.ren]
    | 2 => simp [q7, AO.ren]
    | j + 3 => simp [q7]
  · simp only [zt]
    simp only [zL, ↓reduceIte, reduceCtorEq, nE, nA]
  · simp only [qc _ _ (qb _), zL, ↓reduceIte, reduceCtorEq, nE, nA]
theorem qe5 {n k : Int} {m : List Nat} : ∀ {b acc : List (Int × List Nat × Int)}, (∀ t ∈ acc, t.1 = n) → (∀ t ∈ b, t.1 = n) → cf m (xb k acc b) = cf m acc + k * cf m b ∧ ∀ t ∈ xb k acc b, t.1 = n
  | [], acc, h, _ => ⟨by simp [xb, cf], h⟩
  | t :: b, acc, h, hb => by
    have h0 := hb t (List.mem_cons_self ..)
    have h1 : ∀ u ∈ Zc t.1 t.2.1 (k * t.2.2) acc, u.1 = n := fun u hu => by
      rcases Wz hu with ⟨v, hv, e, _⟩ | ⟨rfl, _⟩
      · rw [e]; exact h v hv
      · exact h0
    have ih := qe5 (k := k) (m := m) (b := b) h1 fun u hu => hb u (List.mem_cons_of_mem _ hu)
    have e : xb k acc (t :: b) = xb k (Zc t.1 t.2.1 (k * t.2.2) acc) b := rfl
    rw [e]
    refine ⟨?_, ih.2⟩
    have h2 := qju (f := k * t.2.2) (m := m) (m' := t.2.1) h
    rw [← h0] at h2
    rw [ih.1, h2, cf, Int.mul_add]
    split
    · omega
    · rw [Int.mul_zero]; omega
theorem qqo {p n k : Int} {m : List Nat} {ts : List (Int × List Nat × Int)} (h : ∀ t ∈ ts, t.1 = n) : ∀ t ∈ j8 p ts n m k, t.1 = n := fun t ht => by
  rw [Gl] at ht
  split at ht
  · exact h t ht
  · rcases W0 ht with h1 | ⟨h1, _⟩
    · exact h t h1
    · exact h1
theorem qrl {p n k : Int} {m : List Nat} : ∀ {b acc : List (Int × List Nat × Int)}, (∀ t ∈ acc, t.1 = n) → p ∣ cf m (qcj p n k acc b) - (cf m acc + k * cf m b)
  | [], acc, h => by simp [qcj, cf]
  | t :: b, acc, h => by
    have ih := qrl (p := p) (k := k) (m := m) (b := b) (qqo (p := p) (m := t.2.1) (k := k * t.2.2) h)
    have h1 := qqf (p := p) (k := k * t.2.2) (m := m) (m' := t.2.1) h
    have e : qcj p n k acc (t :: b) = qcj p n k (j8 p acc n t.2.1 (k * t.2.2)) b := rfl
    rw [e]
    refine kc ih h1 ?_
    rw [cf, Int.mul_add]
    split
    · omega
    · rw [Int.mul_zero]; omega
theorem qwo {p n k M : Int} {a b : List (Int × List Nat × Int)} (hp : 0 < p) (ha : xh p n a) (hb : xh p n b) (h : qcn n M (xb k (xb 1 [] a) b)) : Ze (zs p (xb k (xb 1 [] a) b)) = qcj p n k a b := by
  have ha' : ∀ t ∈ a, t.1 = n := fun t ht => (ha.dia t ht).1
  have hb' : ∀ t ∈ b, t.1 = n := fun t ht => (hb.dia t ht).1
  refine qcx hp (qmw hp h) (qsi hp ha hb).1 fun m => ?_
  have h1 := qe5 (n := n) (k := 1) (m := m) (acc := []) (b := a) (by simp) ha'
  have h2 := qe5 (k := k) (m := m) h1.2 hb'
  have h3 := qqu (p := p) (m := m) (S := xb k (xb 1 [] a) b)
  have h4 := qrl (p := p) (k := k) (m := m) (b := b) ha'
  refine qe4 h3 h4 ?_
  rw [h2.1, h1.1]
  simp only [cf]; omega
theorem qw7 {p n k : Int} {a b : List (Int × List Nat × Int)} (hp : 2 ≤ p ∧ p ≤ 97) (ha : xh p n a) (hb : xh p n b) (hk : -1000001 ≤ k ∧ k ≤ 1000001) : ∃ M, qcn n M (xb k (xb 1 [] a) b) := by
  have h1 := W1 (n := n) (F := 100) (k := 1) (by omega) (b := a) (acc := []) (M := 0) (by omega) sum_nil fun t hm => by
    have h2 := ha.fac t hm
    exact ⟨ha.ok t hm, (ha.dia t hm).1, (ha.dia t hm).2, by omega, by omega⟩
  exact ⟨_, W1 (n := n) (F := 100000000) (k := k) (by omega) (b := b) (by omega) h1 fun t hm => by
    have h2 := hb.fac t hm
    have h3 : -1000001 * t.2.2 ≤ k * t.2.2 := Int.mul_le_mul_of_nonneg_right (by omega) (by omega)
    have h4 : k * t.2.2 ≤ 1000001 * t.2.2 := Int.mul_le_mul_of_nonneg_right (by omega) (by omega)
    generalize k * t.2.2 = q at h3 h4 ⊢
    exact ⟨hb.ok t hm, (hb.dia t hm).1, (hb.dia t hm).2, by omega, by omega⟩⟩
def U9 : BE := fun hp xs => match xs with
  | [.agg [.int .i64 p, .int .i64 c, .int .i64 n, .slc b 0 la false 0], .agg [.int .i64 p', .int .i64 c', .int .i64 n', .slc b' 0 lb false 0], .int .i64 k] => match rd hp b, rd hp b' with
    | some L, some L' => match kv la L, kv lb L' with
      | some ta, some tb => chk ((((2 ≤ p ∧ p ≤ 97) ∧ (0 ≤ n ∧ n ≤ 8) ∧ n' = n) ∧ qa0 p n ta ∧ qa0 p n tb) ∧ (ta.length ≤ 100000 ∧ tb.length ≤ 100000) ∧ (-1000001 ≤ k ∧ k ≤ 1000001)) (some (elemV p c n hp.length (qcj p n k ta tb).length, hp ++ [.vec 18 (qq (qcj p n k ta tb))]))
      | _, _ => none
    | _, _ => none
  | _ => none
theorem q0b : Am.Callee Try.prog 124 U9 := Callee.fp fun hp xs v hp' he => by
  unfold U9 at he
  split at he
  · rename_i p c n b la p' c' n' b' lb k
    split at he
    · rename_i L L' hL hL'
      split at he
      · rename_i ta tb h1 h1'
        obtain ⟨⟨⟨⟨a1, a2, a3⟩, a4, a5⟩, a6, a7⟩, he2⟩ := qk he
        simp only [Option.some.injEq, Prod.mk.injEq] at he2
        obtain ⟨rfl, rfl⟩ := he2
        obtain ⟨e1, e2, e3, e4⟩ := ju h1
        obtain ⟨f1, f2, f3, f4⟩ := ju h1'
        have g1 := qw e2
        have g2 := qw f2
        subst a3
        have hfn := qvv p c n' p' c' k ta tb a1 a2 (a4.qni e2) (a5.qni f2) a6 a7
        obtain ⟨M, hM⟩ := qw7 a1 (a4.qni e2) (a5.qni f2) a7
        have hlaw := qwo (by omega) (a4.qni e2) (a5.qni f2) hM
        have hlen : (zs p (xb k (xb 1 [] ta) tb)).length = (qcj p n' k ta tb).length := by rw [← hlaw]; exact (bu _).length_eq.symm
        rw [hlaw, hlen] at hfn
        refine ⟨[(b, 0), (b', 0)], [elemV p c n' 0 ta.length, elemV p' c' n' 1 tb.length, .int .i64 k], _, _, _, hfn, by simp [elemV, AV.ren, AV.zg, ofL, e1, f1], rfl,
          ⟨⟨L, hL, by omega, by rw [List.drop_zero, qc _ _ (qb _), g1, e1]; exact e3⟩, ⟨L', hL', by omega, by rw [List.drop_zero, qc _ _ (qb _), g2, f1]; exact f3⟩, trivial⟩, rfl,
          ⟨qi _ _ (qb _), qi _ _ (qb _), trivial⟩, ⟨⟨trivial, trivial, trivial, by simp [AV.under], trivial⟩, ⟨trivial, trivial, trivial, by simp [AV.under], trivial⟩, trivial, trivial⟩, by simp [elemV, AV.ren, AV.zg, Ren.ext], ?_⟩
        simp [after, upd, AO.wr, AO.ren, qc _ _ (qb _)]
      · cases he
    · cases he
  · cases he
def B38 : zk := (B37.put 124 (U9))
theorem q0o : qu Try.prog B38 := (qcm.put (q0b))
abbrev qg7 : AO := .cells [.int .i64 0, .int .i64 0, .int .i64 0, .v (.slice none 0 0)]
theorem qd9 {l : List AV} (hl : AV.zh l = true) {env : Env} {hp : List AO} {s t j : Nat} {e : Int} (h0 : hp[0]? = some (.ro l)) (hs : get env s = .ptr j 0) (hj : hp[j]? = some qg7) (ht : get env t = .int .i64 e) (hst : s ≠ t) :
    ∃ s', qx 1 ⟨env, hp⟩ s' ∧ Ret [.bg s 4, .slot t] [.ro l] (fun v H' => v = .tup [elemV 0 0 0 1 0, .int .i64 e] ∧ H' = [.ro l, .vec 18 []]) s' := by
  have hj0 : j ≠ 0 := fun e => by subst e; rw [h0] at hj; cases hj
  have hj0' : 0 ≠ j := fun e => hj0 e.symm
  have hk := qx.xf (n0 := 1) (e := env) (hp := hp) [0, j] [s, t] ⟨⟨by simp, rfl, by simp [hj0']⟩, fun i hi => by
    simp only [List.mem_cons, List.not_mem_nil, or_false] at hi
    rcases hi with rfl | rfl
    · rw [h0]; exact qd _ _ hl
    · rw [hj]; rfl⟩ fun u hu => by
    simp only [List.mem_cons, List.not_mem_nil, or_false] at hu
    rcases hu with rfl | rfl
    · rw [hs]; simp [AV.within]
    · rw [ht]; rfl
  have e1 : Wk [0, j] env [s, t] = [(s, .ptr 1 0), (t, .int .i64 e)] := by
    simp only [Wk, List.map_cons, List.map_nil, hs, ht, AV.ren, qa8, pos, if_neg hj0', if_true, Nat.zero_add, Nat.add_zero]
  have e2 : q7 [0, j] hp = [.ro l, qg7] := by
    simp only [q7, List.map_cons, List.map_nil, h0, hj, AO.ren, qc _ _ hl]
    rfl
  rw [e1, e2] at hk
  have hn := qx.q1b (n0 := 1) (hp := [.ro l, qg7]) (e := [(s, .ptr 1 0), (t, .int .i64 e)]) 1 3 18 rfl rfl (by simp) (fun p hp => by
    simp only [List.mem_cons, List.not_mem_nil, or_false] at hp
    rcases hp with rfl | rfl
    · simp [AV.under]
    · trivial) (fun o ho => by
    simp only [List.mem_cons, List.not_mem_nil, or_false] at ho
    rcases ho with rfl | rfl
    · exact qi _ _ hl
    · exact ⟨trivial, trivial, trivial, trivial, trivial⟩)
  refine ⟨_, qx.trans hk hn, ?_⟩
  refine Ret.xf [0, 2] ⟨⟨by simp, rfl, by decide⟩, ?_⟩ (rs := [.agg [.int .i64 0, .int .i64 0, .int .i64 0, .slc 2 0 0 false 0], .int .i64 e]) ?_ rfl (by simp [zt]) ?_ ⟨?_, ?_⟩
  · intro i hi
    simp only [List.mem_cons, List.not_mem_nil, or_false] at hi
    rcases hi with rfl | rfl
    · exact qd _ _ hl
    · rfl
  · have hts : t ≠ s := fun e => hst e.symm
    simp [J7, Am.get, zn, hst, hts, qe, ev, rd, chk]
  · intro i m; match i with
    | 0 => exact fun _ => ⟨_, rfl⟩
    | 1 => simp [q7, AO.ren]
    | i + 2 => simp [q7]
  · simp only [zt]
    rfl
  · simp [q7, AO.ren, qc _ _ hl, AV.zg]
theorem qvp {l L : List AV} (hl : AV.zh l = true) (hL : AV.zh L = true) {env : Env} {hp : List AO} {s t j b k : Nat} {p c n e : Int} (h0 : hp[0]? = some (.ro l)) (hs : get env s = .ptr j 0)
    (hj : hp[j]? = some (.cells [.int .i64 p, .int .i64 c, .int .i64 n, .slc b 0 k false 0])) (hb : hp[b]? = some (.vec 18 L)) (ht : get env t = .int .i64 e) :
    Ret [.bg s 4, .slot t] [.ro l] (fun v H' => v = .tup [elemV p c n 1 k, .int .i64 e] ∧ H' = [.ro l, .vec 18 L]) ⟨env, hp⟩ := by
  have hb0 : 0 ≠ b := fun e => by subst e; rw [h0] at hb; cases hb
  refine Ret.xf [0, b] ⟨⟨by simp, rfl, by simp [hb0]⟩, ?_⟩ (rs := [.agg [.int .i64 p, .int .i64 c, .int .i64 n, .slc b 0 k false 0], .int .i64 e]) ?_ (by simp [zt, AV.within, AV.zy]) (by simp [zt]) ?_ ⟨?_, ?_⟩
  · intro i hi
    simp only [List.mem_cons, List.not_mem_nil, or_false] at hi
    rcases hi with rfl | rfl
    · rw [h0]; exact qd _ _ hl
    · rw [hb]; exact qd _ _ hL
  · simp [J7, hs, ht, qe, ev, rd, hj, chk]
  · intro i m; match i with
    | 0 => exact fun _ => ⟨_, rfl⟩
    | 1 => simp [q7, hb, AO.ren]
    | i + 2 => simp [q7]
  · simp only [zt, AV.ren, AV.zg, qa8, pos, if_neg hb0, if_true]
    rfl
  · simp [q7, h0, hb, AO.ren, qc _ _ hl, qc _ _ hL]
def qqj (l : List AV) (r : Int × Int × Int × List (Int × List Nat × Int) × Int) (v : AV) (H' : List AO) : Prop :=
  v = .tup [elemV r.1 r.2.1 r.2.2.1 1 r.2.2.2.1.length, .int .i64 r.2.2.2.2] ∧ H' = [.ro l, .vec 18 (qq r.2.2.2.1)]
abbrev ER := Int × Int × Int × List (Int × List Nat × Int) × Int
def q1y (r : ER) : Prop := okT r.2.2.2.1 ∧ r.2.2.2.1.length ≤ 300
def B39 : zk := B38
theorem qfq : qu Try.prog B39 := q0o
structure NC (L : Nat) (F : Nat → Nat) : Prop where
  lt : ∀ k, k < L → F k < L
  inv : ∀ k, k < L → F (F k) = k
  fix : ∀ k, k < L → F k ≠ k
  v7 : ∀ j l, j < L → l < L → ¬(j < l ∧ l < F j ∧ F j < F l)
def mf (n : Nat) (m : List Nat) (k : Nat) : Nat := place n (m.getD (place n k) 0)
theorem xm {n : Nat} {m : List Nat} (h : isS n m = true) : (1 ≤ n ∧ n ≤ 8) ∧ (∀ i, i < 2 * n → m.getD i 0 < 2 * n ∧ m.getD i 0 ≠ i ∧ m.getD (m.getD i 0) 0 = i) ∧ ∀ i, 2 * n ≤ i → i < 16 → m.getD i 0 = 0 := by
  unfold isS at h
  simp only [Bool.and_eq_true, decide_eq_true_eq] at h
  obtain ⟨hn, hp, hc⟩ := h
  refine ⟨hn, fun i hi => ?_, fun i hi hi' => ?_⟩
  · have := List.all_eq_true.1 hp i (List.mem_range.2 (by omega))
    rw [if_neg (by omega)] at this
    simpa using this
  · have := List.all_eq_true.1 hp i (List.mem_range.2 hi')
    rw [if_pos hi] at this
    simpa using this
theorem qks {n : Nat} {m : List Nat} (h : isS n m = true) : NC (2 * n) (mf n m) := by
  obtain ⟨hn, hp', hz⟩ := xm h
  unfold isS at h
  simp only [Bool.and_eq_true, decide_eq_true_eq] at h
  obtain ⟨_, _, hc⟩ := h
  refine ⟨fun k hk => ze (hp' _ (ze hk)).1, fun k hk => ?_, fun k hk e => ?_, ?_⟩
  · show place n (m.getD (place n (place n (m.getD (place n k) 0))) 0) = k
    rw [zd (hp' _ (ze hk)).1, (hp' _ (ze hk)).2.2, zd hk]
  · apply (hp' _ (ze hk)).2.1
    rw [← zd (hp' _ (ze hk)).1]
    show place n (mf n m k) = place n k
    rw [e]
  · rintro j l hj hl ⟨b1, b2, b3⟩
    have h1 := List.all_eq_true.1 (List.all_eq_true.1 hc (place n j) (List.mem_range.2 (ze hj))) (place n l) (List.mem_range.2 (ze hl))
    simp only [Kk, Ke, zd hj, zd hl, Bool.not_eq_true', decide_eq_false_iff_not] at h1
    apply h1
    show min j (mf n m j) < min l (mf n m l) ∧ min l (mf n m l) < max j (mf n m j) ∧ max j (mf n m j) < max l (mf n m l)
    omega
theorem qz7 {n : Nat} {m : List Nat} (hn : 1 ≤ n ∧ n ≤ 8) (hz : ∀ i, 2 * n ≤ i → i < 16 → m.getD i 0 = 0) (hl : ∀ i, i < 2 * n → m.getD i 0 < 2 * n) (h : NC (2 * n) (mf n m)) : isS n m = true := by
  have hm : ∀ i, i < 2 * n → mf n m (place n i) = place n (m.getD i 0) := fun i hi => by unfold mf; rw [zd hi]
  unfold isS
  simp only [Bool.and_eq_true, decide_eq_true_eq]
  refine ⟨hn, List.all_eq_true.2 fun i hi => ?_, List.all_eq_true.2 fun i hi => List.all_eq_true.2 fun k hk => ?_⟩
  · have hi' := List.mem_range.1 hi
    split
    · rename_i g1; simpa using hz i g1 hi'
    · rename_i g1
      have hi2 : i < 2 * n := by omega
      have h1 := hl i hi2
      simp only [decide_eq_true_eq]
      refine ⟨h1, fun e => ?_, ?_⟩
      · apply h.fix (place n i) (ze hi2)
        rw [hm i hi2, e]
      · have h2 := h.inv (place n i) (ze hi2)
        rw [hm i hi2, hm _ h1] at h2
        have h3 := congrArg (place n) h2
        rwa [zd (hl _ h1), zd hi2] at h3
  · have hi' := List.mem_range.1 hi
    have hk' := List.mem_range.1 hk
    simp only [Kk, Ke, ← hm i hi', ← hm k hk', Bool.not_eq_true', decide_eq_false_iff_not]
    rintro ⟨b1, b2, b3⟩
    have hx := ze hi'
    have hy := ze hk'
    generalize place n i = x at *
    generalize place n k = y at *
    have a := h.lt x hx
    have a' := h.lt y hy
    have c := h.inv x hx
    have c' := h.inv y hy
    have k1 := h.v7 x y hx hy
    have k2 := h.v7 x (mf n m y) hx a'
    have k3 := h.v7 (mf n m x) y a hy
    have k4 := h.v7 (mf n m x) (mf n m y) a a'
    rw [c'] at k2
    rw [c] at k3
    rw [c, c'] at k4
    omega
def up (j k : Nat) : Nat := if k < j then k else k + 2
def dn (j k : Nat) : Nat := if k < j then k else k - 2
theorem qqt {j k : Nat} (h1 : k ≠ j) (h2 : k ≠ j + 1) : up j (dn j k) = k := by
  unfold up dn
  by_cases h : k < j
  · rw [if_pos h, if_pos h]
  · rw [if_neg h, if_neg (by omega)]; omega
theorem qqd {j k : Nat} : dn j (up j k) = k := by
  unfold up dn
  by_cases h : k < j
  · rw [if_pos h, if_pos h]
  · rw [if_neg h, if_neg (by omega)]; omega
theorem qiq {j k : Nat} : up j k ≠ j ∧ up j k ≠ j + 1 := by unfold up; split <;> omega
theorem qib {j k k' : Nat} : up j k < up j k' ↔ k < k' := by unfold up; split <;> split <;> omega
theorem qk2 {j k L : Nat} (hj : j ≤ L) : up j k < L + 2 ↔ k < L := by unfold up; split <;> omega
theorem NC.insert {L j : Nat} {F F' : Nat → Nat} (h : NC L F) (hj : j ≤ L) (e1 : F' j = j + 1) (e2 : F' (j + 1) = j) (e : ∀ k, k < L → F' (up j k) = up j (F k)) : NC (L + 2) F' := by
  have hc : ∀ k, k < L + 2 → k = j ∨ k = j + 1 ∨ ∃ i, i < L ∧ k = up j i := fun k hk => by
    by_cases h1 : k = j
    · exact .inl h1
    by_cases h2 : k = j + 1
    · exact .inr (.inl h2)
    exact .inr (.inr ⟨dn j k, (qk2 hj).1 (by rw [qqt h1 h2]; exact hk), (qqt h1 h2).symm⟩)
  refine ⟨fun k hk => ?_, fun k hk => ?_, fun k hk => ?_, fun a b ha hb => ?_⟩
  · rcases hc k hk with rfl | rfl | ⟨i, hi, rfl⟩
    · omega
    · omega
    · rw [e i hi]; exact (qk2 hj).2 (h.lt i hi)
  · rcases hc k hk with rfl | rfl | ⟨i, hi, rfl⟩
    · rw [e1, e2]
    · rw [e2, e1]
    · rw [e i hi, e _ (h.lt i hi), h.inv i hi]
  · rcases hc k hk with rfl | rfl | ⟨i, hi, rfl⟩
    · omega
    · omega
    · rw [e i hi]
      intro h2
      have := congrArg (dn j) h2
      rw [qqd, qqd] at this
      exact h.fix i hi this
  · rcases hc a ha with rfl | rfl | ⟨i, hi, rfl⟩
    · rw [e1]; omega
    · rw [e2]; omega
    · rcases hc b hb with rfl | rfl | ⟨l, hl, rfl⟩
      · rw [e1, e i hi]; have := @qiq b (F i); omega
      · rw [e2, e i hi]; have := @qiq j (F i); have := @qiq j i; omega
      · rw [e i hi, e l hl, qib, qib, qib]; exact h.v7 i l hi hl
theorem NC.remove {L j : Nat} {F F' : Nat → Nat} (h : NC (L + 2) F) (hj : j ≤ L) (e : ∀ k, k < L → F' k = dn j (if F (up j k) = j then F (j + 1) else if F (up j k) = j + 1 then F j else F (up j k))) : NC L F' := by
  let G : Nat → Nat := fun x => if F x = j then F (j + 1) else if F x = j + 1 then F j else F x
  have hG : ∀ x, x < L + 2 → x ≠ j → x ≠ j + 1 → G x < L + 2 ∧ G x ≠ j ∧ G x ≠ j + 1 ∧ G (G x) = x ∧ G x ≠ x := fun x hx n1 n2 => by
    have a := h.lt x hx
    have c := h.inv x hx
    have f := h.fix x hx
    have a0 := h.lt j (by omega)
    have c0 := h.inv j (by omega)
    have f0 := h.fix j (by omega)
    have a1 := h.lt (j + 1) (by omega)
    have c1 := h.inv (j + 1) (by omega)
    have f1 := h.fix (j + 1) (by omega)
    show (if F x = j then F (j + 1) else if F x = j + 1 then F j else F x) < L + 2 ∧ _
    by_cases g1 : F x = j
    · have e0 : F j = x := by rw [← g1]; exact c
      have e3 : G x = F (j + 1) := if_pos g1
      have n3 : F (j + 1) ≠ j := fun g => by rw [g] at c1; omega
      refine ⟨by rw [if_pos g1]; exact a1, by rw [e3]; exact n3, by rw [e3]; exact f1, ?_, ?_⟩
      · rw [e3]
        show (if F (F (j + 1)) = j then F (j + 1) else if F (F (j + 1)) = j + 1 then F j else F (F (j + 1))) = x
        rw [c1, if_neg (by omega), if_pos rfl, e0]
      · rw [e3]; intro g; rw [g] at c1; omega
    · by_cases g2 : F x = j + 1
      · have e0 : F (j + 1) = x := by rw [← g2]; exact c
        have e3 : G x = F j := by show (if F x = j then F (j + 1) else if F x = j + 1 then F j else F x) = _; rw [if_neg g1, if_pos g2]
        have n3 : F j ≠ j + 1 := fun g => by rw [g] at c0; omega
        refine ⟨by rw [if_neg g1, if_pos g2]; exact a0, by rw [e3]; exact f0, by rw [e3]; exact n3, ?_, ?_⟩
        · rw [e3]
          show (if F (F j) = j then F (j + 1) else if F (F j) = j + 1 then F j else F (F j)) = x
          rw [c0, if_pos rfl, e0]
        · rw [e3]; intro g; rw [g] at c0; omega
      · have e3 : G x = F x := by show (if F x = j then F (j + 1) else if F x = j + 1 then F j else F x) = _; rw [if_neg g1, if_neg g2]
        refine ⟨by rw [if_neg g1, if_neg g2]; exact a, by rw [e3]; exact g1, by rw [e3]; exact g2, ?_, by rw [e3]; exact f⟩
        rw [e3]
        show (if F (F x) = j then F (j + 1) else if F (F x) = j + 1 then F j else F (F x)) = x
        rw [c, if_neg n1, if_neg n2]
  have hX : ∀ x y, x < L + 2 → y < L + 2 → x ≠ j → x ≠ j + 1 → y ≠ j → y ≠ j + 1 → ¬(x < y ∧ y < G x ∧ G x < G y) := fun x y hx hy n1 n2 n3 n4 => by
    have a := h.lt x hx
    have c := h.inv x hx
    have b := h.lt y hy
    have d := h.inv y hy
    have a0 := h.lt j (by omega)
    have c0 := h.inv j (by omega)
    have f0 := h.fix j (by omega)
    have a1 := h.lt (j + 1) (by omega)
    have c1 := h.inv (j + 1) (by omega)
    have f1 := h.fix (j + 1) (by omega)
    have gx : G x = if F x = j then F (j + 1) else if F x = j + 1 then F j else F x := rfl
    have gy : G y = if F y = j then F (j + 1) else if F y = j + 1 then F j else F y := rfl
    have k1 := h.v7 x y hx hy
    by_cases g1 : F x = j
    · have e0 : F j = x := by rw [← g1]; exact c
      rw [gx, if_pos g1]
      by_cases g3 : F y = j
      · have : F j = y := by rw [← g3]; exact d
        omega
      by_cases g4 : F y = j + 1
      · have e4 : F (j + 1) = y := by rw [← g4]; exact d
        omega
      rw [gy, if_neg g3, if_neg g4]
      have k2 := h.v7 (j + 1) y (by omega) hy
      have k3 := h.v7 (F (j + 1)) (F y) a1 b
      have k4 := h.v7 y (j + 1) hy (by omega)
      have k5 := h.v7 x y hx hy
      have k6 := h.v7 y (F (j + 1)) hy a1
      rw [c1, d] at k3
      rw [c1] at k6
      omega
    · by_cases g2 : F x = j + 1
      · have e0 : F (j + 1) = x := by rw [← g2]; exact c
        rw [gx, if_neg g1, if_pos g2]
        by_cases g3 : F y = j
        · have e3 : F j = y := by rw [← g3]; exact d
          omega
        by_cases g4 : F y = j + 1
        · have : F (j + 1) = y := by rw [← g4]; exact d
          omega
        rw [gy, if_neg g3, if_neg g4]
        have k2 := h.v7 j y (by omega) hy
        have k3 := h.v7 (F j) (F y) a0 b
        have k4 := h.v7 y j hy (by omega)
        have k6 := h.v7 y (F j) hy a0
        rw [c0, d] at k3
        rw [c0] at k6
        omega
      · rw [gx, if_neg g1, if_neg g2]
        by_cases g3 : F y = j
        · have e3 : F j = y := by rw [← g3]; exact d
          rw [gy, if_pos g3]
          have k2 := h.v7 x (j + 1) hx (by omega)
          have k3 := h.v7 (F (j + 1)) x a1 hx
          have k4 := h.v7 x (F (j + 1)) hx a1
          have k5 := h.v7 (j + 1) (F x) (by omega) a
          have k6 := h.v7 j x (by omega) hx
          have k7 := h.v7 (j + 1) x (by omega) hx
          rw [c1] at k3 k4
          rw [c] at k5
          omega
        by_cases g4 : F y = j + 1
        · have e4 : F (j + 1) = y := by rw [← g4]; exact d
          rw [gy, if_neg g3, if_pos g4]
          have k2 := h.v7 x j hx (by omega)
          have k3 := h.v7 (F j) x a0 hx
          have k4 := h.v7 x (F j) hx a0
          have k5 := h.v7 j (F x) (by omega) a
          have k6 := h.v7 j x (by omega) hx
          have k7 := h.v7 (j + 1) x (by omega) hx
          rw [c0] at k3 k4
          rw [c] at k5
          omega
        rw [gy, if_neg g3, if_neg g4]
        exact k1
  have hu : ∀ k, k < L → up j k < L + 2 ∧ up j k ≠ j ∧ up j k ≠ j + 1 := fun k hk => ⟨(qk2 hj).2 hk, qiq.1, qiq.2⟩
  have he : ∀ k, k < L → F' k = dn j (G (up j k)) := e
  have hue : ∀ k, k < L → up j (F' k) = G (up j k) := fun k hk => by
    obtain ⟨b1, b2, b3⟩ := hu k hk
    obtain ⟨_, b4, b5, _⟩ := hG _ b1 b2 b3
    rw [he k hk, qqt b4 b5]
  have hlt : ∀ k, k < L → F' k < L := fun k hk => by
    obtain ⟨b1, b2, b3⟩ := hu k hk
    obtain ⟨b0, b4, b5, _⟩ := hG _ b1 b2 b3
    rw [← qk2 hj, hue k hk]; exact b0
  have upi : ∀ {a b : Nat}, up j a = up j b → a = b := fun {a b} hab => by have := congrArg (dn j) hab; rwa [qqd, qqd] at this
  refine ⟨hlt, fun k hk => ?_, fun k hk => ?_, fun a b ha hb => ?_⟩
  · obtain ⟨b1, b2, b3⟩ := hu k hk
    apply upi
    rw [hue _ (hlt k hk), hue k hk]
    exact (hG _ b1 b2 b3).2.2.2.1
  · obtain ⟨b1, b2, b3⟩ := hu k hk
    intro g
    have := hue k hk
    rw [g] at this
    exact (hG _ b1 b2 b3).2.2.2.2 this.symm
  · obtain ⟨b1, b2, b3⟩ := hu a ha
    obtain ⟨d1, d2, d3⟩ := hu b hb
    have := hX _ _ b1 d1 b2 b3 d2 d3
    rw [← hue a ha, ← hue b hb, qib, qib, qib] at this
    exact this
def fl (n i : Nat) : Nat := (i + n) % (2 * n)
def cl (n i : Nat) : Nat := if i < n then i else i - 1
def FF (n : Nat) (d e : List Nat) (k : Nat) : Nat := if k < 2 * n then mf n d k else 2 * n + mf n e (k - 2 * n)
theorem qze {n : Nat} {d e : List Nat} (hd : NC (2 * n) (mf n d)) (he : NC (2 * n) (mf n e)) : NC (4 * n) (FF n d e) := by
  have hL : ∀ k, k < 2 * n → FF n d e k = mf n d k := fun k hk => if_pos hk
  have hR : ∀ k, ¬ k < 2 * n → FF n d e k = 2 * n + mf n e (k - 2 * n) := fun k hk => if_neg hk
  refine ⟨fun k hk => ?_, fun k hk => ?_, fun k hk => ?_, fun a b ha hb => ?_⟩
  · by_cases h : k < 2 * n
    · rw [hL k h]; have := hd.lt k h; omega
    · rw [hR k h]; have := he.lt (k - 2 * n) (by omega); omega
  · by_cases h : k < 2 * n
    · rw [hL k h, hL _ (hd.lt k h), hd.inv k h]
    · have h1 := he.lt (k - 2 * n) (by omega)
      rw [hR k h, hR _ (by omega), show 2 * n + mf n e (k - 2 * n) - 2 * n = mf n e (k - 2 * n) by omega, he.inv _ (by omega)]; omega
  · by_cases h : k < 2 * n
    · rw [hL k h]; exact hd.fix k h
    · have h1 := he.fix (k - 2 * n) (by omega)
      rw [hR k h]; omega
  · by_cases h : a < 2 * n
    · have h1 := hd.lt a h
      rw [hL a h]
      by_cases h' : b < 2 * n
      · rw [hL b h']; exact hd.v7 a b h h'
      · omega
    · by_cases h' : b < 2 * n
      · omega
      · have := he.v7 (a - 2 * n) (b - 2 * n) (by omega) (by omega)
        rw [hR a h, hR b h']; omega
def GG (n : Nat) (F : Nat → Nat) : Nat → Nat → Nat
  | 0, k => F k
  | t + 1, k => dn (2 * n - 1 - t) (if GG n F t (up (2 * n - 1 - t) k) = 2 * n - 1 - t then GG n F t (2 * n - 1 - t + 1) else if GG n F t (up (2 * n - 1 - t) k) = 2 * n - 1 - t + 1 then GG n F t (2 * n - 1 - t) else GG n F t (up (2 * n - 1 - t) k))
theorem qwy {n : Nat} {F : Nat → Nat} (h : NC (4 * n) F) : ∀ t, t ≤ n → NC (4 * n - 2 * t) (GG n F t)
  | 0, _ => h
  | t + 1, ht => by
    have ih := qwy h t (by omega)
    rw [show 4 * n - 2 * t = 4 * n - 2 * (t + 1) + 2 by omega] at ih
    exact ih.remove (j := 2 * n - 1 - t) (by omega) fun k hk => rfl
def Zf (n t z : Nat) : Prop := 2 * n - t ≤ z ∧ z < 2 * n + t
inductive Path (n : Nat) (F : Nat → Nat) (t : Nat) : Nat → Nat → Prop
  | done {x y : Nat} : F x = y → ¬ Zf n t y → Path n F t x y
  | go {x y : Nat} : Zf n t (F x) → Path n F t (4 * n - 1 - F x) y → Path n F t x y
theorem Path.mono {n t x y : Nat} {F : Nat → Nat} (h : Path n F t x y) (hy : ¬ Zf n (t + 1) y) : Path n F (t + 1) x y := by
  induction h with
  | done h1 h2 => exact .done h1 hy
  | go h1 _ ih => exact .go (by unfold Zf at h1 ⊢; omega) (ih hy)
theorem Path.cat {n t x y w : Nat} {F : Nat → Nat} (h : Path n F t x w) (hw : Zf n (t + 1) w) (h2 : Path n F t (4 * n - 1 - w) y) (hy : ¬ Zf n (t + 1) y) : Path n F (t + 1) x y := by
  induction h with
  | done h1 _ => subst h1; exact .go hw (h2.mono hy)
  | go h1 _ ih => exact .go (by unfold Zf at h1 ⊢; omega) (ih hw h2)
def oo (n t k : Nat) : Nat := if k < 2 * n - t then k else k + 2 * t
theorem qq1 {n : Nat} {F : Nat → Nat} (h : NC (4 * n) F) : ∀ t, t ≤ n → ∀ k, k < 4 * n - 2 * t → Path n F t (oo n t k) (oo n t (GG n F t k))
  | 0, _, k, hk => by
    have e : ∀ k, oo n 0 k = k := fun k => by unfold oo; split <;> omega
    rw [e, e]
    exact .done rfl (by unfold Zf; omega)
  | t + 1, ht, k, hk => by
    have ih := qq1 h t (by omega)
    have hnc := qwy h t (by omega)
    have hj : ∃ j, j = 2 * n - 1 - t := ⟨_, rfl⟩
    obtain ⟨j, hj⟩ := hj
    have g1 : ∀ k, oo n (t + 1) k = oo n t (up j k) := fun k => by
      unfold oo up
      by_cases h1 : k < j
      · rw [if_pos h1, if_pos (by omega), if_pos (by omega)]
      · rw [if_neg h1, if_neg (by omega), if_neg (by omega)]; omega
    have g2 : ∀ y, y ≠ j → y ≠ j + 1 → oo n (t + 1) (dn j y) = oo n t y := fun y h1 h2 => by rw [g1, qqt h1 h2]
    have g3 : oo n t j = j := by unfold oo; rw [if_pos (by omega)]
    have g4 : oo n t (j + 1) = 4 * n - 1 - j := by unfold oo; rw [if_neg (by omega)]; omega
    have gl : ∀ y, y ≠ j → y ≠ j + 1 → ¬ Zf n (t + 1) (oo n t y) := fun y h1 h2 => by
      unfold oo Zf
      by_cases h3 : y < 2 * n - t
      · rw [if_pos h3]; omega
      · rw [if_neg h3]; omega
    have hu := @qiq j k
    have hx : up j k < 4 * n - 2 * t := by
      have := (qk2 (j := j) (k := k) (L := 4 * n - 2 * (t + 1)) (by omega)).2 hk
      omega
    have hp := ih _ hx
    have a := hnc.lt _ hx
    have c := hnc.inv _ hx
    have f := hnc.fix _ hx
    have a0 := hnc.lt j (by omega)
    have c0 := hnc.inv j (by omega)
    have f0 := hnc.fix j (by omega)
    have a1 := hnc.lt (j + 1) (by omega)
    have c1 := hnc.inv (j + 1) (by omega)
    have f1 := hnc.fix (j + 1) (by omega)
    have p0 := ih j (by omega)
    have p1 := ih (j + 1) (by omega)
    rw [g3] at p0
    rw [g4] at p1
    have gj : Zf n (t + 1) j := by unfold Zf; omega
    have gj1 : Zf n (t + 1) (4 * n - 1 - j) := by unfold Zf; omega
    rw [g1 k]
    simp only [GG, ← hj]
    generalize hX : up j k = x at *
    by_cases e1 : GG n F t x = j
    · rw [if_pos e1]
      rw [e1] at hp c
      have n1 : GG n F t (j + 1) ≠ j := fun e => by rw [e] at c1; omega
      rw [g2 _ n1 f1]
      rw [g3] at hp
      exact hp.cat gj p1 (gl _ n1 f1)
    · rw [if_neg e1]
      by_cases e2 : GG n F t x = j + 1
      · rw [if_pos e2]
        rw [e2] at hp c
        have n1 : GG n F t j ≠ j + 1 := fun e => by rw [e] at c0; omega
        rw [g2 _ f0 n1]
        rw [g4] at hp
        refine hp.cat gj1 ?_ (gl _ f0 n1)
        rw [show 4 * n - 1 - (4 * n - 1 - j) = j by omega]
        exact p0
      · rw [if_neg e2, g2 _ e1 e2]
        exact hp.mono (gl _ e1 e2)
def pr (n : Nat) (d e : List Nat) (i : Nat) : Nat := place n (GG n (FF n d e) n (place n i))
theorem qop {n : Nat} {d e : List Nat} (hd : isS n d = true) (he : isS n e = true) : NC (2 * n) (GG n (FF n d e) n) := by
  have := qwy (qze (qks hd) (qks he)) n (Nat.le_refl _)
  rwa [show 4 * n - 2 * n = 2 * n by omega] at this
def zm (n : Nat) (d e : List Nat) : Nat → Bool → Nat → List Bool → Option (Nat × Bool × List Bool)
  | 0, _, _, _ => none
  | f + 1, true, i, met => if d.getD i 0 < n then some (d.getD i 0, true, met) else zm n d e f false (d.getD i 0 - n) (met.set (d.getD i 0 - n) true)
  | f + 1, false, i, met => if n ≤ e.getD i 0 then some (e.getD i 0, false, met) else zm n d e f true (n + e.getD i 0) (met.set (e.getD i 0) true)
def at2 (n : Nat) (u : Bool) (i : Nat) : Nat := if u then place n i else 2 * n + place n i
def qnp (n y : Nat) : Nat := if y < 2 * n then y else place n (y - 2 * n)
theorem qnd {n : Nat} {d e : List Nat} (hd : isS n d = true) (he : isS n e = true) {x y : Nat} (h : Path n (FF n d e) n x y) : ∀ (u : Bool) (i : Nat) (met : List Bool), i < 2 * n → x = at2 n u i →
    ∃ f met', zm n d e f u i met = some (qnp n y, decide (y < 2 * n), met') := by
  obtain ⟨hn, hpd, _⟩ := xm hd
  obtain ⟨_, hpe, _⟩ := xm he
  have F1 : ∀ i, i < 2 * n → FF n d e (at2 n true i) = place n (d.getD i 0) := fun i hi => by
    show FF n d e (place n i) = _
    unfold FF
    rw [if_pos (ze hi)]
    unfold mf
    rw [zd hi]
  have F2 : ∀ i, i < 2 * n → FF n d e (at2 n false i) = 2 * n + place n (e.getD i 0) := fun i hi => by
    show FF n d e (2 * n + place n i) = _
    unfold FF
    rw [if_neg (by omega), show 2 * n + place n i - 2 * n = place n i by omega]
    unfold mf
    rw [zd hi]
  induction h with
  | @done x y h1 h2 =>
    intro u i met hi hx
    subst hx
    cases u with
    | true =>
      rw [F1 i hi] at h1
      have hl := (hpd i hi).1
      have hlt : d.getD i 0 < n := by
        unfold place at h1; unfold Zf at h2
        split at h1
        · assumption
        · omega
      have hy : y = d.getD i 0 := by rw [← h1]; unfold place; rw [if_pos hlt]
      refine ⟨1, met, ?_⟩
      simp only [zm, if_pos hlt]
      rw [hy]
      unfold qnp
      rw [if_pos (by omega), decide_eq_true (by omega)]
    | false =>
      rw [F2 i hi] at h1
      have hl := (hpe i hi).1
      have hlt : n ≤ e.getD i 0 := by
        unfold place at h1; unfold Zf at h2
        split at h1
        · omega
        · omega
      refine ⟨1, met, ?_⟩
      simp only [zm, if_pos hlt]
      rw [← h1]
      unfold qnp
      rw [if_neg (by omega), show 2 * n + place n (e.getD i 0) - 2 * n = place n (e.getD i 0) by omega, zd hl, decide_eq_false (by omega)]
  | @go x y h1 h2 ih =>
    intro u i met hi hx
    subst hx
    cases u with
    | true =>
      rw [F1 i hi] at h1 ih
      have hl := (hpd i hi).1
      have hge : ¬ d.getD i 0 < n := fun hlt => by
        unfold place Zf at h1; rw [if_pos hlt] at h1; omega
      obtain ⟨f, met', hf⟩ := ih false (d.getD i 0 - n) (met.set (d.getD i 0 - n) true) (by omega) (by
        show 4 * n - 1 - place n (d.getD i 0) = 2 * n + place n (d.getD i 0 - n)
        unfold place
        rw [if_neg hge, if_pos (by omega)]
        omega)
      exact ⟨f + 1, met', by simp only [zm, if_neg hge]; exact hf⟩
    | false =>
      rw [F2 i hi] at h1 ih
      have hl := (hpe i hi).1
      have hlt : ¬ n ≤ e.getD i 0 := fun hge => by
        unfold place Zf at h1; rw [if_neg (by omega)] at h1; omega
      obtain ⟨f, met', hf⟩ := ih true (n + e.getD i 0) (met.set (e.getD i 0) true) (by omega) (by
        show 4 * n - 1 - (2 * n + place n (e.getD i 0)) = place n (n + e.getD i 0)
        unfold place
        rw [if_pos (by omega), if_neg (by omega)]
        omega)
      exact ⟨f + 1, met', by simp only [zm, if_neg hlt]; exact hf⟩
theorem Wm {n : Nat} {d e : List Nat} (hd : isS n d = true) (he : isS n e = true) {i : Nat} (hi : i < 2 * n) (met : List Bool) : ∃ f met', zm n d e f (decide (i < n)) i met = some (pr n d e i, decide (pr n d e i < n), met') := by
  have hp := qq1 (qze (qks hd) (qks he)) n (Nat.le_refl _) (place n i) (by have := ze hi; omega)
  have hg := (qop hd he).lt _ (ze hi)
  have e1 : oo n n (place n i) = at2 n (decide (i < n)) i := by
    unfold oo at2 place
    by_cases h : i < n
    · rw [if_pos h, if_pos (by omega)]; simp [h]
    · rw [if_neg h, if_neg (by omega)]; simp only [h, decide_false, Bool.false_eq_true, if_false]; omega
  rw [e1] at hp
  obtain ⟨f, met', hf⟩ := qnd hd he hp _ i met hi rfl
  refine ⟨f, met', ?_⟩
  rw [hf]
  have e2 : qnp n (oo n n (GG n (FF n d e) n (place n i))) = pr n d e i := by
    unfold pr qnp
    generalize GG n (FF n d e) n (place n i) = k at *
    by_cases h : k < n
    · have e3 : oo n n k = k := if_pos (by omega)
      rw [e3, if_pos (by omega)]; unfold place; rw [if_pos h]
    · have e3 : oo n n k = k + 2 * n := if_neg (by omega)
      rw [e3, if_neg (by omega), show k + 2 * n - 2 * n = k by omega]
  rw [e2]
  congr 3
  unfold pr
  generalize GG n (FF n d e) n (place n i) = k at *
  by_cases h : k < n
  · have e3 : oo n n k = k := if_pos (by omega)
    have e4 : place n k = k := if_pos h
    rw [e3, e4, decide_eq_true h, decide_eq_true (by omega)]
  · have e3 : oo n n k = k + 2 * n := if_neg (by omega)
    have e4 : place n k = 3 * n - 1 - k := if_neg h
    rw [e3, e4, decide_eq_false (by omega), decide_eq_false (by omega)]
def Yc (n : Nat) (d e : List Nat) : Nat → List Nat
  | 0 => List.replicate 16 0
  | k + 1 => ((Yc n d e k).set k (pr n d e k)).set (n + k) (pr n d e (n + k))
def ji (n : Nat) (d e : List Nat) : List Nat := Yc n d e n
theorem wt (n : Nat) (d e : List Nat) : ∀ k, (Yc n d e k).length = 16
  | 0 => by simp [Yc]
  | k + 1 => by simp [Yc, wt n d e k]
theorem Gt {n : Nat} {d e : List Nat} (hn : n ≤ 8) : ∀ k, k ≤ n → ∀ i, i < 16 → (Yc n d e k).getD i 0 = if i < k ∨ (n ≤ i ∧ i < n + k) then pr n d e i else 0
  | 0, _, i, hi => by
    rw [if_neg (by omega)]
    simp only [Yc, List.getD_eq_getElem?_getD, List.getElem?_replicate]
    split <;> simp
  | k + 1, hk, i, hi => by
    simp only [Yc]
    rw [kh, kh, List.length_set, wt, Gt hn k (by omega) i hi]
    by_cases h1 : n + k = i
    · rw [if_pos ⟨h1, hi⟩, if_pos (by omega), h1]
    · rw [if_neg (by omega)]
      by_cases h2 : k = i
      · rw [if_pos ⟨h2, hi⟩, if_pos (by omega), h2]
      · rw [if_neg (by omega)]
        by_cases h3 : i < k ∨ (n ≤ i ∧ i < n + k)
        · rw [if_pos h3, if_pos (by omega)]
        · rw [if_neg h3, if_neg (by omega)]
theorem qdm {n : Nat} {d e : List Nat} (hd : isS n d = true) (he : isS n e = true) {i : Nat} (hi : i < 2 * n) : pr n d e i < 2 * n := ze ((qop hd he).lt _ (ze hi))
theorem qvd {n : Nat} {d e : List Nat} (hd : isS n d = true) (he : isS n e = true) : isS n (ji n d e) = true ∧ okD (ji n d e) := by
  obtain ⟨hn, _, _⟩ := xm hd
  have hg : ∀ i, i < 2 * n → (ji n d e).getD i 0 = pr n d e i := fun i hi => by
    unfold ji
    rw [Gt hn.2 n (Nat.le_refl _) i (by omega), if_pos (by omega)]
  have ht := qop hd he
  refine ⟨qz7 hn (fun i h1 h2 => ?_) (fun i hi => ?_) ?_, wt _ _ _ _, ?_⟩
  · unfold ji
    rw [Gt hn.2 n (Nat.le_refl _) i h2, if_neg (by omega)]
  · rw [hg i hi]; exact qdm hd he hi
  · have e1 : ∀ k, k < 2 * n → mf n (ji n d e) k = GG n (FF n d e) n k := fun k hk => by
      unfold mf
      rw [hg _ (ze hk)]
      unfold pr
      rw [zd hk, zd (ht.lt k hk)]
    refine ⟨fun k hk => ?_, fun k hk => ?_, fun k hk => ?_, fun a b ha hb => ?_⟩
    · rw [e1 k hk]; exact ht.lt k hk
    · rw [e1 k hk, e1 _ (ht.lt k hk)]; exact ht.inv k hk
    · rw [e1 k hk]; exact ht.fix k hk
    · rw [e1 a ha, e1 b hb]; exact ht.v7 a b ha hb
  · intro x hx
    obtain ⟨i, hi, rfl⟩ := List.getElem_of_mem hx
    have hl : (ji n d e).length = 16 := wt _ _ _ _
    have h1 : (ji n d e).getD i 0 = (ji n d e)[i] := by simp [List.getD_eq_getElem?_getD, hi]
    rw [← h1]
    by_cases h2 : i < 2 * n
    · rw [hg i h2]; have := qdm hd he h2; omega
    · unfold ji
      rw [Gt hn.2 n (Nat.le_refl _) i (by omega), if_neg (by omega)]; omega
def mt (met : List Bool) (x : Nat) : Prop := met.getD x false = true
theorem u6 {met : List Bool} {i x : Nat} (hi : i < met.length) : mt (met.set i true) x ↔ x = i ∨ mt met x := by
  unfold mt
  simp only [List.getD_eq_getElem?_getD, List.getElem?_set]
  by_cases h : i = x
  · subst h; simp [hi]
  · rw [if_neg h]
    exact ⟨.inr, fun h2 => h2.elim (fun e => absurd e.symm h) id⟩
theorem qqh {x k : Nat} : ¬ mt (List.replicate k false) x := by
  unfold mt
  simp only [List.getD_eq_getElem?_getD, List.getElem?_replicate]
  split <;> simp
theorem Y5 {n : Nat} {d e : List Nat} {r : Nat × Bool × List Bool} : ∀ {f : Nat} {u : Bool} {i : Nat} {met : List Bool}, zm n d e f u i met = some r → zm n d e (f + 1) u i met = some r
  | 0, _, _, _, h => by simp [zm] at h
  | f + 1, true, i, met, h => by
    rw [zm] at h ⊢
    split
    · rename_i h1; rw [if_pos h1] at h; exact h
    · rename_i h1; rw [if_neg h1] at h; exact Y5 h
  | f + 1, false, i, met, h => by
    rw [zm] at h ⊢
    split
    · rename_i h1; rw [if_pos h1] at h; exact h
    · rename_i h1; rw [if_neg h1] at h; exact Y5 h
theorem Yy {n : Nat} {d e : List Nat} {r : Nat × Bool × List Bool} {f : Nat} {u : Bool} {i : Nat} {met : List Bool} (h : zm n d e f u i met = some r) : ∀ k, zm n d e (f + k) u i met = some r
  | 0 => h
  | k + 1 => Y5 (Yy h k)
theorem qkn {n : Nat} {d e : List Nat} {r r' : Nat × Bool × List Bool} {f f' : Nat} {u : Bool} {i : Nat} {met : List Bool} (h : zm n d e f u i met = some r) (h' : zm n d e f' u i met = some r') : r = r' := by
  have h1 := Yy h f'
  have h2 := Yy h' f
  rw [Nat.add_comm f' f, h1] at h2
  exact Option.some.inj h2
def CLs (n : Nat) (d e : List Nat) (M : Nat → Prop) : Prop := ∀ x, x < n → M x → (n ≤ d.getD (n + x) 0 → M (d.getD (n + x) 0 - n)) ∧ (e.getD x 0 < n → M (e.getD x 0))
theorem X0 {n : Nat} {d e : List Nat} (hd : isS n d = true) (he : isS n e = true) {r : Nat} {s : Bool} {met' : List Bool} : ∀ {f : Nat} {u : Bool} {i : Nat} {met : List Bool}, zm n d e f u i met = some (r, s, met') → i < 2 * n → met.length = 8 →
    (u = true → n ≤ i → mt met (i - n)) → (u = false → i < n → mt met i) →
    met'.length = 8 ∧ (∀ x, mt met x → mt met' x) ∧ (∀ x, mt met' x → x < n ∨ mt met x) ∧ (∀ x, x < n → mt met' x → mt met x ∨ ((n ≤ d.getD (n + x) 0 → mt met' (d.getD (n + x) 0 - n)) ∧ (e.getD x 0 < n → mt met' (e.getD x 0)))) ∧
      (u = true → n ≤ d.getD i 0 → mt met' (d.getD i 0 - n)) ∧ (u = false → e.getD i 0 < n → mt met' (e.getD i 0))
  | 0, _, _, _, h, _, _, _, _ => by simp [zm] at h
  | f + 1, true, i, met, h, hi, hl, p1, p2 => by
    obtain ⟨hn, hpd, _⟩ := xm hd
    rw [zm] at h
    split at h
    · rename_i hlt
      cases h
      exact ⟨hl, fun x h => h, fun x h => .inr h, fun x _ h => .inl h, fun _ h => absurd hlt (by omega), fun h => by cases h⟩
    · rename_i hlt
      have hs := (hpd i hi).1
      have hinv := (hpd i hi).2.2
      have hsl : d.getD i 0 - n < met.length := by omega
      obtain ⟨a1, a2, a3, a4, _, a6⟩ := X0 hd he h (by omega) (by rw [List.length_set]; exact hl) (fun h => by cases h) (fun _ _ => (u6 hsl).2 (.inl rfl))
      have hself : mt met' (d.getD i 0 - n) := a2 _ ((u6 hsl).2 (.inl rfl))
      refine ⟨a1, fun x hx => a2 x ((u6 hsl).2 (.inr hx)), fun x hx => ?_, fun x hx hm => ?_, fun _ _ => hself, fun h => by cases h⟩
      · rcases a3 x hx with h1 | h1
        · exact .inl h1
        · rcases (u6 hsl).1 h1 with rfl | h1
          · exact .inl (by omega)
          · exact .inr h1
      · rcases a4 x hx hm with h1 | h1
        · rcases (u6 hsl).1 h1 with rfl | h1
          · refine .inr ⟨fun h2 => ?_, fun h2 => a6 rfl h2⟩
            rw [show n + (d.getD i 0 - n) = d.getD i 0 by omega, hinv] at h2 ⊢
            exact a2 _ ((u6 hsl).2 (.inr (p1 rfl h2)))
          · exact .inl h1
        · exact .inr h1
  | f + 1, false, i, met, h, hi, hl, p1, p2 => by
    obtain ⟨hn, hpe, _⟩ := xm he
    rw [zm] at h
    split at h
    · rename_i hlt
      cases h
      exact ⟨hl, fun x h => h, fun x h => .inr h, fun x _ h => .inl h, (fun h => by cases h), fun _ h => absurd hlt (by omega)⟩
    · rename_i hlt
      have hs := (hpe i hi).1
      have hinv := (hpe i hi).2.2
      have hsl : e.getD i 0 < met.length := by omega
      obtain ⟨a1, a2, a3, a4, a5, _⟩ := X0 hd he h (by omega) (by rw [List.length_set]; exact hl) (fun _ _ => (u6 hsl).2 (.inl (by omega))) (fun h => by cases h)
      have hself : mt met' (e.getD i 0) := a2 _ ((u6 hsl).2 (.inl rfl))
      refine ⟨a1, fun x hx => a2 x ((u6 hsl).2 (.inr hx)), fun x hx => ?_, fun x hx hm => ?_, (fun h => by cases h), fun _ _ => hself⟩
      · rcases a3 x hx with h1 | h1
        · exact .inl h1
        · rcases (u6 hsl).1 h1 with rfl | h1
          · exact .inl (by omega)
          · exact .inr h1
      · rcases a4 x hx hm with h1 | h1
        · rcases (u6 hsl).1 h1 with rfl | h1
          · refine .inr ⟨fun h2 => a5 rfl h2, fun h2 => ?_⟩
            rw [hinv] at h2 ⊢
            exact a2 _ ((u6 hsl).2 (.inr (p2 rfl h2)))
          · exact .inl h1
        · exact .inr h1
noncomputable def fol (n : Nat) (d e : List Nat) (u : Bool) (i : Nat) (met : List Bool) : List Bool := (Classical.epsilon fun r : Nat × Bool × List Bool => ∃ f, zm n d e f u i met = some r).2.2
theorem qgr {n : Nat} {d e : List Nat} {f : Nat} {u : Bool} {i : Nat} {met : List Bool} {r : Nat × Bool × List Bool} (h : zm n d e f u i met = some r) : fol n d e u i met = r.2.2 := by
  have : ∃ r : Nat × Bool × List Bool, ∃ f, zm n d e f u i met = some r := ⟨r, f, h⟩
  obtain ⟨f', h'⟩ := Classical.epsilon_spec this
  unfold fol
  rw [qkn h' h]
noncomputable def qdz (n : Nat) (d e : List Nat) : Nat → List Bool
  | 0 => List.replicate 8 false
  | k + 1 => fol n d e false (n + k) (fol n d e true k (qdz n d e k))
structure Met (n : Nat) (d e : List Nat) (k : Nat) (met : List Bool) : Prop where
  len : met.length = 8
  lt : ∀ x, mt met x → x < n
  cl : CLs n d e (mt met)
  top : ∀ i, i < k → n ≤ d.getD i 0 → mt met (d.getD i 0 - n)
  bot : ∀ i, i < k → e.getD (n + i) 0 < n → mt met (e.getD (n + i) 0)
theorem X1 {n : Nat} {d e : List Nat} (hd : isS n d = true) (he : isS n e = true) : ∀ k, k ≤ n → Met n d e k (qdz n d e k)
  | 0, _ => ⟨by simp [qdz], fun x h => absurd h qqh, fun x _ h => absurd h qqh, fun i hi => by omega, fun i hi => by omega⟩
  | k + 1, hk => by
    have ih := X1 hd he k (by omega)
    obtain ⟨f1, m1, e1⟩ := Wm hd he (i := k) (by omega) (qdz n d e k)
    rw [decide_eq_true (by omega)] at e1
    have g1 := qgr e1
    obtain ⟨a1, a2, a3, a4, a5, _⟩ := X0 hd he e1 (by omega) ih.len (fun _ h => by omega) (fun h => by cases h)
    obtain ⟨f2, m2, e2⟩ := Wm hd he (i := n + k) (by omega) m1
    rw [decide_eq_false (by omega)] at e2
    have g2 := qgr e2
    obtain ⟨b1, b2, b3, b4, _, b6⟩ := X0 hd he e2 (by omega) a1 (fun h => by cases h) (fun _ h => by omega)
    simp only [qdz, g1, g2]
    refine ⟨b1, fun x hx => ?_, fun x hx hm => ?_, fun i hi h => ?_, fun i hi h => ?_⟩
    · rcases b3 x hx with h | h
      · exact h
      · rcases a3 x h with h | h
        · exact h
        · exact ih.lt x h
    · rcases b4 x hx hm with h | h
      · rcases a4 x hx h with h | h
        · have := ih.cl x hx h
          exact ⟨fun h => b2 _ (a2 _ (this.1 h)), fun h => b2 _ (a2 _ (this.2 h))⟩
        · exact ⟨fun h1 => b2 _ (h.1 h1), fun h1 => b2 _ (h.2 h1)⟩
      · exact h
    · by_cases e : i = k
      · subst e; exact b2 _ (a5 rfl h)
      · exact b2 _ (a2 _ (ih.top i (by omega) h))
    · by_cases e : i = k
      · subst e; exact b6 rfl h
      · exact b2 _ (a2 _ (ih.bot i (by omega) h))
def M0 (n : Nat) (d e : List Nat) (x : Nat) : Prop := mt (qdz n d e n) x
def dm (n : Nat) (d : List Nat) (x : Nat) : Nat := d.getD (n + x) 0 - n
def em (e : List Nat) (x : Nat) : Nat := e.getD x 0
structure Inv (X : Nat → Prop) (f : Nat → Nat) : Prop where
  mem : ∀ x, X x → X (f x)
  inv : ∀ x, X x → f (f x) = x
  fix : ∀ x, X x → f x ≠ x
def XX (n : Nat) (d e : List Nat) (x : Nat) : Prop := x < n ∧ ¬ M0 n d e x
theorem qiy {n : Nat} {d e : List Nat} (hd : isS n d = true) (he : isS n e = true) {x : Nat} (h : XX n d e x) : n ≤ d.getD (n + x) 0 ∧ d.getD (n + x) 0 < 2 * n ∧ e.getD x 0 < n := by
  obtain ⟨hn, hpd, _⟩ := xm hd
  obtain ⟨_, hpe, _⟩ := xm he
  have hm := X1 hd he n (Nat.le_refl _)
  have h1 := hpd (n + x) (by have := h.1; omega)
  have h2 := hpe x (by have := h.1; omega)
  have hx := h.1
  refine ⟨Nat.le_of_not_lt fun hlt => h.2 ?_, h1.1, Nat.lt_of_not_le fun hge => h.2 ?_⟩
  · have := hm.top _ hlt (by rw [h1.2.2]; omega)
    rw [h1.2.2, show n + x - n = x by omega] at this
    exact this
  · have := hm.bot (e.getD x 0 - n) (by omega) (by rw [show n + (e.getD x 0 - n) = e.getD x 0 by omega, h2.2.2]; exact hx)
    rw [show n + (e.getD x 0 - n) = e.getD x 0 by omega, h2.2.2] at this
    exact this
theorem Kx {n : Nat} {d e : List Nat} (hd : isS n d = true) (he : isS n e = true) : Inv (XX n d e) (dm n d) := by
  obtain ⟨hn, hpd, _⟩ := xm hd
  have hm := X1 hd he n (Nat.le_refl _)
  have key : ∀ x, XX n d e x → n + dm n d x = d.getD (n + x) 0 ∧ d.getD (d.getD (n + x) 0) 0 = n + x ∧ dm n d x < n := fun x hx => by
    have h1 := hpd (n + x) (by have := hx.1; omega)
    obtain ⟨g1, g2, g3⟩ := qiy hd he hx
    unfold dm
    exact ⟨by omega, h1.2.2, by omega⟩
  refine ⟨fun x hx => ?_, fun x hx => ?_, fun x hx e => ?_⟩
  · obtain ⟨k1, k2, k3⟩ := key x hx
    refine ⟨k3, fun hM => hx.2 ?_⟩
    have := (hm.cl (dm n d x) k3 hM).1 (by rw [k1, k2]; omega)
    rw [k1, k2, show n + x - n = x by omega] at this
    exact this
  · obtain ⟨k1, k2, k3⟩ := key x hx
    show d.getD (n + dm n d x) 0 - n = x
    rw [k1, k2]; omega
  · obtain ⟨k1, k2, k3⟩ := key x hx
    have h1 := hpd (n + x) (by have := hx.1; omega)
    rw [e] at k1
    exact h1.2.1 k1.symm
theorem Ko {n : Nat} {d e : List Nat} (hd : isS n d = true) (he : isS n e = true) : Inv (XX n d e) (em e) := by
  obtain ⟨hn, hpe, _⟩ := xm he
  have hm := X1 hd he n (Nat.le_refl _)
  refine ⟨fun x hx => ?_, fun x hx => (hpe x (by have := hx.1; omega)).2.2, fun x hx => (hpe x (by have := hx.1; omega)).2.1⟩
  obtain ⟨g1, g2, g3⟩ := qiy hd he hx
  refine ⟨g3, fun hM => hx.2 ?_⟩
  have h1 := (hpe x (by have := hx.1; omega)).2.2
  have := (hm.cl _ g3 hM).2 (by show e.getD (e.getD x 0) 0 < n; rw [h1]; exact hx.1)
  have h2 : M0 n d e (e.getD (e.getD x 0) 0) := this
  rw [h1] at h2
  exact h2
inductive Ring (f g : Nat → Nat) (k0 : Nat) : Nat → Prop
  | base : Ring f g k0 k0
  | one {x : Nat} : Ring f g k0 x → Ring f g k0 (f x)
  | two {x : Nat} : Ring f g k0 x → Ring f g k0 (g x)
theorem Ring.swap {f g : Nat → Nat} {k0 x : Nat} (h : Ring f g k0 x) : Ring g f k0 x := by
  induction h with
  | base => exact .base
  | one _ ih => exact .two ih
  | two _ ih => exact .one ih
theorem Ring.mem {X : Nat → Prop} {f g : Nat → Nat} (hf : Inv X f) (hg : Inv X g) {k0 x : Nat} (h0 : X k0) (h : Ring f g k0 x) : X x := by
  induction h with
  | base => exact h0
  | one _ ih => exact hf.mem _ ih
  | two _ ih => exact hg.mem _ ih
theorem Ring.trans {f g : Nat → Nat} {a b c : Nat} (h : Ring f g a b) (h' : Ring f g b c) : Ring f g a c := by
  induction h' with
  | base => exact h
  | one _ ih => exact .one ih
  | two _ ih => exact .two ih
theorem Ring.symm {X : Nat → Prop} {f g : Nat → Nat} (hf : Inv X f) (hg : Inv X g) {a b : Nat} (h0 : X a) (h : Ring f g a b) : Ring f g b a := by
  induction h with
  | base => exact .base
  | @one x hx ih =>
    have : Ring f g (f x) x := by
      have := Ring.one (Ring.base (f := f) (g := g) (k0 := f x))
      rwa [hf.inv x (Ring.mem hf hg h0 hx)] at this
    exact this.trans ih
  | @two x hx ih =>
    have : Ring f g (g x) x := by
      have := Ring.two (Ring.base (f := f) (g := g) (k0 := g x))
      rwa [hg.inv x (Ring.mem hf hg h0 hx)] at this
    exact this.trans ih
structure qd3 (X : Nat → Prop) (f g : Nat → Nat) (k0 : Nat) (T : Nat → Prop) (last : Nat) : Prop where
  ring : ∀ x, T x → Ring f g k0 x
  m0 : T k0
  lm : T last
  ne : last ≠ k0
  cl : ∀ x, T x → T (f x)
  st : ∀ x, T x → x ≠ k0 → x ≠ last → T (g x) ∧ g x ≠ k0 ∧ g x ≠ last
theorem qd3.start {X : Nat → Prop} {f g : Nat → Nat} (hf : Inv X f) {k0 : Nat} (h0 : X k0) : qd3 X f g k0 (fun x => x = k0 ∨ x = f k0) (f k0) :=
  ⟨fun x h => h.elim (fun e => e ▸ .base) (fun e => e ▸ .one .base), .inl rfl, .inr rfl, hf.fix k0 h0, fun x h => h.elim (fun e => .inr (by rw [e])) (fun e => .inl (by rw [e]; exact hf.inv _ h0)), fun x h h1 h2 => h.elim (fun e => absurd e h1) (fun e => absurd e h2)⟩
theorem qd3.stop {X : Nat → Prop} {f g : Nat → Nat} (hf : Inv X f) (hg : Inv X g) {k0 last : Nat} {T : Nat → Prop} (h0 : X k0) (h : qd3 X f g k0 T last) (hk : T (g last)) : g last = k0 ∧ ∀ x, T x ↔ Ring f g k0 x := by
  have hX : ∀ x, T x → X x := fun x hx => Ring.mem hf hg h0 (h.ring x hx)
  have e : g last = k0 := Classical.byContradiction fun hne => by
    have h1 := hg.fix last (hX _ h.lm)
    have h2 := (h.st _ hk hne h1).2.2
    exact h2 (hg.inv _ (hX _ h.lm))
  have hcl : ∀ x, T x → T (g x) := fun x hx => by
    by_cases h1 : x = k0
    · subst h1
      rw [← e, hg.inv _ (hX _ h.lm)]; exact h.lm
    by_cases h2 : x = last
    · subst h2; rw [e]; exact h.m0
    · exact (h.st x hx h1 h2).1
  refine ⟨e, fun x => ⟨h.ring x, fun hr => ?_⟩⟩
  induction hr with
  | base => exact h.m0
  | one _ ih => exact h.cl _ ih
  | two _ ih => exact hcl _ ih
theorem qd3.next {X : Nat → Prop} {f g : Nat → Nat} (hf : Inv X f) (hg : Inv X g) {k0 last : Nat} {T : Nat → Prop} (h0 : X k0) (h : qd3 X f g k0 T last) (hk : ¬ T (g last)) : qd3 X f g k0 (fun x => x = g last ∨ x = f (g last) ∨ T x) (f (g last)) ∧ ¬ T (f (g last)) ∧ f (g last) ≠ g last := by
  have hX : ∀ x, T x → X x := fun x hx => Ring.mem hf hg h0 (h.ring x hx)
  have hk' : X (g last) := hg.mem _ (hX _ h.lm)
  have hne : f (g last) ≠ g last := hf.fix _ hk'
  have hnT : ¬ T (f (g last)) := fun hT => hk (by have := h.cl _ hT; rwa [hf.inv _ hk'] at this)
  refine ⟨⟨fun x hx => ?_, .inr (.inr h.m0), .inr (.inl rfl), fun e => hnT (by rw [e]; exact h.m0), fun x hx => ?_, fun x hx h1 h2 => ?_⟩, hnT, hne⟩
  · rcases hx with rfl | rfl | hx
    · exact .two (h.ring _ h.lm)
    · exact .one (.two (h.ring _ h.lm))
    · exact h.ring x hx
  · rcases hx with rfl | rfl | hx
    · exact .inr (.inl rfl)
    · rw [hf.inv _ hk']; exact .inl rfl
    · exact .inr (.inr (h.cl x hx))
  · rcases hx with rfl | rfl | hx
    · rw [hg.inv _ (hX _ h.lm)]
      exact ⟨.inr (.inr h.lm), h.ne, fun e => hnT (by rw [← e]; exact h.lm)⟩
    · exact absurd rfl h2
    · by_cases e : x = last
      · subst e
        exact ⟨.inl rfl, fun e => hk (by rw [e]; exact h.m0), fun e => hne e.symm⟩
      · obtain ⟨q1, q2, q3⟩ := h.st x hx h1 e
        exact ⟨.inr (.inr q1), q2, fun e2 => hnT (by rw [← e2]; exact q1)⟩
def Seen (n : Nat) (d e : List Nat) (i x : Nat) : Prop := M0 n d e x ∨ ∃ j, j < i ∧ XX n d e j ∧ Ring (dm n d) (em e) j x
open Classical in
noncomputable def lpN (n : Nat) (d e : List Nat) : Nat → Nat
  | 0 => 0
  | i + 1 => if Seen n d e i i then lpN n d e i else lpN n d e i + 1
theorem qet (n : Nat) (d e : List Nat) : ∀ i, lpN n d e i ≤ i
  | 0 => Nat.le_refl _
  | i + 1 => by
    have := qet n d e i
    unfold lpN; split <;> omega
theorem qx9 {n : Nat} {d e : List Nat} (hd : isS n d = true) (he : isS n e = true) {i x : Nat} (h : Seen n d e i x) : x < n := by
  rcases h with h | ⟨j, _, hj, hr⟩
  · exact (X1 hd he n (Nat.le_refl _)).lt x h
  · exact (Ring.mem (Kx hd he) (Ko hd he) hj hr).1
theorem qll {n : Nat} {d e : List Nat} (hd : isS n d = true) (he : isS n e = true) {i : Nat} (hi : Seen n d e i i) (x : Nat) : Seen n d e (i + 1) x ↔ Seen n d e i x := by
  constructor
  · rintro (h | ⟨j, hj, hX, hr⟩)
    · exact .inl h
    · by_cases e1 : j = i
      · subst e1
        rcases hi with h | ⟨k, hk, hX', hr'⟩
        · exact absurd h hX.2
        · exact .inr ⟨k, hk, hX', hr'.trans hr⟩
      · exact .inr ⟨j, by omega, hX, hr⟩
  · rintro (h | ⟨j, hj, hX, hr⟩)
    · exact .inl h
    · exact .inr ⟨j, by omega, hX, hr⟩
theorem qk7 {n : Nat} {d e : List Nat} {i : Nat} (hin : i < n) (hi : ¬ Seen n d e i i) (x : Nat) : Seen n d e (i + 1) x ↔ Seen n d e i x ∨ Ring (dm n d) (em e) i x := by
  have hX : XX n d e i := ⟨hin, fun h => hi (.inl h)⟩
  constructor
  · rintro (h | ⟨j, hj, hX', hr⟩)
    · exact .inl (.inl h)
    · by_cases e1 : j = i
      · subst e1; exact .inr hr
      · exact .inl (.inr ⟨j, by omega, hX', hr⟩)
  · rintro ((h | ⟨j, hj, hX', hr⟩) | hr)
    · exact .inl h
    · exact .inr ⟨j, by omega, hX', hr⟩
    · exact .inr ⟨i, by omega, hX, hr⟩
theorem Yu {n : Nat} {d e : List Nat} (hd : isS n d = true) (he : isS n e = true) {i x : Nat} (hin : i < n) (hi : ¬ Seen n d e i i) (h : Ring (dm n d) (em e) i x) : ¬ Seen n d e i x := by
  have hX : XX n d e i := ⟨hin, fun h => hi (.inl h)⟩
  rintro (h1 | ⟨j, hj, hX', hr⟩)
  · exact (Ring.mem (Kx hd he) (Ko hd he) hX h).2 h1
  · exact hi (.inr ⟨j, hj, hX', hr.trans (h.symm (Kx hd he) (Ko hd he) hX)⟩)
def chP (p n : Int) (φ : List Nat → List Nat) (κ : List Nat → Int) (acc a : List (Int × List Nat × Int)) : List (Int × List Nat × Int) := a.foldl (fun acc t => j8 p acc n (φ t.2.1) (t.2.2 * κ t.2.1)) acc
def qmy (φ : List Nat → List Nat) (κ : List Nat → Int) (m : List Nat) : List (Int × List Nat × Int) → Int
  | [] => 0
  | t :: l => (if φ t.2.1 = m then t.2.2 * κ t.2.1 else 0) + qmy φ κ m l
def qs1 (n : Int) (F : Int) (φ : List Nat → List Nat) (κ : List Nat → Int) (a : List (Int × List Nat × Int)) : Prop := ∀ t ∈ a, okD (φ t.2.1) ∧ isS n.toNat (φ t.2.1) = true ∧ -F ≤ t.2.2 * κ t.2.1 ∧ t.2.2 * κ t.2.1 ≤ F
theorem qs1.take {n F : Int} {φ : List Nat → List Nat} {κ : List Nat → Int} {a : List (Int × List Nat × Int)} (h : qs1 n F φ κ a) (i : Nat) : qs1 n F φ κ (a.take i) := fun t ht => h t (List.mem_of_mem_take ht)
theorem qaj {p n F : Int} {φ : List Nat → List Nat} {κ : List Nat → Int} (hp : 0 < p) : ∀ {a acc : List (Int × List Nat × Int)}, xh p n acc → qs1 n F φ κ a → xh p n (chP p n φ κ acc a) ∧ (chP p n φ κ acc a).length ≤ acc.length + a.length
  | [], acc, h, _ => ⟨h, by simp [chP]⟩
  | t :: b, acc, h, hb => by
    obtain ⟨h1, h3, h4⟩ := hb t (List.mem_cons_self ..)
    have h5 := qcc (k := t.2.2 * κ t.2.1) hp h1 h3 h
    have h6 := qf0 (p := p) (n := n) (m := φ t.2.1) (k := t.2.2 * κ t.2.1) (ts := acc)
    have := qaj hp (a := b) h5 fun u hu => hb u (List.mem_cons_of_mem _ hu)
    refine ⟨this.1, ?_⟩
    have h7 := this.2
    have h3 : chP p n φ κ acc (t :: b) = chP p n φ κ (j8 p acc n (φ t.2.1) (t.2.2 * κ t.2.1)) b := rfl
    rw [h3, List.length_cons]; omega
theorem qtu {p n : Int} {φ : List Nat → List Nat} {κ : List Nat → Int} {m : List Nat} : ∀ {a acc : List (Int × List Nat × Int)}, (∀ t ∈ acc, t.1 = n) → p ∣ cf m (chP p n φ κ acc a) - (cf m acc + qmy φ κ m a)
  | [], acc, h => by simp [chP, qmy]
  | t :: b, acc, h => by
    have ih := qtu (p := p) (φ := φ) (κ := κ) (m := m) (a := b) (qqo (p := p) (m := φ t.2.1) (k := t.2.2 * κ t.2.1) h)
    have h1 := qqf (p := p) (k := t.2.2 * κ t.2.1) (m := m) (m' := φ t.2.1) h
    have e : chP p n φ κ acc (t :: b) = chP p n φ κ (j8 p acc n (φ t.2.1) (t.2.2 * κ t.2.1)) b := rfl
    rw [e]
    refine kc ih h1 ?_
    rw [qmy]
    omega
def yj (p c : Int) : Nat → Int
  | 0 => 1
  | k + 1 => (yj p c k * c).emod p
theorem qkb {p c : Int} (hp : 2 ≤ p) : ∀ k, 0 ≤ yj p c k ∧ yj p c k ≤ p - 1
  | 0 => by unfold yj; omega
  | k + 1 => by
    have h1 := Int.emod_nonneg (yj p c k * c) (show p ≠ 0 by omega)
    have h2 := Int.emod_lt_of_pos (yj p c k * c) (show 0 < p by omega)
    show 0 ≤ (yj p c k * c) % p ∧ (yj p c k * c) % p ≤ p - 1
    omega
theorem pow_mul {p c x : Int} (hp : 2 ≤ p ∧ p ≤ 97) (hc : 0 ≤ c ∧ c ≤ p - 1) (hx : 0 ≤ x ∧ x ≤ p - 1) : qm .i64 (x * c) = x * c ∧ Int.tmod (x * c) p = (x * c).emod p ∧ 0 ≤ x * c ∧ x * c ≤ 9216 := by
  have h0 : 0 ≤ x * c := Int.mul_nonneg hx.1 hc.1
  have h1 : x * c ≤ 96 * 96 := Int.mul_le_mul (by omega) (by omega) hc.1 (by omega)
  exact ⟨wrap64 (by omega) (by omega), Int.tmod_eq_emod_of_nonneg h0, h0, by omega⟩
def Xf : AC := .seq (.seq (.region [oM 10 2,oK 11 .gtr 10 0]) (.cond 11 .skip (.exit 0))) (.seq (.block 1 (.region [oM 14 7,oM 15 1,oP 16 .mul 14 15,oM 17 0,oP 18 .rem 16 17,oM 7 18])) (.region [oM 12 2,oK 13 .sub 12 1,oM 2 13]))
def Y7 : AC := .seq (.region [oM 19 7,oM 6 19]) .ret
def qa6 : AC := .seq (.region [oI 6 0]) (.seq (.region [oM 8 0,o0 9 (.bin .rem (.c (.int .i64 1)) (.t 8)),oM 7 9]) (.seq (.block 0 (.loop Xf)) Y7))
theorem qkk : zl Try.prog 69 = some ⟨20, qa6, [.slot 6]⟩ := by kernel_rfl
theorem qkh (p c : Int) (K : Nat) (hp : 2 ≤ p ∧ p ≤ 97) (hc : 0 ≤ c ∧ c ≤ p - 1) (hK : K ≤ 1000000) : Am.Fn Try.prog 69 [.int .i64 p, .int .i64 c, .int .i64 K] [] (fun v H' => v = .int .i64 (yj p c K) ∧ H' = []) := by
  refine Am.Fn.xu (R := fun v => v = _) qfq mixed qkk (by simp) (by simp) ?_
  have hne : p ≠ 0 := by omega
  have h1 : Int.tmod 1 p = 1 := Int.tmod_eq_of_lt (by omega) (by omega)
  simp (maxSteps := 3000000) only [qh, zH, qa6, hne, h1, iE, iN, iB, iC, iL, iD, iA, iS, iM, qa, zZ, ↓qt, ↓reduceIte, reduceCtorEq, nA, nM, nS, nE, nL, nD]; try simp only [qa, zY]
  refine WA.jh qfq (fun s => ∃ j : Nat, j ≤ K ∧ s = ⟨[(7, .int .i64 (yj p c j)), (2, .int .i64 ((K - j : Nat) : Int)), (1, .int .i64 c), (0, .int .i64 p)], []⟩)
    (fun s => match get s.env 2 with | .int _ x => x.toNat | _ => 0) ⟨_, qx.qy [7, 2, 1, 0], 0, by omega, rfl⟩ ?_
  rintro s ⟨j, hj, rfl⟩
  by_cases hlt : j < K
  · have hli : (0 : Int) < ((K - j : Nat) : Int) := by omega
    obtain ⟨m1, m2, m3, m4⟩ := pow_mul hp hc (qkb (c := c) hp.1 j)
    have hw : qm .i64 (((K - j : Nat) : Int) - 1) = ((K - (j + 1) : Nat) : Int) := by rw [wrap64 (by omega) (by omega)]; omega
    have hnext : (yj p c j * c).emod p = yj p c (j + 1) := rfl
    simp (maxSteps := 3000000) only [qh, zH, Xf, hli, m1, m2, hw, hne, hnext, iE, iN, iB, iC, iL, iD, iA, iS, iM, qa, zZ, ↓qt, ↓reduceIte, reduceCtorEq, nA, nM, nS, nE, nL, nD]; try simp only [qa, zY]
    refine ⟨_, qx.qy [7, 2, 1, 0], ⟨j + 1, by omega, ?_⟩, ?_⟩
    · simp only [zL, ↓reduceIte, reduceCtorEq, nE, nA]
    · simp only [zL, ↓reduceIte, reduceCtorEq, nE, nA]; omega
  · have hli : ¬ (0 : Int) < ((K - j : Nat) : Int) := by omega
    obtain rfl : j = K := by omega
    simp (maxSteps := 3000000) only [qh, zH, Xf, Y7, hli, iE, iN, iB, iC, iL, iD, iA, iS, iM, qa, zZ, ↓qt, ↓reduceIte, reduceCtorEq, nA, nM, nS, nE, nL, nD]; try simp only [qa, zY]
def Ue : List AV → Option AV
  | [.int .i64 p, .int .i64 c, .int .i64 k] => chk (((2 ≤ p ∧ p ≤ 97) ∧ (0 ≤ c ∧ c ≤ p - 1)) ∧ 0 ≤ k ∧ k ≤ 1000000) (some (.int .i64 (yj p c k.toNat)))
  | _ => none
theorem qxo : Am.Callee Try.prog 69 (ql Ue) := Am.Callee.plain fun xs v he => by
  unfold Ue at he
  split at he
  · rename_i p c k
    obtain ⟨⟨⟨h1, h2⟩, h3⟩, he⟩ := qk he
    cases he
    obtain ⟨K, rfl⟩ : ∃ K : Nat, k = K := ⟨k.toNat, by omega⟩
    rw [Int.toNat_natCast]
    exact ⟨rfl, rfl, qkh p c K h1 h2 (by omega)⟩
  · cases he
def B53 : zk := (B39.put 69 (ql Ue))
theorem qz0 : qu Try.prog B53 := (qfq.put (qxo))
theorem K2 {n : Int} {m : List Nat} : List.take 1 (dia n m) = [.int .i64 n] := rfl
theorem gp {x : Nat} (h : x < 16) : ((0 : Int) ≤ (x : Int) ∧ (x : Int) < ((16 : Nat) : Int)) ∧ 1 + x < 17 := by omega
def Wi : AC := .draw false [oM 6 0,oM 7 1,oM 8 0,oM 9 2,oM 10 2,o0 11 (.conv .u8 (.t 10)),oM 12 1,o0 13 (.conv .u8 (.t 12)),o0 14 (.vf (.t 6)),oF 15 1 14,o0 16 (.xd 16 1 (.t 15) (.t 7)),o0 17 (.vf (.t 8)),oF 18 1 17,oT 16 11,o0 19 (.xd 16 1 (.t 18) (.t 9)),oT 19 13]
theorem qcf : zl Try.prog 143 = some ⟨20, Wi, []⟩ := by kernel_rfl
theorem qz6 (n : Int) (m : List Nat) (i k : Nat) (hm : m.length = 16) (hi : i < 16) (hk : k < 16) :
    Am.Fn Try.prog 143 [.ptr 0 0, .int .i64 i, .int .i64 k] [.cells (dia n m)] (fun v H' => v = .tup [] ∧ H' = [.cells (dia n ((m.set i k).set k i))]) := by
  refine Am.Fn.ofB qfq mixed qcf (by simp [AV.qp, AV.under]) (fun j o hj => by
    match j, hj with
    | 0, hj => cases hj; exact qi _ _ (qg _ _)
    | j + 1, hj => simp at hj) ?_
  obtain ⟨a1, a2⟩ := gp hi
  obtain ⟨b1, b2⟩ := gp hk
  have hu1 : qm .u8 (i : Int) = i := Km (by omega)
  have hu2 : qm .u8 (k : Int) = k := Km (by omega)
  simp (maxSteps := 3000000) only [qh, zH, Wi, qf, hm, List.length_set, a1, a2, b1, b2, hu1, hu2, qav, AV.one, iE, iN, iB, iC, iL, iD, iA, iS, iM, qa, zZ, ↓qt, ↓reduceIte, reduceCtorEq, nA, nM, nS, nE, nL, nD]; try simp only [qa, zY]
  refine Ret.xf [0] ⟨⟨by simp, rfl, by decide⟩, ?_⟩ (rs := []) rfl rfl (by simp [zt]) ?_ ⟨?_, ?_⟩
  · simp only [zK, ↓reduceIte, reduceCtorEq, nE, nB, nA]
  · intro j l; match j with
    | 0 => simp [q7, AO.ren]
    | j + 1 => simp [q7]
  · rfl
  · simp only [zL, ↓reduceIte, reduceCtorEq, nE, nA]
def bt : BE := fun hp xs => match xs with
  | [.ptr b 0, .int .i64 i, .int .i64 k] => match hp[b]? with
    | some (.cells l) => match wv l with
      | some (n, m) => chk ((0 ≤ i ∧ i < 16) ∧ (0 ≤ k ∧ k < 16)) (some (.tup [], hp.set b (.cells (dia n ((m.set i.toNat k.toNat).set k.toNat i.toNat)))))
      | none => none
    | _ => none
  | _ => none
theorem qwx : Am.Callee Try.prog 143 bt := Callee.fp fun hp xs v hp' he => by
  unfold bt at he
  split at he
  · rename_i b i k
    split at he
    · rename_i l hb
      split at he
      · rename_i n m hd
        obtain ⟨⟨h1, h2⟩, he⟩ := qk he
        simp only [Option.some.injEq, Prod.mk.injEq] at he
        obtain ⟨rfl, rfl⟩ := he
        obtain ⟨rfl, hm⟩ := z6 hd
        obtain ⟨i, rfl⟩ : ∃ j : Nat, i = j := ⟨i.toNat, by omega⟩
        obtain ⟨k, rfl⟩ : ∃ j : Nat, k = j := ⟨k.toNat, by omega⟩
        simp only [Int.toNat_natCast]
        refine ⟨[(b, 0)], [.ptr 0 0, .int .i64 i, .int .i64 k], _, _, _, qz6 n m i k hm.1 (by omega) (by omega), by simp [AV.ren, AV.zg, ofL], rfl, ⟨⟨rfl, by simp only [AO.ren, qc _ _ (qg _ _)]; exact hb⟩, trivial⟩, rfl, ⟨qi _ _ (qg _ _), trivial⟩, ⟨by simp [AV.under], trivial, trivial, trivial⟩, by simp [AV.ren, AV.zg], ?_⟩
        simp [after, upd, AO.wr, AO.ren, qc _ _ (qg _ _)]
      · cases he
    · cases he
  · cases he
def B46 : zk := (B39.put 143 (bt))
theorem qua : qu Try.prog B46 := (qfq.put (qwx))
theorem u4 : B46 143 = some (bt) := rfl
def Vg (n : Nat) : Nat → List Nat
  | 0 => List.replicate 16 0
  | k + 1 => ((Vg n k).set k (n + k)).set (n + k) k
def xi (n : Nat) : List Nat := Vg n n
theorem qaw (n : Nat) : ∀ k, (Vg n k).length = 16
  | 0 => by simp [Vg]
  | k + 1 => by simp [Vg, qaw n k]
theorem qng {n : Nat} (hn : n ≤ 8) : ∀ k, k ≤ n → ∀ x ∈ Vg n k, x < 16
  | 0, _, x, hx => by rw [(List.mem_replicate.1 hx).2]; omega
  | k + 1, hk, x, hx => by
    unfold Vg at hx
    rcases List.mem_or_eq_of_mem_set hx with hx | rfl
    · rcases List.mem_or_eq_of_mem_set hx with hx | rfl
      · exact qng hn k (by omega) x hx
      · omega
    · omega
theorem qbg {n : Nat} (hn : n ≤ 8) {k : Nat} (hk : k ≤ n) : okD (Vg n k) := ⟨qaw n k, fun x hx => by have := qng hn k hk x hx; omega⟩
def Bb : AC := .seq (.region [oP 9 .lss 8 7]) (.seq (.cond 9 .skip (.exit 0)) (.seq (.block 1 (.seq (.region [oM 10 8,oM 4 10]) (.region [oM 11 4,oM 12 0,oM 13 4,oP 14 .add 12 13,oC 15 143 [.t 3,.t 11,.t 14]]))) (.region [oK 16 .add 8 1,oM 8 16])))
def qdd : AC := .seq (.region [oN 17 17 3,oS 17 2 17]) .ret
def qli : AC := .seq (.region [oD 2]) (.seq (.region [oM 5 0,o0 6 (.build [.int .i64 0,.int .u8 0,.int .u8 0,.int .u8 0,.int .u8 0,.int .u8 0,.int .u8 0,.int .u8 0,.int .u8 0,.int .u8 0,.int .u8 0,.int .u8 0,.int .u8 0,.int .u8 0,.int .u8 0,.int .u8 0,.int .u8 0] [(0,1,.t 5)]),oD 3,oS 17 3 6]) (.seq (.seq (.region [oM 7 0,oI 8 0]) (.block 0 (.loop Bb))) qdd))
theorem qw9 : zl Try.prog 88 = some ⟨18, qli, [.bg 2 17]⟩ := by kernel_rfl
theorem q0v (n : Nat) (hn : n ≤ 8) : Am.Fn Try.prog 88 [.int .i64 n] [] (fun v H' => v = .agg (dia n (xi n)) ∧ H' = []) := by
  refine Am.Fn.xu (R := fun v => v = _) qua mixed qw9 (by simp) (by simp) ?_
  simp (maxSteps := 3000000) only [qh, zH, qli, u4, bt, wy, xl, Y2, qf, j7, y6 j5 j5, List.length_replicate, iE, iN, iB, iC, iL, iD, iA, iS, iM, qa, zZ, ↓qt, ↓reduceIte, reduceCtorEq, nA, nM, nS, nE, nL, nD]; try simp only [qa, zY]
  refine WA.jh qua (fun s => ∃ i : Nat, i ≤ n ∧ s = ⟨[(8, .int .i64 i), (7, .int .i64 n), (3, .ptr 1 0), (2, .ptr 0 0), (0, .int .i64 n)], [.cells (dia 0 (List.replicate 16 0)), .cells (dia n (Vg n i))]⟩)
    (fun s => match get s.env 8 with | .int _ x => n - x.toNat | _ => 0) ⟨_, qx.qy [8, 7, 3, 2, 0], 0, by omega, rfl⟩ ?_
  rintro s ⟨i, hi, rfl⟩
  have hw : qm .i64 ((i : Int) + 1) = ((i + 1 : Nat) : Int) := by rw [wrap64 (by omega) (by omega)]; rfl
  have hok := qbg hn hi
  by_cases hlt : i < n
  · have hli : (i : Int) < (n : Int) := by omega
    have h2 : qm .i64 ((n : Int) + i) = ((n + i : Nat) : Int) := by rw [wrap64 (by omega) (by omega)]; rfl
    have c1 : (0 : Int) ≤ i ∧ (i : Int) < 16 := by omega
    have c2 : (0 : Int) ≤ (n + i : Nat) ∧ ((n + i : Nat) : Int) < 16 := by omega
    have hnext : Vg n (i + 1) = ((Vg n i).set i (n + i)).set (n + i) i := rfl
    simp (maxSteps := 3000000) only [qh, zH, Bb, u4, bt, hli, hw, h2, za hok, c1, c2, iE, iN, iB, iC, iL, iD, iA, iS, iM, qa, zZ, ↓qt, ↓reduceIte, reduceCtorEq, nA, nM, nS, nE, nL, nD]; try simp only [qa, zY]
    refine ⟨_, qx.qy [8, 7, 3, 2, 0], ⟨i + 1, by omega, ?_⟩, ?_⟩
    · simp only [zL, ↓reduceIte, reduceCtorEq, nE, nA]; rw [hnext]
    · simp only [zL, ↓reduceIte, reduceCtorEq, nE, nA]; omega
  · have hli : ¬ ((i : Int) < (n : Int)) := by omega
    obtain rfl : i = n := by omega
    simp (maxSteps := 3000000) only [qh, zH, Bb, qdd, u4, bt, hli, qf, hok.1, zb hok.1, y6 j5 hok.1, j7, List.length_replicate, Int.lt_irrefl, iE, iN, iB, iC, iL, iD, iA, iS, iM, qa, zZ, ↓qt, ↓reduceIte, reduceCtorEq, nA, nM, nS, nE, nL, nD]; try simp only [qa, zY]
    exact ⟨qg _ _, rfl⟩
def js : List AV → Option AV
  | [.int .i64 n] => chk (0 ≤ n ∧ n ≤ 8) (some (.agg (dia n (xi n.toNat))))
  | _ => none
theorem qi3 {f : FuncId} (h : ∀ n : Nat, n ≤ 8 → Am.Fn Try.prog f [.int .i64 n] [] (fun v H' => v = .agg (dia n (xi n)) ∧ H' = [])) : Am.Callee Try.prog f (ql js) := Am.Callee.plain fun xs v he => by
  unfold js at he
  split at he
  · rename_i n
    obtain ⟨h1, he⟩ := qk he
    cases he
    obtain ⟨N, rfl⟩ : ∃ N : Nat, n = N := ⟨n.toNat, by omega⟩
    rw [Int.toNat_natCast]
    exact ⟨rfl, by simp only [AV.zp, qg], h N (by omega)⟩
  · cases he
def B70 : zk := B53
theorem q02 : qu Try.prog B70 := qz0
def B79 : zk := B70
theorem qoz : qu Try.prog B79 := q02
def qzh (p c n : Int) (L : List (Int × List Nat × Int)) : ER := if L.length ≤ 140 then (p, c, n, L, 0) else (0, 0, 0, [], 3)
theorem qpx {p c n : Int} {L : List (Int × List Nat × Int)} (h : okT L) : q1y (qzh p c n L) := by
  unfold qzh
  split
  · rename_i hle; exact ⟨h, by simp only; omega⟩
  · exact ⟨(fun t h => by cases h), by simp⟩
structure qzd (H : List AO) (X Y : AV) (ts us : List (Int × List Nat × Int)) : Prop where
  x : ∀ rest, qzk (H ++ rest) X = some ts
  y : ∀ rest, qzk (H ++ rest) Y = some us
  ok : okT ts ∧ okT us
  un : ∀ (j : Nat) (o : AO), H[j]? = some o → o.under H.length
  ux : X.under H.length ∧ Y.under H.length
  sh : (H = [] ∧ X = .v (.slice none 0 0) ∧ Y = .v (.slice none 0 0)) ∨
    (∃ (o : AO) (nx cx : Nat), H = [o] ∧ X = .slc 0 0 nx true cx ∧ Y = .v (.slice none 0 0) ∧ (∀ ids, o.within ids = true) ∧ ∀ ρ, o.ren ρ = o) ∨
    (∃ (o : AO) (ny cy : Nat), H = [o] ∧ X = .v (.slice none 0 0) ∧ Y = .slc 0 0 ny true cy ∧ (∀ ids, o.within ids = true) ∧ ∀ ρ, o.ren ρ = o) ∨
    ∃ (o o' : AO) (nx cx ny cy : Nat), H = [o, o'] ∧ X = .slc 0 0 nx true cx ∧ Y = .slc 1 0 ny true cy ∧ (∀ ids, o.within ids = true) ∧ (∀ ρ, o.ren ρ = o) ∧ (∀ ids, o'.within ids = true) ∧ ∀ ρ, o'.ren ρ = o'
theorem qzd.h {H : List AO} {X Y : AV} {ts us : List (Int × List Nat × Int)} (a : qzd H X Y ts us) : H = [] ∨ (∃ o, H = [o]) ∨ ∃ o o', H = [o, o'] := by
  rcases a.sh with ⟨rfl, _⟩ | ⟨o, _, _, rfl, _⟩ | ⟨o, _, _, rfl, _⟩ | ⟨o, o', _, _, _, _, rfl, _⟩
  · exact .inl rfl
  · exact .inr (.inl ⟨_, rfl⟩)
  · exact .inr (.inl ⟨_, rfl⟩)
  · exact .inr (.inr ⟨_, _, rfl⟩)
end Go.Proofs.Ytfhckbbgmblhbaa
