/- Contracts: the program's sum of elements. Contracts: the program's sum of elements. Contracts: multiples of elements. Plain laws of diagrams: what becomes of them when they are flipped, widened and closed. Plain laws of diagrams: flips, a line at the right, and partial closures, as lists. Plain laws of diagrams: products, as one middle point after the other is left out. Plain laws of diagrams: the middle points that lines meet, and the loops. Plain laws of elements: each diagram becomes another one, and a number. Contracts: powers of numbers. Contracts: elements whose diagrams become others, whatever they become. Contracts: units, unions with the unit of one line, and diagrams with a line more. Contracts: two elements that are alike, and elements with not too many terms. Contracts: what the laws of two elements share. Contracts: along the lines of two diagrams, the reference. -/
import Derived.Test.YtkgoadglalpbfaaP3
namespace Go.Proofs.Ytkgoadglalpbfaa
open Go.Am Go.Dia
open Nat renaming reduceAdd → nA, reduceMul → nM, reduceSub → nS, reduceEqDiff → nE, reduceLT → nL, reduceLeDiff → nD, reduceBEq → nB
open Int renaming reduceEq → iE, reduceNe → iN, reduceBEq → iB, reduceBNe → iC, reduceLT → iL, reduceLE → iD, reduceAdd → iA, reduceSub → iS, reduceMul → iM
set_option linter.unusedSimpArgs false
set_option linter.unusedVariables false
set_option maxRecDepth 4000
set_option maxHeartbeats 1000000
def U4 (n : Int) (m : List Nat) : List (Int × List Nat × Int) → Option Nat
  | [] => none
  | t :: l => if n = t.1 ∧ m = t.2.1 then some 0 else (U4 n m l).map (· + 1)
theorem qeh {n : Int} {m : List Nat} (hm : m.length = 16) : ∀ {ts : List (Int × List Nat × Int)} {k i : Nat}, okT ts →
    uj KD true (.agg (dia n m)) (esT k ts) i = some ((U4 n m ts).map fun j => (i + j, ⟨.agg (dia n m), .int .i64 (ts.getD j zT).2.2, k + j⟩))
  | [], k, i, _ => rfl
  | t :: l, k, i, h => by
    have h1 := (h t (List.mem_cons_self ..)).1
    have ih := qeh (n := n) hm (ts := l) (k := k + 1) (i := i + 1) fun u hu => h u (List.mem_cons_of_mem _ hu)
    unfold esT uj
    simp only [keq, V6 hm h1, U4]
    by_cases e : n = t.1 ∧ m = t.2.1
    · simp only [decide_eq_true e, if_pos e, Option.map_some, Nat.add_zero, List.getD_cons_zero]
      obtain ⟨rfl, rfl⟩ := e
      rfl
    · simp only [decide_eq_false e, if_neg e, ih, Option.map_map]
      congr 1
      congr 1
      funext j
      simp only [Function.comp, List.getD_cons_succ]
      rw [show i + 1 + j = i + (j + 1) by omega, show k + 1 + j = k + (j + 1) by omega]
def Kd (n : Int) (m : List Nat) (f : Int) : List (Int × List Nat × Int) → List (Int × List Nat × Int)
  | [] => [(n, m, f)]
  | t :: l => if n = t.1 ∧ m = t.2.1 then (t.1, t.2.1, t.2.2 + f) :: l else t :: Kd n m f l
theorem qqa : ∀ {a b : List (Int × List Nat × Int)} {k : Nat}, esT k (a ++ b) = esT k a ++ esT (k + a.length) b
  | [], b, k => rfl
  | t :: a, b, k => by
    simp only [List.cons_append, esT, qqa, List.length_cons]
    rw [show k + 1 + a.length = k + (a.length + 1) by omega]
theorem qps {n v : Int} {m : List Nat} : ∀ {ts : List (Int × List Nat × Int)} {k j : Nat}, (esT k ts).set j ⟨.agg (dia n m), .int .i64 v, k + j⟩ = esT k (ts.set j (n, m, v))
  | [], k, j => rfl
  | t :: ts, k, 0 => rfl
  | t :: ts, k, j + 1 => by
    simp only [esT, List.set_cons_succ]
    rw [show k + (j + 1) = k + 1 + j by omega, qps]
theorem qji {n : Int} {m : List Nat} : ∀ {ts : List (Int × List Nat × Int)} {j : Nat}, U4 n m ts = some j → j < ts.length ∧ (ts.getD j zT).1 = n ∧ (ts.getD j zT).2.1 = m ∧ ∀ f, Kd n m f ts = ts.set j (n, m, (ts.getD j zT).2.2 + f)
  | t :: l, j, h => by
    unfold U4 at h
    split at h
    · rename_i e
      cases h
      obtain ⟨rfl, rfl⟩ := e
      exact ⟨by simp, rfl, rfl, fun f => by simp [Kd]⟩
    · rename_i e
      cases hi : U4 n m l with
      | none => rw [hi] at h; cases h
      | some i =>
        rw [hi] at h; cases h
        obtain ⟨h1, h2, h3, h4⟩ := qji hi
        exact ⟨by simp; omega, by simpa using h2, by simpa using h3, fun f => by simp [Kd, if_neg e, h4]⟩
theorem qht {n : Int} {m : List Nat} : ∀ {ts : List (Int × List Nat × Int)}, U4 n m ts = none → (∀ f, Kd n m f ts = ts ++ [(n, m, f)]) ∧ ∀ t ∈ ts, ¬ (n = t.1 ∧ m = t.2.1)
  | [], _ => ⟨fun _ => rfl, by simp⟩
  | t :: l, h => by
    unfold U4 at h
    split at h
    · cases h
    · rename_i e
      have hi : U4 n m l = none := by
        cases hi : U4 n m l with
        | none => rfl
        | some i => rw [hi] at h; cases h
      obtain ⟨h1, h2⟩ := qht hi
      refine ⟨fun f => by simp [Kd, if_neg e, h1], fun u hu => ?_⟩
      rcases List.mem_cons.1 hu with rfl | hu
      · exact e
      · exact h2 u hu
structure qw3 (n M : Int) (ts : List (Int × List Nat × Int)) : Prop where
  ok : okT ts
  dia : ∀ t ∈ ts, t.1 = n ∧ isS n.toNat t.2.1 = true
  fac : ∀ t ∈ ts, -M ≤ t.2.2 ∧ t.2.2 ≤ M
  one : ts.Pairwise fun a b => a.2.1 ≠ b.2.1
theorem qm1 {n f : Int} {m : List Nat} {u : Int × List Nat × Int} : ∀ {ts : List (Int × List Nat × Int)}, u ∈ Kd n m f ts → (∃ t ∈ ts, u.1 = t.1 ∧ u.2.1 = t.2.1 ∧ (u.2.2 = t.2.2 ∨ u.2.2 = t.2.2 + f)) ∨ (u = (n, m, f) ∧ ∀ t ∈ ts, ¬ (n = t.1 ∧ m = t.2.1))
  | [], h => by
    rw [Kd, List.mem_singleton] at h
    exact .inr ⟨h, by simp⟩
  | t :: l, h => by
    unfold Kd at h
    split at h
    · rcases List.mem_cons.1 h with rfl | h
      · exact .inl ⟨t, List.mem_cons_self .., rfl, rfl, .inr rfl⟩
      · exact .inl ⟨u, List.mem_cons_of_mem _ h, rfl, rfl, .inl rfl⟩
    · rename_i e
      rcases List.mem_cons.1 h with rfl | h
      · exact .inl ⟨u, List.mem_cons_self .., rfl, rfl, .inl rfl⟩
      · rcases qm1 h with ⟨v, hv, h1⟩ | ⟨h1, h2⟩
        · exact .inl ⟨v, List.mem_cons_of_mem _ hv, h1⟩
        · refine .inr ⟨h1, fun v hv => ?_⟩
          rcases List.mem_cons.1 hv with rfl | hv
          · exact e
          · exact h2 v hv
theorem qmr {n f : Int} {m : List Nat} : ∀ {ts : List (Int × List Nat × Int)}, (∀ t ∈ ts, t.1 = n) → (ts.Pairwise fun a b => a.2.1 ≠ b.2.1) → (Kd n m f ts).Pairwise fun a b => a.2.1 ≠ b.2.1
  | [], _, _ => List.pairwise_singleton _ _
  | t :: l, hs, h => by
    have h' := List.pairwise_cons.1 h
    unfold Kd
    split
    · exact List.pairwise_cons.2 ⟨fun u hu => h'.1 u hu, h'.2⟩
    · rename_i e
      refine List.pairwise_cons.2 ⟨fun u hu => ?_, qmr (fun u hu => hs u (List.mem_cons_of_mem _ hu)) h'.2⟩
      rcases qm1 hu with ⟨v, hv, _, h2, _⟩ | ⟨rfl, _⟩
      · rw [h2]; exact h'.1 v hv
      · intro e2; exact e ⟨(hs t (List.mem_cons_self ..)).symm, e2.symm⟩
def cf (m : List Nat) : List (Int × List Nat × Int) → Int
  | [] => 0
  | t :: l => (if t.2.1 = m then t.2.2 else 0) + cf m l
theorem qvd {m : List Nat} : ∀ {a b : List (Int × List Nat × Int)}, cf m (a ++ b) = cf m a + cf m b
  | [], b => by simp [cf]
  | t :: a, b => by simp only [List.cons_append, cf, qvd (a := a)]; omega
theorem qyp {m : List Nat} {a b : List (Int × List Nat × Int)} (h : a.Perm b) : cf m a = cf m b := by
  induction h with
  | nil => rfl
  | cons x _ ih => simp only [cf, ih]
  | swap x y l => simp only [cf]; omega
  | trans _ _ h1 h2 => rw [h1, h2]
theorem qd3 (p a : Int) : p ∣ a.emod p - a := ⟨-(a / p), by
  have : a.emod p = a - p * (a / p) := Int.emod_def a p
  rw [this, Int.mul_neg]; omega⟩
theorem kq {p x y z : Int} (h1 : p ∣ x) (h2 : p ∣ y) (e : z = x + y) : p ∣ z := e ▸ Int.dvd_add h1 h2
theorem qis {p x y z : Int} (h1 : p ∣ x) (h2 : p ∣ y) (e : z = x - y) : p ∣ z := e ▸ Int.dvd_sub h1 h2
theorem qjh {p a : Int} (h : a.emod p = 0) : p ∣ a := Int.dvd_of_emod_eq_zero h
theorem qp6 {n f : Int} {m m' : List Nat} : ∀ {ts : List (Int × List Nat × Int)}, (∀ t ∈ ts, t.1 = n) → cf m (Kd n m' f ts) = cf m ts + if m' = m then f else 0
  | [], _ => by simp [Kd, cf]
  | t :: l, h => by
    have h0 := h t (List.mem_cons_self ..)
    unfold Kd
    split
    · rename_i e
      simp only [cf, e.2]
      split <;> omega
    · simp only [cf, qp6 (ts := l) fun u hu => h u (List.mem_cons_of_mem _ hu)]
      omega
theorem qpr {p : Int} {m : List Nat} : ∀ {ts : List (Int × List Nat × Int)}, p ∣ cf m (xf p ts) - cf m ts
  | [] => by simp [xf, cf]
  | t :: l => by
    have ih := qpr (p := p) (m := m) (ts := l)
    unfold xf at ih ⊢
    rw [List.filterMap_cons]
    split
    · rename_i e
      split at e
      · rename_i e2
        simp only [cf]
        split
        · exact qis ih (qjh e2) (by omega)
        · exact kq ih (Int.dvd_zero p) (by omega)
      · cases e
    · rename_i u e
      split at e
      · cases e
      · cases e
        simp only [cf]
        split
        · exact kq ih (qd3 p t.2.2) (by omega)
        · exact kq ih (Int.dvd_zero p) (by omega)
theorem qpp {p n kk : Int} {m m' : List Nat} : ∀ {ts : List (Int × List Nat × Int)}, (∀ t ∈ ts, t.1 = n) → p ∣ cf m (Km p n m' kk ts) - (cf m ts + if m' = m then kk else 0)
  | [], _ => by simp [Km, cf]
  | t :: l, h => by
    have ih := qpp (p := p) (kk := kk) (m := m) (m' := m') (ts := l) fun u hu => h u (List.mem_cons_of_mem _ hu)
    unfold Km
    split
    · simp only [cf]
      exact kq ih (Int.dvd_zero p) (by omega)
    · split
      · rename_i e
        rw [qvd]
        split
        · rename_i e0
          simp only [cf, e.2]
          split
          · exact qis (Int.dvd_zero p) (qjh e0) (by omega)
          · exact kq (Int.dvd_zero p) (Int.dvd_zero p) (by omega)
        · simp only [cf, e.2]
          split
          · exact kq (qd3 p (t.2.2 + kk)) (Int.dvd_zero p) (by omega)
          · exact kq (Int.dvd_zero p) (Int.dvd_zero p) (by omega)
      · simp only [cf]
        exact kq (Int.dvd_zero p) (Int.dvd_zero p) (by omega)
theorem qys {p n k : Int} {m m' : List Nat} {ts : List (Int × List Nat × Int)} (h : ∀ t ∈ ts, t.1 = n) : p ∣ cf m (yq p ts n m' k) - (cf m ts + if m' = m then k else 0) := by
  rw [qan]
  split
  · rename_i e
    split
    · exact qis (Int.dvd_zero p) (qjh e) (by omega)
    · exact kq (Int.dvd_zero p) (Int.dvd_zero p) (by omega)
  · have h1 := qpp (p := p) (kk := k.emod p) (m := m) (m' := m') h
    split at h1
    · rename_i e
      rw [if_pos e]
      exact kq h1 (qd3 p k) (by omega)
    · rename_i e
      rw [if_neg e]; exact h1
theorem qid {m : List Nat} : ∀ {ts : List (Int × List Nat × Int)}, (∀ t ∈ ts, t.2.1 ≠ m) → cf m ts = 0
  | [], _ => rfl
  | t :: l, h => by
    simp only [cf, if_neg (h t (List.mem_cons_self ..)), qid (ts := l) fun u hu => h u (List.mem_cons_of_mem _ hu)]; rfl
theorem qnj : ∀ {ts : List (Int × List Nat × Int)}, (ts.Pairwise fun a b => a.2.1 ≠ b.2.1) → ∀ t ∈ ts, cf t.2.1 ts = t.2.2
  | u :: l, h, t, ht => by
    have h' := List.pairwise_cons.1 h
    rcases List.mem_cons.1 ht with rfl | ht
    · simp only [cf, if_true, qid fun v hv e => h'.1 v hv e.symm]; omega
    · simp only [cf, if_neg (h'.1 t ht), qnj h'.2 t ht]; omega
theorem qu7 {ts : List (Int × List Nat × Int)} {n : Int} (hs : ∀ t ∈ ts, t.1 = n) (h : upT ts) : ts.Pairwise fun a b => a.2.1 ≠ b.2.1 := by
  refine List.Pairwise.imp_of_mem ?_ h
  intro a b ha hb hlt e
  have : txt a = txt b := by unfold txt; rw [hs a ha, hs b hb, e]
  unfold ltT at hlt
  rw [this, Zb] at hlt; cases hlt
theorem qd4 {p n : Int} {ts : List (Int × List Nat × Int)} (h : j9 p n ts) (hp : 0 < p) (m : List Nat) : (0 ≤ cf m ts ∧ cf m ts ≤ p - 1) ∧ ∀ t : Int × List Nat × Int, t.2.1 = m → (t ∈ ts ↔ t.1 = n ∧ t.2.2 = cf m ts ∧ cf m ts ≠ 0) := by
  have ha := qu7 (fun t ht => (h.dia t ht).1) h.up
  by_cases hx : ∃ t ∈ ts, t.2.1 = m
  · obtain ⟨t, ht, rfl⟩ := hx
    have e := qnj ha t ht
    have hf := h.fac t ht
    rw [e]
    refine ⟨by omega, fun u hu => ⟨fun hm => ?_, fun ⟨h1, h2, _⟩ => ?_⟩⟩
    · have e2 := qnj ha u hm
      rw [hu, e] at e2
      exact ⟨(h.dia u hm).1, e2.symm, by omega⟩
    · have : u = t := by
        obtain ⟨a, b, c⟩ := u
        obtain ⟨a', b', c'⟩ := t
        simp only at h1 h2 hu
        rw [h1, h2, hu, ← (h.dia _ ht).1]
      rw [this]; exact ht
  · have e := qid (m := m) (ts := ts) fun t ht e => hx ⟨t, ht, e⟩
    rw [e]
    exact ⟨by omega, fun u hu => ⟨fun hm => absurd ⟨u, hm, hu⟩ hx, fun h3 => absurd rfl h3.2.2⟩⟩
theorem qmo {ts : List (Int × List Nat × Int)} (h : upT ts) : ts.Nodup := h.imp fun {a b} hlt e => by
  subst e; unfold ltT at hlt; rw [Zb] at hlt; cases hlt
theorem ql9 {p n : Int} {a b : List (Int × List Nat × Int)} (hp : 0 < p) (ha : j9 p n a) (hb : j9 p n b) (h : ∀ m, p ∣ cf m a - cf m b) : a = b := by
  have he : ∀ m, cf m a = cf m b := fun m => by
    obtain ⟨q, hq⟩ := h m
    have h1 := (qd4 ha hp m).1
    have h2 := (qd4 hb hp m).1
    have : q = 0 := by
      rcases Int.lt_trichotomy q 0 with hl | hl | hl
      · exfalso
        have : p * q ≤ p * (-1) := Int.mul_le_mul_of_nonneg_left (by omega) (by omega)
        omega
      · exact hl
      · exfalso
        have : p * 1 ≤ p * q := Int.mul_le_mul_of_nonneg_left (by omega) (by omega)
        omega
    subst this
    omega
  refine qcc ha.up hb.up ((List.perm_ext_iff_of_nodup (qmo ha.up) (qmo hb.up)).2 fun t => ?_)
  rw [(qd4 ha hp t.2.1).2 t rfl, (qd4 hb hp t.2.1).2 t rfl, he]
theorem qtd {p n M : Int} {S : List (Int × List Nat × Int)} (hp : 0 < p) (h : qw3 n M S) : j9 p n (Xt (xf p S)) := by
  have hmem : ∀ t ∈ Xt (xf p S), ∃ u ∈ S, t = (u.1, u.2.1, u.2.2.emod p) ∧ u.2.2.emod p ≠ 0 := fun t ht => qd7 ((kv _).mem_iff.1 ht)
  refine ⟨fun t ht => ?_, fun t ht => ?_, fun t ht => ?_, qa4 (qfu ?_)⟩
  · obtain ⟨u, hu, rfl, _⟩ := hmem t ht; exact h.ok u hu
  · obtain ⟨u, hu, rfl, _⟩ := hmem t ht; exact h.dia u hu
  · obtain ⟨u, hu, rfl, hne⟩ := hmem t ht
    have b1 : 0 ≤ u.2.2.emod p := Int.emod_nonneg _ (by omega)
    have b2 : u.2.2.emod p < p := Int.emod_lt_of_pos _ hp
    simp only; omega
  · unfold Ub List.Nodup
    rw [List.pairwise_map]
    refine List.Pairwise.imp_of_mem ?_ h.one
    intro a b ha hb hne e
    unfold txt at e
    have h1 := h.dia a ha
    have h2 := h.dia b hb
    rw [h1.1, h2.1] at e
    exact hne (qe9 h1.2 h2.2 (h.ok a ha).1 (h.ok b hb).1 e).2
theorem qx4 {p : Int} {m : List Nat} {S : List (Int × List Nat × Int)} : p ∣ cf m (Xt (xf p S)) - cf m S := by
  rw [qyp (kv _)]; exact qpr
theorem K9 (P : Program) (B : zo) (cf : Bool) (K : St → Prop) (s : St) (a : AI) (t r : AT) : Ud P B cf (.alt a t r) K s = (qaz P B cf a (Ud P B cf t K) s ∧ Ud P B cf r K s) := nrX rfl
theorem qdz (P : Program) (B : zo) (cf : Bool) (K : St → Prop) (s : St) : Ud P B cf .none K s = True := nrX rfl
theorem qsu {n M : Int} {S : List (Int × List Nat × Int)} (h : qw3 n M S) : (S.map txt).Nodup := by
  unfold List.Nodup
  rw [List.pairwise_map]
  refine List.Pairwise.imp_of_mem ?_ h.one
  intro a b ha hb hne e
  unfold txt at e
  have h1 := h.dia a ha
  have h2 := h.dia b hb
  rw [h1.1, h2.1] at e
  exact hne (qe9 h1.2 h2.2 (h.ok a ha).1 (h.ok b hb).1 e).2
theorem qzr {n M p : Int} {S : List (Int × List Nat × Int)} (hn : 0 ≤ n ∧ n ≤ 8) (h : qw3 n M S) : (0 ≤ qdk S ∧ qdk S ≤ 8) ∧ (∀ t ∈ S, t.1 = qdk S) ∧ (if xf p S = [] then n else qdk S) = n := by
  match S, h with
  | [], h => exact ⟨by simp [qdk], by simp, by simp [xf]⟩
  | t :: l, h =>
    have e : qdk (t :: l) = n := (h.dia t (List.mem_cons_self ..)).1
    rw [e]
    exact ⟨hn, fun u hu => (h.dia u hu).1, by split <;> rfl⟩
theorem qyl {p n k : Int} {m : List Nat} {ts : List (Int × List Nat × Int)} (h : ∀ t ∈ ts, t.1 = n) : ∀ t ∈ yq p ts n m k, t.1 = n := fun t ht => by
  rw [qan] at ht
  split at ht
  · exact h t ht
  · rcases V1 ht with h1 | ⟨h1, _⟩
    · exact h t h1
    · exact h1
def B38 : zo := B37
theorem qzp : qx Try.prog B38 := q0g
abbrev qt3 : AO := .cells [.int .i64 0, .int .i64 0, .int .i64 0, .v (.slice none 0 0)]
theorem qph {p c n : Int} {a : List (Int × List Nat × Int)} (h : yi p c n a = true) : (2 ≤ p ∧ p ≤ 97) ∧ (0 ≤ c ∧ c ≤ p - 1) ∧ (1 ≤ n ∧ n ≤ 8) ∧ a.length ≤ 140 := by
  simp only [yi, Bool.and_eq_true, decide_eq_true_eq] at h
  have := qju h.1.1.1.1
  exact ⟨by omega, h.1.1.1.2, h.1.1.2, h.1.2⟩
abbrev ER := Int × Int × Int × List (Int × List Nat × Int) × Int
def q1s (r : ER) : Prop := okT r.2.2.2.1 ∧ r.2.2.2.1.length ≤ 300
def B39 : zo := B38
theorem qex : qx Try.prog B39 := qzp
structure NC (L : Nat) (F : Nat → Nat) : Prop where
  lt : ∀ k, k < L → F k < L
  inv : ∀ k, k < L → F (F k) = k
  fix : ∀ k, k < L → F k ≠ k
  jy : ∀ j l, j < L → l < L → ¬(j < l ∧ l < F j ∧ F j < F l)
def mf (n : Nat) (m : List Nat) (k : Nat) : Nat := place n (m.getD (place n k) 0)
theorem x9 {n : Nat} {m : List Nat} (h : isS n m = true) : (1 ≤ n ∧ n ≤ 8) ∧ (∀ i, i < 2 * n → m.getD i 0 < 2 * n ∧ m.getD i 0 ≠ i ∧ m.getD (m.getD i 0) 0 = i) ∧ ∀ i, 2 * n ≤ i → i < 16 → m.getD i 0 = 0 := by
  unfold isS at h
  simp only [Bool.and_eq_true, decide_eq_true_eq] at h
  obtain ⟨hn, hp, hc⟩ := h
  refine ⟨hn, fun i hi => ?_, fun i hi hi' => ?_⟩
  · have := List.all_eq_true.1 hp i (List.mem_range.2 (by omega))
    rw [if_neg (by omega)] at this
    simpa using this
  · have := List.all_eq_true.1 hp i (List.mem_range.2 hi')
    rw [if_pos hi] at this
    simpa using this
theorem qij {n : Nat} {m : List Nat} (h : isS n m = true) : NC (2 * n) (mf n m) := by
  obtain ⟨hn, hp', hz⟩ := x9 h
  unfold isS at h
  simp only [Bool.and_eq_true, decide_eq_true_eq] at h
  obtain ⟨_, _, hc⟩ := h
  refine ⟨fun k hk => zd (hp' _ (zd hk)).1, fun k hk => ?_, fun k hk e => ?_, ?_⟩
  · show place n (m.getD (place n (place n (m.getD (place n k) 0))) 0) = k
    rw [ze (hp' _ (zd hk)).1, (hp' _ (zd hk)).2.2, ze hk]
  · apply (hp' _ (zd hk)).2.1
    rw [← ze (hp' _ (zd hk)).1]
    show place n (mf n m k) = place n k
    rw [e]
  · rintro j l hj hl ⟨b1, b2, b3⟩
    have h1 := List.all_eq_true.1 (List.all_eq_true.1 hc (place n j) (List.mem_range.2 (zd hj))) (place n l) (List.mem_range.2 (zd hl))
    simp only [Va, Vc, ze hj, ze hl, Bool.not_eq_true', decide_eq_false_iff_not] at h1
    apply h1
    show min j (mf n m j) < min l (mf n m l) ∧ min l (mf n m l) < max j (mf n m j) ∧ max j (mf n m j) < max l (mf n m l)
    omega
theorem qzw {n : Nat} {m : List Nat} (hn : 1 ≤ n ∧ n ≤ 8) (hz : ∀ i, 2 * n ≤ i → i < 16 → m.getD i 0 = 0) (hl : ∀ i, i < 2 * n → m.getD i 0 < 2 * n) (h : NC (2 * n) (mf n m)) : isS n m = true := by
  have hm : ∀ i, i < 2 * n → mf n m (place n i) = place n (m.getD i 0) := fun i hi => by unfold mf; rw [ze hi]
  unfold isS
  simp only [Bool.and_eq_true, decide_eq_true_eq]
  refine ⟨hn, List.all_eq_true.2 fun i hi => ?_, List.all_eq_true.2 fun i hi => List.all_eq_true.2 fun k hk => ?_⟩
  · have hi' := List.mem_range.1 hi
    split
    · rename_i g1; simpa using hz i g1 hi'
    · rename_i g1
      have hi2 : i < 2 * n := by omega
      have h1 := hl i hi2
      simp only [decide_eq_true_eq]
      refine ⟨h1, fun e => ?_, ?_⟩
      · apply h.fix (place n i) (zd hi2)
        rw [hm i hi2, e]
      · have h2 := h.inv (place n i) (zd hi2)
        rw [hm i hi2, hm _ h1] at h2
        have h3 := congrArg (place n) h2
        rwa [ze (hl _ h1), ze hi2] at h3
  · have hi' := List.mem_range.1 hi
    have hk' := List.mem_range.1 hk
    simp only [Va, Vc, ← hm i hi', ← hm k hk', Bool.not_eq_true', decide_eq_false_iff_not]
    rintro ⟨b1, b2, b3⟩
    have hx := zd hi'
    have hy := zd hk'
    generalize place n i = x at *
    generalize place n k = y at *
    have a := h.lt x hx
    have a' := h.lt y hy
    have c := h.inv x hx
    have c' := h.inv y hy
    have k1 := h.jy x y hx hy
    have k2 := h.jy x (mf n m y) hx a'
    have k3 := h.jy (mf n m x) y a hy
    have k4 := h.jy (mf n m x) (mf n m y) a a'
    rw [c'] at k2
    rw [c] at k3
    rw [c, c'] at k4
    omega
def up (j k : Nat) : Nat := if k < j then k else k + 2
def dn (j k : Nat) : Nat := if k < j then k else k - 2
theorem qp2 {j k : Nat} (h1 : k ≠ j) (h2 : k ≠ j + 1) : up j (dn j k) = k := by
  unfold up dn
  by_cases h : k < j
  · rw [if_pos h, if_pos h]
  · rw [if_neg h, if_neg (by omega)]; omega
theorem qqi {j k : Nat} : dn j (up j k) = k := by
  unfold up dn
  by_cases h : k < j
  · rw [if_pos h, if_pos h]
  · rw [if_neg h, if_neg (by omega)]; omega
theorem qh1 {j k : Nat} : up j k ≠ j ∧ up j k ≠ j + 1 := by unfold up; split <;> omega
theorem qhf {j k k' : Nat} : up j k < up j k' ↔ k < k' := by unfold up; split <;> split <;> omega
theorem qmy {j k L : Nat} (hj : j ≤ L) : up j k < L + 2 ↔ k < L := by unfold up; split <;> omega
theorem NC.insert {L j : Nat} {F F' : Nat → Nat} (h : NC L F) (hj : j ≤ L) (e1 : F' j = j + 1) (e2 : F' (j + 1) = j) (e : ∀ k, k < L → F' (up j k) = up j (F k)) : NC (L + 2) F' := by
  have hc : ∀ k, k < L + 2 → k = j ∨ k = j + 1 ∨ ∃ i, i < L ∧ k = up j i := fun k hk => by
    by_cases h1 : k = j
    · exact .inl h1
    by_cases h2 : k = j + 1
    · exact .inr (.inl h2)
    exact .inr (.inr ⟨dn j k, (qmy hj).1 (by rw [qp2 h1 h2]; exact hk), (qp2 h1 h2).symm⟩)
  refine ⟨fun k hk => ?_, fun k hk => ?_, fun k hk => ?_, fun a b ha hb => ?_⟩
  · rcases hc k hk with rfl | rfl | ⟨i, hi, rfl⟩
    · omega
    · omega
    · rw [e i hi]; exact (qmy hj).2 (h.lt i hi)
  · rcases hc k hk with rfl | rfl | ⟨i, hi, rfl⟩
    · rw [e1, e2]
    · rw [e2, e1]
    · rw [e i hi, e _ (h.lt i hi), h.inv i hi]
  · rcases hc k hk with rfl | rfl | ⟨i, hi, rfl⟩
    · omega
    · omega
    · rw [e i hi]
      intro h2
      have := congrArg (dn j) h2
      rw [qqi, qqi] at this
      exact h.fix i hi this
  · rcases hc a ha with rfl | rfl | ⟨i, hi, rfl⟩
    · rw [e1]; omega
    · rw [e2]; omega
    · rcases hc b hb with rfl | rfl | ⟨l, hl, rfl⟩
      · rw [e1, e i hi]; have := @qh1 b (F i); omega
      · rw [e2, e i hi]; have := @qh1 j (F i); have := @qh1 j i; omega
      · rw [e i hi, e l hl, qhf, qhf, qhf]; exact h.jy i l hi hl
theorem NC.remove {L j : Nat} {F F' : Nat → Nat} (h : NC (L + 2) F) (hj : j ≤ L) (e : ∀ k, k < L → F' k = dn j (if F (up j k) = j then F (j + 1) else if F (up j k) = j + 1 then F j else F (up j k))) : NC L F' := by
  let G : Nat → Nat := fun x => if F x = j then F (j + 1) else if F x = j + 1 then F j else F x
  have hG : ∀ x, x < L + 2 → x ≠ j → x ≠ j + 1 → G x < L + 2 ∧ G x ≠ j ∧ G x ≠ j + 1 ∧ G (G x) = x ∧ G x ≠ x := fun x hx n1 n2 => by
    have a := h.lt x hx
    have c := h.inv x hx
    have f := h.fix x hx
    have a0 := h.lt j (by omega)
    have c0 := h.inv j (by omega)
    have f0 := h.fix j (by omega)
    have a1 := h.lt (j + 1) (by omega)
    have c1 := h.inv (j + 1) (by omega)
    have f1 := h.fix (j + 1) (by omega)
    show (if F x = j then F (j + 1) else if F x = j + 1 then F j else F x) < L + 2 ∧ _
    by_cases g1 : F x = j
    · have e0 : F j = x := by rw [← g1]; exact c
      have e3 : G x = F (j + 1) := if_pos g1
      have n3 : F (j + 1) ≠ j := fun g => by rw [g] at c1; omega
      refine ⟨by rw [if_pos g1]; exact a1, by rw [e3]; exact n3, by rw [e3]; exact f1, ?_, ?_⟩
      · rw [e3]
        show (if F (F (j + 1)) = j then F (j + 1) else if F (F (j + 1)) = j + 1 then F j else F (F (j + 1))) = x
        rw [c1, if_neg (by omega), if_pos rfl, e0]
      · rw [e3]; intro g; rw [g] at c1; omega
    · by_cases g2 : F x = j + 1
      · have e0 : F (j + 1) = x := by rw [← g2]; exact c
        have e3 : G x = F j := by show (if F x = j then F (j + 1) else if F x = j + 1 then F j else F x) = _; rw [if_neg g1, if_pos g2]
        have n3 : F j ≠ j + 1 := fun g => by rw [g] at c0; omega
        refine ⟨by rw [if_neg g1, if_pos g2]; exact a0, by rw [e3]; exact f0, by rw [e3]; exact n3, ?_, ?_⟩
        · rw [e3]
          show (if F (F j) = j then F (j + 1) else if F (F j) = j + 1 then F j else F (F j)) = x
          rw [c0, if_pos rfl, e0]
        · rw [e3]; intro g; rw [g] at c0; omega
      · have e3 : G x = F x := by show (if F x = j then F (j + 1) else if F x = j + 1 then F j else F x) = _; rw [if_neg g1, if_neg g2]
        refine ⟨by rw [if_neg g1, if_neg g2]; exact a, by rw [e3]; exact g1, by rw [e3]; exact g2, ?_, by rw [e3]; exact f⟩
        rw [e3]
        show (if F (F x) = j then F (j + 1) else if F (F x) = j + 1 then F j else F (F x)) = x
        rw [c, if_neg n1, if_neg n2]
  have hX : ∀ x y, x < L + 2 → y < L + 2 → x ≠ j → x ≠ j + 1 → y ≠ j → y ≠ j + 1 → ¬(x < y ∧ y < G x ∧ G x < G y) := fun x y hx hy n1 n2 n3 n4 => by
    have a := h.lt x hx
    have c := h.inv x hx
    have b := h.lt y hy
    have d := h.inv y hy
    have a0 := h.lt j (by omega)
    have c0 := h.inv j (by omega)
    have f0 := h.fix j (by omega)
    have a1 := h.lt (j + 1) (by omega)
    have c1 := h.inv (j + 1) (by omega)
    have f1 := h.fix (j + 1) (by omega)
    have gx : G x = if F x = j then F (j + 1) else if F x = j + 1 then F j else F x := rfl
    have gy : G y = if F y = j then F (j + 1) else if F y = j + 1 then F j else F y := rfl
    have k1 := h.jy x y hx hy
    by_cases g1 : F x = j
    · have e0 : F j = x := by rw [← g1]; exact c
      rw [gx, if_pos g1]
      by_cases g3 : F y = j
      · have : F j = y := by rw [← g3]; exact d
        omega
      by_cases g4 : F y = j + 1
      · have e4 : F (j + 1) = y := by rw [← g4]; exact d
        omega
      rw [gy, if_neg g3, if_neg g4]
      have k2 := h.jy (j + 1) y (by omega) hy
      have k3 := h.jy (F (j + 1)) (F y) a1 b
      have k4 := h.jy y (j + 1) hy (by omega)
      have k5 := h.jy x y hx hy
      have k6 := h.jy y (F (j + 1)) hy a1
      rw [c1, d] at k3
      rw [c1] at k6
      omega
    · by_cases g2 : F x = j + 1
      · have e0 : F (j + 1) = x := by rw [← g2]; exact c
        rw [gx, if_neg g1, if_pos g2]
        by_cases g3 : F y = j
        · have e3 : F j = y := by rw [← g3]; exact d
          omega
        by_cases g4 : F y = j + 1
        · have : F (j + 1) = y := by rw [← g4]; exact d
          omega
        rw [gy, if_neg g3, if_neg g4]
        have k2 := h.jy j y (by omega) hy
        have k3 := h.jy (F j) (F y) a0 b
        have k4 := h.jy y j hy (by omega)
        have k6 := h.jy y (F j) hy a0
        rw [c0, d] at k3
        rw [c0] at k6
        omega
      · rw [gx, if_neg g1, if_neg g2]
        by_cases g3 : F y = j
        · have e3 : F j = y := by rw [← g3]; exact d
          rw [gy, if_pos g3]
          have k2 := h.jy x (j + 1) hx (by omega)
          have k3 := h.jy (F (j + 1)) x a1 hx
          have k4 := h.jy x (F (j + 1)) hx a1
          have k5 := h.jy (j + 1) (F x) (by omega) a
          have k6 := h.jy j x (by omega) hx
          have k7 := h.jy (j + 1) x (by omega) hx
          rw [c1] at k3 k4
          rw [c] at k5
          omega
        by_cases g4 : F y = j + 1
        · have e4 : F (j + 1) = y := by rw [← g4]; exact d
          rw [gy, if_neg g3, if_pos g4]
          have k2 := h.jy x j hx (by omega)
          have k3 := h.jy (F j) x a0 hx
          have k4 := h.jy x (F j) hx a0
          have k5 := h.jy j (F x) (by omega) a
          have k6 := h.jy j x (by omega) hx
          have k7 := h.jy (j + 1) x (by omega) hx
          rw [c0] at k3 k4
          rw [c] at k5
          omega
        rw [gy, if_neg g3, if_neg g4]
        exact k1
  have hu : ∀ k, k < L → up j k < L + 2 ∧ up j k ≠ j ∧ up j k ≠ j + 1 := fun k hk => ⟨(qmy hj).2 hk, qh1.1, qh1.2⟩
  have he : ∀ k, k < L → F' k = dn j (G (up j k)) := e
  have hue : ∀ k, k < L → up j (F' k) = G (up j k) := fun k hk => by
    obtain ⟨b1, b2, b3⟩ := hu k hk
    obtain ⟨_, b4, b5, _⟩ := hG _ b1 b2 b3
    rw [he k hk, qp2 b4 b5]
  have hlt : ∀ k, k < L → F' k < L := fun k hk => by
    obtain ⟨b1, b2, b3⟩ := hu k hk
    obtain ⟨b0, b4, b5, _⟩ := hG _ b1 b2 b3
    rw [← qmy hj, hue k hk]; exact b0
  have upi : ∀ {a b : Nat}, up j a = up j b → a = b := fun {a b} hab => by have := congrArg (dn j) hab; rwa [qqi, qqi] at this
  refine ⟨hlt, fun k hk => ?_, fun k hk => ?_, fun a b ha hb => ?_⟩
  · obtain ⟨b1, b2, b3⟩ := hu k hk
    apply upi
    rw [hue _ (hlt k hk), hue k hk]
    exact (hG _ b1 b2 b3).2.2.2.1
  · obtain ⟨b1, b2, b3⟩ := hu k hk
    intro g
    have := hue k hk
    rw [g] at this
    exact (hG _ b1 b2 b3).2.2.2.2 this.symm
  · obtain ⟨b1, b2, b3⟩ := hu a ha
    obtain ⟨d1, d2, d3⟩ := hu b hb
    have := hX _ _ b1 d1 b2 b3 d2 d3
    rw [← hue a ha, ← hue b hb, qhf, qhf, qhf] at this
    exact this
def fl (n i : Nat) : Nat := (i + n) % (2 * n)
def cl (n i : Nat) : Nat := if i < n then i else i - 1
def FF (n : Nat) (d e : List Nat) (k : Nat) : Nat := if k < 2 * n then mf n d k else 2 * n + mf n e (k - 2 * n)
theorem qy2 {n : Nat} {d e : List Nat} (hd : NC (2 * n) (mf n d)) (he : NC (2 * n) (mf n e)) : NC (4 * n) (FF n d e) := by
  have hL : ∀ k, k < 2 * n → FF n d e k = mf n d k := fun k hk => if_pos hk
  have hR : ∀ k, ¬ k < 2 * n → FF n d e k = 2 * n + mf n e (k - 2 * n) := fun k hk => if_neg hk
  refine ⟨fun k hk => ?_, fun k hk => ?_, fun k hk => ?_, fun a b ha hb => ?_⟩
  · by_cases h : k < 2 * n
    · rw [hL k h]; have := hd.lt k h; omega
    · rw [hR k h]; have := he.lt (k - 2 * n) (by omega); omega
  · by_cases h : k < 2 * n
    · rw [hL k h, hL _ (hd.lt k h), hd.inv k h]
    · have h1 := he.lt (k - 2 * n) (by omega)
      rw [hR k h, hR _ (by omega), show 2 * n + mf n e (k - 2 * n) - 2 * n = mf n e (k - 2 * n) by omega, he.inv _ (by omega)]; omega
  · by_cases h : k < 2 * n
    · rw [hL k h]; exact hd.fix k h
    · have h1 := he.fix (k - 2 * n) (by omega)
      rw [hR k h]; omega
  · by_cases h : a < 2 * n
    · have h1 := hd.lt a h
      rw [hL a h]
      by_cases h' : b < 2 * n
      · rw [hL b h']; exact hd.jy a b h h'
      · omega
    · by_cases h' : b < 2 * n
      · omega
      · have := he.jy (a - 2 * n) (b - 2 * n) (by omega) (by omega)
        rw [hR a h, hR b h']; omega
def GG (n : Nat) (F : Nat → Nat) : Nat → Nat → Nat
  | 0, k => F k
  | t + 1, k => dn (2 * n - 1 - t) (if GG n F t (up (2 * n - 1 - t) k) = 2 * n - 1 - t then GG n F t (2 * n - 1 - t + 1) else if GG n F t (up (2 * n - 1 - t) k) = 2 * n - 1 - t + 1 then GG n F t (2 * n - 1 - t) else GG n F t (up (2 * n - 1 - t) k))
theorem qty {n : Nat} {F : Nat → Nat} (h : NC (4 * n) F) : ∀ t, t ≤ n → NC (4 * n - 2 * t) (GG n F t)
  | 0, _ => h
  | t + 1, ht => by
    have ih := qty h t (by omega)
    rw [show 4 * n - 2 * t = 4 * n - 2 * (t + 1) + 2 by omega] at ih
    exact ih.remove (j := 2 * n - 1 - t) (by omega) fun k hk => rfl
def Ze (n t z : Nat) : Prop := 2 * n - t ≤ z ∧ z < 2 * n + t
inductive Path (n : Nat) (F : Nat → Nat) (t : Nat) : Nat → Nat → Prop
  | done {x y : Nat} : F x = y → ¬ Ze n t y → Path n F t x y
  | go {x y : Nat} : Ze n t (F x) → Path n F t (4 * n - 1 - F x) y → Path n F t x y
theorem Path.mono {n t x y : Nat} {F : Nat → Nat} (h : Path n F t x y) (hy : ¬ Ze n (t + 1) y) : Path n F (t + 1) x y := by
  induction h with
  | done h1 h2 => exact .done h1 hy
  | go h1 _ ih => exact .go (by unfold Ze at h1 ⊢; omega) (ih hy)
theorem Path.cat {n t x y w : Nat} {F : Nat → Nat} (h : Path n F t x w) (hw : Ze n (t + 1) w) (h2 : Path n F t (4 * n - 1 - w) y) (hy : ¬ Ze n (t + 1) y) : Path n F (t + 1) x y := by
  induction h with
  | done h1 _ => subst h1; exact .go hw (h2.mono hy)
  | go h1 _ ih => exact .go (by unfold Ze at h1 ⊢; omega) (ih hw h2)
def oo (n t k : Nat) : Nat := if k < 2 * n - t then k else k + 2 * t
theorem qpg {n : Nat} {F : Nat → Nat} (h : NC (4 * n) F) : ∀ t, t ≤ n → ∀ k, k < 4 * n - 2 * t → Path n F t (oo n t k) (oo n t (GG n F t k))
  | 0, _, k, hk => by
    have e : ∀ k, oo n 0 k = k := fun k => by unfold oo; split <;> omega
    rw [e, e]
    exact .done rfl (by unfold Ze; omega)
  | t + 1, ht, k, hk => by
    have ih := qpg h t (by omega)
    have hnc := qty h t (by omega)
    have hj : ∃ j, j = 2 * n - 1 - t := ⟨_, rfl⟩
    obtain ⟨j, hj⟩ := hj
    have g1 : ∀ k, oo n (t + 1) k = oo n t (up j k) := fun k => by
      unfold oo up
      by_cases h1 : k < j
      · rw [if_pos h1, if_pos (by omega), if_pos (by omega)]
      · rw [if_neg h1, if_neg (by omega), if_neg (by omega)]; omega
    have g2 : ∀ y, y ≠ j → y ≠ j + 1 → oo n (t + 1) (dn j y) = oo n t y := fun y h1 h2 => by rw [g1, qp2 h1 h2]
    have g3 : oo n t j = j := by unfold oo; rw [if_pos (by omega)]
    have g4 : oo n t (j + 1) = 4 * n - 1 - j := by unfold oo; rw [if_neg (by omega)]; omega
    have gl : ∀ y, y ≠ j → y ≠ j + 1 → ¬ Ze n (t + 1) (oo n t y) := fun y h1 h2 => by
      unfold oo Ze
      by_cases h3 : y < 2 * n - t
      · rw [if_pos h3]; omega
      · rw [if_neg h3]; omega
    have hu := @qh1 j k
    have hx : up j k < 4 * n - 2 * t := by
      have := (qmy (j := j) (k := k) (L := 4 * n - 2 * (t + 1)) (by omega)).2 hk
      omega
    have hp := ih _ hx
    have a := hnc.lt _ hx
    have c := hnc.inv _ hx
    have f := hnc.fix _ hx
    have a0 := hnc.lt j (by omega)
    have c0 := hnc.inv j (by omega)
    have f0 := hnc.fix j (by omega)
    have a1 := hnc.lt (j + 1) (by omega)
    have c1 := hnc.inv (j + 1) (by omega)
    have f1 := hnc.fix (j + 1) (by omega)
    have p0 := ih j (by omega)
    have p1 := ih (j + 1) (by omega)
    rw [g3] at p0
    rw [g4] at p1
    have gj : Ze n (t + 1) j := by unfold Ze; omega
    have gj1 : Ze n (t + 1) (4 * n - 1 - j) := by unfold Ze; omega
    rw [g1 k]
    simp only [GG, ← hj]
    generalize hX : up j k = x at *
    by_cases e1 : GG n F t x = j
    · rw [if_pos e1]
      rw [e1] at hp c
      have n1 : GG n F t (j + 1) ≠ j := fun e => by rw [e] at c1; omega
      rw [g2 _ n1 f1]
      rw [g3] at hp
      exact hp.cat gj p1 (gl _ n1 f1)
    · rw [if_neg e1]
      by_cases e2 : GG n F t x = j + 1
      · rw [if_pos e2]
        rw [e2] at hp c
        have n1 : GG n F t j ≠ j + 1 := fun e => by rw [e] at c0; omega
        rw [g2 _ f0 n1]
        rw [g4] at hp
        refine hp.cat gj1 ?_ (gl _ f0 n1)
        rw [show 4 * n - 1 - (4 * n - 1 - j) = j by omega]
        exact p0
      · rw [if_neg e2, g2 _ e1 e2]
        exact hp.mono (gl _ e1 e2)
def pr (n : Nat) (d e : List Nat) (i : Nat) : Nat := place n (GG n (FF n d e) n (place n i))
theorem qno {n : Nat} {d e : List Nat} (hd : isS n d = true) (he : isS n e = true) : NC (2 * n) (GG n (FF n d e) n) := by
  have := qty (qy2 (qij hd) (qij he)) n (Nat.le_refl _)
  rwa [show 4 * n - 2 * n = 2 * n by omega] at this
def zr (n : Nat) (d e : List Nat) : Nat → Bool → Nat → List Bool → Option (Nat × Bool × List Bool)
  | 0, _, _, _ => none
  | f + 1, true, i, met => if d.getD i 0 < n then some (d.getD i 0, true, met) else zr n d e f false (d.getD i 0 - n) (met.set (d.getD i 0 - n) true)
  | f + 1, false, i, met => if n ≤ e.getD i 0 then some (e.getD i 0, false, met) else zr n d e f true (n + e.getD i 0) (met.set (e.getD i 0) true)
def at2 (n : Nat) (u : Bool) (i : Nat) : Nat := if u then place n i else 2 * n + place n i
def qm5 (n y : Nat) : Nat := if y < 2 * n then y else place n (y - 2 * n)
theorem qmf {n : Nat} {d e : List Nat} (hd : isS n d = true) (he : isS n e = true) {x y : Nat} (h : Path n (FF n d e) n x y) : ∀ (u : Bool) (i : Nat) (met : List Bool), i < 2 * n → x = at2 n u i →
    ∃ f met', zr n d e f u i met = some (qm5 n y, decide (y < 2 * n), met') := by
  obtain ⟨hn, hpd, _⟩ := x9 hd
  obtain ⟨_, hpe, _⟩ := x9 he
  have F1 : ∀ i, i < 2 * n → FF n d e (at2 n true i) = place n (d.getD i 0) := fun i hi => by
    show FF n d e (place n i) = _
    unfold FF
    rw [if_pos (zd hi)]
    unfold mf
    rw [ze hi]
  have F2 : ∀ i, i < 2 * n → FF n d e (at2 n false i) = 2 * n + place n (e.getD i 0) := fun i hi => by
    show FF n d e (2 * n + place n i) = _
    unfold FF
    rw [if_neg (by omega), show 2 * n + place n i - 2 * n = place n i by omega]
    unfold mf
    rw [ze hi]
  induction h with
  | @done x y h1 h2 =>
    intro u i met hi hx
    subst hx
    cases u with
    | true =>
      rw [F1 i hi] at h1
      have hl := (hpd i hi).1
      have hlt : d.getD i 0 < n := by
        unfold place at h1; unfold Ze at h2
        split at h1
        · assumption
        · omega
      have hy : y = d.getD i 0 := by rw [← h1]; unfold place; rw [if_pos hlt]
      refine ⟨1, met, ?_⟩
      simp only [zr, if_pos hlt]
      rw [hy]
      unfold qm5
      rw [if_pos (by omega), decide_eq_true (by omega)]
    | false =>
      rw [F2 i hi] at h1
      have hl := (hpe i hi).1
      have hlt : n ≤ e.getD i 0 := by
        unfold place at h1; unfold Ze at h2
        split at h1
        · omega
        · omega
      refine ⟨1, met, ?_⟩
      simp only [zr, if_pos hlt]
      rw [← h1]
      unfold qm5
      rw [if_neg (by omega), show 2 * n + place n (e.getD i 0) - 2 * n = place n (e.getD i 0) by omega, ze hl, decide_eq_false (by omega)]
  | @go x y h1 h2 ih =>
    intro u i met hi hx
    subst hx
    cases u with
    | true =>
      rw [F1 i hi] at h1 ih
      have hl := (hpd i hi).1
      have hge : ¬ d.getD i 0 < n := fun hlt => by
        unfold place Ze at h1; rw [if_pos hlt] at h1; omega
      obtain ⟨f, met', hf⟩ := ih false (d.getD i 0 - n) (met.set (d.getD i 0 - n) true) (by omega) (by
        show 4 * n - 1 - place n (d.getD i 0) = 2 * n + place n (d.getD i 0 - n)
        unfold place
        rw [if_neg hge, if_pos (by omega)]
        omega)
      exact ⟨f + 1, met', by simp only [zr, if_neg hge]; exact hf⟩
    | false =>
      rw [F2 i hi] at h1 ih
      have hl := (hpe i hi).1
      have hlt : ¬ n ≤ e.getD i 0 := fun hge => by
        unfold place Ze at h1; rw [if_neg (by omega)] at h1; omega
      obtain ⟨f, met', hf⟩ := ih true (n + e.getD i 0) (met.set (e.getD i 0) true) (by omega) (by
        show 4 * n - 1 - (2 * n + place n (e.getD i 0)) = place n (n + e.getD i 0)
        unfold place
        rw [if_pos (by omega), if_neg (by omega)]
        omega)
      exact ⟨f + 1, met', by simp only [zr, if_neg hlt]; exact hf⟩
theorem Wc {n : Nat} {d e : List Nat} (hd : isS n d = true) (he : isS n e = true) {i : Nat} (hi : i < 2 * n) (met : List Bool) : ∃ f met', zr n d e f (decide (i < n)) i met = some (pr n d e i, decide (pr n d e i < n), met') := by
  have hp := qpg (qy2 (qij hd) (qij he)) n (Nat.le_refl _) (place n i) (by have := zd hi; omega)
  have hg := (qno hd he).lt _ (zd hi)
  have e1 : oo n n (place n i) = at2 n (decide (i < n)) i := by
    unfold oo at2 place
    by_cases h : i < n
    · rw [if_pos h, if_pos (by omega)]; simp [h]
    · rw [if_neg h, if_neg (by omega)]; simp only [h, decide_false, Bool.false_eq_true, if_false]; omega
  rw [e1] at hp
  obtain ⟨f, met', hf⟩ := qmf hd he hp _ i met hi rfl
  refine ⟨f, met', ?_⟩
  rw [hf]
  have e2 : qm5 n (oo n n (GG n (FF n d e) n (place n i))) = pr n d e i := by
    unfold pr qm5
    generalize GG n (FF n d e) n (place n i) = k at *
    by_cases h : k < n
    · have e3 : oo n n k = k := if_pos (by omega)
      rw [e3, if_pos (by omega)]; unfold place; rw [if_pos h]
    · have e3 : oo n n k = k + 2 * n := if_neg (by omega)
      rw [e3, if_neg (by omega), show k + 2 * n - 2 * n = k by omega]
  rw [e2]
  congr 3
  unfold pr
  generalize GG n (FF n d e) n (place n i) = k at *
  by_cases h : k < n
  · have e3 : oo n n k = k := if_pos (by omega)
    have e4 : place n k = k := if_pos h
    rw [e3, e4, decide_eq_true h, decide_eq_true (by omega)]
  · have e3 : oo n n k = k + 2 * n := if_neg (by omega)
    have e4 : place n k = 3 * n - 1 - k := if_neg h
    rw [e3, e4, decide_eq_false (by omega), decide_eq_false (by omega)]
def V8 (n : Nat) (d e : List Nat) : Nat → List Nat
  | 0 => List.replicate 16 0
  | k + 1 => ((V8 n d e k).set k (pr n d e k)).set (n + k) (pr n d e (n + k))
def jv (n : Nat) (d e : List Nat) : List Nat := V8 n d e n
theorem yg (n : Nat) (d e : List Nat) : ∀ k, (V8 n d e k).length = 16
  | 0 => by simp [V8]
  | k + 1 => by simp [V8, yg n d e k]
theorem Bx {n : Nat} {d e : List Nat} (hn : n ≤ 8) : ∀ k, k ≤ n → ∀ i, i < 16 → (V8 n d e k).getD i 0 = if i < k ∨ (n ≤ i ∧ i < n + k) then pr n d e i else 0
  | 0, _, i, hi => by
    rw [if_neg (by omega)]
    simp only [V8, List.getD_eq_getElem?_getD, List.getElem?_replicate]
    split <;> simp
  | k + 1, hk, i, hi => by
    simp only [V8]
    rw [Qs, Qs, List.length_set, yg, Bx hn k (by omega) i hi]
    by_cases h1 : n + k = i
    · rw [if_pos ⟨h1, hi⟩, if_pos (by omega), h1]
    · rw [if_neg (by omega)]
      by_cases h2 : k = i
      · rw [if_pos ⟨h2, hi⟩, if_pos (by omega), h2]
      · rw [if_neg (by omega)]
        by_cases h3 : i < k ∨ (n ≤ i ∧ i < n + k)
        · rw [if_pos h3, if_pos (by omega)]
        · rw [if_neg h3, if_neg (by omega)]
theorem qcw {n : Nat} {d e : List Nat} (hd : isS n d = true) (he : isS n e = true) {i : Nat} (hi : i < 2 * n) : pr n d e i < 2 * n := zd ((qno hd he).lt _ (zd hi))
theorem qv1 {n : Nat} {d e : List Nat} (hd : isS n d = true) (he : isS n e = true) : isS n (jv n d e) = true ∧ okD (jv n d e) := by
  obtain ⟨hn, _, _⟩ := x9 hd
  have hg : ∀ i, i < 2 * n → (jv n d e).getD i 0 = pr n d e i := fun i hi => by
    unfold jv
    rw [Bx hn.2 n (Nat.le_refl _) i (by omega), if_pos (by omega)]
  have ht := qno hd he
  refine ⟨qzw hn (fun i h1 h2 => ?_) (fun i hi => ?_) ?_, yg _ _ _ _, ?_⟩
  · unfold jv
    rw [Bx hn.2 n (Nat.le_refl _) i h2, if_neg (by omega)]
  · rw [hg i hi]; exact qcw hd he hi
  · have e1 : ∀ k, k < 2 * n → mf n (jv n d e) k = GG n (FF n d e) n k := fun k hk => by
      unfold mf
      rw [hg _ (zd hk)]
      unfold pr
      rw [ze hk, ze (ht.lt k hk)]
    refine ⟨fun k hk => ?_, fun k hk => ?_, fun k hk => ?_, fun a b ha hb => ?_⟩
    · rw [e1 k hk]; exact ht.lt k hk
    · rw [e1 k hk, e1 _ (ht.lt k hk)]; exact ht.inv k hk
    · rw [e1 k hk]; exact ht.fix k hk
    · rw [e1 a ha, e1 b hb]; exact ht.jy a b ha hb
  · intro x hx
    obtain ⟨i, hi, rfl⟩ := List.getElem_of_mem hx
    have hl : (jv n d e).length = 16 := yg _ _ _ _
    have h1 : (jv n d e).getD i 0 = (jv n d e)[i] := by simp [List.getD_eq_getElem?_getD, hi]
    rw [← h1]
    by_cases h2 : i < 2 * n
    · rw [hg i h2]; have := qcw hd he h2; omega
    · unfold jv
      rw [Bx hn.2 n (Nat.le_refl _) i (by omega), if_neg (by omega)]; omega
def mt (met : List Bool) (x : Nat) : Prop := met.getD x false = true
theorem bl {met : List Bool} {i x : Nat} (hi : i < met.length) : mt (met.set i true) x ↔ x = i ∨ mt met x := by
  unfold mt
  simp only [List.getD_eq_getElem?_getD, List.getElem?_set]
  by_cases h : i = x
  · subst h; simp [hi]
  · rw [if_neg h]
    exact ⟨.inr, fun h2 => h2.elim (fun e => absurd e.symm h) id⟩
theorem qqm {x k : Nat} : ¬ mt (List.replicate k false) x := by
  unfold mt
  simp only [List.getD_eq_getElem?_getD, List.getElem?_replicate]
  split <;> simp
theorem Yb {n : Nat} {d e : List Nat} {r : Nat × Bool × List Bool} : ∀ {f : Nat} {u : Bool} {i : Nat} {met : List Bool}, zr n d e f u i met = some r → zr n d e (f + 1) u i met = some r
  | 0, _, _, _, h => by simp [zr] at h
  | f + 1, true, i, met, h => by
    rw [zr] at h ⊢
    split
    · rename_i h1; rw [if_pos h1] at h; exact h
    · rename_i h1; rw [if_neg h1] at h; exact Yb h
  | f + 1, false, i, met, h => by
    rw [zr] at h ⊢
    split
    · rename_i h1; rw [if_pos h1] at h; exact h
    · rename_i h1; rw [if_neg h1] at h; exact Yb h
theorem W4 {n : Nat} {d e : List Nat} {r : Nat × Bool × List Bool} {f : Nat} {u : Bool} {i : Nat} {met : List Bool} (h : zr n d e f u i met = some r) : ∀ k, zr n d e (f + k) u i met = some r
  | 0 => h
  | k + 1 => Yb (W4 h k)
theorem qiu {n : Nat} {d e : List Nat} {r r' : Nat × Bool × List Bool} {f f' : Nat} {u : Bool} {i : Nat} {met : List Bool} (h : zr n d e f u i met = some r) (h' : zr n d e f' u i met = some r') : r = r' := by
  have h1 := W4 h f'
  have h2 := W4 h' f
  rw [Nat.add_comm f' f, h1] at h2
  exact Option.some.inj h2
def CLs (n : Nat) (d e : List Nat) (M : Nat → Prop) : Prop := ∀ x, x < n → M x → (n ≤ d.getD (n + x) 0 → M (d.getD (n + x) 0 - n)) ∧ (e.getD x 0 < n → M (e.getD x 0))
theorem X7 {n : Nat} {d e : List Nat} (hd : isS n d = true) (he : isS n e = true) {r : Nat} {s : Bool} {met' : List Bool} : ∀ {f : Nat} {u : Bool} {i : Nat} {met : List Bool}, zr n d e f u i met = some (r, s, met') → i < 2 * n → met.length = 8 →
    (u = true → n ≤ i → mt met (i - n)) → (u = false → i < n → mt met i) →
    met'.length = 8 ∧ (∀ x, mt met x → mt met' x) ∧ (∀ x, mt met' x → x < n ∨ mt met x) ∧ (∀ x, x < n → mt met' x → mt met x ∨ ((n ≤ d.getD (n + x) 0 → mt met' (d.getD (n + x) 0 - n)) ∧ (e.getD x 0 < n → mt met' (e.getD x 0)))) ∧
      (u = true → n ≤ d.getD i 0 → mt met' (d.getD i 0 - n)) ∧ (u = false → e.getD i 0 < n → mt met' (e.getD i 0))
  | 0, _, _, _, h, _, _, _, _ => by simp [zr] at h
  | f + 1, true, i, met, h, hi, hl, p1, p2 => by
    obtain ⟨hn, hpd, _⟩ := x9 hd
    rw [zr] at h
    split at h
    · rename_i hlt
      cases h
      exact ⟨hl, fun x h => h, fun x h => .inr h, fun x _ h => .inl h, fun _ h => absurd hlt (by omega), fun h => by cases h⟩
    · rename_i hlt
      have hs := (hpd i hi).1
      have hinv := (hpd i hi).2.2
      have hsl : d.getD i 0 - n < met.length := by omega
      obtain ⟨a1, a2, a3, a4, _, a6⟩ := X7 hd he h (by omega) (by rw [List.length_set]; exact hl) (fun h => by cases h) (fun _ _ => (bl hsl).2 (.inl rfl))
      have hself : mt met' (d.getD i 0 - n) := a2 _ ((bl hsl).2 (.inl rfl))
      refine ⟨a1, fun x hx => a2 x ((bl hsl).2 (.inr hx)), fun x hx => ?_, fun x hx hm => ?_, fun _ _ => hself, fun h => by cases h⟩
      · rcases a3 x hx with h1 | h1
        · exact .inl h1
        · rcases (bl hsl).1 h1 with rfl | h1
          · exact .inl (by omega)
          · exact .inr h1
      · rcases a4 x hx hm with h1 | h1
        · rcases (bl hsl).1 h1 with rfl | h1
          · refine .inr ⟨fun h2 => ?_, fun h2 => a6 rfl h2⟩
            rw [show n + (d.getD i 0 - n) = d.getD i 0 by omega, hinv] at h2 ⊢
            exact a2 _ ((bl hsl).2 (.inr (p1 rfl h2)))
          · exact .inl h1
        · exact .inr h1
  | f + 1, false, i, met, h, hi, hl, p1, p2 => by
    obtain ⟨hn, hpe, _⟩ := x9 he
    rw [zr] at h
    split at h
    · rename_i hlt
      cases h
      exact ⟨hl, fun x h => h, fun x h => .inr h, fun x _ h => .inl h, (fun h => by cases h), fun _ h => absurd hlt (by omega)⟩
    · rename_i hlt
      have hs := (hpe i hi).1
      have hinv := (hpe i hi).2.2
      have hsl : e.getD i 0 < met.length := by omega
      obtain ⟨a1, a2, a3, a4, a5, _⟩ := X7 hd he h (by omega) (by rw [List.length_set]; exact hl) (fun _ _ => (bl hsl).2 (.inl (by omega))) (fun h => by cases h)
      have hself : mt met' (e.getD i 0) := a2 _ ((bl hsl).2 (.inl rfl))
      refine ⟨a1, fun x hx => a2 x ((bl hsl).2 (.inr hx)), fun x hx => ?_, fun x hx hm => ?_, (fun h => by cases h), fun _ _ => hself⟩
      · rcases a3 x hx with h1 | h1
        · exact .inl h1
        · rcases (bl hsl).1 h1 with rfl | h1
          · exact .inl (by omega)
          · exact .inr h1
      · rcases a4 x hx hm with h1 | h1
        · rcases (bl hsl).1 h1 with rfl | h1
          · refine .inr ⟨fun h2 => a5 rfl h2, fun h2 => ?_⟩
            rw [hinv] at h2 ⊢
            exact a2 _ ((bl hsl).2 (.inr (p2 rfl h2)))
          · exact .inl h1
        · exact .inr h1
noncomputable def fol (n : Nat) (d e : List Nat) (u : Bool) (i : Nat) (met : List Bool) : List Bool := (Classical.epsilon fun r : Nat × Bool × List Bool => ∃ f, zr n d e f u i met = some r).2.2
theorem qes {n : Nat} {d e : List Nat} {f : Nat} {u : Bool} {i : Nat} {met : List Bool} {r : Nat × Bool × List Bool} (h : zr n d e f u i met = some r) : fol n d e u i met = r.2.2 := by
  have : ∃ r : Nat × Bool × List Bool, ∃ f, zr n d e f u i met = some r := ⟨r, f, h⟩
  obtain ⟨f', h'⟩ := Classical.epsilon_spec this
  unfold fol
  rw [qiu h' h]
noncomputable def qdn (n : Nat) (d e : List Nat) : Nat → List Bool
  | 0 => List.replicate 8 false
  | k + 1 => fol n d e false (n + k) (fol n d e true k (qdn n d e k))
structure Met (n : Nat) (d e : List Nat) (k : Nat) (met : List Bool) : Prop where
  len : met.length = 8
  lt : ∀ x, mt met x → x < n
  cl : CLs n d e (mt met)
  top : ∀ i, i < k → n ≤ d.getD i 0 → mt met (d.getD i 0 - n)
  bot : ∀ i, i < k → e.getD (n + i) 0 < n → mt met (e.getD (n + i) 0)
theorem X4 {n : Nat} {d e : List Nat} (hd : isS n d = true) (he : isS n e = true) : ∀ k, k ≤ n → Met n d e k (qdn n d e k)
  | 0, _ => ⟨by simp [qdn], fun x h => absurd h qqm, fun x _ h => absurd h qqm, fun i hi => by omega, fun i hi => by omega⟩
  | k + 1, hk => by
    have ih := X4 hd he k (by omega)
    obtain ⟨f1, m1, e1⟩ := Wc hd he (i := k) (by omega) (qdn n d e k)
    rw [decide_eq_true (by omega)] at e1
    have g1 := qes e1
    obtain ⟨a1, a2, a3, a4, a5, _⟩ := X7 hd he e1 (by omega) ih.len (fun _ h => by omega) (fun h => by cases h)
    obtain ⟨f2, m2, e2⟩ := Wc hd he (i := n + k) (by omega) m1
    rw [decide_eq_false (by omega)] at e2
    have g2 := qes e2
    obtain ⟨b1, b2, b3, b4, _, b6⟩ := X7 hd he e2 (by omega) a1 (fun h => by cases h) (fun _ h => by omega)
    simp only [qdn, g1, g2]
    refine ⟨b1, fun x hx => ?_, fun x hx hm => ?_, fun i hi h => ?_, fun i hi h => ?_⟩
    · rcases b3 x hx with h | h
      · exact h
      · rcases a3 x h with h | h
        · exact h
        · exact ih.lt x h
    · rcases b4 x hx hm with h | h
      · rcases a4 x hx h with h | h
        · have := ih.cl x hx h
          exact ⟨fun h => b2 _ (a2 _ (this.1 h)), fun h => b2 _ (a2 _ (this.2 h))⟩
        · exact ⟨fun h1 => b2 _ (h.1 h1), fun h1 => b2 _ (h.2 h1)⟩
      · exact h
    · by_cases e : i = k
      · subst e; exact b2 _ (a5 rfl h)
      · exact b2 _ (a2 _ (ih.top i (by omega) h))
    · by_cases e : i = k
      · subst e; exact b6 rfl h
      · exact b2 _ (a2 _ (ih.bot i (by omega) h))
def M0 (n : Nat) (d e : List Nat) (x : Nat) : Prop := mt (qdn n d e n) x
def dm (n : Nat) (d : List Nat) (x : Nat) : Nat := d.getD (n + x) 0 - n
def em (e : List Nat) (x : Nat) : Nat := e.getD x 0
structure Inv (X : Nat → Prop) (f : Nat → Nat) : Prop where
  mem : ∀ x, X x → X (f x)
  inv : ∀ x, X x → f (f x) = x
  fix : ∀ x, X x → f x ≠ x
def XX (n : Nat) (d e : List Nat) (x : Nat) : Prop := x < n ∧ ¬ M0 n d e x
theorem qh4 {n : Nat} {d e : List Nat} (hd : isS n d = true) (he : isS n e = true) {x : Nat} (h : XX n d e x) : n ≤ d.getD (n + x) 0 ∧ d.getD (n + x) 0 < 2 * n ∧ e.getD x 0 < n := by
  obtain ⟨hn, hpd, _⟩ := x9 hd
  obtain ⟨_, hpe, _⟩ := x9 he
  have hm := X4 hd he n (Nat.le_refl _)
  have h1 := hpd (n + x) (by have := h.1; omega)
  have h2 := hpe x (by have := h.1; omega)
  have hx := h.1
  refine ⟨Nat.le_of_not_lt fun hlt => h.2 ?_, h1.1, Nat.lt_of_not_le fun hge => h.2 ?_⟩
  · have := hm.top _ hlt (by rw [h1.2.2]; omega)
    rw [h1.2.2, show n + x - n = x by omega] at this
    exact this
  · have := hm.bot (e.getD x 0 - n) (by omega) (by rw [show n + (e.getD x 0 - n) = e.getD x 0 by omega, h2.2.2]; exact hx)
    rw [show n + (e.getD x 0 - n) = e.getD x 0 by omega, h2.2.2] at this
    exact this
theorem Kv {n : Nat} {d e : List Nat} (hd : isS n d = true) (he : isS n e = true) : Inv (XX n d e) (dm n d) := by
  obtain ⟨hn, hpd, _⟩ := x9 hd
  have hm := X4 hd he n (Nat.le_refl _)
  have key : ∀ x, XX n d e x → n + dm n d x = d.getD (n + x) 0 ∧ d.getD (d.getD (n + x) 0) 0 = n + x ∧ dm n d x < n := fun x hx => by
    have h1 := hpd (n + x) (by have := hx.1; omega)
    obtain ⟨g1, g2, g3⟩ := qh4 hd he hx
    unfold dm
    exact ⟨by omega, h1.2.2, by omega⟩
  refine ⟨fun x hx => ?_, fun x hx => ?_, fun x hx e => ?_⟩
  · obtain ⟨k1, k2, k3⟩ := key x hx
    refine ⟨k3, fun hM => hx.2 ?_⟩
    have := (hm.cl (dm n d x) k3 hM).1 (by rw [k1, k2]; omega)
    rw [k1, k2, show n + x - n = x by omega] at this
    exact this
  · obtain ⟨k1, k2, k3⟩ := key x hx
    show d.getD (n + dm n d x) 0 - n = x
    rw [k1, k2]; omega
  · obtain ⟨k1, k2, k3⟩ := key x hx
    have h1 := hpd (n + x) (by have := hx.1; omega)
    rw [e] at k1
    exact h1.2.1 k1.symm
theorem Kq {n : Nat} {d e : List Nat} (hd : isS n d = true) (he : isS n e = true) : Inv (XX n d e) (em e) := by
  obtain ⟨hn, hpe, _⟩ := x9 he
  have hm := X4 hd he n (Nat.le_refl _)
  refine ⟨fun x hx => ?_, fun x hx => (hpe x (by have := hx.1; omega)).2.2, fun x hx => (hpe x (by have := hx.1; omega)).2.1⟩
  obtain ⟨g1, g2, g3⟩ := qh4 hd he hx
  refine ⟨g3, fun hM => hx.2 ?_⟩
  have h1 := (hpe x (by have := hx.1; omega)).2.2
  have := (hm.cl _ g3 hM).2 (by show e.getD (e.getD x 0) 0 < n; rw [h1]; exact hx.1)
  have h2 : M0 n d e (e.getD (e.getD x 0) 0) := this
  rw [h1] at h2
  exact h2
inductive Ring (f g : Nat → Nat) (k0 : Nat) : Nat → Prop
  | base : Ring f g k0 k0
  | one {x : Nat} : Ring f g k0 x → Ring f g k0 (f x)
  | two {x : Nat} : Ring f g k0 x → Ring f g k0 (g x)
theorem Ring.swap {f g : Nat → Nat} {k0 x : Nat} (h : Ring f g k0 x) : Ring g f k0 x := by
  induction h with
  | base => exact .base
  | one _ ih => exact .two ih
  | two _ ih => exact .one ih
theorem Ring.mem {X : Nat → Prop} {f g : Nat → Nat} (hf : Inv X f) (hg : Inv X g) {k0 x : Nat} (h0 : X k0) (h : Ring f g k0 x) : X x := by
  induction h with
  | base => exact h0
  | one _ ih => exact hf.mem _ ih
  | two _ ih => exact hg.mem _ ih
theorem Ring.trans {f g : Nat → Nat} {a b c : Nat} (h : Ring f g a b) (h' : Ring f g b c) : Ring f g a c := by
  induction h' with
  | base => exact h
  | one _ ih => exact .one ih
  | two _ ih => exact .two ih
theorem Ring.symm {X : Nat → Prop} {f g : Nat → Nat} (hf : Inv X f) (hg : Inv X g) {a b : Nat} (h0 : X a) (h : Ring f g a b) : Ring f g b a := by
  induction h with
  | base => exact .base
  | @one x hx ih =>
    have : Ring f g (f x) x := by
      have := Ring.one (Ring.base (f := f) (g := g) (k0 := f x))
      rwa [hf.inv x (Ring.mem hf hg h0 hx)] at this
    exact this.trans ih
  | @two x hx ih =>
    have : Ring f g (g x) x := by
      have := Ring.two (Ring.base (f := f) (g := g) (k0 := g x))
      rwa [hg.inv x (Ring.mem hf hg h0 hx)] at this
    exact this.trans ih
structure qds (X : Nat → Prop) (f g : Nat → Nat) (k0 : Nat) (T : Nat → Prop) (last : Nat) : Prop where
  ring : ∀ x, T x → Ring f g k0 x
  m0 : T k0
  lm : T last
  ne : last ≠ k0
  cl : ∀ x, T x → T (f x)
  st : ∀ x, T x → x ≠ k0 → x ≠ last → T (g x) ∧ g x ≠ k0 ∧ g x ≠ last
theorem qds.start {X : Nat → Prop} {f g : Nat → Nat} (hf : Inv X f) {k0 : Nat} (h0 : X k0) : qds X f g k0 (fun x => x = k0 ∨ x = f k0) (f k0) :=
  ⟨fun x h => h.elim (fun e => e ▸ .base) (fun e => e ▸ .one .base), .inl rfl, .inr rfl, hf.fix k0 h0, fun x h => h.elim (fun e => .inr (by rw [e])) (fun e => .inl (by rw [e]; exact hf.inv _ h0)), fun x h h1 h2 => h.elim (fun e => absurd e h1) (fun e => absurd e h2)⟩
theorem qds.stop {X : Nat → Prop} {f g : Nat → Nat} (hf : Inv X f) (hg : Inv X g) {k0 last : Nat} {T : Nat → Prop} (h0 : X k0) (h : qds X f g k0 T last) (hk : T (g last)) : g last = k0 ∧ ∀ x, T x ↔ Ring f g k0 x := by
  have hX : ∀ x, T x → X x := fun x hx => Ring.mem hf hg h0 (h.ring x hx)
  have e : g last = k0 := Classical.byContradiction fun hne => by
    have h1 := hg.fix last (hX _ h.lm)
    have h2 := (h.st _ hk hne h1).2.2
    exact h2 (hg.inv _ (hX _ h.lm))
  have hcl : ∀ x, T x → T (g x) := fun x hx => by
    by_cases h1 : x = k0
    · subst h1
      rw [← e, hg.inv _ (hX _ h.lm)]; exact h.lm
    by_cases h2 : x = last
    · subst h2; rw [e]; exact h.m0
    · exact (h.st x hx h1 h2).1
  refine ⟨e, fun x => ⟨h.ring x, fun hr => ?_⟩⟩
  induction hr with
  | base => exact h.m0
  | one _ ih => exact h.cl _ ih
  | two _ ih => exact hcl _ ih
theorem qds.next {X : Nat → Prop} {f g : Nat → Nat} (hf : Inv X f) (hg : Inv X g) {k0 last : Nat} {T : Nat → Prop} (h0 : X k0) (h : qds X f g k0 T last) (hk : ¬ T (g last)) : qds X f g k0 (fun x => x = g last ∨ x = f (g last) ∨ T x) (f (g last)) ∧ ¬ T (f (g last)) ∧ f (g last) ≠ g last := by
  have hX : ∀ x, T x → X x := fun x hx => Ring.mem hf hg h0 (h.ring x hx)
  have hk' : X (g last) := hg.mem _ (hX _ h.lm)
  have hne : f (g last) ≠ g last := hf.fix _ hk'
  have hnT : ¬ T (f (g last)) := fun hT => hk (by have := h.cl _ hT; rwa [hf.inv _ hk'] at this)
  refine ⟨⟨fun x hx => ?_, .inr (.inr h.m0), .inr (.inl rfl), fun e => hnT (by rw [e]; exact h.m0), fun x hx => ?_, fun x hx h1 h2 => ?_⟩, hnT, hne⟩
  · rcases hx with rfl | rfl | hx
    · exact .two (h.ring _ h.lm)
    · exact .one (.two (h.ring _ h.lm))
    · exact h.ring x hx
  · rcases hx with rfl | rfl | hx
    · exact .inr (.inl rfl)
    · rw [hf.inv _ hk']; exact .inl rfl
    · exact .inr (.inr (h.cl x hx))
  · rcases hx with rfl | rfl | hx
    · rw [hg.inv _ (hX _ h.lm)]
      exact ⟨.inr (.inr h.lm), h.ne, fun e => hnT (by rw [← e]; exact h.lm)⟩
    · exact absurd rfl h2
    · by_cases e : x = last
      · subst e
        exact ⟨.inl rfl, fun e => hk (by rw [e]; exact h.m0), fun e => hne e.symm⟩
      · obtain ⟨q1, q2, q3⟩ := h.st x hx h1 e
        exact ⟨.inr (.inr q1), q2, fun e2 => hnT (by rw [← e2]; exact q1)⟩
def Seen (n : Nat) (d e : List Nat) (i x : Nat) : Prop := M0 n d e x ∨ ∃ j, j < i ∧ XX n d e j ∧ Ring (dm n d) (em e) j x
open Classical in
noncomputable def lpN (n : Nat) (d e : List Nat) : Nat → Nat
  | 0 => 0
  | i + 1 => if Seen n d e i i then lpN n d e i else lpN n d e i + 1
theorem qf3 (n : Nat) (d e : List Nat) : ∀ i, lpN n d e i ≤ i
  | 0 => Nat.le_refl _
  | i + 1 => by
    have := qf3 n d e i
    unfold lpN; split <;> omega
theorem qxr {n : Nat} {d e : List Nat} (hd : isS n d = true) (he : isS n e = true) {i x : Nat} (h : Seen n d e i x) : x < n := by
  rcases h with h | ⟨j, _, hj, hr⟩
  · exact (X4 hd he n (Nat.le_refl _)).lt x h
  · exact (Ring.mem (Kv hd he) (Kq hd he) hj hr).1
theorem qmt {n : Nat} {d e : List Nat} (hd : isS n d = true) (he : isS n e = true) {i : Nat} (hi : Seen n d e i i) (x : Nat) : Seen n d e (i + 1) x ↔ Seen n d e i x := by
  constructor
  · rintro (h | ⟨j, hj, hX, hr⟩)
    · exact .inl h
    · by_cases e1 : j = i
      · subst e1
        rcases hi with h | ⟨k, hk, hX', hr'⟩
        · exact absurd h hX.2
        · exact .inr ⟨k, hk, hX', hr'.trans hr⟩
      · exact .inr ⟨j, by omega, hX, hr⟩
  · rintro (h | ⟨j, hj, hX, hr⟩)
    · exact .inl h
    · exact .inr ⟨j, by omega, hX, hr⟩
theorem qmp {n : Nat} {d e : List Nat} {i : Nat} (hin : i < n) (hi : ¬ Seen n d e i i) (x : Nat) : Seen n d e (i + 1) x ↔ Seen n d e i x ∨ Ring (dm n d) (em e) i x := by
  have hX : XX n d e i := ⟨hin, fun h => hi (.inl h)⟩
  constructor
  · rintro (h | ⟨j, hj, hX', hr⟩)
    · exact .inl (.inl h)
    · by_cases e1 : j = i
      · subst e1; exact .inr hr
      · exact .inl (.inr ⟨j, by omega, hX', hr⟩)
  · rintro ((h | ⟨j, hj, hX', hr⟩) | hr)
    · exact .inl h
    · exact .inr ⟨j, by omega, hX', hr⟩
    · exact .inr ⟨i, by omega, hX, hr⟩
theorem W9 {n : Nat} {d e : List Nat} (hd : isS n d = true) (he : isS n e = true) {i x : Nat} (hin : i < n) (hi : ¬ Seen n d e i i) (h : Ring (dm n d) (em e) i x) : ¬ Seen n d e i x := by
  have hX : XX n d e i := ⟨hin, fun h => hi (.inl h)⟩
  rintro (h1 | ⟨j, hj, hX', hr⟩)
  · exact (Ring.mem (Kv hd he) (Kq hd he) hX h).2 h1
  · exact hi (.inr ⟨j, hj, hX', hr.trans (h.symm (Kv hd he) (Kq hd he) hX)⟩)
def chP (p n : Int) (φ : List Nat → List Nat) (κ : List Nat → Int) (acc a : List (Int × List Nat × Int)) : List (Int × List Nat × Int) := a.foldl (fun acc t => yq p acc n (φ t.2.1) (t.2.2 * κ t.2.1)) acc
def qk4 (φ : List Nat → List Nat) (κ : List Nat → Int) (m : List Nat) : List (Int × List Nat × Int) → Int
  | [] => 0
  | t :: l => (if φ t.2.1 = m then t.2.2 * κ t.2.1 else 0) + qk4 φ κ m l
def qsg (n : Int) (F : Int) (φ : List Nat → List Nat) (κ : List Nat → Int) (a : List (Int × List Nat × Int)) : Prop := ∀ t ∈ a, okD (φ t.2.1) ∧ isS n.toNat (φ t.2.1) = true ∧ -F ≤ t.2.2 * κ t.2.1 ∧ t.2.2 * κ t.2.1 ≤ F
theorem qsg.take {n F : Int} {φ : List Nat → List Nat} {κ : List Nat → Int} {a : List (Int × List Nat × Int)} (h : qsg n F φ κ a) (i : Nat) : qsg n F φ κ (a.take i) := fun t ht => h t (List.mem_of_mem_take ht)
theorem Bm {p n F : Int} {φ : List Nat → List Nat} {κ : List Nat → Int} (hp : 0 < p) : ∀ {a acc : List (Int × List Nat × Int)}, j9 p n acc → qsg n F φ κ a → j9 p n (chP p n φ κ acc a) ∧ (chP p n φ κ acc a).length ≤ acc.length + a.length
  | [], acc, h, _ => ⟨h, by simp [chP]⟩
  | t :: b, acc, h, hb => by
    obtain ⟨h1, h3, h4⟩ := hb t (List.mem_cons_self ..)
    have h5 := qsc (k := t.2.2 * κ t.2.1) hp h1 h3 h
    have h6 := qvx (p := p) (n := n) (m := φ t.2.1) (k := t.2.2 * κ t.2.1) (ts := acc)
    have := Bm hp (a := b) h5 fun u hu => hb u (List.mem_cons_of_mem _ hu)
    refine ⟨this.1, ?_⟩
    have h7 := this.2
    have h3 : chP p n φ κ acc (t :: b) = chP p n φ κ (yq p acc n (φ t.2.1) (t.2.2 * κ t.2.1)) b := rfl
    rw [h3, List.length_cons]; omega
theorem qtv {p n : Int} {φ : List Nat → List Nat} {κ : List Nat → Int} {m : List Nat} : ∀ {a acc : List (Int × List Nat × Int)}, (∀ t ∈ acc, t.1 = n) → p ∣ cf m (chP p n φ κ acc a) - (cf m acc + qk4 φ κ m a)
  | [], acc, h => by simp [chP, qk4]
  | t :: b, acc, h => by
    have ih := qtv (p := p) (φ := φ) (κ := κ) (m := m) (a := b) (qyl (p := p) (m := φ t.2.1) (k := t.2.2 * κ t.2.1) h)
    have h1 := qys (p := p) (k := t.2.2 * κ t.2.1) (m := m) (m' := φ t.2.1) h
    have e : chP p n φ κ acc (t :: b) = chP p n φ κ (yq p acc n (φ t.2.1) (t.2.2 * κ t.2.1)) b := rfl
    rw [e]
    refine kq ih h1 ?_
    rw [qk4]
    omega
def u4 (p c : Int) : Nat → Int
  | 0 => 1
  | k + 1 => (u4 p c k * c).emod p
theorem qif {p c : Int} (hp : 2 ≤ p) : ∀ k, 0 ≤ u4 p c k ∧ u4 p c k ≤ p - 1
  | 0 => by unfold u4; omega
  | k + 1 => by
    have h1 := Int.emod_nonneg (u4 p c k * c) (show p ≠ 0 by omega)
    have h2 := Int.emod_lt_of_pos (u4 p c k * c) (show 0 < p by omega)
    show 0 ≤ (u4 p c k * c) % p ∧ (u4 p c k * c) % p ≤ p - 1
    omega
theorem pow_mul {p c x : Int} (hp : 2 ≤ p ∧ p ≤ 97) (hc : 0 ≤ c ∧ c ≤ p - 1) (hx : 0 ≤ x ∧ x ≤ p - 1) : qu .i64 (x * c) = x * c ∧ Int.tmod (x * c) p = (x * c).emod p ∧ 0 ≤ x * c ∧ x * c ≤ 9216 := by
  have h0 : 0 ≤ x * c := Int.mul_nonneg hx.1 hc.1
  have h1 : x * c ≤ 96 * 96 := Int.mul_le_mul (by omega) (by omega) hc.1 (by omega)
  exact ⟨wrap64 (by omega) (by omega), Int.tmod_eq_emod_of_nonneg h0, h0, by omega⟩
def Xp : AC := .seq (.seq (.region [oM 10 2,oK 11 .gtr 10 0]) (.cond 11 .skip (.exit 0))) (.seq (.block 1 (.region [oM 14 7,oM 15 1,oP 16 .mul 14 15,oM 17 0,oP 18 .rem 16 17,oM 7 18])) (.region [oM 12 2,oK 13 .sub 12 1,oM 2 13]))
def Yq : AC := .seq (.region [oM 19 7,oM 6 19]) .ret
def qa3 : AC := .seq (.region [oI 6 0]) (.seq (.region [oM 8 0,o0 9 (.bin .rem (.c (.int .i64 1)) (.t 8)),oM 7 9]) (.seq (.block 0 (.loop Xp)) Yq))
theorem qix : zk Try.prog 83 = some ⟨20, qa3, [.slot 6]⟩ := by kernel_rfl
theorem qiy (p c : Int) (K : Nat) (hp : 2 ≤ p ∧ p ≤ 97) (hc : 0 ≤ c ∧ c ≤ p - 1) (hK : K ≤ 1000000) : Am.Fn Try.prog 83 [.int .i64 p, .int .i64 c, .int .i64 K] [] (fun v H' => v = .int .i64 (u4 p c K) ∧ H' = []) := by
  refine Am.Fn.xj (R := fun v => v = _) qex mixed qix (by simp) (by simp) ?_
  have hne : p ≠ 0 := by omega
  have h1 : Int.tmod 1 p = 1 := Int.tmod_eq_of_lt (by omega) (by omega)
  simp (maxSteps := 3000000) only [qh, zH, qa3, hne, h1, iE, iN, iB, iC, iL, iD, iA, iS, iM, qa, zZ, ↓qm, ↓reduceIte, reduceCtorEq, nA, nM, nS, nE, nL, nD]; try simp only [qa, zY]
  refine WA.jt qex (fun s => ∃ j : Nat, j ≤ K ∧ s = ⟨[(7, .int .i64 (u4 p c j)), (2, .int .i64 ((K - j : Nat) : Int)), (1, .int .i64 c), (0, .int .i64 p)], []⟩)
    (fun s => match get s.env 2 with | .int _ x => x.toNat | _ => 0) ⟨_, q6.qz [7, 2, 1, 0], 0, by omega, rfl⟩ ?_
  rintro s ⟨j, hj, rfl⟩
  by_cases hlt : j < K
  · have hli : (0 : Int) < ((K - j : Nat) : Int) := by omega
    obtain ⟨m1, m2, m3, m4⟩ := pow_mul hp hc (qif (c := c) hp.1 j)
    have hw : qu .i64 (((K - j : Nat) : Int) - 1) = ((K - (j + 1) : Nat) : Int) := by rw [wrap64 (by omega) (by omega)]; omega
    have hnext : (u4 p c j * c).emod p = u4 p c (j + 1) := rfl
    simp (maxSteps := 3000000) only [qh, zH, Xp, hli, m1, m2, hw, hne, hnext, iE, iN, iB, iC, iL, iD, iA, iS, iM, qa, zZ, ↓qm, ↓reduceIte, reduceCtorEq, nA, nM, nS, nE, nL, nD]; try simp only [qa, zY]
    refine ⟨_, q6.qz [7, 2, 1, 0], ⟨j + 1, by omega, ?_⟩, ?_⟩
    · simp only [zL, ↓reduceIte, reduceCtorEq, nE, nA]
    · simp only [zL, ↓reduceIte, reduceCtorEq, nE, nA]; omega
  · have hli : ¬ (0 : Int) < ((K - j : Nat) : Int) := by omega
    obtain rfl : j = K := by omega
    simp (maxSteps := 3000000) only [qh, zH, Xp, Yq, hli, iE, iN, iB, iC, iL, iD, iA, iS, iM, qa, zZ, ↓qm, ↓reduceIte, reduceCtorEq, nA, nM, nS, nE, nL, nD]; try simp only [qa, zY]
def Ym : List AV → Option AV
  | [.int .i64 p, .int .i64 c, .int .i64 k] => chk (((2 ≤ p ∧ p ≤ 97) ∧ (0 ≤ c ∧ c ≤ p - 1)) ∧ 0 ≤ k ∧ k ≤ 1000000) (some (.int .i64 (u4 p c k.toNat)))
  | _ => none
theorem qyu : Am.Callee Try.prog 83 (qj Ym) := Am.Callee.plain fun xs v he => by
  unfold Ym at he
  split at he
  · rename_i p c k
    obtain ⟨⟨⟨h1, h2⟩, h3⟩, he⟩ := qk he
    cases he
    obtain ⟨K, rfl⟩ : ∃ K : Nat, k = K := ⟨k.toNat, by omega⟩
    rw [Int.toNat_natCast]
    exact ⟨rfl, rfl, qiy p c K h1 h2 (by omega)⟩
  · cases he
def B53 : zo := (B39.put 83 (qj Ym))
theorem qzg : qx Try.prog B53 := (qex.put (qyu))
theorem Kk {n : Int} {m : List Nat} : List.take 1 (dia n m) = [.int .i64 n] := rfl
theorem gr {x : Nat} (h : x < 16) : ((0 : Int) ≤ (x : Int) ∧ (x : Int) < ((16 : Nat) : Int)) ∧ 1 + x < 17 := by omega
def V9 : AC := .draw false [oM 6 0,oM 7 1,oM 8 0,oM 9 2,oM 10 2,o0 11 (.conv .u8 (.t 10)),oM 12 1,o0 13 (.conv .u8 (.t 12)),o0 14 (.j0 (.t 6)),oF 15 1 14,o0 16 (.xk 16 1 (.t 15) (.t 7)),o0 17 (.j0 (.t 8)),oF 18 1 17,oT 16 11,o0 19 (.xk 16 1 (.t 18) (.t 9)),oT 19 13]
theorem qb7 : zk Try.prog 142 = some ⟨20, V9, []⟩ := by kernel_rfl
theorem q0i (n : Int) (m : List Nat) (i k : Nat) (hm : m.length = 16) (hi : i < 16) (hk : k < 16) :
    Am.Fn Try.prog 142 [.ptr 0 0, .int .i64 i, .int .i64 k] [.cells (dia n m)] (fun v H' => v = .tup [] ∧ H' = [.cells (dia n ((m.set i k).set k i))]) := by
  refine Am.Fn.ofB qex mixed qb7 (by simp [AV.qy, AV.under]) (fun j o hj => by
    match j, hj with
    | 0, hj => cases hj; exact ql _ _ (qe _ _)
    | j + 1, hj => simp at hj) ?_
  obtain ⟨a1, a2⟩ := gr hi
  obtain ⟨b1, b2⟩ := gr hk
  have hu1 : qu .u8 (i : Int) = i := Uf (by omega)
  have hu2 : qu .u8 (k : Int) = k := Uf (by omega)
  simp (maxSteps := 3000000) only [qh, zH, V9, qc, hm, List.length_set, a1, a2, b1, b2, hu1, hu2, K7, AV.one, iE, iN, iB, iC, iL, iD, iA, iS, iM, qa, zZ, ↓qm, ↓reduceIte, reduceCtorEq, nA, nM, nS, nE, nL, nD]; try simp only [qa, zY]
  refine Ret.jn [0] ⟨⟨by simp, rfl, by decide⟩, ?_⟩ (rs := []) rfl rfl (by simp [z6]) ?_ ⟨?_, ?_⟩
  · simp only [zK, ↓reduceIte, reduceCtorEq, nE, nB, nA]
  · intro j l; match j with
    | 0 => simp [zb, AO.ren]
    | j + 1 => simp [zb]
  · rfl
  · simp only [zL, ↓reduceIte, reduceCtorEq, nE, nA]
def kr : BE := fun hp xs => match xs with
  | [.ptr b 0, .int .i64 i, .int .i64 k] => match hp[b]? with
    | some (.cells l) => match yk l with
      | some (n, m) => chk ((0 ≤ i ∧ i < 16) ∧ (0 ≤ k ∧ k < 16)) (some (.tup [], hp.set b (.cells (dia n ((m.set i.toNat k.toNat).set k.toNat i.toNat)))))
      | none => none
    | _ => none
  | _ => none
theorem quk : Am.Callee Try.prog 142 kr := Callee.fp fun hp xs v hp' he => by
  unfold kr at he
  split at he
  · rename_i b i k
    split at he
    · rename_i l hb
      split at he
      · rename_i n m hd
        obtain ⟨⟨h1, h2⟩, he⟩ := qk he
        simp only [Option.some.injEq, Prod.mk.injEq] at he
        obtain ⟨rfl, rfl⟩ := he
        obtain ⟨rfl, hm⟩ := zj hd
        obtain ⟨i, rfl⟩ : ∃ j : Nat, i = j := ⟨i.toNat, by omega⟩
        obtain ⟨k, rfl⟩ : ∃ j : Nat, k = j := ⟨k.toNat, by omega⟩
        simp only [Int.toNat_natCast]
        refine ⟨[(b, 0)], [.ptr 0 0, .int .i64 i, .int .i64 k], _, _, _, q0i n m i k hm.1 (by omega) (by omega), by simp [AV.ren, AV.zl, ofL], rfl, ⟨⟨rfl, by simp only [AO.ren, qd _ _ (qe _ _)]; exact hb⟩, trivial⟩, rfl, ⟨ql _ _ (qe _ _), trivial⟩, ⟨by simp [AV.under], trivial, trivial, trivial⟩, by simp [AV.ren, AV.zl], ?_⟩
        simp [after, upd, AO.wr, AO.ren, qd _ _ (qe _ _)]
      · cases he
    · cases he
  · cases he
def B46 : zo := (B39.put 142 (kr))
theorem qwg : qx Try.prog B46 := (qex.put (quk))
theorem bm : B46 142 = some (kr) := rfl
def Vh (n : Nat) : Nat → List Nat
  | 0 => List.replicate 16 0
  | k + 1 => ((Vh n k).set k (n + k)).set (n + k) k
def qck (n : Nat) : List Nat := Vh n n
theorem qal (n : Nat) : ∀ k, (Vh n k).length = 16
  | 0 => by simp [Vh]
  | k + 1 => by simp [Vh, qal n k]
theorem qkp {n : Nat} (hn : n ≤ 8) : ∀ k, k ≤ n → ∀ x ∈ Vh n k, x < 16
  | 0, _, x, hx => by rw [(List.mem_replicate.1 hx).2]; omega
  | k + 1, hk, x, hx => by
    unfold Vh at hx
    rcases List.mem_or_eq_of_mem_set hx with hx | rfl
    · rcases List.mem_or_eq_of_mem_set hx with hx | rfl
      · exact qkp hn k (by omega) x hx
      · omega
    · omega
theorem qab {n : Nat} (hn : n ≤ 8) {k : Nat} (hk : k ≤ n) : okD (Vh n k) := ⟨qal n k, fun x hx => by have := qkp hn k hk x hx; omega⟩
def Uh : AC := .seq (.region [oP 9 .lss 8 7]) (.seq (.cond 9 .skip (.exit 0)) (.seq (.block 1 (.seq (.region [oM 10 8,oM 4 10]) (.region [oM 11 4,oM 12 0,oM 13 4,oP 14 .add 12 13,oC 15 142 [.t 3,.t 11,.t 14]]))) (.region [oK 16 .add 8 1,oM 8 16])))
def qdh : AC := .seq (.region [oN 17 17 3,oS 17 2 17]) .ret
def qjt : AC := .seq (.region [o0 2 (.alloc [.int .i64 0,.int .u8 0,.int .u8 0,.int .u8 0,.int .u8 0,.int .u8 0,.int .u8 0,.int .u8 0,.int .u8 0,.int .u8 0,.int .u8 0,.int .u8 0,.int .u8 0,.int .u8 0,.int .u8 0,.int .u8 0,.int .u8 0])]) (.seq (.region [oM 5 0,o0 6 (.build [.int .i64 0,.int .u8 0,.int .u8 0,.int .u8 0,.int .u8 0,.int .u8 0,.int .u8 0,.int .u8 0,.int .u8 0,.int .u8 0,.int .u8 0,.int .u8 0,.int .u8 0,.int .u8 0,.int .u8 0,.int .u8 0,.int .u8 0] [(0,1,.t 5)]),o0 3 (.alloc [.int .i64 0,.int .u8 0,.int .u8 0,.int .u8 0,.int .u8 0,.int .u8 0,.int .u8 0,.int .u8 0,.int .u8 0,.int .u8 0,.int .u8 0,.int .u8 0,.int .u8 0,.int .u8 0,.int .u8 0,.int .u8 0,.int .u8 0]),oS 17 3 6]) (.seq (.seq (.region [oM 7 0,oI 8 0]) (.block 0 (.loop Uh))) qdh))
theorem qu8 : zk Try.prog 121 = some ⟨18, qjt, [.Qa 2 17]⟩ := by kernel_rfl
theorem q0j (n : Nat) (hn : n ≤ 8) : Am.Fn Try.prog 121 [.int .i64 n] [] (fun v H' => v = .agg (dia n (qck n)) ∧ H' = []) := by
  refine Am.Fn.xj (R := fun v => v = _) qwg mixed qu8 (by simp) (by simp) ?_
  simp (maxSteps := 3000000) only [qh, zH, qjt, bm, kr, zq, x6, Jz, qc, zi, z7 qv qv, List.length_replicate, iE, iN, iB, iC, iL, iD, iA, iS, iM, qa, zZ, ↓qm, ↓reduceIte, reduceCtorEq, nA, nM, nS, nE, nL, nD]; try simp only [qa, zY]
  refine WA.jt qwg (fun s => ∃ i : Nat, i ≤ n ∧ s = ⟨[(8, .int .i64 i), (7, .int .i64 n), (3, .ptr 1 0), (2, .ptr 0 0), (0, .int .i64 n)], [.cells (dia 0 (List.replicate 16 0)), .cells (dia n (Vh n i))]⟩)
    (fun s => match get s.env 8 with | .int _ x => n - x.toNat | _ => 0) ⟨_, q6.qz [8, 7, 3, 2, 0], 0, by omega, rfl⟩ ?_
  rintro s ⟨i, hi, rfl⟩
  have hw : qu .i64 ((i : Int) + 1) = ((i + 1 : Nat) : Int) := by rw [wrap64 (by omega) (by omega)]; rfl
  have hok := qab hn hi
  by_cases hlt : i < n
  · have hli : (i : Int) < (n : Int) := by omega
    have h2 : qu .i64 ((n : Int) + i) = ((n + i : Nat) : Int) := by rw [wrap64 (by omega) (by omega)]; rfl
    have c1 : (0 : Int) ≤ i ∧ (i : Int) < 16 := by omega
    have c2 : (0 : Int) ≤ (n + i : Nat) ∧ ((n + i : Nat) : Int) < 16 := by omega
    have hnext : Vh n (i + 1) = ((Vh n i).set i (n + i)).set (n + i) i := rfl
    simp (maxSteps := 3000000) only [qh, zH, Uh, bm, kr, hli, hw, h2, qp hok, c1, c2, iE, iN, iB, iC, iL, iD, iA, iS, iM, qa, zZ, ↓qm, ↓reduceIte, reduceCtorEq, nA, nM, nS, nE, nL, nD]; try simp only [qa, zY]
    refine ⟨_, q6.qz [8, 7, 3, 2, 0], ⟨i + 1, by omega, ?_⟩, ?_⟩
    · simp only [zL, ↓reduceIte, reduceCtorEq, nE, nA]; rw [hnext]
    · simp only [zL, ↓reduceIte, reduceCtorEq, nE, nA]; omega
  · have hli : ¬ ((i : Int) < (n : Int)) := by omega
    obtain rfl : i = n := by omega
    simp (maxSteps := 3000000) only [qh, zH, Uh, qdh, bm, kr, hli, qc, hok.1, qn hok.1, z7 qv hok.1, zi, List.length_replicate, Int.lt_irrefl, iE, iN, iB, iC, iL, iD, iA, iS, iM, qa, zZ, ↓qm, ↓reduceIte, reduceCtorEq, nA, nM, nS, nE, nL, nD]; try simp only [qa, zY]
    exact ⟨qe _ _, rfl⟩
def Xd : List AV → Option AV
  | [.int .i64 n] => chk (0 ≤ n ∧ n ≤ 8) (some (.agg (dia n (qck n.toNat))))
  | _ => none
theorem qhh {f : FuncId} (h : ∀ n : Nat, n ≤ 8 → Am.Fn Try.prog f [.int .i64 n] [] (fun v H' => v = .agg (dia n (qck n)) ∧ H' = [])) : Am.Callee Try.prog f (qj Xd) := Am.Callee.plain fun xs v he => by
  unfold Xd at he
  split at he
  · rename_i n
    obtain ⟨h1, he⟩ := qk he
    cases he
    obtain ⟨N, rfl⟩ : ∃ N : Nat, n = N := ⟨n.toNat, by omega⟩
    rw [Int.toNat_natCast]
    exact ⟨rfl, by simp only [AV.zm, qe], h N (by omega)⟩
  · cases he
def B70 : zo := B53
theorem qzd : qx Try.prog B70 := qzg
def B79 : zo := B70
theorem qoj : qx Try.prog B79 := qzd
def qy6 (p c n : Int) (L : List (Int × List Nat × Int)) : ER := if L.length ≤ 140 then (p, c, n, L, 0) else (0, 0, 0, [], 3)
theorem qns {p c n : Int} {L : List (Int × List Nat × Int)} (h : okT L) : q1s (qy6 p c n L) := by
  unfold qy6
  split
  · rename_i hle; exact ⟨h, by simp only; omega⟩
  · exact ⟨(fun t h => by cases h), by simp⟩
structure qyz (H : List AO) (X Y : AV) (ts us : List (Int × List Nat × Int)) : Prop where
  x : ∀ rest, U8 (H ++ rest) X = some ts
  y : ∀ rest, U8 (H ++ rest) Y = some us
  ok : okT ts ∧ okT us
  un : ∀ (j : Nat) (o : AO), H[j]? = some o → o.under H.length
  ux : X.under H.length ∧ Y.under H.length
  sh : (H = [] ∧ X = .v (.slice none 0 0) ∧ Y = .v (.slice none 0 0)) ∨
    (∃ (o : AO) (nx cx : Nat), H = [o] ∧ X = .slc 0 0 nx true cx ∧ Y = .v (.slice none 0 0) ∧ (∀ ids, o.within ids = true) ∧ ∀ ρ, o.ren ρ = o) ∨
    (∃ (o : AO) (ny cy : Nat), H = [o] ∧ X = .v (.slice none 0 0) ∧ Y = .slc 0 0 ny true cy ∧ (∀ ids, o.within ids = true) ∧ ∀ ρ, o.ren ρ = o) ∨
    ∃ (o o' : AO) (nx cx ny cy : Nat), H = [o, o'] ∧ X = .slc 0 0 nx true cx ∧ Y = .slc 1 0 ny true cy ∧ (∀ ids, o.within ids = true) ∧ (∀ ρ, o.ren ρ = o) ∧ (∀ ids, o'.within ids = true) ∧ ∀ ρ, o'.ren ρ = o'
theorem qyz.h {H : List AO} {X Y : AV} {ts us : List (Int × List Nat × Int)} (a : qyz H X Y ts us) : H = [] ∨ (∃ o, H = [o]) ∨ ∃ o o', H = [o, o'] := by
  rcases a.sh with ⟨rfl, _⟩ | ⟨o, _, _, rfl, _⟩ | ⟨o, _, _, rfl, _⟩ | ⟨o, o', _, _, _, _, rfl, _⟩
  · exact .inl rfl
  · exact .inr (.inl ⟨_, rfl⟩)
  · exact .inr (.inl ⟨_, rfl⟩)
  · exact .inr (.inr ⟨_, _, rfl⟩)
theorem exists_least {p : Nat → Prop} (h : ∃ k, p k) : ∃ k, p k ∧ ∀ j, p j → k ≤ j := by
  obtain ⟨k, hk⟩ := h
  induction k using Nat.strongRecOn with
  | ind k ih =>
    by_cases hj : ∃ j, j < k ∧ p j
    · obtain ⟨j, h1, h2⟩ := hj; exact ih j h1 h2
    · exact ⟨k, hk, fun j h2 => Nat.le_of_not_lt fun h1 => hj ⟨j, h1, h2⟩⟩
open Classical in
noncomputable def qjk (J : Nat → St → Prop) (s : St) : Nat := if h : ∃ k, J k s then Classical.choose (exists_least h) else 0
theorem qh7 {J : Nat → St → Prop} {s : St} (h : ∃ k, J k s) : J (qjk J s) s ∧ ∀ j, J j s → qjk J s ≤ j := by
  unfold qjk; rw [dif_pos h]; exact Classical.choose_spec (exists_least h)
theorem qwn {B : zo} (hB : qx Try.prog B) {n0 nt : Nat} {Q : AX → St → Prop} {s : St} {a : AC} (J : Nat → St → Prop) (h0 : ∃ s', q6 n0 s s' ∧ ∃ k, J k s')
    (round : ∀ k s, J k s → ∀ (post : St → Prop), (∀ s' s'' k', q6 n0 s' s'' → J k' s'' → k' < k → post s') → wbC Try.prog B n0 nt a (AX.then post Q) s) : WA Try.prog n0 nt (.loop a) Q s := by
  refine WA.jt hB (fun s => ∃ k, J k s) (qjk J) h0 fun s hs => ?_
  obtain ⟨h1, h2⟩ := qh7 hs
  exact round _ s h1 _ fun s' s'' k' hw hj hlt => ⟨s'', hw, ⟨k', hj⟩, Nat.lt_of_le_of_lt ((qh7 ⟨k', hj⟩).2 k' hj) hlt⟩
def bls (l : List Bool) : List AV := l.map .bool
theorem vy (l : List Bool) : (bls l).length = l.length := by simp [bls]
theorem vw (l : List Bool) : AV.zg (bls l) = true := by
  induction l with
  | nil => rfl
  | cons a l ih => simp only [bls, List.map_cons, AV.zg, AV.zm, Bool.true_and]; exact ih
theorem qpm {l : List Bool} {i : Nat} (h : i < l.length) : (bls l)[i]? = some (.bool (l.getD i false)) := by
  simp [bls, List.getD_eq_getElem?_getD, h]
theorem qdu {l : List Bool} {i : Nat} {b : Bool} : (bls l).set i (.bool b) = bls (l.set i b) := by simp [bls, List.map_set]
theorem Vq {x : Nat} (h : x < 8) : ((0 : Int) ≤ (x : Int) ∧ (x : Int) < ((8 : Nat) : Int)) := by omega
def y7 : AC := .seq (.region [oM 18 2,oF 19 1 5,o0 20 (.xk 16 1 (.t 19) (.t 18)),oL 21 20,o0 22 (.conv .i64 (.t 21)),oM 13 22]) (.seq (.seq (.region [oM 23 13,oM 24 12,oP 25 .lss 23 24]) (.cond 25 (.seq (.region [oM 26 13,oM 10 26,oB 11 true]) .ret) .skip)) (.seq (.region [oM 27 4,oM 28 13,oM 29 12,oP 30 .sub 28 29,o0 31 (.j0 (.t 27)),o0 32 (.xk 8 1 (.t 31) (.t 30)),⟨none,none,.op (.Zq (.t 32) (.c (.bool true)))⟩]) (.seq (.region [oM 33 13,oM 34 12,oP 35 .sub 33 34,oM 2 35]) (.seq (.region [oB 3 false]) (.exit 1)))))
def uk : AC := .block 1 (.seq (.seq (.region [oM 17 3]) (.cond 17 y7 .skip)) (.seq (.region [oM 36 2,oF 37 1 6,o0 38 (.xk 16 1 (.t 37) (.t 36)),oL 39 38,o0 40 (.conv .i64 (.t 39)),oM 14 40]) (.seq (.seq (.region [oM 41 14,oM 42 12,oP 43 .geq 41 42]) (.cond 43 (.seq (.region [oM 44 14,oM 10 44,oB 11 false]) .ret) .skip)) (.seq (.region [oM 45 4,oM 46 14,o0 47 (.j0 (.t 45)),o0 48 (.xk 8 1 (.t 47) (.t 46)),⟨none,none,.op (.Zq (.t 48) (.c (.bool true)))⟩]) (.seq (.region [oM 49 12,oM 50 14,oP 51 .add 49 50,oM 2 51]) (.region [oB 3 true]))))))
def Gk : AC := .seq (.region [o0 5 (.box (.t 0)),o0 6 (.box (.t 1)),oI 10 0,oB 11 false]) (.seq (.region [oF 15 0 5,oL 16 15,oM 12 16]) (.block 0 (.loop uk)))
theorem qgn : zk Try.prog 143 = some ⟨52, Gk, [.slot 10, .slot 11]⟩ := by kernel_rfl
theorem qgp (N : Nat) (d e : List Nat) (hd : okD d) (he : okD e) (hds : isS N d = true) (hes : isS N e = true) {f : Nat} {u : Bool} {i : Nat} {met : List Bool} {r : Nat} {s : Bool} {met' : List Bool} (hf : zr N d e f u i met = some (r, s, met')) (hi : i < 2 * N) (hm : met.length = 8) :
    Am.Fn Try.prog 143 [.agg (dia N d), .agg (dia N e), .int .i64 i, .bool u, .ptr 0 0] [.cells (bls met)] (fun v H' => v = .tup [.int .i64 r, .bool s] ∧ H' = [.cells (bls met')]) := by
  refine Am.Fn.ofB qoj mixed qgn (by simp [AV.qy, AV.under, ql _ _ (qe _ _)]) (fun j o hj => by
    match j, hj with
    | 0, hj => cases hj; exact ql _ _ (vw _)
    | j + 1, hj => simp at hj) ?_
  obtain ⟨hN, hpd, _⟩ := x9 hds
  obtain ⟨_, hpe, _⟩ := x9 hes
  have hdl := hd.1
  have hel := he.1
  simp (maxSteps := 3000000) only [qh, zH, Gk, qa, qc, hdl, hel, vp, iE, iN, iB, iC, iL, iD, iA, iS, iM, qa, zZ, ↓qm, ↓reduceIte, reduceCtorEq, nA, nM, nS, nE, nL, nD]; try simp only [qa, zY]
  refine qwn qoj (fun f st => ∃ (u : Bool) (i : Nat) (met : List Bool), zr N d e f u i met = some (r, s, met') ∧ i < 2 * N ∧ met.length = 8 ∧
      st = ⟨[(12, .int .i64 N), (6, .ptr 2 0), (5, .ptr 1 0), (4, .ptr 0 0), (3, .bool u), (2, .int .i64 i)], [.cells (bls met), .cells (dia N d), .cells (dia N e)]⟩) ⟨_, q6.qz [12, 6, 5, 4, 3, 2], f, u, i, met, hf, hi, hm, rfl⟩ ?_
  clear hf hi hm
  rintro k st ⟨u, i, met, hf, hi, hm, rfl⟩ post hpost
  obtain ⟨hi16, hi16'⟩ := gr (show i < 16 by omega)
  have hi17 : i < 16 := by omega
  match k, u, hf with
  | 0, _, hf => simp [zr] at hf
  | f + 1, true, hf =>
    have hx := (hpd i hi).1
    have hcx : qu .i64 ((d.getD i 0 : Nat) : Int) = ((d.getD i 0 : Nat) : Int) := yc (by omega)
    rw [zr] at hf
    by_cases hlt : d.getD i 0 < N
    · rw [if_pos hlt] at hf
      simp only [Option.some.injEq, Prod.mk.injEq] at hf
      obtain ⟨rfl, rfl, rfl⟩ := hf
      have hli : ((d.getD i 0 : Nat) : Int) < (N : Int) := by omega
      simp (maxSteps := 3000000) only [qh, zH, uk, y7, hi16, hi16', hi17, qc, hdl, hel, hcx, hli, iE, iN, iB, iC, iL, iD, iA, iS, iM, qa, zZ, ↓qm, ↓reduceIte, reduceCtorEq, nA, nM, nS, nE, nL, nD]; try simp only [qa, zY]
      refine Ret.jn [0] ⟨⟨Nat.le_refl 1, rfl, by decide⟩, ?_⟩ (rs := [.int .i64 (d.getD i 0 : Nat), .bool true]) rfl rfl (by simp [z6]) ?_ ⟨?_, ?_⟩
      · simp only [qg _ _ (vw _), zK, ↓reduceIte, reduceCtorEq, nE, nB, nA]
      · intro j l; cases j <;> simp [zb, AO.ren]
      · rfl
      · simp only [qd _ _ (vw _), zL, ↓reduceIte, reduceCtorEq, nE, nA]
    · rw [if_neg hlt] at hf
      have hli : ¬ ((d.getD i 0 : Nat) : Int) < (N : Int) := by omega
      have hsub : qu .i64 (((d.getD i 0 : Nat) : Int) - (N : Int)) = ((d.getD i 0 - N : Nat) : Int) := by rw [wrap64 (by omega) (by omega)]; omega
      have h8 := Vq (show d.getD i 0 - N < 8 by omega)
      have h8' : d.getD i 0 - N < 8 := by omega
      simp (maxSteps := 3000000) only [qh, zH, uk, y7, hi16, hi16', hi17, qc, hdl, hel, hcx, hli, hsub, h8, h8', vy, hm, qdu, AV.one, iE, iN, iB, iC, iL, iD, iA, iS, iM, qa, zZ, ↓qm, ↓reduceIte, reduceCtorEq, nA, nM, nS, nE, nL, nD]; try simp only [qa, zY]
      exact hpost _ _ f (q6.qz [12, 6, 5, 4, 3, 2]) ⟨false, d.getD i 0 - N, _, hf, by omega, by simp [hm], rfl⟩ (Nat.lt_succ_self _)
  | f + 1, false, hf =>
    have hx := (hpe i hi).1
    have hcx : qu .i64 ((e.getD i 0 : Nat) : Int) = ((e.getD i 0 : Nat) : Int) := yc (by omega)
    rw [zr] at hf
    by_cases hlt : N ≤ e.getD i 0
    · rw [if_pos hlt] at hf
      simp only [Option.some.injEq, Prod.mk.injEq] at hf
      obtain ⟨rfl, rfl, rfl⟩ := hf
      have hli : (N : Int) ≤ ((e.getD i 0 : Nat) : Int) := by omega
      simp (maxSteps := 3000000) only [qh, zH, uk, y7, hi16, hi16', hi17, qc, hdl, hel, hcx, hli, iE, iN, iB, iC, iL, iD, iA, iS, iM, qa, zZ, ↓qm, ↓reduceIte, reduceCtorEq, nA, nM, nS, nE, nL, nD]; try simp only [qa, zY]
      refine Ret.jn [0] ⟨⟨Nat.le_refl 1, rfl, by decide⟩, ?_⟩ (rs := [.int .i64 (e.getD i 0 : Nat), .bool false]) rfl rfl (by simp [z6]) ?_ ⟨?_, ?_⟩
      · simp only [qg _ _ (vw _), zK, ↓reduceIte, reduceCtorEq, nE, nB, nA]
      · intro j l; cases j <;> simp [zb, AO.ren]
      · rfl
      · simp only [qd _ _ (vw _), zL, ↓reduceIte, reduceCtorEq, nE, nA]
    · rw [if_neg hlt] at hf
      have hli : ¬ (N : Int) ≤ ((e.getD i 0 : Nat) : Int) := by omega
      have hadd : qu .i64 ((N : Int) + ((e.getD i 0 : Nat) : Int)) = ((N + e.getD i 0 : Nat) : Int) := by rw [wrap64 (by omega) (by omega)]; rfl
      have h8 := Vq (show e.getD i 0 < 8 by omega)
      have h8' : e.getD i 0 < 8 := by omega
      simp (maxSteps := 3000000) only [qh, zH, uk, y7, hi16, hi16', hi17, qc, hdl, hel, hcx, hli, hadd, h8, h8', vy, hm, qdu, AV.one, iE, iN, iB, iC, iL, iD, iA, iS, iM, qa, zZ, ↓qm, ↓reduceIte, reduceCtorEq, nA, nM, nS, nE, nL, nD]; try simp only [qa, zY]
      exact hpost _ _ f (q6.qz [12, 6, 5, 4, 3, 2]) ⟨true, N + e.getD i 0, _, hf, by omega, by simp [hm], rfl⟩ (Nat.lt_succ_self _)
def Vp : List AV → Option (List Bool)
  | [] => some []
  | .bool b :: l => (Vp l).map (b :: ·)
  | _ => none
theorem U5 : ∀ l, Vp (bls l) = some l
  | [] => rfl
  | b :: l => by
    have := U5 l
    simp only [bls] at this
    simp only [bls, List.map_cons, Vp, this, Option.map_some]
theorem Yh : ∀ {l : List AV} {m : List Bool}, Vp l = some m → l = bls m
  | [], m, h => by simp only [Vp, Option.some.injEq] at h; subst h; rfl
  | .bool b :: l, m, h => by
    simp only [Vp, Option.map_eq_some_iff] at h
    obtain ⟨m', h1, rfl⟩ := h
    rw [Yh h1]; rfl
noncomputable def b7 : BE := fun hp xs => match xs with
  | [.agg ld, .agg le, .int .i64 i, .bool u, .ptr b 0] => match hp[b]? with
    | some (.cells lm) => match yk ld, yk le, Vp lm with
      | some (n, d), some (n', e), some met => chk (((n' = n ∧ 0 ≤ n) ∧ isS n.toNat d = true ∧ isS n.toNat e = true) ∧ (0 ≤ i ∧ i < 2 * n) ∧ met.length = 8 ∧ u = decide (i < n)) (some (.tup [.int .i64 (pr n.toNat d e i.toNat : Nat), .bool (decide (pr n.toNat d e i.toNat < n.toNat))], hp.set b (.cells (bls (fol n.toNat d e u i.toNat met)))))
      | _, _, _ => none
    | _ => none
  | _ => none
theorem qvc : Am.Callee Try.prog 143 b7 := Callee.fp fun hp xs v hp' he => by
  unfold b7 at he
  split at he
  · rename_i ld le i u b
    split at he
    · rename_i lm hb
      split at he
      · rename_i n d n' e met hd1 he1 hm1
        obtain ⟨⟨⟨⟨a1, a2⟩, a3, a4⟩, a5, a6, a7⟩, he2⟩ := qk he
        simp only [Option.some.injEq, Prod.mk.injEq] at he2
        obtain ⟨rfl, rfl⟩ := he2
        obtain ⟨rfl, hd⟩ := zj hd1
        obtain ⟨rfl, he'⟩ := zj he1
        have hbl := Yh hm1
        subst hbl; subst a1
        obtain ⟨N, rfl⟩ : ∃ N : Nat, n' = N := ⟨n'.toNat, by omega⟩
        obtain ⟨k, rfl⟩ : ∃ k : Nat, i = k := ⟨i.toNat, by omega⟩
        simp only [Int.toNat_natCast] at a3 a4 ⊢
        have hu : u = decide (k < N) := by rw [a7]; congr 1; exact propext (by omega)
        subst hu
        obtain ⟨f, met', hf⟩ := Wc a3 a4 (i := k) (by omega) met
        have hfo := qes hf
        refine ⟨[(b, 0)], [.agg (dia N d), .agg (dia N e), .int .i64 k, .bool (decide (k < N)), .ptr 0 0], _, _, _, qgp N d e hd he' a3 a4 hf (by omega) a6, by simp [AV.ren, AV.zl, ofL, qd _ _ (qe _ _)], by simp [vq], ⟨⟨rfl, by simp only [AO.ren, qd _ _ (vw _)]; exact hb⟩, trivial⟩, rfl, ⟨ql _ _ (vw _), trivial⟩, ⟨ql _ _ (qe _ _), ql _ _ (qe _ _), trivial, trivial, by simp [AV.under], trivial⟩, by simp [AV.ren, AV.zl], ?_⟩
        simp [after, upd, AO.wr, AO.ren, qd _ _ (vw _), hfo]
      · cases he
    · cases he
  · cases he
noncomputable def B80 : zo := (B79.put 143 (b7))
theorem qbe : qx Try.prog B80 := (qoj.put (qvc))
end Go.Proofs.Ytkgoadglalpbfaa
