/- Contracts: the program's sum of elements. -/
import Derived.Test.YtkgoadglalpbfaaG6
namespace Go.Proofs.Ytkgoadglalpbfaa
open Go.Am Go.Dia
open Nat renaming reduceAdd → nA, reduceMul → nM, reduceSub → nS, reduceEqDiff → nE, reduceLT → nL, reduceLeDiff → nD, reduceBEq → nB
open Int renaming reduceEq → iE, reduceNe → iN, reduceBEq → iB, reduceBNe → iC, reduceLT → iL, reduceLE → iD, reduceAdd → iA, reduceSub → iS, reduceMul → iM
set_option linter.unusedSimpArgs false
set_option linter.unusedVariables false
set_option maxRecDepth 4000
set_option maxHeartbeats 1000000
def Ul (n : Int) (m : List Nat) : List (Int × List Nat × Int) → Option Nat
  | [] => none
  | t :: l => if n = t.1 ∧ m = t.2.1 then some 0 else (Ul n m l).map (· + 1)
theorem qdb {n : Int} {m : List Nat} (hm : m.length = 16) : ∀ {ts : List (Int × List Nat × Int)} {k i : Nat}, okT ts →
    uu KD true (.agg (dia n m)) (esT k ts) i = some ((Ul n m ts).map fun j => (i + j, ⟨.agg (dia n m), .int .i64 (ts.getD j zT).2.2, k + j⟩))
  | [], k, i, _ => rfl
  | t :: l, k, i, h => by
    have h1 := (h t (List.mem_cons_self ..)).1
    have ih := qdb (n := n) hm (ts := l) (k := k + 1) (i := i + 1) fun u hu => h u (List.mem_cons_of_mem _ hu)
    unfold esT uu
    simp only [keq, Ui hm h1, Ul]
    by_cases e : n = t.1 ∧ m = t.2.1
    · simp only [decide_eq_true e, if_pos e, Option.map_some, Nat.add_zero, List.getD_cons_zero]
      obtain ⟨rfl, rfl⟩ := e
      rfl
    · simp only [decide_eq_false e, if_neg e, ih, Option.map_map]
      congr 1
      congr 1
      funext j
      simp only [Function.comp, List.getD_cons_succ]
      rw [show i + 1 + j = i + (j + 1) by omega, show k + 1 + j = k + (j + 1) by omega]
def B0 (n : Int) (m : List Nat) (f : Int) : List (Int × List Nat × Int) → List (Int × List Nat × Int)
  | [] => [(n, m, f)]
  | t :: l => if n = t.1 ∧ m = t.2.1 then (t.1, t.2.1, t.2.2 + f) :: l else t :: B0 n m f l
theorem qnz : ∀ {a b : List (Int × List Nat × Int)} {k : Nat}, esT k (a ++ b) = esT k a ++ esT (k + a.length) b
  | [], b, k => rfl
  | t :: a, b, k => by
    simp only [List.cons_append, esT, qnz, List.length_cons]
    rw [show k + 1 + a.length = k + (a.length + 1) by omega]
theorem qn8 {n v : Int} {m : List Nat} : ∀ {ts : List (Int × List Nat × Int)} {k j : Nat}, (esT k ts).set j ⟨.agg (dia n m), .int .i64 v, k + j⟩ = esT k (ts.set j (n, m, v))
  | [], k, j => rfl
  | t :: ts, k, 0 => rfl
  | t :: ts, k, j + 1 => by
    simp only [esT, List.set_cons_succ]
    rw [show k + (j + 1) = k + 1 + j by omega, qn8]
theorem qha {n : Int} {m : List Nat} : ∀ {ts : List (Int × List Nat × Int)} {j : Nat}, Ul n m ts = some j → j < ts.length ∧ (ts.getD j zT).1 = n ∧ (ts.getD j zT).2.1 = m ∧ ∀ f, B0 n m f ts = ts.set j (n, m, (ts.getD j zT).2.2 + f)
  | t :: l, j, h => by
    unfold Ul at h
    split at h
    · rename_i e
      cases h
      obtain ⟨rfl, rfl⟩ := e
      exact ⟨by simp, rfl, rfl, fun f => by simp [B0]⟩
    · rename_i e
      cases hi : Ul n m l with
      | none => rw [hi] at h; cases h
      | some i =>
        rw [hi] at h; cases h
        obtain ⟨h1, h2, h3, h4⟩ := qha hi
        exact ⟨by simp; omega, by simpa using h2, by simpa using h3, fun f => by simp [B0, if_neg e, h4]⟩
theorem qfk {n : Int} {m : List Nat} : ∀ {ts : List (Int × List Nat × Int)}, Ul n m ts = none → (∀ f, B0 n m f ts = ts ++ [(n, m, f)]) ∧ ∀ t ∈ ts, ¬ (n = t.1 ∧ m = t.2.1)
  | [], _ => ⟨fun _ => rfl, by simp⟩
  | t :: l, h => by
    unfold Ul at h
    split at h
    · cases h
    · rename_i e
      have hi : Ul n m l = none := by
        cases hi : Ul n m l with
        | none => rfl
        | some i => rw [hi] at h; cases h
      obtain ⟨h1, h2⟩ := qfk hi
      refine ⟨fun f => by simp [B0, if_neg e, h1], fun u hu => ?_⟩
      rcases List.mem_cons.1 hu with rfl | hu
      · exact e
      · exact h2 u hu
structure qun (n M : Int) (ts : List (Int × List Nat × Int)) : Prop where
  ok : okT ts
  dia : ∀ t ∈ ts, t.1 = n ∧ isS n.toNat t.2.1 = true
  fac : ∀ t ∈ ts, -M ≤ t.2.2 ∧ t.2.2 ≤ M
  one : ts.Pairwise fun a b => a.2.1 ≠ b.2.1
theorem qjw {n f : Int} {m : List Nat} {u : Int × List Nat × Int} : ∀ {ts : List (Int × List Nat × Int)}, u ∈ B0 n m f ts → (∃ t ∈ ts, u.1 = t.1 ∧ u.2.1 = t.2.1 ∧ (u.2.2 = t.2.2 ∨ u.2.2 = t.2.2 + f)) ∨ (u = (n, m, f) ∧ ∀ t ∈ ts, ¬ (n = t.1 ∧ m = t.2.1))
  | [], h => by
    rw [B0, List.mem_singleton] at h
    exact .inr ⟨h, by simp⟩
  | t :: l, h => by
    unfold B0 at h
    split at h
    · rcases List.mem_cons.1 h with rfl | h
      · exact .inl ⟨t, List.mem_cons_self .., rfl, rfl, .inr rfl⟩
      · exact .inl ⟨u, List.mem_cons_of_mem _ h, rfl, rfl, .inl rfl⟩
    · rename_i e
      rcases List.mem_cons.1 h with rfl | h
      · exact .inl ⟨u, List.mem_cons_self .., rfl, rfl, .inl rfl⟩
      · rcases qjw h with ⟨v, hv, h1⟩ | ⟨h1, h2⟩
        · exact .inl ⟨v, List.mem_cons_of_mem _ hv, h1⟩
        · refine .inr ⟨h1, fun v hv => ?_⟩
          rcases List.mem_cons.1 hv with rfl | hv
          · exact e
          · exact h2 v hv
theorem qkc {n f : Int} {m : List Nat} : ∀ {ts : List (Int × List Nat × Int)}, (∀ t ∈ ts, t.1 = n) → (ts.Pairwise fun a b => a.2.1 ≠ b.2.1) → (B0 n m f ts).Pairwise fun a b => a.2.1 ≠ b.2.1
  | [], _, _ => List.pairwise_singleton _ _
  | t :: l, hs, h => by
    have h' := List.pairwise_cons.1 h
    unfold B0
    split
    · exact List.pairwise_cons.2 ⟨fun u hu => h'.1 u hu, h'.2⟩
    · rename_i e
      refine List.pairwise_cons.2 ⟨fun u hu => ?_, qkc (fun u hu => hs u (List.mem_cons_of_mem _ hu)) h'.2⟩
      rcases qjw hu with ⟨v, hv, _, h2, _⟩ | ⟨rfl, _⟩
      · rw [h2]; exact h'.1 v hv
      · intro e2; exact e ⟨(hs t (List.mem_cons_self ..)).symm, e2.symm⟩
def cf (m : List Nat) : List (Int × List Nat × Int) → Int
  | [] => 0
  | t :: l => (if t.2.1 = m then t.2.2 else 0) + cf m l
theorem qt3 {m : List Nat} : ∀ {a b : List (Int × List Nat × Int)}, cf m (a ++ b) = cf m a + cf m b
  | [], b => by simp [cf]
  | t :: a, b => by simp only [List.cons_append, cf, qt3 (a := a)]; omega
theorem que {m : List Nat} {a b : List (Int × List Nat × Int)} (h : a.Perm b) : cf m a = cf m b := by
  induction h with
  | nil => rfl
  | cons x _ ih => simp only [cf, ih]
  | swap x y l => simp only [cf]; omega
  | trans _ _ h1 h2 => rw [h1, h2]
theorem qce (p a : Int) : p ∣ a.emod p - a := ⟨-(a / p), by
  have : a.emod p = a - p * (a / p) := Int.emod_def a p
  rw [this, Int.mul_neg]; omega⟩
theorem kh {p x y z : Int} (h1 : p ∣ x) (h2 : p ∣ y) (e : z = x + y) : p ∣ z := e ▸ Int.dvd_add h1 h2
theorem qgt {p x y z : Int} (h1 : p ∣ x) (h2 : p ∣ y) (e : z = x - y) : p ∣ z := e ▸ Int.dvd_sub h1 h2
theorem qgp {p a : Int} (h : a.emod p = 0) : p ∣ a := Int.dvd_of_emod_eq_zero h
theorem qnv {n f : Int} {m m' : List Nat} : ∀ {ts : List (Int × List Nat × Int)}, (∀ t ∈ ts, t.1 = n) → cf m (B0 n m' f ts) = cf m ts + if m' = m then f else 0
  | [], _ => by simp [B0, cf]
  | t :: l, h => by
    have h0 := h t (List.mem_cons_self ..)
    unfold B0
    split
    · rename_i e
      simp only [cf, e.2]
      split <;> omega
    · simp only [cf, qnv (ts := l) fun u hu => h u (List.mem_cons_of_mem _ hu)]
      omega
theorem qnl {p : Int} {m : List Nat} : ∀ {ts : List (Int × List Nat × Int)}, p ∣ cf m (xx p ts) - cf m ts
  | [] => by simp [xx, cf]
  | t :: l => by
    have ih := qnl (p := p) (m := m) (ts := l)
    unfold xx at ih ⊢
    rw [List.filterMap_cons]
    split
    · rename_i e
      split at e
      · rename_i e2
        simp only [cf]
        split
        · exact qgt ih (qgp e2) (by omega)
        · exact kh ih (Int.dvd_zero p) (by omega)
      · cases e
    · rename_i u e
      split at e
      · cases e
      · cases e
        simp only [cf]
        split
        · exact kh ih (qce p t.2.2) (by omega)
        · exact kh ih (Int.dvd_zero p) (by omega)
theorem qnn {p n kk : Int} {m m' : List Nat} : ∀ {ts : List (Int × List Nat × Int)}, (∀ t ∈ ts, t.1 = n) → p ∣ cf m (Gd p n m' kk ts) - (cf m ts + if m' = m then kk else 0)
  | [], _ => by simp [Gd, cf]
  | t :: l, h => by
    have ih := qnn (p := p) (kk := kk) (m := m) (m' := m') (ts := l) fun u hu => h u (List.mem_cons_of_mem _ hu)
    unfold Gd
    split
    · simp only [cf]
      exact kh ih (Int.dvd_zero p) (by omega)
    · split
      · rename_i e
        rw [qt3]
        split
        · rename_i e0
          simp only [cf, e.2]
          split
          · exact qgt (Int.dvd_zero p) (qgp e0) (by omega)
          · exact kh (Int.dvd_zero p) (Int.dvd_zero p) (by omega)
        · simp only [cf, e.2]
          split
          · exact kh (qce p (t.2.2 + kk)) (Int.dvd_zero p) (by omega)
          · exact kh (Int.dvd_zero p) (Int.dvd_zero p) (by omega)
      · simp only [cf]
        exact kh (Int.dvd_zero p) (Int.dvd_zero p) (by omega)
theorem qu6 {p n k : Int} {m m' : List Nat} {ts : List (Int × List Nat × Int)} (h : ∀ t ∈ ts, t.1 = n) : p ∣ cf m (yy p ts n m' k) - (cf m ts + if m' = m then k else 0) := by
  rw [Kd]
  split
  · rename_i e
    split
    · exact qgt (Int.dvd_zero p) (qgp e) (by omega)
    · exact kh (Int.dvd_zero p) (Int.dvd_zero p) (by omega)
  · have h1 := qnn (p := p) (kk := k.emod p) (m := m) (m' := m') h
    split at h1
    · rename_i e
      rw [if_pos e]
      exact kh h1 (qce p k) (by omega)
    · rename_i e
      rw [if_neg e]; exact h1
theorem qhq {m : List Nat} : ∀ {ts : List (Int × List Nat × Int)}, (∀ t ∈ ts, t.2.1 ≠ m) → cf m ts = 0
  | [], _ => rfl
  | t :: l, h => by
    simp only [cf, if_neg (h t (List.mem_cons_self ..)), qhq (ts := l) fun u hu => h u (List.mem_cons_of_mem _ hu)]; rfl
theorem qmv : ∀ {ts : List (Int × List Nat × Int)}, (ts.Pairwise fun a b => a.2.1 ≠ b.2.1) → ∀ t ∈ ts, cf t.2.1 ts = t.2.2
  | u :: l, h, t, ht => by
    have h' := List.pairwise_cons.1 h
    rcases List.mem_cons.1 ht with rfl | ht
    · simp only [cf, if_true, qhq fun v hv e => h'.1 v hv e.symm]; omega
    · simp only [cf, if_neg (h'.1 t ht), qmv h'.2 t ht]; omega
theorem qsu {ts : List (Int × List Nat × Int)} {n : Int} (hs : ∀ t ∈ ts, t.1 = n) (h : upT ts) : ts.Pairwise fun a b => a.2.1 ≠ b.2.1 := by
  refine List.Pairwise.imp_of_mem ?_ h
  intro a b ha hb hlt e
  have : txt a = txt b := by unfold txt; rw [hs a ha, hs b hb, e]
  unfold ltT at hlt
  rw [this, Qm] at hlt; cases hlt
theorem qcl {p n : Int} {ts : List (Int × List Nat × Int)} (h : wk p n ts) (hp : 0 < p) (m : List Nat) : (0 ≤ cf m ts ∧ cf m ts ≤ p - 1) ∧ ∀ t : Int × List Nat × Int, t.2.1 = m → (t ∈ ts ↔ t.1 = n ∧ t.2.2 = cf m ts ∧ cf m ts ≠ 0) := by
  have ha := qsu (fun t ht => (h.dia t ht).1) h.up
  by_cases hx : ∃ t ∈ ts, t.2.1 = m
  · obtain ⟨t, ht, rfl⟩ := hx
    have e := qmv ha t ht
    have hf := h.fac t ht
    rw [e]
    refine ⟨by omega, fun u hu => ⟨fun hm => ?_, fun ⟨h1, h2, _⟩ => ?_⟩⟩
    · have e2 := qmv ha u hm
      rw [hu, e] at e2
      exact ⟨(h.dia u hm).1, e2.symm, by omega⟩
    · have : u = t := by
        obtain ⟨a, b, c⟩ := u
        obtain ⟨a', b', c'⟩ := t
        simp only at h1 h2 hu
        rw [h1, h2, hu, ← (h.dia _ ht).1]
      rw [this]; exact ht
  · have e := qhq (m := m) (ts := ts) fun t ht e => hx ⟨t, ht, e⟩
    rw [e]
    exact ⟨by omega, fun u hu => ⟨fun hm => absurd ⟨u, hm, hu⟩ hx, fun h3 => absurd rfl h3.2.2⟩⟩
theorem qku {ts : List (Int × List Nat × Int)} (h : upT ts) : ts.Nodup := h.imp fun {a b} hlt e => by
  subst e; unfold ltT at hlt; rw [Qm] at hlt; cases hlt
theorem qix {p n : Int} {a b : List (Int × List Nat × Int)} (hp : 0 < p) (ha : wk p n a) (hb : wk p n b) (h : ∀ m, p ∣ cf m a - cf m b) : a = b := by
  have he : ∀ m, cf m a = cf m b := fun m => by
    obtain ⟨q, hq⟩ := h m
    have h1 := (qcl ha hp m).1
    have h2 := (qcl hb hp m).1
    have : q = 0 := by
      rcases Int.lt_trichotomy q 0 with hl | hl | hl
      · exfalso
        have : p * q ≤ p * (-1) := Int.mul_le_mul_of_nonneg_left (by omega) (by omega)
        omega
      · exact hl
      · exfalso
        have : p * 1 ≤ p * q := Int.mul_le_mul_of_nonneg_left (by omega) (by omega)
        omega
    subst this
    omega
  refine K2 ha.up hb.up ((List.perm_ext_iff_of_nodup (qku ha.up) (qku hb.up)).2 fun t => ?_)
  rw [(qcl ha hp t.2.1).2 t rfl, (qcl hb hp t.2.1).2 t rfl, he]
theorem qrh {p n M : Int} {S : List (Int × List Nat × Int)} (hp : 0 < p) (h : qun n M S) : wk p n (X4 (xx p S)) := by
  have hmem : ∀ t ∈ X4 (xx p S), ∃ u ∈ S, t = (u.1, u.2.1, u.2.2.emod p) ∧ u.2.2.emod p ≠ 0 := fun t ht => qcm ((kj _).mem_iff.1 ht)
  refine ⟨fun t ht => ?_, fun t ht => ?_, fun t ht => ?_, Gw (qc0 ?_)⟩
  · obtain ⟨u, hu, rfl, _⟩ := hmem t ht; exact h.ok u hu
  · obtain ⟨u, hu, rfl, _⟩ := hmem t ht; exact h.dia u hu
  · obtain ⟨u, hu, rfl, hne⟩ := hmem t ht
    have b1 : 0 ≤ u.2.2.emod p := Int.emod_nonneg _ (by omega)
    have b2 : u.2.2.emod p < p := Int.emod_lt_of_pos _ hp
    simp only; omega
  · unfold Ym List.Nodup
    rw [List.pairwise_map]
    refine List.Pairwise.imp_of_mem ?_ h.one
    intro a b ha hb hne e
    unfold txt at e
    have h1 := h.dia a ha
    have h2 := h.dia b hb
    rw [h1.1, h2.1] at e
    exact hne (qdt h1.2 h2.2 (h.ok a ha).1 (h.ok b hb).1 e).2
theorem qvk {p : Int} {m : List Nat} {S : List (Int × List Nat × Int)} : p ∣ cf m (X4 (xx p S)) - cf m S := by
  rw [que (kj _)]; exact qnl
end Go.Proofs.Ytkgoadglalpbfaa
