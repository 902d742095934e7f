/- Plain laws of diagrams: products, as one middle point after the other is left out. -/
import Derived.Test.YtkgoadglalpbfaaH2
namespace Go.Proofs.Ytkgoadglalpbfaa
open Go.Am Go.Dia
open Nat renaming reduceAdd → nA, reduceMul → nM, reduceSub → nS, reduceEqDiff → nE, reduceLT → nL, reduceLeDiff → nD, reduceBEq → nB
open Int renaming reduceEq → iE, reduceNe → iN, reduceBEq → iB, reduceBNe → iC, reduceLT → iL, reduceLE → iD, reduceAdd → iA, reduceSub → iS, reduceMul → iM
set_option linter.unusedSimpArgs false
set_option linter.unusedVariables false
set_option maxRecDepth 4000
set_option maxHeartbeats 1000000
def FF (n : Nat) (d e : List Nat) (k : Nat) : Nat := if k < 2 * n then mf n d k else 2 * n + mf n e (k - 2 * n)
theorem qwb {n : Nat} {d e : List Nat} (hd : NC (2 * n) (mf n d)) (he : NC (2 * n) (mf n e)) : NC (4 * n) (FF n d e) := by
  have hL : ∀ k, k < 2 * n → FF n d e k = mf n d k := fun k hk => if_pos hk
  have hR : ∀ k, ¬ k < 2 * n → FF n d e k = 2 * n + mf n e (k - 2 * n) := fun k hk => if_neg hk
  refine ⟨fun k hk => ?_, fun k hk => ?_, fun k hk => ?_, fun a b ha hb => ?_⟩
  · by_cases h : k < 2 * n
    · rw [hL k h]; have := hd.lt k h; omega
    · rw [hR k h]; have := he.lt (k - 2 * n) (by omega); omega
  · by_cases h : k < 2 * n
    · rw [hL k h, hL _ (hd.lt k h), hd.inv k h]
    · have h1 := he.lt (k - 2 * n) (by omega)
      rw [hR k h, hR _ (by omega), show 2 * n + mf n e (k - 2 * n) - 2 * n = mf n e (k - 2 * n) by omega, he.inv _ (by omega)]; omega
  · by_cases h : k < 2 * n
    · rw [hL k h]; exact hd.fix k h
    · have h1 := he.fix (k - 2 * n) (by omega)
      rw [hR k h]; omega
  · by_cases h : a < 2 * n
    · have h1 := hd.lt a h
      rw [hL a h]
      by_cases h' : b < 2 * n
      · rw [hL b h']; exact hd.j5 a b h h'
      · omega
    · by_cases h' : b < 2 * n
      · omega
      · have := he.j5 (a - 2 * n) (b - 2 * n) (by omega) (by omega)
        rw [hR a h, hR b h']; omega
def GG (n : Nat) (F : Nat → Nat) : Nat → Nat → Nat
  | 0, k => F k
  | t + 1, k => dn (2 * n - 1 - t) (if GG n F t (up (2 * n - 1 - t) k) = 2 * n - 1 - t then GG n F t (2 * n - 1 - t + 1) else if GG n F t (up (2 * n - 1 - t) k) = 2 * n - 1 - t + 1 then GG n F t (2 * n - 1 - t) else GG n F t (up (2 * n - 1 - t) k))
theorem qs5 {n : Nat} {F : Nat → Nat} (h : NC (4 * n) F) : ∀ t, t ≤ n → NC (4 * n - 2 * t) (GG n F t)
  | 0, _ => h
  | t + 1, ht => by
    have ih := qs5 h t (by omega)
    rw [show 4 * n - 2 * t = 4 * n - 2 * (t + 1) + 2 by omega] at ih
    exact ih.remove (j := 2 * n - 1 - t) (by omega) fun k hk => rfl
def Q0 (n t z : Nat) : Prop := 2 * n - t ≤ z ∧ z < 2 * n + t
inductive Path (n : Nat) (F : Nat → Nat) (t : Nat) : Nat → Nat → Prop
  | done {x y : Nat} : F x = y → ¬ Q0 n t y → Path n F t x y
  | go {x y : Nat} : Q0 n t (F x) → Path n F t (4 * n - 1 - F x) y → Path n F t x y
theorem Path.mono {n t x y : Nat} {F : Nat → Nat} (h : Path n F t x y) (hy : ¬ Q0 n (t + 1) y) : Path n F (t + 1) x y := by
  induction h with
  | done h1 h2 => exact .done h1 hy
  | go h1 _ ih => exact .go (by unfold Q0 at h1 ⊢; omega) (ih hy)
theorem Path.cat {n t x y w : Nat} {F : Nat → Nat} (h : Path n F t x w) (hw : Q0 n (t + 1) w) (h2 : Path n F t (4 * n - 1 - w) y) (hy : ¬ Q0 n (t + 1) y) : Path n F (t + 1) x y := by
  induction h with
  | done h1 _ => subst h1; exact .go hw (h2.mono hy)
  | go h1 _ ih => exact .go (by unfold Q0 at h1 ⊢; omega) (ih hw h2)
def oo (n t k : Nat) : Nat := if k < 2 * n - t then k else k + 2 * t
theorem qnb {n : Nat} {F : Nat → Nat} (h : NC (4 * n) F) : ∀ t, t ≤ n → ∀ k, k < 4 * n - 2 * t → Path n F t (oo n t k) (oo n t (GG n F t k))
  | 0, _, k, hk => by
    have e : ∀ k, oo n 0 k = k := fun k => by unfold oo; split <;> omega
    rw [e, e]
    exact .done rfl (by unfold Q0; omega)
  | t + 1, ht, k, hk => by
    have ih := qnb h t (by omega)
    have hnc := qs5 h t (by omega)
    have hj : ∃ j, j = 2 * n - 1 - t := ⟨_, rfl⟩
    obtain ⟨j, hj⟩ := hj
    have g1 : ∀ k, oo n (t + 1) k = oo n t (up j k) := fun k => by
      unfold oo up
      by_cases h1 : k < j
      · rw [if_pos h1, if_pos (by omega), if_pos (by omega)]
      · rw [if_neg h1, if_neg (by omega), if_neg (by omega)]; omega
    have g2 : ∀ y, y ≠ j → y ≠ j + 1 → oo n (t + 1) (dn j y) = oo n t y := fun y h1 h2 => by rw [g1, qnw h1 h2]
    have g3 : oo n t j = j := by unfold oo; rw [if_pos (by omega)]
    have g4 : oo n t (j + 1) = 4 * n - 1 - j := by unfold oo; rw [if_neg (by omega)]; omega
    have gl : ∀ y, y ≠ j → y ≠ j + 1 → ¬ Q0 n (t + 1) (oo n t y) := fun y h1 h2 => by
      unfold oo Q0
      by_cases h3 : y < 2 * n - t
      · rw [if_pos h3]; omega
      · rw [if_neg h3]; omega
    have hu := @qf7 j k
    have hx : up j k < 4 * n - 2 * t := by
      have := (qkv (j := j) (k := k) (L := 4 * n - 2 * (t + 1)) (by omega)).2 hk
      omega
    have hp := ih _ hx
    have a := hnc.lt _ hx
    have c := hnc.inv _ hx
    have f := hnc.fix _ hx
    have a0 := hnc.lt j (by omega)
    have c0 := hnc.inv j (by omega)
    have f0 := hnc.fix j (by omega)
    have a1 := hnc.lt (j + 1) (by omega)
    have c1 := hnc.inv (j + 1) (by omega)
    have f1 := hnc.fix (j + 1) (by omega)
    have p0 := ih j (by omega)
    have p1 := ih (j + 1) (by omega)
    rw [g3] at p0
    rw [g4] at p1
    have gj : Q0 n (t + 1) j := by unfold Q0; omega
    have gj1 : Q0 n (t + 1) (4 * n - 1 - j) := by unfold Q0; omega
    rw [g1 k]
    simp only [GG, ← hj]
    generalize hX : up j k = x at *
    by_cases e1 : GG n F t x = j
    · rw [if_pos e1]
      rw [e1] at hp c
      have n1 : GG n F t (j + 1) ≠ j := fun e => by rw [e] at c1; omega
      rw [g2 _ n1 f1]
      rw [g3] at hp
      exact hp.cat gj p1 (gl _ n1 f1)
    · rw [if_neg e1]
      by_cases e2 : GG n F t x = j + 1
      · rw [if_pos e2]
        rw [e2] at hp c
        have n1 : GG n F t j ≠ j + 1 := fun e => by rw [e] at c0; omega
        rw [g2 _ f0 n1]
        rw [g4] at hp
        refine hp.cat gj1 ?_ (gl _ f0 n1)
        rw [show 4 * n - 1 - (4 * n - 1 - j) = j by omega]
        exact p0
      · rw [if_neg e2, g2 _ e1 e2]
        exact hp.mono (gl _ e1 e2)
def pr (n : Nat) (d e : List Nat) (i : Nat) : Nat := place n (GG n (FF n d e) n (place n i))
theorem qlz {n : Nat} {d e : List Nat} (hd : isS n d = true) (he : isS n e = true) : NC (2 * n) (GG n (FF n d e) n) := by
  have := qs5 (qwb (qgz hd) (qgz he)) n (Nat.le_refl _)
  rwa [show 4 * n - 2 * n = 2 * n by omega] at this
def zz (n : Nat) (d e : List Nat) : Nat → Bool → Nat → List Bool → Option (Nat × Bool × List Bool)
  | 0, _, _, _ => none
  | f + 1, true, i, met => if d.getD i 0 < n then some (d.getD i 0, true, met) else zz n d e f false (d.getD i 0 - n) (met.set (d.getD i 0 - n) true)
  | f + 1, false, i, met => if n ≤ e.getD i 0 then some (e.getD i 0, false, met) else zz n d e f true (n + e.getD i 0) (met.set (e.getD i 0) true)
def at2 (n : Nat) (u : Bool) (i : Nat) : Nat := if u then place n i else 2 * n + place n i
def qk6 (n y : Nat) : Nat := if y < 2 * n then y else place n (y - 2 * n)
theorem qi2 {n : Nat} {d e : List Nat} (hd : isS n d = true) (he : isS n e = true) {x y : Nat} (h : Path n (FF n d e) n x y) : ∀ (u : Bool) (i : Nat) (met : List Bool), i < 2 * n → x = at2 n u i →
    ∃ f met', zz n d e f u i met = some (qk6 n y, decide (y < 2 * n), met') := by
  obtain ⟨hn, hpd, _⟩ := ji hd
  obtain ⟨_, hpe, _⟩ := ji he
  have F1 : ∀ i, i < 2 * n → FF n d e (at2 n true i) = place n (d.getD i 0) := fun i hi => by
    show FF n d e (place n i) = _
    unfold FF
    rw [if_pos (zp hi)]
    unfold mf
    rw [zq hi]
  have F2 : ∀ i, i < 2 * n → FF n d e (at2 n false i) = 2 * n + place n (e.getD i 0) := fun i hi => by
    show FF n d e (2 * n + place n i) = _
    unfold FF
    rw [if_neg (by omega), show 2 * n + place n i - 2 * n = place n i by omega]
    unfold mf
    rw [zq hi]
  induction h with
  | @done x y h1 h2 =>
    intro u i met hi hx
    subst hx
    cases u with
    | true =>
      rw [F1 i hi] at h1
      have hl := (hpd i hi).1
      have hlt : d.getD i 0 < n := by
        unfold place at h1; unfold Q0 at h2
        split at h1
        · assumption
        · omega
      have hy : y = d.getD i 0 := by rw [← h1]; unfold place; rw [if_pos hlt]
      refine ⟨1, met, ?_⟩
      simp only [zz, if_pos hlt]
      rw [hy]
      unfold qk6
      rw [if_pos (by omega), decide_eq_true (by omega)]
    | false =>
      rw [F2 i hi] at h1
      have hl := (hpe i hi).1
      have hlt : n ≤ e.getD i 0 := by
        unfold place at h1; unfold Q0 at h2
        split at h1
        · omega
        · omega
      refine ⟨1, met, ?_⟩
      simp only [zz, if_pos hlt]
      rw [← h1]
      unfold qk6
      rw [if_neg (by omega), show 2 * n + place n (e.getD i 0) - 2 * n = place n (e.getD i 0) by omega, zq hl, decide_eq_false (by omega)]
  | @go x y h1 h2 ih =>
    intro u i met hi hx
    subst hx
    cases u with
    | true =>
      rw [F1 i hi] at h1 ih
      have hl := (hpd i hi).1
      have hge : ¬ d.getD i 0 < n := fun hlt => by
        unfold place Q0 at h1; rw [if_pos hlt] at h1; omega
      obtain ⟨f, met', hf⟩ := ih false (d.getD i 0 - n) (met.set (d.getD i 0 - n) true) (by omega) (by
        show 4 * n - 1 - place n (d.getD i 0) = 2 * n + place n (d.getD i 0 - n)
        unfold place
        rw [if_neg hge, if_pos (by omega)]
        omega)
      exact ⟨f + 1, met', by simp only [zz, if_neg hge]; exact hf⟩
    | false =>
      rw [F2 i hi] at h1 ih
      have hl := (hpe i hi).1
      have hlt : ¬ n ≤ e.getD i 0 := fun hge => by
        unfold place Q0 at h1; rw [if_neg (by omega)] at h1; omega
      obtain ⟨f, met', hf⟩ := ih true (n + e.getD i 0) (met.set (e.getD i 0) true) (by omega) (by
        show 4 * n - 1 - (2 * n + place n (e.getD i 0)) = place n (n + e.getD i 0)
        unfold place
        rw [if_pos (by omega), if_neg (by omega)]
        omega)
      exact ⟨f + 1, met', by simp only [zz, if_neg hlt]; exact hf⟩
theorem Vf {n : Nat} {d e : List Nat} (hd : isS n d = true) (he : isS n e = true) {i : Nat} (hi : i < 2 * n) (met : List Bool) : ∃ f met', zz n d e f (decide (i < n)) i met = some (pr n d e i, decide (pr n d e i < n), met') := by
  have hp := qnb (qwb (qgz hd) (qgz he)) n (Nat.le_refl _) (place n i) (by have := zp hi; omega)
  have hg := (qlz hd he).lt _ (zp hi)
  have e1 : oo n n (place n i) = at2 n (decide (i < n)) i := by
    unfold oo at2 place
    by_cases h : i < n
    · rw [if_pos h, if_pos (by omega)]; simp [h]
    · rw [if_neg h, if_neg (by omega)]; simp only [h, decide_false, Bool.false_eq_true, if_false]; omega
  rw [e1] at hp
  obtain ⟨f, met', hf⟩ := qi2 hd he hp _ i met hi rfl
  refine ⟨f, met', ?_⟩
  rw [hf]
  have e2 : qk6 n (oo n n (GG n (FF n d e) n (place n i))) = pr n d e i := by
    unfold pr qk6
    generalize GG n (FF n d e) n (place n i) = k at *
    by_cases h : k < n
    · have e3 : oo n n k = k := if_pos (by omega)
      rw [e3, if_pos (by omega)]; unfold place; rw [if_pos h]
    · have e3 : oo n n k = k + 2 * n := if_neg (by omega)
      rw [e3, if_neg (by omega), show k + 2 * n - 2 * n = k by omega]
  rw [e2]
  congr 3
  unfold pr
  generalize GG n (FF n d e) n (place n i) = k at *
  by_cases h : k < n
  · have e3 : oo n n k = k := if_pos (by omega)
    have e4 : place n k = k := if_pos h
    rw [e3, e4, decide_eq_true h, decide_eq_true (by omega)]
  · have e3 : oo n n k = k + 2 * n := if_neg (by omega)
    have e4 : place n k = 3 * n - 1 - k := if_neg h
    rw [e3, e4, decide_eq_false (by omega), decide_eq_false (by omega)]
def V2 (n : Nat) (d e : List Nat) : Nat → List Nat
  | 0 => List.replicate 16 0
  | k + 1 => ((V2 n d e k).set k (pr n d e k)).set (n + k) (pr n d e (n + k))
def j2 (n : Nat) (d e : List Nat) : List Nat := V2 n d e n
theorem yn (n : Nat) (d e : List Nat) : ∀ k, (V2 n d e k).length = 16
  | 0 => by simp [V2]
  | k + 1 => by simp [V2, yn n d e k]
theorem U0 {n : Nat} {d e : List Nat} (hn : n ≤ 8) : ∀ k, k ≤ n → ∀ i, i < 16 → (V2 n d e k).getD i 0 = if i < k ∨ (n ≤ i ∧ i < n + k) then pr n d e i else 0
  | 0, _, i, hi => by
    rw [if_neg (by omega)]
    simp only [V2, List.getD_eq_getElem?_getD, List.getElem?_replicate]
    split <;> simp
  | k + 1, hk, i, hi => by
    simp only [V2]
    rw [kb, kb, List.length_set, yn, U0 hn k (by omega) i hi]
    by_cases h1 : n + k = i
    · rw [if_pos ⟨h1, hi⟩, if_pos (by omega), h1]
    · rw [if_neg (by omega)]
      by_cases h2 : k = i
      · rw [if_pos ⟨h2, hi⟩, if_pos (by omega), h2]
      · rw [if_neg (by omega)]
        by_cases h3 : i < k ∨ (n ≤ i ∧ i < n + k)
        · rw [if_pos h3, if_pos (by omega)]
        · rw [if_neg h3, if_neg (by omega)]
theorem qbs {n : Nat} {d e : List Nat} (hd : isS n d = true) (he : isS n e = true) {i : Nat} (hi : i < 2 * n) : pr n d e i < 2 * n := zp ((qlz hd he).lt _ (zp hi))
theorem qtr {n : Nat} {d e : List Nat} (hd : isS n d = true) (he : isS n e = true) : isS n (j2 n d e) = true ∧ okD (j2 n d e) := by
  obtain ⟨hn, _, _⟩ := ji hd
  have hg : ∀ i, i < 2 * n → (j2 n d e).getD i 0 = pr n d e i := fun i hi => by
    unfold j2
    rw [U0 hn.2 n (Nat.le_refl _) i (by omega), if_pos (by omega)]
  have ht := qlz hd he
  refine ⟨qwp hn (fun i h1 h2 => ?_) (fun i hi => ?_) ?_, yn _ _ _ _, ?_⟩
  · unfold j2
    rw [U0 hn.2 n (Nat.le_refl _) i h2, if_neg (by omega)]
  · rw [hg i hi]; exact qbs hd he hi
  · have e1 : ∀ k, k < 2 * n → mf n (j2 n d e) k = GG n (FF n d e) n k := fun k hk => by
      unfold mf
      rw [hg _ (zp hk)]
      unfold pr
      rw [zq hk, zq (ht.lt k hk)]
    refine ⟨fun k hk => ?_, fun k hk => ?_, fun k hk => ?_, fun a b ha hb => ?_⟩
    · rw [e1 k hk]; exact ht.lt k hk
    · rw [e1 k hk, e1 _ (ht.lt k hk)]; exact ht.inv k hk
    · rw [e1 k hk]; exact ht.fix k hk
    · rw [e1 a ha, e1 b hb]; exact ht.j5 a b ha hb
  · intro x hx
    obtain ⟨i, hi, rfl⟩ := List.getElem_of_mem hx
    have hl : (j2 n d e).length = 16 := yn _ _ _ _
    have h1 : (j2 n d e).getD i 0 = (j2 n d e)[i] := by simp [List.getD_eq_getElem?_getD, hi]
    rw [← h1]
    by_cases h2 : i < 2 * n
    · rw [hg i h2]; have := qbs hd he h2; omega
    · unfold j2
      rw [U0 hn.2 n (Nat.le_refl _) i (by omega), if_neg (by omega)]; omega
end Go.Proofs.Ytkgoadglalpbfaa
