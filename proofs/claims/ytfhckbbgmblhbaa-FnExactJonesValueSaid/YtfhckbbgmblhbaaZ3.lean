/- Contracts of functions of the program, and plain laws, part 3: each text of this part is proved without further condition. -/
import Derived.Test.YtfhckbbgmblhbaaZ2
namespace Go.Proofs.Ytfhckbbgmblhbaa
open Go.Am Go.Dia
open Nat renaming reduceAdd → nA, reduceMul → nM, reduceSub → nS, reduceEqDiff → nE, reduceLT → nL, reduceLeDiff → nD, reduceBEq → nB
open Int renaming reduceEq → iE, reduceNe → iN, reduceBEq → iB, reduceBNe → iC, reduceLT → iL, reduceLE → iD, reduceAdd → iA, reduceSub → iS, reduceMul → iM
set_option linter.unusedSimpArgs false
set_option linter.unusedVariables false
set_option maxRecDepth 4000
set_option maxHeartbeats 1000000
def FF (n : Nat) (d e : List Nat) (k : Nat) : Nat := if k < 2 * n then mf n d k else 2 * n + mf n e (k - 2 * n)
theorem qzn {n : Nat} {d e : List Nat} (hd : NC (2 * n) (mf n d)) (he : NC (2 * n) (mf n e)) : NC (4 * n) (FF n d e) := by
  have hL : ∀ k, k < 2 * n → FF n d e k = mf n d k := fun k hk => if_pos hk
  have hR : ∀ k, ¬ k < 2 * n → FF n d e k = 2 * n + mf n e (k - 2 * n) := fun k hk => if_neg hk
  refine ⟨fun k hk => ?_, fun k hk => ?_, fun k hk => ?_, fun a b ha hb => ?_⟩
  · by_cases h : k < 2 * n
    · rw [hL k h]; have := hd.lt k h; omega
    · rw [hR k h]; have := he.lt (k - 2 * n) (by omega); omega
  · by_cases h : k < 2 * n
    · rw [hL k h, hL _ (hd.lt k h), hd.inv k h]
    · have h1 := he.lt (k - 2 * n) (by omega)
      rw [hR k h, hR _ (by omega), show 2 * n + mf n e (k - 2 * n) - 2 * n = mf n e (k - 2 * n) by omega, he.inv _ (by omega)]; omega
  · by_cases h : k < 2 * n
    · rw [hL k h]; exact hd.fix k h
    · have h1 := he.fix (k - 2 * n) (by omega)
      rw [hR k h]; omega
  · by_cases h : a < 2 * n
    · have h1 := hd.lt a h
      rw [hL a h]
      by_cases h' : b < 2 * n
      · rw [hL b h']; exact hd.wq a b h h'
      · omega
    · by_cases h' : b < 2 * n
      · omega
      · have := he.wq (a - 2 * n) (b - 2 * n) (by omega) (by omega)
        rw [hR a h, hR b h']; omega
def GG (n : Nat) (F : Nat → Nat) : Nat → Nat → Nat
  | 0, k => F k
  | t + 1, k => dn (2 * n - 1 - t) (if GG n F t (up (2 * n - 1 - t) k) = 2 * n - 1 - t then GG n F t (2 * n - 1 - t + 1) else if GG n F t (up (2 * n - 1 - t) k) = 2 * n - 1 - t + 1 then GG n F t (2 * n - 1 - t) else GG n F t (up (2 * n - 1 - t) k))
theorem qwj {n : Nat} {F : Nat → Nat} (h : NC (4 * n) F) : ∀ t, t ≤ n → NC (4 * n - 2 * t) (GG n F t)
  | 0, _ => h
  | t + 1, ht => by
    have ih := qwj h t (by omega)
    rw [show 4 * n - 2 * t = 4 * n - 2 * (t + 1) + 2 by omega] at ih
    exact ih.remove (j := 2 * n - 1 - t) (by omega) fun k hk => rfl
def Z1 (n t z : Nat) : Prop := 2 * n - t ≤ z ∧ z < 2 * n + t
inductive Path (n : Nat) (F : Nat → Nat) (t : Nat) : Nat → Nat → Prop
  | done {x y : Nat} : F x = y → ¬ Z1 n t y → Path n F t x y
  | go {x y : Nat} : Z1 n t (F x) → Path n F t (4 * n - 1 - F x) y → Path n F t x y
theorem Path.mono {n t x y : Nat} {F : Nat → Nat} (h : Path n F t x y) (hy : ¬ Z1 n (t + 1) y) : Path n F (t + 1) x y := by
  induction h with
  | done h1 h2 => exact .done h1 hy
  | go h1 _ ih => exact .go (by unfold Z1 at h1 ⊢; omega) (ih hy)
theorem Path.cat {n t x y w : Nat} {F : Nat → Nat} (h : Path n F t x w) (hw : Z1 n (t + 1) w) (h2 : Path n F t (4 * n - 1 - w) y) (hy : ¬ Z1 n (t + 1) y) : Path n F (t + 1) x y := by
  induction h with
  | done h1 _ => subst h1; exact .go hw (h2.mono hy)
  | go h1 _ ih => exact .go (by unfold Z1 at h1 ⊢; omega) (ih hw h2)
def oo (n t k : Nat) : Nat := if k < 2 * n - t then k else k + 2 * t
theorem qq5 {n : Nat} {F : Nat → Nat} (h : NC (4 * n) F) : ∀ t, t ≤ n → ∀ k, k < 4 * n - 2 * t → Path n F t (oo n t k) (oo n t (GG n F t k))
  | 0, _, k, hk => by
    have e : ∀ k, oo n 0 k = k := fun k => by unfold oo; split <;> omega
    rw [e, e]
    exact .done rfl (by unfold Z1; omega)
  | t + 1, ht, k, hk => by
    have ih := qq5 h t (by omega)
    have hnc := qwj h t (by omega)
    have hj : ∃ j, j = 2 * n - 1 - t := ⟨_, rfl⟩
    obtain ⟨j, hj⟩ := hj
    have g1 : ∀ k, oo n (t + 1) k = oo n t (up j k) := fun k => by
      unfold oo up
      by_cases h1 : k < j
      · rw [if_pos h1, if_pos (by omega), if_pos (by omega)]
      · rw [if_neg h1, if_neg (by omega), if_neg (by omega)]; omega
    have g2 : ∀ y, y ≠ j → y ≠ j + 1 → oo n (t + 1) (dn j y) = oo n t y := fun y h1 h2 => by rw [g1, qrb h1 h2]
    have g3 : oo n t j = j := by unfold oo; rw [if_pos (by omega)]
    have g4 : oo n t (j + 1) = 4 * n - 1 - j := by unfold oo; rw [if_neg (by omega)]; omega
    have gl : ∀ y, y ≠ j → y ≠ j + 1 → ¬ Z1 n (t + 1) (oo n t y) := fun y h1 h2 => by
      unfold oo Z1
      by_cases h3 : y < 2 * n - t
      · rw [if_pos h3]; omega
      · rw [if_neg h3]; omega
    have hu := @qhw j k
    have hx : up j k < 4 * n - 2 * t := by
      have := (qn2 (j := j) (k := k) (L := 4 * n - 2 * (t + 1)) (by omega)).2 hk
      omega
    have hp := ih _ hx
    have a := hnc.lt _ hx
    have c := hnc.inv _ hx
    have f := hnc.fix _ hx
    have a0 := hnc.lt j (by omega)
    have c0 := hnc.inv j (by omega)
    have f0 := hnc.fix j (by omega)
    have a1 := hnc.lt (j + 1) (by omega)
    have c1 := hnc.inv (j + 1) (by omega)
    have f1 := hnc.fix (j + 1) (by omega)
    have p0 := ih j (by omega)
    have p1 := ih (j + 1) (by omega)
    rw [g3] at p0
    rw [g4] at p1
    have gj : Z1 n (t + 1) j := by unfold Z1; omega
    have gj1 : Z1 n (t + 1) (4 * n - 1 - j) := by unfold Z1; omega
    rw [g1 k]
    simp only [GG, ← hj]
    generalize hX : up j k = x at *
    by_cases e1 : GG n F t x = j
    · rw [if_pos e1]
      rw [e1] at hp c
      have n1 : GG n F t (j + 1) ≠ j := fun e => by rw [e] at c1; omega
      rw [g2 _ n1 f1]
      rw [g3] at hp
      exact hp.cat gj p1 (gl _ n1 f1)
    · rw [if_neg e1]
      by_cases e2 : GG n F t x = j + 1
      · rw [if_pos e2]
        rw [e2] at hp c
        have n1 : GG n F t j ≠ j + 1 := fun e => by rw [e] at c0; omega
        rw [g2 _ f0 n1]
        rw [g4] at hp
        refine hp.cat gj1 ?_ (gl _ f0 n1)
        rw [show 4 * n - 1 - (4 * n - 1 - j) = j by omega]
        exact p0
      · rw [if_neg e2, g2 _ e1 e2]
        exact hp.mono (gl _ e1 e2)
def pr (n : Nat) (d e : List Nat) (i : Nat) : Nat := place n (GG n (FF n d e) n (place n i))
theorem qp9 {n : Nat} {d e : List Nat} (hd : isS n d = true) (he : isS n e = true) : NC (2 * n) (GG n (FF n d e) n) := by
  have := qwj (qzn (qks hd) (qks he)) n (Nat.le_refl _)
  rwa [show 4 * n - 2 * n = 2 * n by omega] at this
def zm (n : Nat) (d e : List Nat) : Nat → Bool → Nat → List Bool → Option (Nat × Bool × List Bool)
  | 0, _, _, _ => none
  | f + 1, true, i, met => if d.getD i 0 < n then some (d.getD i 0, true, met) else zm n d e f false (d.getD i 0 - n) (met.set (d.getD i 0 - n) true)
  | f + 1, false, i, met => if n ≤ e.getD i 0 then some (e.getD i 0, false, met) else zm n d e f true (n + e.getD i 0) (met.set (e.getD i 0) true)
def at2 (n : Nat) (u : Bool) (i : Nat) : Nat := if u then place n i else 2 * n + place n i
def qmv (n y : Nat) : Nat := if y < 2 * n then y else place n (y - 2 * n)
theorem qnr {n : Nat} {d e : List Nat} (hd : isS n d = true) (he : isS n e = true) {x y : Nat} (h : Path n (FF n d e) n x y) : ∀ (u : Bool) (i : Nat) (met : List Bool), i < 2 * n → x = at2 n u i →
    ∃ f met', zm n d e f u i met = some (qmv n y, decide (y < 2 * n), met') := by
  obtain ⟨hn, hpd, _⟩ := z6 hd
  obtain ⟨_, hpe, _⟩ := z6 he
  have F1 : ∀ i, i < 2 * n → FF n d e (at2 n true i) = place n (d.getD i 0) := fun i hi => by
    show FF n d e (place n i) = _
    unfold FF
    rw [if_pos (ze hi)]
    unfold mf
    rw [zd hi]
  have F2 : ∀ i, i < 2 * n → FF n d e (at2 n false i) = 2 * n + place n (e.getD i 0) := fun i hi => by
    show FF n d e (2 * n + place n i) = _
    unfold FF
    rw [if_neg (by omega), show 2 * n + place n i - 2 * n = place n i by omega]
    unfold mf
    rw [zd hi]
  induction h with
  | @done x y h1 h2 =>
    intro u i met hi hx
    subst hx
    cases u with
    | true =>
      rw [F1 i hi] at h1
      have hl := (hpd i hi).1
      have hlt : d.getD i 0 < n := by
        unfold place at h1; unfold Z1 at h2
        split at h1
        · assumption
        · omega
      have hy : y = d.getD i 0 := by rw [← h1]; unfold place; rw [if_pos hlt]
      refine ⟨1, met, ?_⟩
      simp only [zm, if_pos hlt]
      rw [hy]
      unfold qmv
      rw [if_pos (by omega), decide_eq_true (by omega)]
    | false =>
      rw [F2 i hi] at h1
      have hl := (hpe i hi).1
      have hlt : n ≤ e.getD i 0 := by
        unfold place at h1; unfold Z1 at h2
        split at h1
        · omega
        · omega
      refine ⟨1, met, ?_⟩
      simp only [zm, if_pos hlt]
      rw [← h1]
      unfold qmv
      rw [if_neg (by omega), show 2 * n + place n (e.getD i 0) - 2 * n = place n (e.getD i 0) by omega, zd hl, decide_eq_false (by omega)]
  | @go x y h1 h2 ih =>
    intro u i met hi hx
    subst hx
    cases u with
    | true =>
      rw [F1 i hi] at h1 ih
      have hl := (hpd i hi).1
      have hge : ¬ d.getD i 0 < n := fun hlt => by
        unfold place Z1 at h1; rw [if_pos hlt] at h1; omega
      obtain ⟨f, met', hf⟩ := ih false (d.getD i 0 - n) (met.set (d.getD i 0 - n) true) (by omega) (by
        show 4 * n - 1 - place n (d.getD i 0) = 2 * n + place n (d.getD i 0 - n)
        unfold place
        rw [if_neg hge, if_pos (by omega)]
        omega)
      exact ⟨f + 1, met', by simp only [zm, if_neg hge]; exact hf⟩
    | false =>
      rw [F2 i hi] at h1 ih
      have hl := (hpe i hi).1
      have hlt : ¬ n ≤ e.getD i 0 := fun hge => by
        unfold place Z1 at h1; rw [if_neg (by omega)] at h1; omega
      obtain ⟨f, met', hf⟩ := ih true (n + e.getD i 0) (met.set (e.getD i 0) true) (by omega) (by
        show 4 * n - 1 - (2 * n + place n (e.getD i 0)) = place n (n + e.getD i 0)
        unfold place
        rw [if_pos (by omega), if_neg (by omega)]
        omega)
      exact ⟨f + 1, met', by simp only [zm, if_neg hlt]; exact hf⟩
theorem W2 {n : Nat} {d e : List Nat} (hd : isS n d = true) (he : isS n e = true) {i : Nat} (hi : i < 2 * n) (met : List Bool) : ∃ f met', zm n d e f (decide (i < n)) i met = some (pr n d e i, decide (pr n d e i < n), met') := by
  have hp := qq5 (qzn (qks hd) (qks he)) n (Nat.le_refl _) (place n i) (by have := ze hi; omega)
  have hg := (qp9 hd he).lt _ (ze hi)
  have e1 : oo n n (place n i) = at2 n (decide (i < n)) i := by
    unfold oo at2 place
    by_cases h : i < n
    · rw [if_pos h, if_pos (by omega)]; simp [h]
    · rw [if_neg h, if_neg (by omega)]; simp only [h, decide_false, Bool.false_eq_true, if_false]; omega
  rw [e1] at hp
  obtain ⟨f, met', hf⟩ := qnr hd he hp _ i met hi rfl
  refine ⟨f, met', ?_⟩
  rw [hf]
  have e2 : qmv n (oo n n (GG n (FF n d e) n (place n i))) = pr n d e i := by
    unfold pr qmv
    generalize GG n (FF n d e) n (place n i) = k at *
    by_cases h : k < n
    · have e3 : oo n n k = k := if_pos (by omega)
      rw [e3, if_pos (by omega)]; unfold place; rw [if_pos h]
    · have e3 : oo n n k = k + 2 * n := if_neg (by omega)
      rw [e3, if_neg (by omega), show k + 2 * n - 2 * n = k by omega]
  rw [e2]
  congr 3
  unfold pr
  generalize GG n (FF n d e) n (place n i) = k at *
  by_cases h : k < n
  · have e3 : oo n n k = k := if_pos (by omega)
    have e4 : place n k = k := if_pos h
    rw [e3, e4, decide_eq_true h, decide_eq_true (by omega)]
  · have e3 : oo n n k = k + 2 * n := if_neg (by omega)
    have e4 : place n k = 3 * n - 1 - k := if_neg h
    rw [e3, e4, decide_eq_false (by omega), decide_eq_false (by omega)]
def Ya (n : Nat) (d e : List Nat) : Nat → List Nat
  | 0 => List.replicate 16 0
  | k + 1 => ((Ya n d e k).set k (pr n d e k)).set (n + k) (pr n d e (n + k))
def ju (n : Nat) (d e : List Nat) : List Nat := Ya n d e n
theorem ye (n : Nat) (d e : List Nat) : ∀ k, (Ya n d e k).length = 16
  | 0 => by simp [Ya]
  | k + 1 => by simp [Ya, ye n d e k]
theorem Gz {n : Nat} {d e : List Nat} (hn : n ≤ 8) : ∀ k, k ≤ n → ∀ i, i < 16 → (Ya n d e k).getD i 0 = if i < k ∨ (n ≤ i ∧ i < n + k) then pr n d e i else 0
  | 0, _, i, hi => by
    rw [if_neg (by omega)]
    simp only [Ya, List.getD_eq_getElem?_getD, List.getElem?_replicate]
    split <;> simp
  | k + 1, hk, i, hi => by
    simp only [Ya]
    rw [Q7, Q7, List.length_set, ye, Gz hn k (by omega) i hi]
    by_cases h1 : n + k = i
    · rw [if_pos ⟨h1, hi⟩, if_pos (by omega), h1]
    · rw [if_neg (by omega)]
      by_cases h2 : k = i
      · rw [if_pos ⟨h2, hi⟩, if_pos (by omega), h2]
      · rw [if_neg (by omega)]
        by_cases h3 : i < k ∨ (n ≤ i ∧ i < n + k)
        · rw [if_pos h3, if_pos (by omega)]
        · rw [if_neg h3, if_neg (by omega)]
theorem qdu {n : Nat} {d e : List Nat} (hd : isS n d = true) (he : isS n e = true) {i : Nat} (hi : i < 2 * n) : pr n d e i < 2 * n := ze ((qp9 hd he).lt _ (ze hi))
theorem qt7 {n : Nat} {d e : List Nat} (hd : isS n d = true) (he : isS n e = true) : isS n (ju n d e) = true ∧ okD (ju n d e) := by
  obtain ⟨hn, _, _⟩ := z6 hd
  have hg : ∀ i, i < 2 * n → (ju n d e).getD i 0 = pr n d e i := fun i hi => by
    unfold ju
    rw [Gz hn.2 n (Nat.le_refl _) i (by omega), if_pos (by omega)]
  have ht := qp9 hd he
  refine ⟨qzw hn (fun i h1 h2 => ?_) (fun i hi => ?_) ?_, ye _ _ _ _, ?_⟩
  · unfold ju
    rw [Gz hn.2 n (Nat.le_refl _) i h2, if_neg (by omega)]
  · rw [hg i hi]; exact qdu hd he hi
  · have e1 : ∀ k, k < 2 * n → mf n (ju n d e) k = GG n (FF n d e) n k := fun k hk => by
      unfold mf
      rw [hg _ (ze hk)]
      unfold pr
      rw [zd hk, zd (ht.lt k hk)]
    refine ⟨fun k hk => ?_, fun k hk => ?_, fun k hk => ?_, fun a b ha hb => ?_⟩
    · rw [e1 k hk]; exact ht.lt k hk
    · rw [e1 k hk, e1 _ (ht.lt k hk)]; exact ht.inv k hk
    · rw [e1 k hk]; exact ht.fix k hk
    · rw [e1 a ha, e1 b hb]; exact ht.wq a b ha hb
  · intro x hx
    obtain ⟨i, hi, rfl⟩ := List.getElem_of_mem hx
    have hl : (ju n d e).length = 16 := ye _ _ _ _
    have h1 : (ju n d e).getD i 0 = (ju n d e)[i] := by simp [List.getD_eq_getElem?_getD, hi]
    rw [← h1]
    by_cases h2 : i < 2 * n
    · rw [hg i h2]; have := qdu hd he h2; omega
    · unfold ju
      rw [Gz hn.2 n (Nat.le_refl _) i (by omega), if_neg (by omega)]; omega
def mt (met : List Bool) (x : Nat) : Prop := met.getD x false = true
theorem bm {met : List Bool} {i x : Nat} (hi : i < met.length) : mt (met.set i true) x ↔ x = i ∨ mt met x := by
  unfold mt
  simp only [List.getD_eq_getElem?_getD, List.getElem?_set]
  by_cases h : i = x
  · subst h; simp [hi]
  · rw [if_neg h]
    exact ⟨.inr, fun h2 => h2.elim (fun e => absurd e.symm h) id⟩
theorem qqh {x k : Nat} : ¬ mt (List.replicate k false) x := by
  unfold mt
  simp only [List.getD_eq_getElem?_getD, List.getElem?_replicate]
  split <;> simp
theorem Y4 {n : Nat} {d e : List Nat} {r : Nat × Bool × List Bool} : ∀ {f : Nat} {u : Bool} {i : Nat} {met : List Bool}, zm n d e f u i met = some r → zm n d e (f + 1) u i met = some r
  | 0, _, _, _, h => by simp [zm] at h
  | f + 1, true, i, met, h => by
    rw [zm] at h ⊢
    split
    · rename_i h1; rw [if_pos h1] at h; exact h
    · rename_i h1; rw [if_neg h1] at h; exact Y4 h
  | f + 1, false, i, met, h => by
    rw [zm] at h ⊢
    split
    · rename_i h1; rw [if_pos h1] at h; exact h
    · rename_i h1; rw [if_neg h1] at h; exact Y4 h
theorem Y3 {n : Nat} {d e : List Nat} {r : Nat × Bool × List Bool} {f : Nat} {u : Bool} {i : Nat} {met : List Bool} (h : zm n d e f u i met = some r) : ∀ k, zm n d e (f + k) u i met = some r
  | 0 => h
  | k + 1 => Y4 (Y3 h k)
theorem qi6 {n : Nat} {d e : List Nat} {r r' : Nat × Bool × List Bool} {f f' : Nat} {u : Bool} {i : Nat} {met : List Bool} (h : zm n d e f u i met = some r) (h' : zm n d e f' u i met = some r') : r = r' := by
  have h1 := Y3 h f'
  have h2 := Y3 h' f
  rw [Nat.add_comm f' f, h1] at h2
  exact Option.some.inj h2
def CLs (n : Nat) (d e : List Nat) (M : Nat → Prop) : Prop := ∀ x, x < n → M x → (n ≤ d.getD (n + x) 0 → M (d.getD (n + x) 0 - n)) ∧ (e.getD x 0 < n → M (e.getD x 0))
theorem Jt {n : Nat} {d e : List Nat} (hd : isS n d = true) (he : isS n e = true) {r : Nat} {s : Bool} {met' : List Bool} : ∀ {f : Nat} {u : Bool} {i : Nat} {met : List Bool}, zm n d e f u i met = some (r, s, met') → i < 2 * n → met.length = 8 →
    (u = true → n ≤ i → mt met (i - n)) → (u = false → i < n → mt met i) →
    met'.length = 8 ∧ (∀ x, mt met x → mt met' x) ∧ (∀ x, mt met' x → x < n ∨ mt met x) ∧ (∀ x, x < n → mt met' x → mt met x ∨ ((n ≤ d.getD (n + x) 0 → mt met' (d.getD (n + x) 0 - n)) ∧ (e.getD x 0 < n → mt met' (e.getD x 0)))) ∧
      (u = true → n ≤ d.getD i 0 → mt met' (d.getD i 0 - n)) ∧ (u = false → e.getD i 0 < n → mt met' (e.getD i 0))
  | 0, _, _, _, h, _, _, _, _ => by simp [zm] at h
  | f + 1, true, i, met, h, hi, hl, p1, p2 => by
    obtain ⟨hn, hpd, _⟩ := z6 hd
    rw [zm] at h
    split at h
    · rename_i hlt
      cases h
      exact ⟨hl, fun x h => h, fun x h => .inr h, fun x _ h => .inl h, fun _ h => absurd hlt (by omega), fun h => by cases h⟩
    · rename_i hlt
      have hs := (hpd i hi).1
      have hinv := (hpd i hi).2.2
      have hsl : d.getD i 0 - n < met.length := by omega
      obtain ⟨a1, a2, a3, a4, _, a6⟩ := Jt hd he h (by omega) (by rw [List.length_set]; exact hl) (fun h => by cases h) (fun _ _ => (bm hsl).2 (.inl rfl))
      have hself : mt met' (d.getD i 0 - n) := a2 _ ((bm hsl).2 (.inl rfl))
      refine ⟨a1, fun x hx => a2 x ((bm hsl).2 (.inr hx)), fun x hx => ?_, fun x hx hm => ?_, fun _ _ => hself, fun h => by cases h⟩
      · rcases a3 x hx with h1 | h1
        · exact .inl h1
        · rcases (bm hsl).1 h1 with rfl | h1
          · exact .inl (by omega)
          · exact .inr h1
      · rcases a4 x hx hm with h1 | h1
        · rcases (bm hsl).1 h1 with rfl | h1
          · refine .inr ⟨fun h2 => ?_, fun h2 => a6 rfl h2⟩
            rw [show n + (d.getD i 0 - n) = d.getD i 0 by omega, hinv] at h2 ⊢
            exact a2 _ ((bm hsl).2 (.inr (p1 rfl h2)))
          · exact .inl h1
        · exact .inr h1
  | f + 1, false, i, met, h, hi, hl, p1, p2 => by
    obtain ⟨hn, hpe, _⟩ := z6 he
    rw [zm] at h
    split at h
    · rename_i hlt
      cases h
      exact ⟨hl, fun x h => h, fun x h => .inr h, fun x _ h => .inl h, (fun h => by cases h), fun _ h => absurd hlt (by omega)⟩
    · rename_i hlt
      have hs := (hpe i hi).1
      have hinv := (hpe i hi).2.2
      have hsl : e.getD i 0 < met.length := by omega
      obtain ⟨a1, a2, a3, a4, a5, _⟩ := Jt hd he h (by omega) (by rw [List.length_set]; exact hl) (fun _ _ => (bm hsl).2 (.inl (by omega))) (fun h => by cases h)
      have hself : mt met' (e.getD i 0) := a2 _ ((bm hsl).2 (.inl rfl))
      refine ⟨a1, fun x hx => a2 x ((bm hsl).2 (.inr hx)), fun x hx => ?_, fun x hx hm => ?_, (fun h => by cases h), fun _ _ => hself⟩
      · rcases a3 x hx with h1 | h1
        · exact .inl h1
        · rcases (bm hsl).1 h1 with rfl | h1
          · exact .inl (by omega)
          · exact .inr h1
      · rcases a4 x hx hm with h1 | h1
        · rcases (bm hsl).1 h1 with rfl | h1
          · refine .inr ⟨fun h2 => a5 rfl h2, fun h2 => ?_⟩
            rw [hinv] at h2 ⊢
            exact a2 _ ((bm hsl).2 (.inr (p2 rfl h2)))
          · exact .inl h1
        · exact .inr h1
noncomputable def fol (n : Nat) (d e : List Nat) (u : Bool) (i : Nat) (met : List Bool) : List Bool := (Classical.epsilon fun r : Nat × Bool × List Bool => ∃ f, zm n d e f u i met = some r).2.2
theorem qfo {n : Nat} {d e : List Nat} {f : Nat} {u : Bool} {i : Nat} {met : List Bool} {r : Nat × Bool × List Bool} (h : zm n d e f u i met = some r) : fol n d e u i met = r.2.2 := by
  have : ∃ r : Nat × Bool × List Bool, ∃ f, zm n d e f u i met = some r := ⟨r, f, h⟩
  obtain ⟨f', h'⟩ := Classical.epsilon_spec this
  unfold fol
  rw [qi6 h' h]
noncomputable def qd0 (n : Nat) (d e : List Nat) : Nat → List Bool
  | 0 => List.replicate 8 false
  | k + 1 => fol n d e false (n + k) (fol n d e true k (qd0 n d e k))
structure Met (n : Nat) (d e : List Nat) (k : Nat) (met : List Bool) : Prop where
  len : met.length = 8
  lt : ∀ x, mt met x → x < n
  cl : CLs n d e (mt met)
  top : ∀ i, i < k → n ≤ d.getD i 0 → mt met (d.getD i 0 - n)
  bot : ∀ i, i < k → e.getD (n + i) 0 < n → mt met (e.getD (n + i) 0)
theorem Ju {n : Nat} {d e : List Nat} (hd : isS n d = true) (he : isS n e = true) : ∀ k, k ≤ n → Met n d e k (qd0 n d e k)
  | 0, _ => ⟨by simp [qd0], fun x h => absurd h qqh, fun x _ h => absurd h qqh, fun i hi => by omega, fun i hi => by omega⟩
  | k + 1, hk => by
    have ih := Ju hd he k (by omega)
    obtain ⟨f1, m1, e1⟩ := W2 hd he (i := k) (by omega) (qd0 n d e k)
    rw [decide_eq_true (by omega)] at e1
    have g1 := qfo e1
    obtain ⟨a1, a2, a3, a4, a5, _⟩ := Jt hd he e1 (by omega) ih.len (fun _ h => by omega) (fun h => by cases h)
    obtain ⟨f2, m2, e2⟩ := W2 hd he (i := n + k) (by omega) m1
    rw [decide_eq_false (by omega)] at e2
    have g2 := qfo e2
    obtain ⟨b1, b2, b3, b4, _, b6⟩ := Jt hd he e2 (by omega) a1 (fun h => by cases h) (fun _ h => by omega)
    simp only [qd0, g1, g2]
    refine ⟨b1, fun x hx => ?_, fun x hx hm => ?_, fun i hi h => ?_, fun i hi h => ?_⟩
    · rcases b3 x hx with h | h
      · exact h
      · rcases a3 x h with h | h
        · exact h
        · exact ih.lt x h
    · rcases b4 x hx hm with h | h
      · rcases a4 x hx h with h | h
        · have := ih.cl x hx h
          exact ⟨fun h => b2 _ (a2 _ (this.1 h)), fun h => b2 _ (a2 _ (this.2 h))⟩
        · exact ⟨fun h1 => b2 _ (h.1 h1), fun h1 => b2 _ (h.2 h1)⟩
      · exact h
    · by_cases e : i = k
      · subst e; exact b2 _ (a5 rfl h)
      · exact b2 _ (a2 _ (ih.top i (by omega) h))
    · by_cases e : i = k
      · subst e; exact b6 rfl h
      · exact b2 _ (a2 _ (ih.bot i (by omega) h))
def M0 (n : Nat) (d e : List Nat) (x : Nat) : Prop := mt (qd0 n d e n) x
def dm (n : Nat) (d : List Nat) (x : Nat) : Nat := d.getD (n + x) 0 - n
def em (e : List Nat) (x : Nat) : Nat := e.getD x 0
structure Inv (X : Nat → Prop) (f : Nat → Nat) : Prop where
  mem : ∀ x, X x → X (f x)
  inv : ∀ x, X x → f (f x) = x
  fix : ∀ x, X x → f x ≠ x
def XX (n : Nat) (d e : List Nat) (x : Nat) : Prop := x < n ∧ ¬ M0 n d e x
theorem qip {n : Nat} {d e : List Nat} (hd : isS n d = true) (he : isS n e = true) {x : Nat} (h : XX n d e x) : n ≤ d.getD (n + x) 0 ∧ d.getD (n + x) 0 < 2 * n ∧ e.getD x 0 < n := by
  obtain ⟨hn, hpd, _⟩ := z6 hd
  obtain ⟨_, hpe, _⟩ := z6 he
  have hm := Ju hd he n (Nat.le_refl _)
  have h1 := hpd (n + x) (by have := h.1; omega)
  have h2 := hpe x (by have := h.1; omega)
  have hx := h.1
  refine ⟨Nat.le_of_not_lt fun hlt => h.2 ?_, h1.1, Nat.lt_of_not_le fun hge => h.2 ?_⟩
  · have := hm.top _ hlt (by rw [h1.2.2]; omega)
    rw [h1.2.2, show n + x - n = x by omega] at this
    exact this
  · have := hm.bot (e.getD x 0 - n) (by omega) (by rw [show n + (e.getD x 0 - n) = e.getD x 0 by omega, h2.2.2]; exact hx)
    rw [show n + (e.getD x 0 - n) = e.getD x 0 by omega, h2.2.2] at this
    exact this
theorem K5 {n : Nat} {d e : List Nat} (hd : isS n d = true) (he : isS n e = true) : Inv (XX n d e) (dm n d) := by
  obtain ⟨hn, hpd, _⟩ := z6 hd
  have hm := Ju hd he n (Nat.le_refl _)
  have key : ∀ x, XX n d e x → n + dm n d x = d.getD (n + x) 0 ∧ d.getD (d.getD (n + x) 0) 0 = n + x ∧ dm n d x < n := fun x hx => by
    have h1 := hpd (n + x) (by have := hx.1; omega)
    obtain ⟨g1, g2, g3⟩ := qip hd he hx
    unfold dm
    exact ⟨by omega, h1.2.2, by omega⟩
  refine ⟨fun x hx => ?_, fun x hx => ?_, fun x hx e => ?_⟩
  · obtain ⟨k1, k2, k3⟩ := key x hx
    refine ⟨k3, fun hM => hx.2 ?_⟩
    have := (hm.cl (dm n d x) k3 hM).1 (by rw [k1, k2]; omega)
    rw [k1, k2, show n + x - n = x by omega] at this
    exact this
  · obtain ⟨k1, k2, k3⟩ := key x hx
    show d.getD (n + dm n d x) 0 - n = x
    rw [k1, k2]; omega
  · obtain ⟨k1, k2, k3⟩ := key x hx
    have h1 := hpd (n + x) (by have := hx.1; omega)
    rw [e] at k1
    exact h1.2.1 k1.symm
theorem qac {n : Nat} {d e : List Nat} (hd : isS n d = true) (he : isS n e = true) : Inv (XX n d e) (em e) := by
  obtain ⟨hn, hpe, _⟩ := z6 he
  have hm := Ju hd he n (Nat.le_refl _)
  refine ⟨fun x hx => ?_, fun x hx => (hpe x (by have := hx.1; omega)).2.2, fun x hx => (hpe x (by have := hx.1; omega)).2.1⟩
  obtain ⟨g1, g2, g3⟩ := qip hd he hx
  refine ⟨g3, fun hM => hx.2 ?_⟩
  have h1 := (hpe x (by have := hx.1; omega)).2.2
  have := (hm.cl _ g3 hM).2 (by show e.getD (e.getD x 0) 0 < n; rw [h1]; exact hx.1)
  have h2 : M0 n d e (e.getD (e.getD x 0) 0) := this
  rw [h1] at h2
  exact h2
inductive Ring (f g : Nat → Nat) (k0 : Nat) : Nat → Prop
  | base : Ring f g k0 k0
  | one {x : Nat} : Ring f g k0 x → Ring f g k0 (f x)
  | two {x : Nat} : Ring f g k0 x → Ring f g k0 (g x)
theorem Ring.swap {f g : Nat → Nat} {k0 x : Nat} (h : Ring f g k0 x) : Ring g f k0 x := by
  induction h with
  | base => exact .base
  | one _ ih => exact .two ih
  | two _ ih => exact .one ih
theorem Ring.mem {X : Nat → Prop} {f g : Nat → Nat} (hf : Inv X f) (hg : Inv X g) {k0 x : Nat} (h0 : X k0) (h : Ring f g k0 x) : X x := by
  induction h with
  | base => exact h0
  | one _ ih => exact hf.mem _ ih
  | two _ ih => exact hg.mem _ ih
theorem Ring.trans {f g : Nat → Nat} {a b c : Nat} (h : Ring f g a b) (h' : Ring f g b c) : Ring f g a c := by
  induction h' with
  | base => exact h
  | one _ ih => exact .one ih
  | two _ ih => exact .two ih
theorem Ring.symm {X : Nat → Prop} {f g : Nat → Nat} (hf : Inv X f) (hg : Inv X g) {a b : Nat} (h0 : X a) (h : Ring f g a b) : Ring f g b a := by
  induction h with
  | base => exact .base
  | @one x hx ih =>
    have : Ring f g (f x) x := by
      have := Ring.one (Ring.base (f := f) (g := g) (k0 := f x))
      rwa [hf.inv x (Ring.mem hf hg h0 hx)] at this
    exact this.trans ih
  | @two x hx ih =>
    have : Ring f g (g x) x := by
      have := Ring.two (Ring.base (f := f) (g := g) (k0 := g x))
      rwa [hg.inv x (Ring.mem hf hg h0 hx)] at this
    exact this.trans ih
structure qd8 (X : Nat → Prop) (f g : Nat → Nat) (k0 : Nat) (T : Nat → Prop) (last : Nat) : Prop where
  ring : ∀ x, T x → Ring f g k0 x
  m0 : T k0
  lm : T last
  ne : last ≠ k0
  cl : ∀ x, T x → T (f x)
  st : ∀ x, T x → x ≠ k0 → x ≠ last → T (g x) ∧ g x ≠ k0 ∧ g x ≠ last
theorem qd8.start {X : Nat → Prop} {f g : Nat → Nat} (hf : Inv X f) {k0 : Nat} (h0 : X k0) : qd8 X f g k0 (fun x => x = k0 ∨ x = f k0) (f k0) :=
  ⟨fun x h => h.elim (fun e => e ▸ .base) (fun e => e ▸ .one .base), .inl rfl, .inr rfl, hf.fix k0 h0, fun x h => h.elim (fun e => .inr (by rw [e])) (fun e => .inl (by rw [e]; exact hf.inv _ h0)), fun x h h1 h2 => h.elim (fun e => absurd e h1) (fun e => absurd e h2)⟩
theorem qd8.stop {X : Nat → Prop} {f g : Nat → Nat} (hf : Inv X f) (hg : Inv X g) {k0 last : Nat} {T : Nat → Prop} (h0 : X k0) (h : qd8 X f g k0 T last) (hk : T (g last)) : g last = k0 ∧ ∀ x, T x ↔ Ring f g k0 x := by
  have hX : ∀ x, T x → X x := fun x hx => Ring.mem hf hg h0 (h.ring x hx)
  have e : g last = k0 := Classical.byContradiction fun hne => by
    have h1 := hg.fix last (hX _ h.lm)
    have h2 := (h.st _ hk hne h1).2.2
    exact h2 (hg.inv _ (hX _ h.lm))
  have hcl : ∀ x, T x → T (g x) := fun x hx => by
    by_cases h1 : x = k0
    · subst h1
      rw [← e, hg.inv _ (hX _ h.lm)]; exact h.lm
    by_cases h2 : x = last
    · subst h2; rw [e]; exact h.m0
    · exact (h.st x hx h1 h2).1
  refine ⟨e, fun x => ⟨h.ring x, fun hr => ?_⟩⟩
  induction hr with
  | base => exact h.m0
  | one _ ih => exact h.cl _ ih
  | two _ ih => exact hcl _ ih
theorem qd8.next {X : Nat → Prop} {f g : Nat → Nat} (hf : Inv X f) (hg : Inv X g) {k0 last : Nat} {T : Nat → Prop} (h0 : X k0) (h : qd8 X f g k0 T last) (hk : ¬ T (g last)) : qd8 X f g k0 (fun x => x = g last ∨ x = f (g last) ∨ T x) (f (g last)) ∧ ¬ T (f (g last)) ∧ f (g last) ≠ g last := by
  have hX : ∀ x, T x → X x := fun x hx => Ring.mem hf hg h0 (h.ring x hx)
  have hk' : X (g last) := hg.mem _ (hX _ h.lm)
  have hne : f (g last) ≠ g last := hf.fix _ hk'
  have hnT : ¬ T (f (g last)) := fun hT => hk (by have := h.cl _ hT; rwa [hf.inv _ hk'] at this)
  refine ⟨⟨fun x hx => ?_, .inr (.inr h.m0), .inr (.inl rfl), fun e => hnT (by rw [e]; exact h.m0), fun x hx => ?_, fun x hx h1 h2 => ?_⟩, hnT, hne⟩
  · rcases hx with rfl | rfl | hx
    · exact .two (h.ring _ h.lm)
    · exact .one (.two (h.ring _ h.lm))
    · exact h.ring x hx
  · rcases hx with rfl | rfl | hx
    · exact .inr (.inl rfl)
    · rw [hf.inv _ hk']; exact .inl rfl
    · exact .inr (.inr (h.cl x hx))
  · rcases hx with rfl | rfl | hx
    · rw [hg.inv _ (hX _ h.lm)]
      exact ⟨.inr (.inr h.lm), h.ne, fun e => hnT (by rw [← e]; exact h.lm)⟩
    · exact absurd rfl h2
    · by_cases e : x = last
      · subst e
        exact ⟨.inl rfl, fun e => hk (by rw [e]; exact h.m0), fun e => hne e.symm⟩
      · obtain ⟨q1, q2, q3⟩ := h.st x hx h1 e
        exact ⟨.inr (.inr q1), q2, fun e2 => hnT (by rw [← e2]; exact q1)⟩
def Seen (n : Nat) (d e : List Nat) (i x : Nat) : Prop := M0 n d e x ∨ ∃ j, j < i ∧ XX n d e j ∧ Ring (dm n d) (em e) j x
open Classical in
noncomputable def lpN (n : Nat) (d e : List Nat) : Nat → Nat
  | 0 => 0
  | i + 1 => if Seen n d e i i then lpN n d e i else lpN n d e i + 1
theorem qfk (n : Nat) (d e : List Nat) : ∀ i, lpN n d e i ≤ i
  | 0 => Nat.le_refl _
  | i + 1 => by
    have := qfk n d e i
    unfold lpN; split <;> omega
theorem qy4 {n : Nat} {d e : List Nat} (hd : isS n d = true) (he : isS n e = true) {i x : Nat} (h : Seen n d e i x) : x < n := by
  rcases h with h | ⟨j, _, hj, hr⟩
  · exact (Ju hd he n (Nat.le_refl _)).lt x h
  · exact (Ring.mem (K5 hd he) (qac hd he) hj hr).1
theorem qmn {n : Nat} {d e : List Nat} (hd : isS n d = true) (he : isS n e = true) {i : Nat} (hi : Seen n d e i i) (x : Nat) : Seen n d e (i + 1) x ↔ Seen n d e i x := by
  constructor
  · rintro (h | ⟨j, hj, hX, hr⟩)
    · exact .inl h
    · by_cases e1 : j = i
      · subst e1
        rcases hi with h | ⟨k, hk, hX', hr'⟩
        · exact absurd h hX.2
        · exact .inr ⟨k, hk, hX', hr'.trans hr⟩
      · exact .inr ⟨j, by omega, hX, hr⟩
  · rintro (h | ⟨j, hj, hX, hr⟩)
    · exact .inl h
    · exact .inr ⟨j, by omega, hX, hr⟩
theorem qmo {n : Nat} {d e : List Nat} {i : Nat} (hin : i < n) (hi : ¬ Seen n d e i i) (x : Nat) : Seen n d e (i + 1) x ↔ Seen n d e i x ∨ Ring (dm n d) (em e) i x := by
  have hX : XX n d e i := ⟨hin, fun h => hi (.inl h)⟩
  constructor
  · rintro (h | ⟨j, hj, hX', hr⟩)
    · exact .inl (.inl h)
    · by_cases e1 : j = i
      · subst e1; exact .inr hr
      · exact .inl (.inr ⟨j, by omega, hX', hr⟩)
  · rintro ((h | ⟨j, hj, hX', hr⟩) | hr)
    · exact .inl h
    · exact .inr ⟨j, by omega, hX', hr⟩
    · exact .inr ⟨i, by omega, hX, hr⟩
theorem Y5 {n : Nat} {d e : List Nat} (hd : isS n d = true) (he : isS n e = true) {i x : Nat} (hin : i < n) (hi : ¬ Seen n d e i i) (h : Ring (dm n d) (em e) i x) : ¬ Seen n d e i x := by
  have hX : XX n d e i := ⟨hin, fun h => hi (.inl h)⟩
  rintro (h1 | ⟨j, hj, hX', hr⟩)
  · exact (Ring.mem (K5 hd he) (qac hd he) hX h).2 h1
  · exact hi (.inr ⟨j, hj, hX', hr.trans (h.symm (K5 hd he) (qac hd he) hX)⟩)
def chP (p n : Int) (φ : List Nat → List Nat) (κ : List Nat → Int) (acc a : List (Int × List Nat × Int)) : List (Int × List Nat × Int) := a.foldl (fun acc t => vi p acc n (φ t.2.1) (t.2.2 * κ t.2.1)) acc
def qne (φ : List Nat → List Nat) (κ : List Nat → Int) (m : List Nat) : List (Int × List Nat × Int) → Int
  | [] => 0
  | t :: l => (if φ t.2.1 = m then t.2.2 * κ t.2.1 else 0) + qne φ κ m l
def qtj (n : Int) (F : Int) (φ : List Nat → List Nat) (κ : List Nat → Int) (a : List (Int × List Nat × Int)) : Prop := ∀ t ∈ a, okD (φ t.2.1) ∧ isS n.toNat (φ t.2.1) = true ∧ -F ≤ t.2.2 * κ t.2.1 ∧ t.2.2 * κ t.2.1 ≤ F
theorem qtj.take {n F : Int} {φ : List Nat → List Nat} {κ : List Nat → Int} {a : List (Int × List Nat × Int)} (h : qtj n F φ κ a) (i : Nat) : qtj n F φ κ (a.take i) := fun t ht => h t (List.mem_of_mem_take ht)
theorem qba {p n F : Int} {φ : List Nat → List Nat} {κ : List Nat → Int} (hp : 0 < p) : ∀ {a acc : List (Int × List Nat × Int)}, xd p n acc → qtj n F φ κ a → xd p n (chP p n φ κ acc a) ∧ (chP p n φ κ acc a).length ≤ acc.length + a.length
  | [], acc, h, _ => ⟨h, by simp [chP]⟩
  | t :: b, acc, h, hb => by
    obtain ⟨h1, h3, h4⟩ := hb t (List.mem_cons_self ..)
    have h5 := qbx (k := t.2.2 * κ t.2.1) hp h1 h3 h
    have h6 := qgp (p := p) (n := n) (m := φ t.2.1) (k := t.2.2 * κ t.2.1) (ts := acc)
    have := qba hp (a := b) h5 fun u hu => hb u (List.mem_cons_of_mem _ hu)
    refine ⟨this.1, ?_⟩
    have h7 := this.2
    have h3 : chP p n φ κ acc (t :: b) = chP p n φ κ (vi p acc n (φ t.2.1) (t.2.2 * κ t.2.1)) b := rfl
    rw [h3, List.length_cons]; omega
theorem qur {p n : Int} {φ : List Nat → List Nat} {κ : List Nat → Int} {m : List Nat} : ∀ {a acc : List (Int × List Nat × Int)}, (∀ t ∈ acc, t.1 = n) → p ∣ cf m (chP p n φ κ acc a) - (cf m acc + qne φ κ m a)
  | [], acc, h => by simp [chP, qne]
  | t :: b, acc, h => by
    have ih := qur (p := p) (φ := φ) (κ := κ) (m := m) (a := b) (qrf (p := p) (m := φ t.2.1) (k := t.2.2 * κ t.2.1) h)
    have h1 := qql (p := p) (k := t.2.2 * κ t.2.1) (m := m) (m' := φ t.2.1) h
    have e : chP p n φ κ acc (t :: b) = chP p n φ κ (vi p acc n (φ t.2.1) (t.2.2 * κ t.2.1)) b := rfl
    rw [e]
    refine k8 ih h1 ?_
    rw [qne]
    omega
def jz (p c : Int) : Nat → Int
  | 0 => 1
  | k + 1 => (jz p c k * c).emod p
theorem qa9 {p c : Int} (hp : 2 ≤ p) : ∀ k, 0 ≤ jz p c k ∧ jz p c k ≤ p - 1
  | 0 => by unfold jz; omega
  | k + 1 => by
    have h1 := Int.emod_nonneg (jz p c k * c) (show p ≠ 0 by omega)
    have h2 := Int.emod_lt_of_pos (jz p c k * c) (show 0 < p by omega)
    show 0 ≤ (jz p c k * c) % p ∧ (jz p c k * c) % p ≤ p - 1
    omega
theorem pow_mul {p c x : Int} (hp : 2 ≤ p ∧ p ≤ 97) (hc : 0 ≤ c ∧ c ≤ p - 1) (hx : 0 ≤ x ∧ x ≤ p - 1) : qm .i64 (x * c) = x * c ∧ Int.tmod (x * c) p = (x * c).emod p ∧ 0 ≤ x * c ∧ x * c ≤ 9216 := by
  have h0 : 0 ≤ x * c := Int.mul_nonneg hx.1 hc.1
  have h1 : x * c ≤ 96 * 96 := Int.mul_le_mul (by omega) (by omega) hc.1 (by omega)
  exact ⟨wrap64 (by omega) (by omega), Int.tmod_eq_emod_of_nonneg h0, h0, by omega⟩
def X0 : AC := .seq (.seq (.region [oM 10 2,oK 11 .gtr 10 0]) (.cond 11 .skip (.exit 0))) (.seq (.block 1 (.region [oM 14 7,oM 15 1,oP 16 .mul 14 15,oM 17 0,oP 18 .rem 16 17,oM 7 18])) (.region [oM 12 2,oK 13 .sub 12 1,oM 2 13]))
def Uv : AC := .seq (.region [oM 19 7,oM 6 19]) .ret
def qbo : AC := .seq (.region [oI 6 0]) (.seq (.region [oM 8 0,o0 9 (.bin .rem (.c (.int .i64 1)) (.t 8)),oM 7 9]) (.seq (.block 0 (.loop X0)) Uv))
theorem qjt : zk Try.prog 69 = some ⟨20, qbo, [.slot 6]⟩ := by kernel_rfl
theorem qkb (p c : Int) (K : Nat) (hp : 2 ≤ p ∧ p ≤ 97) (hc : 0 ≤ c ∧ c ≤ p - 1) (hK : K ≤ 1000000) : Am.Fn Try.prog 69 [.int .i64 p, .int .i64 c, .int .i64 K] [] (fun v H' => v = .int .i64 (jz p c K) ∧ H' = []) := by
  refine Am.Fn.xo (R := fun v => v = _) qfu mixed qjt (by simp) (by simp) ?_
  have hne : p ≠ 0 := by omega
  have h1 : Int.tmod 1 p = 1 := Int.tmod_eq_of_lt (by omega) (by omega)
  simp (maxSteps := 3000000) only [qf, zH, qbo, hne, h1, iE, iN, iB, iC, iL, iD, iA, iS, iM, qa, zZ, ↓qt, ↓reduceIte, reduceCtorEq, nA, nM, nS, nE, nL, nD]; try simp only [qa, zY]
  refine WA.jq qfu (fun s => ∃ j : Nat, j ≤ K ∧ s = ⟨[(7, .int .i64 (jz p c j)), (2, .int .i64 ((K - j : Nat) : Int)), (1, .int .i64 c), (0, .int .i64 p)], []⟩)
    (fun s => match get s.env 2 with | .int _ x => x.toNat | _ => 0) ⟨_, qv.qw [7, 2, 1, 0], 0, by omega, rfl⟩ ?_
  rintro s ⟨j, hj, rfl⟩
  by_cases hlt : j < K
  · have hli : (0 : Int) < ((K - j : Nat) : Int) := by omega
    obtain ⟨m1, m2, m3, m4⟩ := pow_mul hp hc (qa9 (c := c) hp.1 j)
    have hw : qm .i64 (((K - j : Nat) : Int) - 1) = ((K - (j + 1) : Nat) : Int) := by rw [wrap64 (by omega) (by omega)]; omega
    have hnext : (jz p c j * c).emod p = jz p c (j + 1) := rfl
    simp (maxSteps := 3000000) only [qf, zH, X0, hli, m1, m2, hw, hne, hnext, iE, iN, iB, iC, iL, iD, iA, iS, iM, qa, zZ, ↓qt, ↓reduceIte, reduceCtorEq, nA, nM, nS, nE, nL, nD]; try simp only [qa, zY]
    refine ⟨_, qv.qw [7, 2, 1, 0], ⟨j + 1, by omega, ?_⟩, ?_⟩
    · simp only [zL, ↓reduceIte, reduceCtorEq, nE, nA]
    · simp only [zL, ↓reduceIte, reduceCtorEq, nE, nA]; omega
  · have hli : ¬ (0 : Int) < ((K - j : Nat) : Int) := by omega
    obtain rfl : j = K := by omega
    simp (maxSteps := 3000000) only [qf, zH, X0, Uv, hli, iE, iN, iB, iC, iL, iD, iA, iS, iM, qa, zZ, ↓qt, ↓reduceIte, reduceCtorEq, nA, nM, nS, nE, nL, nD]; try simp only [qa, zY]
def yy : List AV → Option AV
  | [.int .i64 p, .int .i64 c, .int .i64 k] => chk (((2 ≤ p ∧ p ≤ 97) ∧ (0 ≤ c ∧ c ≤ p - 1)) ∧ 0 ≤ k ∧ k ≤ 1000000) (some (.int .i64 (jz p c k.toNat)))
  | _ => none
theorem qzh : Am.Callee Try.prog 69 (qk yy) := Am.Callee.plain fun xs v he => by
  unfold yy at he
  split at he
  · rename_i p c k
    obtain ⟨⟨⟨h1, h2⟩, h3⟩, he⟩ := ql he
    cases he
    obtain ⟨K, rfl⟩ : ∃ K : Nat, k = K := ⟨k.toNat, by omega⟩
    rw [Int.toNat_natCast]
    exact ⟨rfl, rfl, qkb p c K h1 h2 (by omega)⟩
  · cases he
def B53 : zh := (B39.put 69 (qk yy))
theorem q03 : qq Try.prog B53 := (qfu.put (qzh))
theorem qzj (a b : Nat) : Int.tmod (a : Int) (b : Int) = ((a % b : Nat) : Int) := rfl
theorem Uj {n : Int} {m : List Nat} : List.take 1 (dia n m) = [.int .i64 n] := rfl
theorem vz {x : Nat} (h : x < 16) : ((0 : Int) ≤ (x : Int) ∧ (x : Int) < ((16 : Nat) : Int)) ∧ 1 + x < 17 := by omega
abbrev elC (p c n : Int) (k : Nat) : List AV := [.int .i64 p, .int .i64 c, .int .i64 n, .slc 0 0 k false 0]
def Yf : AC := .draw false [oM 6 0,oM 7 1,oM 8 0,oM 9 2,oM 10 2,o0 11 (.conv .u8 (.t 10)),oM 12 1,o0 13 (.conv .u8 (.t 12)),o0 14 (.jn (.t 6)),oF 15 1 14,o0 16 (.zz 16 1 (.t 15) (.t 7)),o0 17 (.jn (.t 8)),oF 18 1 17,oT 16 11,o0 19 (.zz 16 1 (.t 18) (.t 9)),oT 19 13]
theorem qbz : zk Try.prog 143 = some ⟨20, Yf, []⟩ := by kernel_rfl
theorem q1c (n : Int) (m : List Nat) (i k : Nat) (hm : m.length = 16) (hi : i < 16) (hk : k < 16) :
    Am.Fn Try.prog 143 [.ptr 0 0, .int .i64 i, .int .i64 k] [.cells (dia n m)] (fun v H' => v = .tup [] ∧ H' = [.cells (dia n ((m.set i k).set k i))]) := by
  refine Am.Fn.ofB qfu mixed qbz (by simp [AV.qn, AV.under]) (fun j o hj => by
    match j, hj with
    | 0, hj => cases hj; exact qi _ _ (qd _ _)
    | j + 1, hj => simp at hj) ?_
  obtain ⟨a1, a2⟩ := vz hi
  obtain ⟨b1, b2⟩ := vz hk
  have hu1 : qm .u8 (i : Int) = i := K2 (by omega)
  have hu2 : qm .u8 (k : Int) = k := K2 (by omega)
  simp (maxSteps := 3000000) only [qf, zH, Yf, qg, hm, List.length_set, a1, a2, b1, b2, hu1, hu2, qer, AV.one, iE, iN, iB, iC, iL, iD, iA, iS, iM, qa, zZ, ↓qt, ↓reduceIte, reduceCtorEq, nA, nM, nS, nE, nL, nD]; try simp only [qa, zY]
  refine Ret.xv [0] ⟨⟨by simp, rfl, by decide⟩, ?_⟩ (rs := []) rfl rfl (by simp [xa]) ?_ ⟨?_, ?_⟩
  · simp only [zK, ↓reduceIte, reduceCtorEq, nE, nB, nA]
  · intro j l; match j with
    | 0 => simp [q9, AO.ren]
    | j + 1 => simp [q9]
  · rfl
  · simp only [zL, ↓reduceIte, reduceCtorEq, nE, nA]
def gm : BE := fun hp xs => match xs with
  | [.ptr b 0, .int .i64 i, .int .i64 k] => match hp[b]? with
    | some (.cells l) => match yz l with
      | some (n, m) => chk ((0 ≤ i ∧ i < 16) ∧ (0 ≤ k ∧ k < 16)) (some (.tup [], hp.set b (.cells (dia n ((m.set i.toNat k.toNat).set k.toNat i.toNat)))))
      | none => none
    | _ => none
  | _ => none
theorem qul : Am.Callee Try.prog 143 gm := Callee.fp fun hp xs v hp' he => by
  unfold gm at he
  split at he
  · rename_i b i k
    split at he
    · rename_i l hb
      split at he
      · rename_i n m hd
        obtain ⟨⟨h1, h2⟩, he⟩ := ql he
        simp only [Option.some.injEq, Prod.mk.injEq] at he
        obtain ⟨rfl, rfl⟩ := he
        obtain ⟨rfl, hm⟩ := xf hd
        obtain ⟨i, rfl⟩ : ∃ j : Nat, i = j := ⟨i.toNat, by omega⟩
        obtain ⟨k, rfl⟩ : ∃ j : Nat, k = j := ⟨k.toNat, by omega⟩
        simp only [Int.toNat_natCast]
        refine ⟨[(b, 0)], [.ptr 0 0, .int .i64 i, .int .i64 k], _, _, _, q1c n m i k hm.1 (by omega) (by omega), by simp [AV.ren, AV.zg, ofL], rfl, ⟨⟨rfl, by simp only [AO.ren, qb _ _ (qd _ _)]; exact hb⟩, trivial⟩, rfl, ⟨qi _ _ (qd _ _), trivial⟩, ⟨by simp [AV.under], trivial, trivial, trivial⟩, by simp [AV.ren, AV.zg], ?_⟩
        simp [after, upd, AO.wr, AO.ren, qb _ _ (qd _ _)]
      · cases he
    · cases he
  · cases he
def B46 : zh := (B39.put 143 (gm))
theorem qva : qq Try.prog B46 := (qfu.put (qul))
theorem bo : B46 143 = some (gm) := rfl
def V1 (n : Nat) : Nat → List Nat
  | 0 => List.replicate 16 0
  | k + 1 => ((V1 n k).set k (n + k)).set (n + k) k
def xp (n : Nat) : List Nat := V1 n n
theorem qa5 (n : Nat) : ∀ k, (V1 n k).length = 16
  | 0 => by simp [V1]
  | k + 1 => by simp [V1, qa5 n k]
theorem qnp {n : Nat} (hn : n ≤ 8) : ∀ k, k ≤ n → ∀ x ∈ V1 n k, x < 16
  | 0, _, x, hx => by rw [(List.mem_replicate.1 hx).2]; omega
  | k + 1, hk, x, hx => by
    unfold V1 at hx
    rcases List.mem_or_eq_of_mem_set hx with hx | rfl
    · rcases List.mem_or_eq_of_mem_set hx with hx | rfl
      · exact qnp hn k (by omega) x hx
      · omega
    · omega
theorem qav {n : Nat} (hn : n ≤ 8) {k : Nat} (hk : k ≤ n) : okD (V1 n k) := ⟨qa5 n k, fun x hx => by have := qnp hn k hk x hx; omega⟩
def Bk : AC := .seq (.region [oP 9 .lss 8 7]) (.seq (.cond 9 .skip (.exit 0)) (.seq (.block 1 (.seq (.region [oM 10 8,oM 4 10]) (.region [oM 11 4,oM 12 0,oM 13 4,oP 14 .add 12 13,oC 15 143 [.t 3,.t 11,.t 14]]))) (.region [oK 16 .add 8 1,oM 8 16])))
def qcz : AC := .seq (.region [oN 17 17 3,oS 17 2 17]) .ret
def qnn : AC := .seq (.region [oD 2]) (.seq (.region [oM 5 0,o0 6 (.build [.int .i64 0,.int .u8 0,.int .u8 0,.int .u8 0,.int .u8 0,.int .u8 0,.int .u8 0,.int .u8 0,.int .u8 0,.int .u8 0,.int .u8 0,.int .u8 0,.int .u8 0,.int .u8 0,.int .u8 0,.int .u8 0,.int .u8 0] [(0,1,.t 5)]),oD 3,oS 17 3 6]) (.seq (.seq (.region [oM 7 0,oI 8 0]) (.block 0 (.loop Bk))) qcz))
theorem qui : zk Try.prog 88 = some ⟨18, qnn, [.Q9 2 17]⟩ := by kernel_rfl
theorem q06 (n : Nat) (hn : n ≤ 8) : Am.Fn Try.prog 88 [.int .i64 n] [] (fun v H' => v = .agg (dia n (xp n)) ∧ H' = []) := by
  refine Am.Fn.xo (R := fun v => v = _) qva mixed qui (by simp) (by simp) ?_
  simp (maxSteps := 3000000) only [qf, zH, qnn, bo, gm, yg, xr, Ud, qg, j2, ud vv vv, List.length_replicate, iE, iN, iB, iC, iL, iD, iA, iS, iM, qa, zZ, ↓qt, ↓reduceIte, reduceCtorEq, nA, nM, nS, nE, nL, nD]; try simp only [qa, zY]
  refine WA.jq qva (fun s => ∃ i : Nat, i ≤ n ∧ s = ⟨[(8, .int .i64 i), (7, .int .i64 n), (3, .ptr 1 0), (2, .ptr 0 0), (0, .int .i64 n)], [.cells (dia 0 (List.replicate 16 0)), .cells (dia n (V1 n i))]⟩)
    (fun s => match get s.env 8 with | .int _ x => n - x.toNat | _ => 0) ⟨_, qv.qw [8, 7, 3, 2, 0], 0, by omega, rfl⟩ ?_
  rintro s ⟨i, hi, rfl⟩
  have hw : qm .i64 ((i : Int) + 1) = ((i + 1 : Nat) : Int) := by rw [wrap64 (by omega) (by omega)]; rfl
  have hok := qav hn hi
  by_cases hlt : i < n
  · have hli : (i : Int) < (n : Int) := by omega
    have h2 : qm .i64 ((n : Int) + i) = ((n + i : Nat) : Int) := by rw [wrap64 (by omega) (by omega)]; rfl
    have c1 : (0 : Int) ≤ i ∧ (i : Int) < 16 := by omega
    have c2 : (0 : Int) ≤ (n + i : Nat) ∧ ((n + i : Nat) : Int) < 16 := by omega
    have hnext : V1 n (i + 1) = ((V1 n i).set i (n + i)).set (n + i) i := rfl
    simp (maxSteps := 3000000) only [qf, zH, Bk, bo, gm, hli, hw, h2, q8 hok, c1, c2, iE, iN, iB, iC, iL, iD, iA, iS, iM, qa, zZ, ↓qt, ↓reduceIte, reduceCtorEq, nA, nM, nS, nE, nL, nD]; try simp only [qa, zY]
    refine ⟨_, qv.qw [8, 7, 3, 2, 0], ⟨i + 1, by omega, ?_⟩, ?_⟩
    · simp only [zL, ↓reduceIte, reduceCtorEq, nE, nA]; rw [hnext]
    · simp only [zL, ↓reduceIte, reduceCtorEq, nE, nA]; omega
  · have hli : ¬ ((i : Int) < (n : Int)) := by omega
    obtain rfl : i = n := by omega
    simp (maxSteps := 3000000) only [qf, zH, Bk, qcz, bo, gm, hli, qg, hok.1, za hok.1, ud vv hok.1, j2, List.length_replicate, Int.lt_irrefl, iE, iN, iB, iC, iL, iD, iA, iS, iM, qa, zZ, ↓qt, ↓reduceIte, reduceCtorEq, nA, nM, nS, nE, nL, nD]; try simp only [qa, zY]
    exact ⟨qd _ _, rfl⟩
def j6 : List AV → Option AV
  | [.int .i64 n] => chk (0 ≤ n ∧ n ≤ 8) (some (.agg (dia n (xp n.toNat))))
  | _ => none
theorem qhy {f : FuncId} (h : ∀ n : Nat, n ≤ 8 → Am.Fn Try.prog f [.int .i64 n] [] (fun v H' => v = .agg (dia n (xp n)) ∧ H' = [])) : Am.Callee Try.prog f (qk j6) := Am.Callee.plain fun xs v he => by
  unfold j6 at he
  split at he
  · rename_i n
    obtain ⟨h1, he⟩ := ql he
    cases he
    obtain ⟨N, rfl⟩ : ∃ N : Nat, n = N := ⟨n.toNat, by omega⟩
    rw [Int.toNat_natCast]
    exact ⟨rfl, by simp only [AV.zq, qd], h N (by omega)⟩
  · cases he
def B70 : zh := B53
theorem qz3 : qq Try.prog B70 := q03
def B79 : zh := B70
theorem qo6 : qq Try.prog B79 := qz3
def qzm (p c n : Int) (L : List (Int × List Nat × Int)) : ER := if L.length ≤ 140 then (p, c, n, L, 0) else (0, 0, 0, [], 3)
theorem qpy {p c n : Int} {L : List (Int × List Nat × Int)} (h : okT L) : q2w (qzm p c n L) := by
  unfold qzm
  split
  · rename_i hle; exact ⟨h, by simp only; omega⟩
  · exact ⟨(fun t h => by cases h), by simp⟩
structure qzt (H : List AO) (X Y : AV) (ts us : List (Int × List Nat × Int)) : Prop where
  x : ∀ rest, qzq (H ++ rest) X = some ts
  y : ∀ rest, qzq (H ++ rest) Y = some us
  ok : okT ts ∧ okT us
  un : ∀ (j : Nat) (o : AO), H[j]? = some o → o.under H.length
  ux : X.under H.length ∧ Y.under H.length
  sh : (H = [] ∧ X = .v (.slice none 0 0) ∧ Y = .v (.slice none 0 0)) ∨
    (∃ (o : AO) (nx cx : Nat), H = [o] ∧ X = .slc 0 0 nx true cx ∧ Y = .v (.slice none 0 0) ∧ (∀ ids, o.within ids = true) ∧ ∀ ρ, o.ren ρ = o) ∨
    (∃ (o : AO) (ny cy : Nat), H = [o] ∧ X = .v (.slice none 0 0) ∧ Y = .slc 0 0 ny true cy ∧ (∀ ids, o.within ids = true) ∧ ∀ ρ, o.ren ρ = o) ∨
    ∃ (o o' : AO) (nx cx ny cy : Nat), H = [o, o'] ∧ X = .slc 0 0 nx true cx ∧ Y = .slc 1 0 ny true cy ∧ (∀ ids, o.within ids = true) ∧ (∀ ρ, o.ren ρ = o) ∧ (∀ ids, o'.within ids = true) ∧ ∀ ρ, o'.ren ρ = o'
theorem qzt.h {H : List AO} {X Y : AV} {ts us : List (Int × List Nat × Int)} (a : qzt H X Y ts us) : H = [] ∨ (∃ o, H = [o]) ∨ ∃ o o', H = [o, o'] := by
  rcases a.sh with ⟨rfl, _⟩ | ⟨o, _, _, rfl, _⟩ | ⟨o, _, _, rfl, _⟩ | ⟨o, o', _, _, _, _, rfl, _⟩
  · exact .inl rfl
  · exact .inr (.inl ⟨_, rfl⟩)
  · exact .inr (.inl ⟨_, rfl⟩)
  · exact .inr (.inr ⟨_, _, rfl⟩)
theorem exists_least {p : Nat → Prop} (h : ∃ k, p k) : ∃ k, p k ∧ ∀ j, p j → k ≤ j := by
  obtain ⟨k, hk⟩ := h
  induction k using Nat.strongRecOn with
  | ind k ih =>
    by_cases hj : ∃ j, j < k ∧ p j
    · obtain ⟨j, h1, h2⟩ := hj; exact ih j h1 h2
    · exact ⟨k, hk, fun j h2 => Nat.le_of_not_lt fun h1 => hj ⟨j, h1, h2⟩⟩
open Classical in
noncomputable def qjf (J : Nat → St → Prop) (s : St) : Nat := if h : ∃ k, J k s then Classical.choose (exists_least h) else 0
theorem qi0 {J : Nat → St → Prop} {s : St} (h : ∃ k, J k s) : J (qjf J s) s ∧ ∀ j, J j s → qjf J s ≤ j := by
  unfold qjf; rw [dif_pos h]; exact Classical.choose_spec (exists_least h)
theorem qt5 {B : zh} (hB : qq Try.prog B) {n0 nt : Nat} {Q : AX → St → Prop} {s : St} {a : AC} (J : Nat → St → Prop) (h0 : ∃ s', qv n0 s s' ∧ ∃ k, J k s')
    (round : ∀ k s, J k s → ∀ (post : St → Prop), (∀ s' s'' k', qv n0 s' s'' → J k' s'' → k' < k → post s') → wbC Try.prog B n0 nt a (AX.then post Q) s) : WA Try.prog n0 nt (.loop a) Q s := by
  refine WA.jq hB (fun s => ∃ k, J k s) (qjf J) h0 fun s hs => ?_
  obtain ⟨h1, h2⟩ := qi0 hs
  exact round _ s h1 _ fun s' s'' k' hw hj hlt => ⟨s'', hw, ⟨k', hj⟩, Nat.lt_of_le_of_lt ((qi0 ⟨k', hj⟩).2 k' hj) hlt⟩
def bls (l : List Bool) : List AV := l.map .bool
theorem zs (l : List Bool) : (bls l).length = l.length := by simp [bls]
theorem vl (l : List Bool) : AV.zl (bls l) = true := by
  induction l with
  | nil => rfl
  | cons a l ih => simp only [bls, List.map_cons, AV.zl, AV.zq, Bool.true_and]; exact ih
theorem G1 {l : List Bool} {i : Nat} (h : i < l.length) : (bls l)[i]? = some (.bool (l.getD i false)) := by
  simp [bls, List.getD_eq_getElem?_getD, h]
theorem G0 {l : List Bool} {i : Nat} {b : Bool} : (bls l).set i (.bool b) = bls (l.set i b) := by simp [bls, List.map_set]
theorem Wu {x : Nat} (h : x < 8) : ((0 : Int) ≤ (x : Int) ∧ (x : Int) < ((8 : Nat) : Int)) := by omega
def ug : AC := .seq (.region [oM 18 2,oF 19 1 5,o0 20 (.zz 16 1 (.t 19) (.t 18)),oL 21 20,o0 22 (.conv .i64 (.t 21)),oM 13 22]) (.seq (.seq (.region [oM 23 13,oM 24 12,oP 25 .lss 23 24]) (.cond 25 (.seq (.region [oM 26 13,oM 10 26,oB 11 true]) .ret) .skip)) (.seq (.region [oM 27 4,oM 28 13,oM 29 12,oP 30 .sub 28 29,o0 31 (.jn (.t 27)),o0 32 (.zz 8 1 (.t 31) (.t 30)),⟨none,none,.op (.bq (.t 32) (.c (.bool true)))⟩]) (.seq (.region [oM 33 13,oM 34 12,oP 35 .sub 33 34,oM 2 35]) (.seq (.region [oB 3 false]) (.exit 1)))))
def ui : AC := .block 1 (.seq (.seq (.region [oM 17 3]) (.cond 17 ug .skip)) (.seq (.region [oM 36 2,oF 37 1 6,o0 38 (.zz 16 1 (.t 37) (.t 36)),oL 39 38,o0 40 (.conv .i64 (.t 39)),oM 14 40]) (.seq (.seq (.region [oM 41 14,oM 42 12,oP 43 .geq 41 42]) (.cond 43 (.seq (.region [oM 44 14,oM 10 44,oB 11 false]) .ret) .skip)) (.seq (.region [oM 45 4,oM 46 14,o0 47 (.jn (.t 45)),o0 48 (.zz 8 1 (.t 47) (.t 46)),⟨none,none,.op (.bq (.t 48) (.c (.bool true)))⟩]) (.seq (.region [oM 49 12,oM 50 14,oP 51 .add 49 50,oM 2 51]) (.region [oB 3 true]))))))
def Kv : AC := .seq (.region [o0 5 (.box (.t 0)),o0 6 (.box (.t 1)),oI 10 0,oB 11 false]) (.seq (.region [oF 15 0 5,oL 16 15,oM 12 16]) (.block 0 (.loop ui)))
theorem qhl : zk Try.prog 167 = some ⟨52, Kv, [.slot 10, .slot 11]⟩ := by kernel_rfl
theorem qhp (N : Nat) (d e : List Nat) (hd : okD d) (he : okD e) (hds : isS N d = true) (hes : isS N e = true) {f : Nat} {u : Bool} {i : Nat} {met : List Bool} {r : Nat} {s : Bool} {met' : List Bool} (hf : zm N d e f u i met = some (r, s, met')) (hi : i < 2 * N) (hm : met.length = 8) :
    Am.Fn Try.prog 167 [.agg (dia N d), .agg (dia N e), .int .i64 i, .bool u, .ptr 0 0] [.cells (bls met)] (fun v H' => v = .tup [.int .i64 r, .bool s] ∧ H' = [.cells (bls met')]) := by
  refine Am.Fn.ofB qo6 mixed qhl (by simp [AV.qn, AV.under, qi _ _ (qd _ _)]) (fun j o hj => by
    match j, hj with
    | 0, hj => cases hj; exact qi _ _ (vl _)
    | j + 1, hj => simp at hj) ?_
  obtain ⟨hN, hpd, _⟩ := z6 hds
  obtain ⟨_, hpe, _⟩ := z6 hes
  have hdl := hd.1
  have hel := he.1
  simp (maxSteps := 3000000) only [qf, zH, Kv, qa, qg, hdl, hel, gw, iE, iN, iB, iC, iL, iD, iA, iS, iM, qa, zZ, ↓qt, ↓reduceIte, reduceCtorEq, nA, nM, nS, nE, nL, nD]; try simp only [qa, zY]
  refine qt5 qo6 (fun f st => ∃ (u : Bool) (i : Nat) (met : List Bool), zm N d e f u i met = some (r, s, met') ∧ i < 2 * N ∧ met.length = 8 ∧
      st = ⟨[(12, .int .i64 N), (6, .ptr 2 0), (5, .ptr 1 0), (4, .ptr 0 0), (3, .bool u), (2, .int .i64 i)], [.cells (bls met), .cells (dia N d), .cells (dia N e)]⟩) ⟨_, qv.qw [12, 6, 5, 4, 3, 2], f, u, i, met, hf, hi, hm, rfl⟩ ?_
  clear hf hi hm
  rintro k st ⟨u, i, met, hf, hi, hm, rfl⟩ post hpost
  obtain ⟨hi16, hi16'⟩ := vz (show i < 16 by omega)
  have hi17 : i < 16 := by omega
  match k, u, hf with
  | 0, _, hf => simp [zm] at hf
  | f + 1, true, hf =>
    have hx := (hpd i hi).1
    have hcx : qm .i64 ((d.getD i 0 : Nat) : Int) = ((d.getD i 0 : Nat) : Int) := kp (by omega)
    rw [zm] at hf
    by_cases hlt : d.getD i 0 < N
    · rw [if_pos hlt] at hf
      simp only [Option.some.injEq, Prod.mk.injEq] at hf
      obtain ⟨rfl, rfl, rfl⟩ := hf
      have hli : ((d.getD i 0 : Nat) : Int) < (N : Int) := by omega
      simp (maxSteps := 3000000) only [qf, zH, ui, ug, hi16, hi16', hi17, qg, hdl, hel, hcx, hli, iE, iN, iB, iC, iL, iD, iA, iS, iM, qa, zZ, ↓qt, ↓reduceIte, reduceCtorEq, nA, nM, nS, nE, nL, nD]; try simp only [qa, zY]
      refine Ret.xv [0] ⟨⟨Nat.le_refl 1, rfl, by decide⟩, ?_⟩ (rs := [.int .i64 (d.getD i 0 : Nat), .bool true]) rfl rfl (by simp [xa]) ?_ ⟨?_, ?_⟩
      · simp only [qe _ _ (vl _), zK, ↓reduceIte, reduceCtorEq, nE, nB, nA]
      · intro j l; cases j <;> simp [q9, AO.ren]
      · rfl
      · simp only [qb _ _ (vl _), zL, ↓reduceIte, reduceCtorEq, nE, nA]
    · rw [if_neg hlt] at hf
      have hli : ¬ ((d.getD i 0 : Nat) : Int) < (N : Int) := by omega
      have hsub : qm .i64 (((d.getD i 0 : Nat) : Int) - (N : Int)) = ((d.getD i 0 - N : Nat) : Int) := by rw [wrap64 (by omega) (by omega)]; omega
      have h8 := Wu (show d.getD i 0 - N < 8 by omega)
      have h8' : d.getD i 0 - N < 8 := by omega
      simp (maxSteps := 3000000) only [qf, zH, ui, ug, hi16, hi16', hi17, qg, hdl, hel, hcx, hli, hsub, h8, h8', zs, hm, G0, AV.one, iE, iN, iB, iC, iL, iD, iA, iS, iM, qa, zZ, ↓qt, ↓reduceIte, reduceCtorEq, nA, nM, nS, nE, nL, nD]; try simp only [qa, zY]
      exact hpost _ _ f (qv.qw [12, 6, 5, 4, 3, 2]) ⟨false, d.getD i 0 - N, _, hf, by omega, by simp [hm], rfl⟩ (Nat.lt_succ_self _)
  | f + 1, false, hf =>
    have hx := (hpe i hi).1
    have hcx : qm .i64 ((e.getD i 0 : Nat) : Int) = ((e.getD i 0 : Nat) : Int) := kp (by omega)
    rw [zm] at hf
    by_cases hlt : N ≤ e.getD i 0
    · rw [if_pos hlt] at hf
      simp only [Option.some.injEq, Prod.mk.injEq] at hf
      obtain ⟨rfl, rfl, rfl⟩ := hf
      have hli : (N : Int) ≤ ((e.getD i 0 : Nat) : Int) := by omega
      simp (maxSteps := 3000000) only [qf, zH, ui, ug, hi16, hi16', hi17, qg, hdl, hel, hcx, hli, iE, iN, iB, iC, iL, iD, iA, iS, iM, qa, zZ, ↓qt, ↓reduceIte, reduceCtorEq, nA, nM, nS, nE, nL, nD]; try simp only [qa, zY]
      refine Ret.xv [0] ⟨⟨Nat.le_refl 1, rfl, by decide⟩, ?_⟩ (rs := [.int .i64 (e.getD i 0 : Nat), .bool false]) rfl rfl (by simp [xa]) ?_ ⟨?_, ?_⟩
      · simp only [qe _ _ (vl _), zK, ↓reduceIte, reduceCtorEq, nE, nB, nA]
      · intro j l; cases j <;> simp [q9, AO.ren]
      · rfl
      · simp only [qb _ _ (vl _), zL, ↓reduceIte, reduceCtorEq, nE, nA]
    · rw [if_neg hlt] at hf
      have hli : ¬ (N : Int) ≤ ((e.getD i 0 : Nat) : Int) := by omega
      have hadd : qm .i64 ((N : Int) + ((e.getD i 0 : Nat) : Int)) = ((N + e.getD i 0 : Nat) : Int) := by rw [wrap64 (by omega) (by omega)]; rfl
      have h8 := Wu (show e.getD i 0 < 8 by omega)
      have h8' : e.getD i 0 < 8 := by omega
      simp (maxSteps := 3000000) only [qf, zH, ui, ug, hi16, hi16', hi17, qg, hdl, hel, hcx, hli, hadd, h8, h8', zs, hm, G0, AV.one, iE, iN, iB, iC, iL, iD, iA, iS, iM, qa, zZ, ↓qt, ↓reduceIte, reduceCtorEq, nA, nM, nS, nE, nL, nD]; try simp only [qa, zY]
      exact hpost _ _ f (qv.qw [12, 6, 5, 4, 3, 2]) ⟨true, N + e.getD i 0, _, hf, by omega, by simp [hm], rfl⟩ (Nat.lt_succ_self _)
def Wi : List AV → Option (List Bool)
  | [] => some []
  | .bool b :: l => (Wi l).map (b :: ·)
  | _ => none
theorem Bm : ∀ l, Wi (bls l) = some l
  | [] => rfl
  | b :: l => by
    have := Bm l
    simp only [bls] at this
    simp only [bls, List.map_cons, Wi, this, Option.map_some]
theorem Y8 : ∀ {l : List AV} {m : List Bool}, Wi l = some m → l = bls m
  | [], m, h => by simp only [Wi, Option.some.injEq] at h; subst h; rfl
  | .bool b :: l, m, h => by
    simp only [Wi, Option.map_eq_some_iff] at h
    obtain ⟨m', h1, rfl⟩ := h
    rw [Y8 h1]; rfl
noncomputable def gf : BE := fun hp xs => match xs with
  | [.agg ld, .agg le, .int .i64 i, .bool u, .ptr b 0] => match hp[b]? with
    | some (.cells lm) => match yz ld, yz le, Wi lm with
      | some (n, d), some (n', e), some met => chk (((n' = n ∧ 0 ≤ n) ∧ isS n.toNat d = true ∧ isS n.toNat e = true) ∧ (0 ≤ i ∧ i < 2 * n) ∧ met.length = 8 ∧ u = decide (i < n)) (some (.tup [.int .i64 (pr n.toNat d e i.toNat : Nat), .bool (decide (pr n.toNat d e i.toNat < n.toNat))], hp.set b (.cells (bls (fol n.toNat d e u i.toNat met)))))
      | _, _, _ => none
    | _ => none
  | _ => none
theorem qvn : Am.Callee Try.prog 167 gf := Callee.fp fun hp xs v hp' he => by
  unfold gf at he
  split at he
  · rename_i ld le i u b
    split at he
    · rename_i lm hb
      split at he
      · rename_i n d n' e met hd1 he1 hm1
        obtain ⟨⟨⟨⟨a1, a2⟩, a3, a4⟩, a5, a6, a7⟩, he2⟩ := ql he
        simp only [Option.some.injEq, Prod.mk.injEq] at he2
        obtain ⟨rfl, rfl⟩ := he2
        obtain ⟨rfl, hd⟩ := xf hd1
        obtain ⟨rfl, he'⟩ := xf he1
        have hbl := Y8 hm1
        subst hbl; subst a1
        obtain ⟨N, rfl⟩ : ∃ N : Nat, n' = N := ⟨n'.toNat, by omega⟩
        obtain ⟨k, rfl⟩ : ∃ k : Nat, i = k := ⟨i.toNat, by omega⟩
        simp only [Int.toNat_natCast] at a3 a4 ⊢
        have hu : u = decide (k < N) := by rw [a7]; congr 1; exact propext (by omega)
        subst hu
        obtain ⟨f, met', hf⟩ := W2 a3 a4 (i := k) (by omega) met
        have hfo := qfo hf
        refine ⟨[(b, 0)], [.agg (dia N d), .agg (dia N e), .int .i64 k, .bool (decide (k < N)), .ptr 0 0], _, _, _, qhp N d e hd he' a3 a4 hf (by omega) a6, by simp [AV.ren, AV.zg, ofL, qb _ _ (qd _ _)], by simp [je], ⟨⟨rfl, by simp only [AO.ren, qb _ _ (vl _)]; exact hb⟩, trivial⟩, rfl, ⟨qi _ _ (vl _), trivial⟩, ⟨qi _ _ (qd _ _), qi _ _ (qd _ _), trivial, trivial, by simp [AV.under], trivial⟩, by simp [AV.ren, AV.zg], ?_⟩
        simp [after, upd, AO.wr, AO.ren, qb _ _ (vl _), hfo]
      · cases he
    · cases he
  · cases he
noncomputable def B80 : zh := (B79.put 167 (gf))
theorem qb2 : qq Try.prog B80 := (qo6.put (qvn))
def bl (l : List AV) : Nat := l.countP fun v => match v with | .bool false => true | _ => false
theorem Qo : ∀ {met : List Bool} {k : Nat}, k < met.length → met.getD k false = false → bl (bls (met.set k true)) < bl (bls met)
  | b :: l, 0, _, h => by
    simp only [List.getD_cons_zero] at h
    subst h
    simp [bl, bls]
  | b :: l, k + 1, hk, h => by
    have ih := Qo (met := l) (k := k) (by simpa using hk) (by simpa using h)
    simp only [bl, bls] at ih
    simp only [bl, bls, List.set_cons_succ, List.map_cons, List.countP_cons]
    omega
theorem Yd : ∀ {met : List Bool} {k : Nat}, bl (bls (met.set k true)) ≤ bl (bls met)
  | [], k => by simp [bl, bls]
  | b :: l, 0 => by cases b <;> simp [bl, bls]
  | b :: l, k + 1 => by
    have ih := Yd (met := l) (k := k)
    simp only [bl, bls] at ih
    simp only [bl, bls, List.set_cons_succ, List.map_cons, List.countP_cons]
    omega
theorem Gw {n : Nat} {d e : List Nat} {r : Nat × Bool × List Bool} : ∀ {f : Nat} {u : Bool} {i : Nat} {met : List Bool}, zm n d e f u i met = some r → r.2.2.length = met.length
  | 0, _, _, _, h => by simp [zm] at h
  | f + 1, true, i, met, h => by
    rw [zm] at h
    split at h
    · cases h; rfl
    · rw [Gw h, List.length_set]
  | f + 1, false, i, met, h => by
    rw [zm] at h
    split at h
    · cases h; rfl
    · rw [Gw h, List.length_set]
theorem qqw {n : Nat} {d e : List Nat} (hd : isS n d = true) (he : isS n e = true) {i : Nat} {u : Bool} (hi : i < 2 * n) (hu : u = decide (i < n)) (met : List Bool) : (fol n d e u i met).length = met.length := by
  subst hu
  obtain ⟨f, met', h⟩ := W2 hd he hi met
  rw [qfo h]; exact Gw h
def InL (n : Nat) (d e : List Nat) (f g : Nat → Nat) (i x : Nat) (met : List Bool) : Prop :=
  met.length = 8 ∧ ((x = i ∧ ∀ y, mt met y ↔ Seen n d e i y) ∨ ∃ (T : Nat → Prop) (last : Nat), qd8 (XX n d e) f g i T last ∧ x = g last ∧ ∀ y, mt met y ↔ Seen n d e i y ∨ T y)
theorem quq {n : Nat} {d e : List Nat} {f g : Nat → Nat} (hf : Inv (XX n d e) f) (hg : Inv (XX n d e) g) (hn : n ≤ 8) {i x : Nat} {met : List Bool} (hi : i < n) (h0 : ¬ Seen n d e i i) (h : InL n d e f g i x met) (hx : ¬ mt met x) :
    XX n d e x ∧ XX n d e (f x) ∧ InL n d e f g i (g (f x)) ((met.set x true).set (f x) true) := by
  have hX : XX n d e i := ⟨hi, fun h => h0 (.inl h)⟩
  obtain ⟨hl, h⟩ := h
  have mt2 : ∀ {x y z : Nat}, x < n → y < n → (mt ((met.set x true).set y true) z ↔ z = y ∨ z = x ∨ mt met z) := fun {x y z} h1 h2 => by
    rw [bm (by rw [List.length_set]; omega), bm (by omega)]
  rcases h with ⟨rfl, hm⟩ | ⟨T, last, hT, rfl, hm⟩
  · have hfx := hf.mem _ hX
    refine ⟨hX, hfx, by rw [List.length_set, List.length_set]; exact hl, .inr ⟨_, _, qd8.start hf hX, rfl, fun y => ?_⟩⟩
    rw [mt2 hX.1 hfx.1, hm]
    constructor
    · rintro (h | h | h)
      · exact .inr (.inr h)
      · exact .inr (.inl h)
      · exact .inl h
    · rintro (h | h | h)
      · exact .inr (.inr h)
      · exact .inr (.inl h)
      · exact .inl h
  · have hT' : ¬ T (g last) := fun h => hx ((hm _).2 (.inr h))
    have hgl := hg.mem _ (Ring.mem hf hg hX (hT.ring _ hT.lm))
    have hfx := hf.mem _ hgl
    refine ⟨hgl, hfx, by rw [List.length_set, List.length_set]; exact hl, .inr ⟨_, _, (hT.next hf hg hX hT').1, rfl, fun y => ?_⟩⟩
    rw [mt2 hgl.1 hfx.1, hm]
    constructor
    · rintro (h | h | h | h)
      · exact .inr (.inr (.inl h))
      · exact .inr (.inl h)
      · exact .inl h
      · exact .inr (.inr (.inr h))
    · rintro (h | h | h | h)
      · exact .inr (.inr (.inl h))
      · exact .inr (.inl h)
      · exact .inl h
      · exact .inr (.inr (.inr h))
theorem qw9 {n : Nat} {d e : List Nat} (hd : isS n d = true) (he : isS n e = true) {f g : Nat → Nat} (hf : Inv (XX n d e) f) (hg : Inv (XX n d e) g) (hR : ∀ i x, Ring f g i x ↔ Ring (dm n d) (em e) i x) {i x : Nat} {met : List Bool} (hi : i < n) (h0 : ¬ Seen n d e i i) (h : InL n d e f g i x met) (hx : mt met x) :
    ∀ y, mt met y ↔ Seen n d e (i + 1) y := by
  have hX : XX n d e i := ⟨hi, fun h => h0 (.inl h)⟩
  intro y
  rw [qmo hi h0]
  obtain ⟨hl, ⟨rfl, hm⟩ | ⟨T, last, hT, rfl, hm⟩⟩ := h
  · exact absurd ((hm _).1 hx) h0
  · have hr : Ring f g i (g last) := .two (hT.ring _ hT.lm)
    have hT' : T (g last) := ((hm _).1 hx).resolve_left (Y5 hd he hi h0 ((hR _ _).1 hr))
    have hs := (hT.stop hf hg hX hT').2
    rw [hm, hs, hR]
theorem jf : B80 167 = some (gf) := rfl
def U1 : AT := (.one (oF 17 0 2) (.one (oL 18 17) (.one (o0 19 (.build [(.bool false),(.bool false),(.bool false),(.bool false),(.bool false),(.bool false),(.bool false),(.bool false)] [])) (.one (oF 20 0 2) (.alt (oL 21 20) (.one (o0 22 (.build [.int .i64 0,.int .u8 0,.int .u8 0,.int .u8 0,.int .u8 0,.int .u8 0,.int .u8 0,.int .u8 0,.int .u8 0,.int .u8 0,.int .u8 0,.int .u8 0,.int .u8 0,.int .u8 0,.int .u8 0,.int .u8 0,.int .u8 0] [(0,1,.t 21)])) (.alt (o0 7 (.alloc [(.bool false),(.bool false),(.bool false),(.bool false),(.bool false),(.bool false),(.bool false),(.bool false)])) (.one (oD 8) (.one (oM 6 18) (.one (oS 8 7 19) (.one (oS 17 8 22) (.nil))))) (.alt (oD 8) (.one (o0 7 (.alloc [(.bool false),(.bool false),(.bool false),(.bool false),(.bool false),(.bool false),(.bool false),(.bool false)])) (.one (oM 6 18) (.one (oS 8 7 19) (.one (oS 17 8 22) (.nil))))) (.none)))) (.alt (o0 7 (.alloc [(.bool false),(.bool false),(.bool false),(.bool false),(.bool false),(.bool false),(.bool false),(.bool false)])) (.alt (oL 21 20) (.one (o0 22 (.build [.int .i64 0,.int .u8 0,.int .u8 0,.int .u8 0,.int .u8 0,.int .u8 0,.int .u8 0,.int .u8 0,.int .u8 0,.int .u8 0,.int .u8 0,.int .u8 0,.int .u8 0,.int .u8 0,.int .u8 0,.int .u8 0,.int .u8 0] [(0,1,.t 21)])) (.one (oD 8) (.one (oM 6 18) (.one (oS 8 7 19) (.one (oS 17 8 22) (.nil)))))) (.alt (oD 8) (.one (oM 6 18) (.alt (oL 21 20) (.one (o0 22 (.build [.int .i64 0,.int .u8 0,.int .u8 0,.int .u8 0,.int .u8 0,.int .u8 0,.int .u8 0,.int .u8 0,.int .u8 0,.int .u8 0,.int .u8 0,.int .u8 0,.int .u8 0,.int .u8 0,.int .u8 0,.int .u8 0,.int .u8 0] [(0,1,.t 21)])) (.one (oS 8 7 19) (.one (oS 17 8 22) (.nil)))) (.alt (oS 8 7 19) (.one (oL 21 20) (.one (o0 22 (.build [.int .i64 0,.int .u8 0,.int .u8 0,.int .u8 0,.int .u8 0,.int .u8 0,.int .u8 0,.int .u8 0,.int .u8 0,.int .u8 0,.int .u8 0,.int .u8 0,.int .u8 0,.int .u8 0,.int .u8 0,.int .u8 0,.int .u8 0] [(0,1,.t 21)])) (.one (oS 17 8 22) (.nil)))) (.none)))) (.none))) (.alt (oD 8) (.alt (oL 21 20) (.one (o0 22 (.build [.int .i64 0,.int .u8 0,.int .u8 0,.int .u8 0,.int .u8 0,.int .u8 0,.int .u8 0,.int .u8 0,.int .u8 0,.int .u8 0,.int .u8 0,.int .u8 0,.int .u8 0,.int .u8 0,.int .u8 0,.int .u8 0,.int .u8 0] [(0,1,.t 21)])) (.one (o0 7 (.alloc [(.bool false),(.bool false),(.bool false),(.bool false),(.bool false),(.bool false),(.bool false),(.bool false)])) (.one (oM 6 18) (.one (oS 8 7 19) (.one (oS 17 8 22) (.nil)))))) (.alt (o0 7 (.alloc [(.bool false),(.bool false),(.bool false),(.bool false),(.bool false),(.bool false),(.bool false),(.bool false)])) (.one (oM 6 18) (.alt (oL 21 20) (.one (o0 22 (.build [.int .i64 0,.int .u8 0,.int .u8 0,.int .u8 0,.int .u8 0,.int .u8 0,.int .u8 0,.int .u8 0,.int .u8 0,.int .u8 0,.int .u8 0,.int .u8 0,.int .u8 0,.int .u8 0,.int .u8 0,.int .u8 0,.int .u8 0] [(0,1,.t 21)])) (.one (oS 8 7 19) (.one (oS 17 8 22) (.nil)))) (.alt (oS 8 7 19) (.one (oL 21 20) (.one (o0 22 (.build [.int .i64 0,.int .u8 0,.int .u8 0,.int .u8 0,.int .u8 0,.int .u8 0,.int .u8 0,.int .u8 0,.int .u8 0,.int .u8 0,.int .u8 0,.int .u8 0,.int .u8 0,.int .u8 0,.int .u8 0,.int .u8 0,.int .u8 0] [(0,1,.t 21)])) (.one (oS 17 8 22) (.nil)))) (.none)))) (.none))) (.none))))))))
def X8 : AC := .seq (.seq (.region [oM 23 9,oM 24 6,oP 25 .lss 23 24]) (.cond 25 .skip (.exit 0))) (.seq (.block 1 (.seq (.region [oN 29 17 2,oN 30 17 3,oM 31 9,oC 32 167 [.t 29,.t 30,.t 31,(.c (.bool true)),.t 7],oM 28 32,oE 33 0 28,oE 34 1 28,oM 10 33,oM 11 34]) (.seq (.region [oM 35 9,oM 36 10,o0 37 (.conv .u8 (.t 36)),oF 38 1 8,o0 39 (.zz 16 1 (.t 38) (.t 35)),oT 39 37]) (.seq (.region [oN 41 17 2,oN 42 17 3,oM 43 6,oM 44 9,oP 45 .add 43 44,oC 46 167 [.t 41,.t 42,.t 45,(.c (.bool false)),.t 7],oM 40 46,oE 47 0 40,oE 48 1 40,oM 12 47,oM 13 48]) (.region [oM 49 6,oM 50 9,oP 51 .add 49 50,oM 52 12,o0 53 (.conv .u8 (.t 52)),oF 54 1 8,o0 55 (.zz 16 1 (.t 54) (.t 51)),oT 55 53]))))) (.region [oM 26 9,oK 27 .add 26 1,oM 9 27]))
def X3 : AC := .seq (.seq (.region [oM 67 16,o0 68 (.zz 8 1 (.t 7) (.t 67)),oL 69 68,o0 70 (.un .not (.t 69))]) (.cond 70 .skip (.exit 4))) (.block 5 (.seq (.region [oM 71 16,o0 72 (.zz 8 1 (.t 7) (.t 71)),⟨none,none,.op (.bq (.t 72) (.c (.bool true)))⟩]) (.seq (.region [oM 73 6,oM 74 16,oP 75 .add 73 74,oF 76 1 2,o0 77 (.zz 16 1 (.t 76) (.t 75)),oL 78 77,o0 79 (.conv .i64 (.t 78)),oM 80 6,oP 81 .sub 79 80,oM 16 81]) (.seq (.region [oM 82 16,o0 83 (.zz 8 1 (.t 7) (.t 82)),⟨none,none,.op (.bq (.t 83) (.c (.bool true)))⟩]) (.region [oM 84 16,oF 85 1 3,o0 86 (.zz 16 1 (.t 85) (.t 84)),oL 87 86,o0 88 (.conv .i64 (.t 87)),oM 16 88])))))
def Ja : AC := .region [oM 59 15,oK 60 .add 59 1,oM 15 60]
def Qi : AC := .seq (.seq (.region [oM 56 15,oM 57 6,oP 58 .lss 56 57]) (.cond 58 .skip (.exit 2))) (.seq (.block 3 (.seq (.seq (.region [oM 61 15,o0 62 (.zz 8 1 (.t 7) (.t 61)),oL 63 62]) (.cond 63 (.exit 3) .skip)) (.seq (.region [oM 64 14,oK 65 .add 64 1,oM 14 65]) (.seq (.region [oM 66 15,oM 16 66]) (.block 4 (.loop X3)))))) Ja)
def Ut : AC := .seq (.region [oN 89 17 8,oM 90 14,oS 17 4 89,oM 5 90]) .ret
def Ur : AC := .seq (.region [oI 14 0]) (.seq (.seq (.region [oI 15 0]) (.block 2 (.loop Qi))) Ut)
def Un : AC := .seq (.seq (.region [oI 9 0]) (.block 0 (.loop X8))) Ur
def qbr : AC := .seq (.region [o0 2 (.box (.t 0)),o0 3 (.box (.t 1)),oD 4,oI 5 0]) (.seq (.tree false U1) Un)
theorem qjz : zk Try.prog 140 = some ⟨91, qbr, [.Q9 4 17, .slot 5]⟩ := by kernel_rfl
theorem qjq (N : Nat) (d e : List Nat) (hd : okD d) (he : okD e) (hds : isS N d = true) (hes : isS N e = true) :
    Am.Fn Try.prog 140 [.agg (dia N d), .agg (dia N e)] [] (fun v H' => v = .tup [.agg (dia N (ju N d e)), .int .i64 (lpN N d e N : Nat)] ∧ H' = []) := by
  refine Am.Fn.xo (R := fun v => v = _) qb2 mixed qjz (by simp) (by simp) ?_
  obtain ⟨hN, hpd, _⟩ := z6 hds
  obtain ⟨_, hpe, _⟩ := z6 hes
  have hdl := hd.1
  have hel := he.1
  have hb8 : [AV.bool false, .bool false, .bool false, .bool false, .bool false, .bool false, .bool false, .bool false] = bls (List.replicate 8 false) := rfl
  simp (maxSteps := 3000000) only [qf, zH, qbr, yg, xr, qg, hdl, hel, gw, iE, iN, iB, iC, iL, iD, iA, iS, iM, qa, zZ, ↓qt, ↓reduceIte, reduceCtorEq, nA, nM, nS, nE, nL, nD]; try simp only [qa, zY]
  refine WA.qng qb2 (fun s => s = ⟨[(8, .ptr 4 0), (7, .ptr 3 0), (6, .int .i64 N), (5, .int .i64 0), (4, .ptr 2 0), (3, .ptr 1 0), (2, .ptr 0 0)], [.cells (dia N d), .cells (dia N e), .cells (dia 0 (List.replicate 16 0)), .cells (bls (List.replicate 8 false)), .cells (dia N (List.replicate 16 0))]⟩) ?_ ?_
  · have hov8 : over (bls (List.replicate 8 false)) 0 (bls (List.replicate 8 false)) = bls (List.replicate 8 false) := rfl
    have hl8 : (bls (List.replicate 8 false)).length = 8 := rfl
    have ho8 : (bls (List.replicate 8 false)).all AV.one = true := rfl
    unfold U1
    simp (maxSteps := 3000000) only [qf, zH, Vs, Y0, hb8, hov8, hl8, ho8, yg, xr, Ud, qg, hdl, hel, gw, j2, ud vv vv, List.length_replicate, Nat.le_refl, iE, iN, iB, iC, iL, iD, iA, iS, iM, qa, zZ, ↓qt, ↓reduceIte, reduceCtorEq, nA, nM, nS, nE, nL, nD]; try simp only [qa, zY]
    repeat' (with_reducible refine And.intro ?_ ?_)
    all_goals first
      | exact ⟨_, qv.qw [8, 7, 6, 5, 4, 3, 2], rfl⟩
      | (refine ⟨_, qv.xv [0, 1, 2, 4, 3] [8, 7, 6, 5, 4, 3, 2] ⟨by decide, ?_⟩ ?_, ?_⟩
         · simp only [qe _ _ (qd _ _), qe _ _ (vl _), zK, ↓reduceIte, reduceCtorEq, nE, nB, nA]
         · simp only [qe _ _ (qd _ _), qe _ _ (vl _), zK, ↓reduceIte, reduceCtorEq, nE, nB, nA]
         · simp only [qb _ _ (qd _ _), qb _ _ (vl _), zL, ↓reduceIte, reduceCtorEq, nE, nA])
  rintro s rfl
  simp (maxSteps := 3000000) only [qf, zH, Un, iE, iN, iB, iC, iL, iD, iA, iS, iM, qa, zZ, ↓qt, ↓reduceIte, reduceCtorEq, nA, nM, nS, nE, nL, nD]; try simp only [qa, zY]
  refine WA.jq qb2 (fun s => ∃ k : Nat, k ≤ N ∧ s = ⟨[(9, .int .i64 k), (8, .ptr 4 0), (7, .ptr 3 0), (6, .int .i64 N), (5, .int .i64 0), (4, .ptr 2 0), (3, .ptr 1 0), (2, .ptr 0 0)], [.cells (dia N d), .cells (dia N e), .cells (dia 0 (List.replicate 16 0)), .cells (bls (qd0 N d e k)), .cells (dia N (Ya N d e k))]⟩)
    (fun s => match get s.env 9 with | .int _ x => N - x.toNat | _ => 0) ⟨_, qv.qw [9, 8, 7, 6, 5, 4, 3, 2], 0, by omega, rfl⟩ ?_
  rintro s ⟨k, hk, rfl⟩
  have hw : qm .i64 ((k : Int) + 1) = ((k + 1 : Nat) : Int) := by rw [wrap64 (by omega) (by omega)]; rfl
  by_cases hlt : k < N
  · have hli : (k : Int) < (N : Int) := by omega
    have hk16 := ye N d e k
    have hmk := (Ju hds hes k hk).len
    have hx1 := qdu hds hes (i := k) (by omega)
    have hx2 := qdu hds hes (i := N + k) (by omega)
    have u1 : qm .u8 ((pr N d e k : Nat) : Int) = ((pr N d e k : Nat) : Int) := K2 (by omega)
    have u2 : qm .u8 ((pr N d e (N + k) : Nat) : Int) = ((pr N d e (N + k) : Nat) : Int) := K2 (by omega)
    have hadd : qm .i64 ((N : Int) + (k : Int)) = ((N + k : Nat) : Int) := by rw [wrap64 (by omega) (by omega)]; rfl
    obtain ⟨c1, c2⟩ := vz (show k < 16 by omega)
    obtain ⟨c3, c4⟩ := vz (show N + k < 16 by omega)
    have c5 : k < 16 := by omega
    have c6 : N + k < 16 := by omega
    have k1 : (0 : Int) ≤ (k : Int) ∧ (k : Int) < 2 * (N : Int) := by omega
    have k2 : (0 : Int) ≤ ((N + k : Nat) : Int) ∧ ((N + k : Nat) : Int) < 2 * (N : Int) := by omega
    have q1 : (true = decide ((k : Int) < (N : Int))) = True := by simp [hlt]
    have q2 : (false = decide (((N + k : Nat) : Int) < (N : Int))) = True := by simp; omega
    have hf1 : (fol N d e true k (qd0 N d e k)).length = 8 := by rw [qqw hds hes (by omega) (by simp [hlt])]; exact hmk
    have q0 : (0 : Int) ≤ (N : Int) := by omega
    have hdo := q8 (n := (N : Int)) hd
    have heo := q8 (n := (N : Int)) he
    simp (maxSteps := 3000000) only [qf, zH, X8, jf, gf, hw, hli, qg, hdl, hel, za hdl, za hel, hdo, heo, Bm, Int.toNat_natCast, hds, hes, k1, k2, q0, q1, q2, hmk, hf1, u1, u2, hadd, c1, c2, c3, c4, c5, c6, hk16, qer, List.length_set, zs, AV.one, and_self, true_and, and_true, iE, iN, iB, iC, iL, iD, iA, iS, iM, qa, zZ, ↓qt, ↓reduceIte, reduceCtorEq, nA, nM, nS, nE, nL, nD]; try simp only [qa, zY]
    refine ⟨_, qv.qw [9, 8, 7, 6, 5, 4, 3, 2], ⟨k + 1, by omega, ?_⟩, ?_⟩
    · simp only [zL, ↓reduceIte, reduceCtorEq, nE, nA]
      rfl
    · simp only [zL, ↓reduceIte, reduceCtorEq, nE, nA]; omega
  have hli : ¬ (k : Int) < (N : Int) := by omega
  obtain rfl : k = N := by omega
  simp (maxSteps := 3000000) only [qf, zH, X8, Ur, jf, gf, hli, Int.lt_irrefl, iE, iN, iB, iC, iL, iD, iA, iS, iM, qa, zZ, ↓qt, ↓reduceIte, reduceCtorEq, nA, nM, nS, nE, nL, nD]; try simp only [qa, zY]
  refine WA.jq qb2 (fun s => ∃ (i : Nat) (met : List Bool), i ≤ k ∧ (met.length = 8 ∧ ∀ x, mt met x ↔ Seen k d e i x) ∧ s = ⟨[(15, .int .i64 i), (14, .int .i64 (lpN k d e i : Nat)), (8, .ptr 4 0), (7, .ptr 3 0), (6, .int .i64 k), (5, .int .i64 0), (4, .ptr 2 0), (3, .ptr 1 0), (2, .ptr 0 0)], [.cells (dia k d), .cells (dia k e), .cells (dia 0 (List.replicate 16 0)), .cells (bls met), .cells (dia k (ju k d e))]⟩)
    (fun s => match get s.env 15 with | .int _ x => k - x.toNat | _ => 0) ⟨_, qv.qw [15, 14, 8, 7, 6, 5, 4, 3, 2], 0, qd0 k d e k, by omega, ⟨(Ju hds hes k (Nat.le_refl _)).len, fun x => ⟨.inl, fun h => h.elim id fun ⟨j, hj, _⟩ => absurd hj (Nat.not_lt_zero _)⟩⟩, rfl⟩ ?_
  clear hlt hli hw
  rintro s ⟨i, met, hi, ⟨hml, hmt⟩, rfl⟩
  have hw : qm .i64 ((i : Int) + 1) = ((i + 1 : Nat) : Int) := by rw [wrap64 (by omega) (by omega)]; rfl
  have hle := qfk k d e i
  have hw2 : qm .i64 (((lpN k d e i : Nat) : Int) + 1) = ((lpN k d e i + 1 : Nat) : Int) := by rw [wrap64 (by omega) (by omega)]; rfl
  by_cases hlt : i < k
  · have hli : (i : Int) < (k : Int) := by omega
    have g1 := Wu (show i < 8 by omega)
    have g2 : i < 8 := by omega
    have g3 := G1 (l := met) (i := i) (by omega)
    by_cases hs : Seen k d e i i
    · have hm1 : met.getD i false = true := (hmt i).2 hs
      simp (maxSteps := 3000000) only [qf, zH, Qi, Ja, jf, gf, hw, hli, g1, g2, g3, hm1, zs, hml, iE, iN, iB, iC, iL, iD, iA, iS, iM, qa, zZ, ↓qt, ↓reduceIte, reduceCtorEq, nA, nM, nS, nE, nL, nD]; try simp only [qa, zY]
      refine ⟨_, qv.qw [15, 14, 8, 7, 6, 5, 4, 3, 2], ⟨i + 1, met, by omega, ⟨hml, fun x => by rw [hmt, qmn hds hes hs]⟩, ?_⟩, ?_⟩
      · simp only [zL, ↓reduceIte, reduceCtorEq, nE, nA]
        simp only [lpN, if_pos hs]
      · simp only [zL, ↓reduceIte, reduceCtorEq, nE, nA]; omega
    · have hm1 : met.getD i false = false := by
        cases h : met.getD i false with
        | false => rfl
        | true => exact absurd ((hmt i).1 h) hs
      simp (maxSteps := 3000000) only [qf, zH, Qi, jf, gf, hw, hw2, hli, g1, g2, g3, hm1, zs, hml, iE, iN, iB, iC, iL, iD, iA, iS, iM, qa, zZ, ↓qt, ↓reduceIte, reduceCtorEq, nA, nM, nS, nE, nL, nD]; try simp only [qa, zY]
      refine WA.jq qb2 (fun s => ∃ (x : Nat) (mm : List Bool), InL k d e (dm k d) (em e) i x mm ∧ s = ⟨[(16, .int .i64 x), (15, .int .i64 i), (14, .int .i64 (lpN k d e i + 1 : Nat)), (8, .ptr 4 0), (7, .ptr 3 0), (6, .int .i64 k), (5, .int .i64 0), (4, .ptr 2 0), (3, .ptr 1 0), (2, .ptr 0 0)], [.cells (dia k d), .cells (dia k e), .cells (dia 0 (List.replicate 16 0)), .cells (bls mm), .cells (dia k (ju k d e))]⟩)
        (fun s : St => match s.hp[3]? with | some (AO.cells l) => bl l | _ => 0) ⟨_, qv.qw [16, 15, 14, 8, 7, 6, 5, 4, 3, 2], i, met, ⟨hml, .inl ⟨rfl, hmt⟩⟩, rfl⟩ ?_
      rintro s ⟨x, mm, hin, rfl⟩
      have hmm := hin.1
      have hdi := K5 hds hes
      have hei := qac hds hes
      have hxk : x < k := by
        rcases hin.2 with ⟨rfl, _⟩ | ⟨T, last, hT, rfl, _⟩
        · exact hlt
        · exact (hei.mem _ (Ring.mem hdi hei ⟨hlt, fun h => hs (.inl h)⟩ (hT.ring _ hT.lm))).1
      have g4 := Wu (show x < 8 by omega)
      have g5 : x < 8 := by omega
      have g6 := G1 (l := mm) (i := x) (by omega)
      by_cases hmx : mm.getD x false = true
      · have hst := qw9 hds hes hdi hei (fun _ _ => Iff.rfl) hlt hs hin hmx
        simp (maxSteps := 3000000) only [qf, zH, X3, Ja, jf, gf, hw, g4, g5, g6, hmx, zs, hmm, Bool.not_true, iE, iN, iB, iC, iL, iD, iA, iS, iM, qa, zZ, ↓qt, ↓reduceIte, reduceCtorEq, nA, nM, nS, nE, nL, nD]; try simp only [qa, zY]
        refine ⟨_, qv.qw [15, 14, 8, 7, 6, 5, 4, 3, 2], ⟨i + 1, mm, by omega, ⟨hmm, hst⟩, ?_⟩, ?_⟩
        · simp only [zL, ↓reduceIte, reduceCtorEq, nE, nA]
          simp only [lpN, if_neg hs]
        · simp only [zL, ↓reduceIte, reduceCtorEq, nE, nA]; omega
      · obtain ⟨y1, y2, y3⟩ := quq hdi hei (by omega) hlt hs hin hmx
        have hmx' : mm.getD x false = false := by simpa using hmx
        obtain ⟨z1, z2, z3⟩ := qip hds hes y1
        have hdx : dm k d x = d.getD (k + x) 0 - k := rfl
        have hyk := y2.1
        have hadd : qm .i64 ((k : Int) + (x : Int)) = ((k + x : Nat) : Int) := by rw [wrap64 (by omega) (by omega)]; rfl
        obtain ⟨c3, c4⟩ := vz (show k + x < 16 by omega)
        have c6 : k + x < 16 := by omega
        obtain ⟨c7, c8⟩ := vz (show dm k d x < 16 by omega)
        have c9 : dm k d x < 16 := by omega
        have g7 := Wu (show dm k d x < 8 by omega)
        have g8 : dm k d x < 8 := by omega
        have d1 := Jw (n := (k : Int)) (m := d) (i := k + x) (by omega)
        have d2 := Jw (n := (k : Int)) (m := e) (i := dm k d x) (by omega)
        have v1 : qm .i64 ((d.getD (k + x) 0 : Nat) : Int) = ((d.getD (k + x) 0 : Nat) : Int) := kp (by omega)
        have v2 : qm .i64 (((d.getD (k + x) 0 : Nat) : Int) - (k : Int)) = ((dm k d x : Nat) : Int) := by rw [wrap64 (by omega) (by omega)]; omega
        have v3 : qm .i64 ((e.getD (dm k d x) 0 : Nat) : Int) = ((e.getD (dm k d x) 0 : Nat) : Int) := kp (by have := qip hds hes y2; omega)
        simp (maxSteps := 3000000) only [qf, zH, X3, jf, gf, g4, g5, g6, g7, g8, hmx', zs, G0, hmm, List.length_set, hadd, c3, c4, c6, c7, c8, c9, d1, d2, v1, v2, v3, qg, hdl, hel, AV.one, Bool.not_false, iE, iN, iB, iC, iL, iD, iA, iS, iM, qa, zZ, ↓qt, ↓reduceIte, reduceCtorEq, nA, nM, nS, nE, nL, nD]; try simp only [qa, zY]
        refine ⟨_, qv.qw [16, 15, 14, 8, 7, 6, 5, 4, 3, 2], ⟨_, _, y3, ?_⟩, ?_⟩
        · simp only [zL, ↓reduceIte, reduceCtorEq, nE, nA]
          rfl
        · simp only [zL, ↓reduceIte, reduceCtorEq, nE, nA]
          have h1 := Qo (met := mm) (k := x) (by omega) hmx'
          have h2 := Yd (met := mm.set x true) (k := dm k d x)
          omega
  · have hli : ¬ (i : Int) < (k : Int) := by omega
    obtain rfl : i = k := by omega
    have hk16 := ye i d e i
    have hk16' : (ju i d e).length = 16 := hk16
    simp (maxSteps := 3000000) only [qf, zH, Qi, Ut, jf, gf, hli, qg, hk16', za hk16', ud vv hk16', j2, List.length_replicate, Int.lt_irrefl, iE, iN, iB, iC, iL, iD, iA, iS, iM, qa, zZ, ↓qt, ↓reduceIte, reduceCtorEq, nA, nM, nS, nE, nL, nD]; try simp only [qa, zY]
    simp only [qd, Bool.and_self]
noncomputable def vp : List AV → Option AV
  | [.agg ld, .agg le] => match yz ld, yz le with
    | some (n, d), some (n', e) => chk ((n' = n ∧ 0 ≤ n) ∧ isS n.toNat d = true ∧ isS n.toNat e = true) (some (.tup [.agg (dia n (ju n.toNat d e)), .int .i64 (lpN n.toNat d e n.toNat : Nat)]))
    | _, _ => none
  | _ => none
theorem qg8 {f : FuncId} (h : ∀ (N : Nat) d e, okD d → okD e → isS N d = true → isS N e = true → Am.Fn Try.prog f [.agg (dia N d), .agg (dia N e)] [] (fun v H' => v = .tup [.agg (dia N (ju N d e)), .int .i64 (lpN N d e N : Nat)] ∧ H' = [])) : Am.Callee Try.prog f (qk vp) := Am.Callee.plain fun xs v he => by
  unfold vp at he
  split at he
  · rename_i ld le
    split at he
    · rename_i n d n' e hd1 he1
      obtain ⟨⟨⟨a1, a2⟩, a3, a4⟩, he2⟩ := ql he
      cases he2
      obtain ⟨rfl, hd⟩ := xf hd1
      obtain ⟨rfl, he'⟩ := xf he1
      subst a1
      obtain ⟨N, rfl⟩ : ∃ N : Nat, n' = N := ⟨n'.toNat, by omega⟩
      simp only [Int.toNat_natCast] at a3 a4 ⊢
      exact ⟨by simp [AV.zl, AV.zq, qd], by simp [AV.zl, AV.zq, qd], h N d e hd he' a3 a4⟩
    · cases he
  · cases he
noncomputable def B81 : zh := (B80.put 140 (qk vp))
theorem qjc : qq Try.prog B81 := (qb2.put (qg8 qjq))
def qdm : AC := .skip
theorem qnh : zk Try.prog 171 = some ⟨4, qdm, []⟩ := by kernel_rfl
theorem qnq (b : Bool) (i : Int) : Am.Fn Try.prog 171 [.bool b, .int .i64 i] [] (fun v H' => v = .tup [] ∧ H' = []) := by
  refine Am.Fn.xo (R := fun v => v = _) qjc mixed qnh (by simp) (by simp) ?_
  simp (maxSteps := 3000000) only [qf, zH, qdm, qa, iE, iN, iB, iC, iL, iD, iA, iS, iM, qa, zZ, ↓qt, ↓reduceIte, reduceCtorEq, nA, nM, nS, nE, nL, nD]; try simp only [qa, zY]
def kz : List AV → Option AV
  | [.bool _, .int .i64 _] => some (.tup [])
  | _ => none
theorem q0p : Am.Callee Try.prog 171 (qk kz) := Am.Callee.plain fun xs v he => by
  unfold kz at he
  split at he
  · cases he; exact ⟨rfl, rfl, qnq _ _⟩
  · cases he
def qc5 : AC := .region [oM 5 0,oM 6 1,o0 7 (.conv .u8 (.t 6)),oF 8 1 2,o0 9 (.zz 16 1 (.t 8) (.t 5)),oT 9 7]
theorem qlr : zk Try.prog 172 = some ⟨10, qc5, []⟩ := by kernel_rfl
theorem qk8 (n : Int) (m : List Nat) (hm : m.length = 16) (i v : Nat) (hi : i < 16) (hv : v < 256) : Am.Fn Try.prog 172 [.int .i64 i, .int .i64 v, .ptr 0 0] [.cells (dia n m)] (fun r H' => r = .tup [] ∧ H' = [.cells (dia n (m.set i v))]) := by
  refine Am.Fn.ofB qjc mixed qlr (by simp [AV.qn, AV.under]) (fun j o hj => by
    match j, hj with
    | 0, hj => cases hj; exact qi _ _ (qd _ _)
    | j + 1, hj => simp at hj) ?_
  obtain ⟨c1, c2⟩ := vz hi
  have c3 : i < 16 := hi
  have hw : qm .u8 (v : Int) = (v : Int) := K2 hv
  simp (maxSteps := 3000000) only [qf, zH, qc5, qa, qg, hm, qer, c1, c2, c3, hw, AV.one, iE, iN, iB, iC, iL, iD, iA, iS, iM, qa, zZ, ↓qt, ↓reduceIte, reduceCtorEq, nA, nM, nS, nE, nL, nD]; try simp only [qa, zY]
  refine Ret.xv [0] ⟨⟨Nat.le_refl 1, rfl, by decide⟩, ?_⟩ (rs := []) rfl rfl (by simp [xa]) ?_ ⟨rfl, ?_⟩
  · simp only [qe _ _ (qd _ _), zK, ↓reduceIte, reduceCtorEq, nE, nB, nA]
  · intro j l; cases j <;> simp [q9, AO.ren]
  · simp only [qb _ _ (qd _ _), zL, ↓reduceIte, reduceCtorEq, nE, nA]
def U3 : BE := fun hp xs => match xs with
  | [.int .i64 i, .int .i64 v, .ptr b 0] => match hp[b]? with
    | some (.cells l) => match yz l with
      | some (n, m) => chk ((0 ≤ i ∧ i < 16) ∧ 0 ≤ v ∧ v < 256) (some (.tup [], hp.set b (.cells (dia n (m.set i.toNat v.toNat)))))
      | none => none
    | _ => none
  | _ => none
theorem q2d : Am.Callee Try.prog 172 U3 := Callee.fp fun hp xs v hp' he => by
  unfold U3 at he
  split at he
  · rename_i i v b
    split at he
    · rename_i l hb
      split at he
      · rename_i n m hd1
        obtain ⟨⟨⟨a1, a2⟩, a3, a4⟩, he2⟩ := ql he
        simp only [Option.some.injEq, Prod.mk.injEq] at he2
        obtain ⟨rfl, rfl⟩ := he2
        obtain ⟨rfl, hd⟩ := xf hd1
        obtain ⟨k, rfl⟩ : ∃ k : Nat, i = k := ⟨i.toNat, by omega⟩
        obtain ⟨w, rfl⟩ : ∃ w : Nat, v = w := ⟨v.toNat, by omega⟩
        simp only [Int.toNat_natCast]
        refine ⟨[(b, 0)], [.int .i64 k, .int .i64 w, .ptr 0 0], _, _, _, qk8 n m hd.1 k w (by omega) (by omega), by simp [AV.ren, AV.zg, ofL], by simp [je], ⟨⟨rfl, by simp only [AO.ren, qb _ _ (qd _ _)]; exact hb⟩, trivial⟩, rfl, ⟨qi _ _ (qd _ _), trivial⟩, ⟨trivial, trivial, by simp [AV.under], trivial⟩, by simp [AV.ren, AV.zg], ?_⟩
        simp [after, upd, AO.wr, AO.ren, qb _ _ (qd _ _)]
      · cases he
    · cases he
  · cases he
def qc8 : AC := .region [oL 1 0,oK 2 .add 1 1,oT 0 2]
theorem qn3 : zk Try.prog 173 = some ⟨3, qc8, []⟩ := by kernel_rfl
theorem qnu (k : Nat) (hk : k ≤ 1000) : Am.Fn Try.prog 173 [.ptr 0 0] [.cells [.int .i64 k]] (fun r H' => r = .tup [] ∧ H' = [.cells [.int .i64 (k + 1 : Nat)]]) := by
  refine Am.Fn.ofB qjc mixed qn3 (by simp [AV.qn, AV.under]) (fun j o hj => by
    match j, hj with
    | 0, hj => cases hj; exact ⟨trivial, trivial⟩
    | j + 1, hj => simp at hj) ?_
  have hw : qm .i64 ((k : Int) + 1) = ((k + 1 : Nat) : Int) := by rw [wrap64 (by omega) (by omega)]; rfl
  simp (maxSteps := 3000000) only [qf, zH, qc8, qa, hw, AV.one, iE, iN, iB, iC, iL, iD, iA, iS, iM, qa, zZ, ↓qt, ↓reduceIte, reduceCtorEq, nA, nM, nS, nE, nL, nD]; try simp only [qa, zY]
  refine Ret.xv [0] ⟨⟨Nat.le_refl 1, rfl, by decide⟩, ?_⟩ (rs := []) rfl rfl (by simp [xa]) ?_ ⟨rfl, ?_⟩
  · simp only [qe _ _ (qd _ _), zK, ↓reduceIte, reduceCtorEq, nE, nB, nA]
  · intro j l; cases j <;> simp [q9, AO.ren]
  · simp only [qb _ _ (qd _ _), zL, ↓reduceIte, reduceCtorEq, nE, nA]
def xg : BE := fun hp xs => match xs with
  | [.ptr b 0] => match hp[b]? with
    | some (.cells [.int .i64 k]) => chk (0 ≤ k ∧ k ≤ 1000) (some (.tup [], hp.set b (.cells [.int .i64 (k + 1)])))
    | _ => none
  | _ => none
theorem quf : Am.Callee Try.prog 173 xg := Callee.fp fun hp xs v hp' he => by
  unfold xg at he
  split at he
  · rename_i b
    split at he
    · rename_i k hb
      obtain ⟨⟨a1, a2⟩, he2⟩ := ql he
      simp only [Option.some.injEq, Prod.mk.injEq] at he2
      obtain ⟨rfl, rfl⟩ := he2
      obtain ⟨k', rfl⟩ : ∃ k' : Nat, k = k' := ⟨k.toNat, by omega⟩
      refine ⟨[(b, 0)], [.ptr 0 0], _, _, _, qnu k' (by omega), by simp [AV.ren, AV.zg, ofL], by simp [je], ⟨⟨rfl, by simp only [AO.ren, AV.zg, AV.ren]; exact hb⟩, trivial⟩, rfl, ⟨⟨trivial, trivial⟩, trivial⟩, ⟨by simp [AV.under], trivial⟩, by simp [AV.ren, AV.zg], ?_⟩
      simp [after, upd, AO.wr, AO.ren, AV.zg, AV.ren]
    · cases he
  · cases he
noncomputable def B82 : zh := (((B81.put 171 (qk kz)).put 172 (U3)).put 173 (xg))
theorem qg6 : qq Try.prog B82 := (((qjc.put (q0p)).put (q2d)).put (quf))
def stk (a b : Nat) (met : List Bool) : List AV := .ptr a 0 :: .ptr b 0 :: (bls met ++ [.fn 171 [] []])
theorem wu {a b : Nat} {met : List Bool} : (stk a b met).length = met.length + 3 := by simp [stk, zs]
theorem Q8 {a b : Nat} {met : List Bool} : (stk a b met)[0]? = some (.ptr a 0) := rfl
theorem Zn {a b : Nat} {met : List Bool} : (stk a b met)[1]? = some (.ptr b 0) := rfl
theorem Z4 {a b : Nat} {met : List Bool} (h : met.length = 8) : (stk a b met)[10]? = some (.fn 171 [] []) := by
  simp [stk, List.getElem?_append, zs, h]
theorem qa0 {a b : Nat} {met : List Bool} {i : Nat} {v : Bool} (h : met.length = 8) (hi : i < 8) : (stk a b met).set (2 + i) (.bool v) = stk a b (met.set i v) := by
  rw [Nat.add_comm]
  simp [stk, List.set_append, zs, h, hi, G0]
theorem qye {a b : Nat} {met : List Bool} {i : Nat} (h : met.length = 8) (hi : i < 8) : (stk a b met)[2 + i]? = some (.bool (met.getD i false)) := by
  rw [Nat.add_comm]
  simp [stk, List.getElem?_append, zs, h, hi, bls]
theorem qol {n : Nat} (met : List Bool) : AV.qn n (bls met) := qi _ _ (vl _)
theorem qlc {ρ : Ren} : ∀ (l l' : List AV), AV.zg ρ (l ++ l') = AV.zg ρ l ++ AV.zg ρ l'
  | [], _ => rfl
  | a :: l, l' => by simp [AV.zg, qlc l l']
theorem qcx {n : Nat} : ∀ (l l' : List AV), AV.qn n l → AV.qn n l' → AV.qn n (l ++ l')
  | [], _, _, h => h
  | a :: l, l', h, h' => ⟨h.1, qcx l l' h.2 h'⟩
theorem qaq {ids : List Nat} : ∀ (l l' : List AV), AV.z7 ids l = true → AV.z7 ids l' = true → AV.z7 ids (l ++ l') = true
  | [], _, _, h => h
  | a :: l, l', h, h' => by
    simp only [AV.z7, List.cons_append, Bool.and_eq_true] at h ⊢
    exact ⟨h.1, qaq l l' h.2 h'⟩
theorem W9 {ρ : Ren} {a b : Nat} {met : List Bool} : AV.zg ρ (stk a b met) = (AV.ptr a 0).ren ρ :: (AV.ptr b 0).ren ρ :: (bls met ++ [.fn 171 [] []]) := by
  simp only [stk, AV.zg, qlc, qb _ _ (vl met)]
  simp [AV.zg, AV.ren]
theorem qin {n a b : Nat} {met : List Bool} (h1 : a < n) (h2 : b < n) : AV.qn n (stk a b met) := ⟨h1, h2, qcx _ _ (qol _) ⟨⟨trivial, trivial⟩, trivial⟩⟩
theorem qqs {x N : Nat} (h1 : N ≤ x) (h2 : x < 2 * N) : Int.tmod (x : Int) (N : Int) = ((x - N : Nat) : Int) := by
  show ((x % N : Nat) : Int) = _
  rw [Nat.mod_eq_sub_mod h1, Nat.mod_eq_of_lt (by omega)]
theorem qqp {x N : Nat} (h1 : x < N) : Int.tmod (x : Int) (N : Int) = (x : Int) := by
  show ((x % N : Nat) : Int) = _
  rw [Nat.mod_eq_of_lt h1]
theorem qah {met : List Bool} : AV.z7 [0, 1, 2] (stk 1 2 met) = true := by
  have h : AV.z7 [0, 1, 2] (bls met ++ [.fn 171 [] []]) = true := qaq _ _ (qe _ _ (vl _)) rfl
  simp [stk, AV.z7, AV.within, h]
theorem ro3 {m m' l1 l2 : List AV} {hp : List AO} : ∀ (j : Nat) (l : List AV), (q9 [0, 1, 2] (.cells m :: .ro l1 :: .ro l2 :: hp))[j]? = some (AO.ro l) → ∃ l', ([.cells m', .ro l1, .ro l2] : List AO)[j]? = some (AO.ro l')
  | 0, l, h => by simp [q9, AO.ren] at h
  | 1, l, h => ⟨_, rfl⟩
  | 2, l, h => ⟨_, rfl⟩
  | j + 3, l, h => by simp [q9] at h
def H3 (N : Nat) (d e : List Nat) (met : List Bool) : List AO := [.cells (stk 1 2 met), .ro (dia N d), .ro (dia N e)]
theorem qlm {N : Nat} {d e : List Nat} {met : List Bool} : ∀ (j : Nat) (o : AO), (H3 N d e met)[j]? = some o → o.under 3 := fun j o hj => by
  match j, hj with
  | 0, hj => cases hj; exact qin (by omega) (by omega)
  | 1, hj => cases hj; exact qi _ _ (qd _ _)
  | 2, hj => cases hj; exact qi _ _ (qd _ _)
  | j + 3, hj => simp [H3] at hj
theorem wo : B82 168 = some (V3 1 g_n) := rfl
theorem uj : B82 171 = some (qk kz) := rfl
def xe : AC := .block 1 (.seq (.region [oM 17 0,o0 18 (.jn (.t 17)),oF 19 0 18,oL 20 19,oM 10 20]) (.seq (.seq (.region [oM 21 1]) (.cond 21 (.region [oM 22 0,o0 23 (.jn (.t 22)),oF 24 1 23,oL 25 24,oM 10 25]) .skip)) (.seq (.region [oM 26 0,o0 27 (.jn (.t 26)),oF 28 10 27,oL 29 28,oM 30 1,oM 31 2,⟨some 32,none,.call (.t 29) [.t 30,.t 31]⟩]) (.seq (.region [oM 33 10,oM 34 2,o0 35 (.jn (.t 33)),oF 36 1 35,o0 37 (.zz 16 1 (.t 36) (.t 34)),oL 38 37,o0 39 (.conv .i64 (.t 38)),oM 2 39]) (.seq (.seq (.region [oM 40 1,oM 41 2,oM 42 9,oP 43 .geq 41 42,o0 44 (.eqb false (.t 40) (.t 43))]) (.cond 44 (.seq (.region [oM 45 2,oM 8 45]) .ret) .skip)) (.seq (.region [oM 46 2,oM 47 9,oP 48 .rem 46 47,oM 11 48]) (.seq (.region [oM 49 0,oM 50 11,o0 51 (.jn (.t 49)),oF 52 2 51,o0 53 (.zz 8 1 (.t 52) (.t 50)),⟨none,none,.op (.bq (.t 53) (.c (.bool true)))⟩]) (.seq (.seq (.region [oM 54 1,o0 55 (.un .not (.t 54)),oM 1 55]) (.seq (.region [oM 56 1]) (.cond 56 (.region [oM 57 11,oM 2 57]) (.region [oM 58 9,oM 59 11,oP 60 .add 58 59,oM 2 60])))) (.seq (.region [oM 61 11,oM 62 3,oP 63 .eql 61 62]) (.cond 63 (.seq (.region [oI 8 (-1)]) .ret) .skip))))))))))
def Xc : AC := .seq (.region [oI 8 0]) (.seq (.region [oM 12 0,o0 13 (.jn (.t 12)),oF 14 0 13,oL 15 14,oC 16 168 [.t 15],oM 9 16]) (.block 0 (.loop xe)))
theorem Wz : zk Try.prog 187 = some ⟨64, Xc, [.slot 8]⟩ := by kernel_rfl
theorem qp0 (N : Nat) (d e : List Nat) (hd : okD d) (he : okD e) (hds : isS N d = true) (hes : isS N e = true) {f : Nat} {u : Bool} {i : Nat} {met : List Bool} {r : Nat} {s : Bool} {met' : List Bool} (hf : zm N d e f u i met = some (r, s, met')) (hi : i < 2 * N) (hm : met.length = 8) :
    Am.Fn Try.prog 187 [.ptr 0 0, .bool (!u), .int .i64 i, .int .i64 (-1)] (H3 N d e met) (fun v H' => v = .int .i64 r ∧ H' = H3 N d e met') := by
  refine Am.Fn.ofB qg6 mixed Wz (by simp [AV.qn, AV.under, H3]) qlm ?_
  obtain ⟨hN, hpd, _⟩ := z6 hds
  obtain ⟨_, hpe, _⟩ := z6 hes
  have hdl := hd.1
  have hel := he.1
  unfold H3
  simp (maxSteps := 3000000) only [qf, zH, Xc, wo, uj, kz, g_n, wu, Q8, Zn, hm, qg, hdl, hel, gw, Uj, iE, iN, iB, iC, iL, iD, iA, iS, iM, qa, zZ, ↓qt, ↓reduceIte, reduceCtorEq, nA, nM, nS, nE, nL, nD]; try simp only [qa, zY]
  refine qt5 qg6 (fun f st => ∃ (u : Bool) (i : Nat) (met : List Bool), zm N d e f u i met = some (r, s, met') ∧ i < 2 * N ∧ met.length = 8 ∧
      st = ⟨[(9, .int .i64 N), (0, .ptr 0 0), (1, .bool (!u)), (2, .int .i64 i), (3, .int .i64 (-1))], [.cells (stk 1 2 met), .ro (dia N d), .ro (dia N e)]⟩) ⟨_, qv.qw [9, 0, 1, 2, 3], f, u, i, met, hf, hi, hm, rfl⟩ ?_
  clear hf hi hm
  rintro k st ⟨u, i, met, hf, hi, hm, rfl⟩ post hpost
  obtain ⟨hi16, hi16'⟩ := vz (show i < 16 by omega)
  have hi17 : i < 16 := by omega
  have hN0 : (N : Int) ≠ 0 := by omega
  match k, u, hf with
  | 0, _, hf => simp [zm] at hf
  | f + 1, true, hf =>
    have hx := (hpd i hi).1
    have hcx : qm .i64 ((d.getD i 0 : Nat) : Int) = ((d.getD i 0 : Nat) : Int) := kp (by omega)
    have hdx := Jw (n := (N : Int)) (m := d) (i := i) (by omega)
    rw [zm] at hf
    by_cases hlt : d.getD i 0 < N
    · rw [if_pos hlt] at hf
      simp only [Option.some.injEq, Prod.mk.injEq] at hf
      obtain ⟨rfl, rfl, rfl⟩ := hf
      have hli : ((N : Int) ≤ ((d.getD i 0 : Nat) : Int)) ↔ False := iff_false_intro (by omega)
      simp (maxSteps := 3000000) only [qf, zH, xe, wo, uj, kz, g_n, Bool.not_true, Bool.not_false, wu, Q8, Zn, Z4 hm, hm, qg, hdl, hel, hi16, hi16', hi17, hcx, hdx, hli, decide_false, decide_true, beq_self_eq_true, bne_self_eq_false, Bool.true_beq, Bool.false_beq, AV.one, iE, iN, iB, iC, iL, iD, iA, iS, iM, qa, zZ, ↓qt, ↓reduceIte, reduceCtorEq, nA, nM, nS, nE, nL, nD]; try simp only [qa, zY]
      refine Ret.xv [0, 1, 2] ⟨⟨by simp, rfl, by decide⟩, ?_⟩ (rs := [.int .i64 (d.getD i 0 : Nat)]) rfl rfl (by simp [xa]) ?_ ⟨?_, ?_⟩
      · simp only [qe _ _ (qd _ _), qah, zK, ↓reduceIte, reduceCtorEq, nE, nB, nA]
      · exact ro3
      · rfl
      · simp only [qb _ _ (qd _ _), W9, zL, ↓reduceIte, reduceCtorEq, nE, nA]
        rfl
    · rw [if_neg hlt] at hf
      have hli : ((N : Int) ≤ ((d.getD i 0 : Nat) : Int)) ↔ True := iff_true_intro (by omega)
      have hrem := qqs (N := N) (x := d.getD i 0) (by omega) hx
      have h8 := Wu (show d.getD i 0 - N < 8 by omega)
      have h8' : d.getD i 0 - N < 8 := by omega
      have h10 : 2 + (d.getD i 0 - N) < 8 + 3 := by omega
      have hst : ((((d.getD i 0 - N : Nat) : Int)) == (-1 : Int)) = false := by rw [beq_eq_false_iff_ne]; omega
      simp (maxSteps := 3000000) only [qf, zH, xe, wo, uj, kz, g_n, Bool.not_true, Bool.not_false, wu, Q8, Zn, Z4 hm, qa0 hm h8', hm, qg, hdl, hel, hi16, hi16', hi17, hcx, hdx, hli, decide_false, decide_true, beq_self_eq_true, bne_self_eq_false, Bool.true_beq, Bool.false_beq, hrem, h8, h8', h10, hN0, hst, AV.one, iE, iN, iB, iC, iL, iD, iA, iS, iM, qa, zZ, ↓qt, ↓reduceIte, reduceCtorEq, nA, nM, nS, nE, nL, nD]; try simp only [qa, zY]
      exact hpost _ _ f (qv.qw [9, 0, 1, 2, 3]) ⟨false, d.getD i 0 - N, _, hf, by omega, by simp [hm], rfl⟩ (Nat.lt_succ_self _)
  | f + 1, false, hf =>
    have hx := (hpe i hi).1
    have hcx : qm .i64 ((e.getD i 0 : Nat) : Int) = ((e.getD i 0 : Nat) : Int) := kp (by omega)
    have hdx := Jw (n := (N : Int)) (m := e) (i := i) (by omega)
    rw [zm] at hf
    by_cases hlt : N ≤ e.getD i 0
    · rw [if_pos hlt] at hf
      simp only [Option.some.injEq, Prod.mk.injEq] at hf
      obtain ⟨rfl, rfl, rfl⟩ := hf
      have hli : ((N : Int) ≤ ((e.getD i 0 : Nat) : Int)) ↔ True := iff_true_intro (by omega)
      simp (maxSteps := 3000000) only [qf, zH, xe, wo, uj, kz, g_n, Bool.not_true, Bool.not_false, wu, Q8, Zn, Z4 hm, hm, qg, hdl, hel, hi16, hi16', hi17, hcx, hdx, hli, decide_false, decide_true, beq_self_eq_true, bne_self_eq_false, Bool.true_beq, Bool.false_beq, AV.one, iE, iN, iB, iC, iL, iD, iA, iS, iM, qa, zZ, ↓qt, ↓reduceIte, reduceCtorEq, nA, nM, nS, nE, nL, nD]; try simp only [qa, zY]
      refine Ret.xv [0, 1, 2] ⟨⟨by simp, rfl, by decide⟩, ?_⟩ (rs := [.int .i64 (e.getD i 0 : Nat)]) rfl rfl (by simp [xa]) ?_ ⟨?_, ?_⟩
      · simp only [qe _ _ (qd _ _), qah, zK, ↓reduceIte, reduceCtorEq, nE, nB, nA]
      · exact ro3
      · rfl
      · simp only [qb _ _ (qd _ _), W9, zL, ↓reduceIte, reduceCtorEq, nE, nA]
        rfl
    · rw [if_neg hlt] at hf
      have hli : ((N : Int) ≤ ((e.getD i 0 : Nat) : Int)) ↔ False := iff_false_intro (by omega)
      have hrem := qqp (N := N) (x := e.getD i 0) (by omega)
      have hadd : qm .i64 ((N : Int) + ((e.getD i 0 : Nat) : Int)) = ((N + e.getD i 0 : Nat) : Int) := by rw [wrap64 (by omega) (by omega)]; rfl
      have h8 := Wu (show e.getD i 0 < 8 by omega)
      have h8' : e.getD i 0 < 8 := by omega
      have h10 : 2 + e.getD i 0 < 8 + 3 := by omega
      have hst : (((e.getD i 0 : Nat) : Int) == (-1 : Int)) = false := by rw [beq_eq_false_iff_ne]; omega
      simp (maxSteps := 3000000) only [qf, zH, xe, wo, uj, kz, g_n, Bool.not_true, Bool.not_false, wu, Q8, Zn, Z4 hm, qa0 hm h8', hm, qg, hdl, hel, hi16, hi16', hi17, hcx, hdx, hli, decide_false, decide_true, beq_self_eq_true, bne_self_eq_false, Bool.true_beq, Bool.false_beq, hrem, hadd, h8, h8', h10, hN0, hst, AV.one, iE, iN, iB, iC, iL, iD, iA, iS, iM, qa, zZ, ↓qt, ↓reduceIte, reduceCtorEq, nA, nM, nS, nE, nL, nD]; try simp only [qa, zY]
      exact hpost _ _ f (qv.qw [9, 0, 1, 2, 3]) ⟨true, N + e.getD i 0, _, hf, by omega, by simp [hm], rfl⟩ (Nat.lt_succ_self _)
end Go.Proofs.Ytfhckbbgmblhbaa
