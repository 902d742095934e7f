/- Contracts of functions of the program, and plain laws, part 3: each text of this part is proved without further condition. -/
import Derived.Test.YtfhckbbgmblhbaaZ2
namespace Go.Proofs.Ytfhckbbgmblhbaa
open Go.Am Go.Dia
open Nat renaming reduceAdd → nA, reduceMul → nM, reduceSub → nS, reduceEqDiff → nE, reduceLT → nL, reduceLeDiff → nD, reduceBEq → nB
open Int renaming reduceEq → iE, reduceNe → iN, reduceBEq → iB, reduceBNe → iC, reduceLT → iL, reduceLE → iD, reduceAdd → iA, reduceSub → iS, reduceMul → iM
set_option linter.unusedSimpArgs false
set_option linter.unusedVariables false
set_option maxRecDepth 4000
set_option maxHeartbeats 1000000
def FF (n : Nat) (d e : List Nat) (k : Nat) : Nat := if k < 2 * n then mf n d k else 2 * n + mf n e (k - 2 * n)
theorem q4c {n : Nat} {d e : List Nat} (hd : NC (2 * n) (mf n d)) (he : NC (2 * n) (mf n e)) : NC (4 * n) (FF n d e) := by
  have hL : ∀ k, k < 2 * n → FF n d e k = mf n d k := fun k hk => if_pos hk
  have hR : ∀ k, ¬ k < 2 * n → FF n d e k = 2 * n + mf n e (k - 2 * n) := fun k hk => if_neg hk
  refine ⟨fun k hk => ?_, fun k hk => ?_, fun k hk => ?_, fun a b ha hb => ?_⟩
  · by_cases h : k < 2 * n
    · rw [hL k h]; have := hd.lt k h; omega
    · rw [hR k h]; have := he.lt (k - 2 * n) (by omega); omega
  · by_cases h : k < 2 * n
    · rw [hL k h, hL _ (hd.lt k h), hd.inv k h]
    · have h1 := he.lt (k - 2 * n) (by omega)
      rw [hR k h, hR _ (by omega), show 2 * n + mf n e (k - 2 * n) - 2 * n = mf n e (k - 2 * n) by omega, he.inv _ (by omega)]; omega
  · by_cases h : k < 2 * n
    · rw [hL k h]; exact hd.fix k h
    · have h1 := he.fix (k - 2 * n) (by omega)
      rw [hR k h]; omega
  · by_cases h : a < 2 * n
    · have h1 := hd.lt a h
      rw [hL a h]
      by_cases h' : b < 2 * n
      · rw [hL b h']; exact hd.jo a b h h'
      · omega
    · by_cases h' : b < 2 * n
      · omega
      · have := he.jo (a - 2 * n) (b - 2 * n) (by omega) (by omega)
        rw [hR a h, hR b h']; omega
def GG (n : Nat) (F : Nat → Nat) : Nat → Nat → Nat
  | 0, k => F k
  | t + 1, k => dn (2 * n - 1 - t) (if GG n F t (up (2 * n - 1 - t) k) = 2 * n - 1 - t then GG n F t (2 * n - 1 - t + 1) else if GG n F t (up (2 * n - 1 - t) k) = 2 * n - 1 - t + 1 then GG n F t (2 * n - 1 - t) else GG n F t (up (2 * n - 1 - t) k))
theorem qxi {n : Nat} {F : Nat → Nat} (h : NC (4 * n) F) : ∀ t, t ≤ n → NC (4 * n - 2 * t) (GG n F t)
  | 0, _ => h
  | t + 1, ht => by
    have ih := qxi h t (by omega)
    rw [show 4 * n - 2 * t = 4 * n - 2 * (t + 1) + 2 by omega] at ih
    exact ih.remove (j := 2 * n - 1 - t) (by omega) fun k hk => rfl
def Xc (n t z : Nat) : Prop := 2 * n - t ≤ z ∧ z < 2 * n + t
inductive Path (n : Nat) (F : Nat → Nat) (t : Nat) : Nat → Nat → Prop
  | done {x y : Nat} : F x = y → ¬ Xc n t y → Path n F t x y
  | go {x y : Nat} : Xc n t (F x) → Path n F t (4 * n - 1 - F x) y → Path n F t x y
theorem Path.mono {n t x y : Nat} {F : Nat → Nat} (h : Path n F t x y) (hy : ¬ Xc n (t + 1) y) : Path n F (t + 1) x y := by
  induction h with
  | done h1 h2 => exact .done h1 hy
  | go h1 _ ih => exact .go (by unfold Xc at h1 ⊢; omega) (ih hy)
theorem Path.cat {n t x y w : Nat} {F : Nat → Nat} (h : Path n F t x w) (hw : Xc n (t + 1) w) (h2 : Path n F t (4 * n - 1 - w) y) (hy : ¬ Xc n (t + 1) y) : Path n F (t + 1) x y := by
  induction h with
  | done h1 _ => subst h1; exact .go hw (h2.mono hy)
  | go h1 _ ih => exact .go (by unfold Xc at h1 ⊢; omega) (ih hw h2)
def oo (n t k : Nat) : Nat := if k < 2 * n - t then k else k + 2 * t
theorem quq {n : Nat} {F : Nat → Nat} (h : NC (4 * n) F) : ∀ t, t ≤ n → ∀ k, k < 4 * n - 2 * t → Path n F t (oo n t k) (oo n t (GG n F t k))
  | 0, _, k, hk => by
    have e : ∀ k, oo n 0 k = k := fun k => by unfold oo; split <;> omega
    rw [e, e]
    exact .done rfl (by unfold Xc; omega)
  | t + 1, ht, k, hk => by
    have ih := quq h t (by omega)
    have hnc := qxi h t (by omega)
    have hj : ∃ j, j = 2 * n - 1 - t := ⟨_, rfl⟩
    obtain ⟨j, hj⟩ := hj
    have g1 : ∀ k, oo n (t + 1) k = oo n t (up j k) := fun k => by
      unfold oo up
      by_cases h1 : k < j
      · rw [if_pos h1, if_pos (by omega), if_pos (by omega)]
      · rw [if_neg h1, if_neg (by omega), if_neg (by omega)]; omega
    have g2 : ∀ y, y ≠ j → y ≠ j + 1 → oo n (t + 1) (dn j y) = oo n t y := fun y h1 h2 => by rw [g1, qto h1 h2]
    have g3 : oo n t j = j := by unfold oo; rw [if_pos (by omega)]
    have g4 : oo n t (j + 1) = 4 * n - 1 - j := by unfold oo; rw [if_neg (by omega)]; omega
    have gl : ∀ y, y ≠ j → y ≠ j + 1 → ¬ Xc n (t + 1) (oo n t y) := fun y h1 h2 => by
      unfold oo Xc
      by_cases h3 : y < 2 * n - t
      · rw [if_pos h3]; omega
      · rw [if_neg h3]; omega
    have hu := @qkh j k
    have hx : up j k < 4 * n - 2 * t := by
      have := (qnf (j := j) (k := k) (L := 4 * n - 2 * (t + 1)) (by omega)).2 hk
      omega
    have hp := ih _ hx
    have a := hnc.lt _ hx
    have c := hnc.inv _ hx
    have f := hnc.fix _ hx
    have a0 := hnc.lt j (by omega)
    have c0 := hnc.inv j (by omega)
    have f0 := hnc.fix j (by omega)
    have a1 := hnc.lt (j + 1) (by omega)
    have c1 := hnc.inv (j + 1) (by omega)
    have f1 := hnc.fix (j + 1) (by omega)
    have p0 := ih j (by omega)
    have p1 := ih (j + 1) (by omega)
    rw [g3] at p0
    rw [g4] at p1
    have gj : Xc n (t + 1) j := by unfold Xc; omega
    have gj1 : Xc n (t + 1) (4 * n - 1 - j) := by unfold Xc; omega
    rw [g1 k]
    simp only [GG, ← hj]
    generalize hX : up j k = x at *
    by_cases e1 : GG n F t x = j
    · rw [if_pos e1]
      rw [e1] at hp c
      have n1 : GG n F t (j + 1) ≠ j := fun e => by rw [e] at c1; omega
      rw [g2 _ n1 f1]
      rw [g3] at hp
      exact hp.cat gj p1 (gl _ n1 f1)
    · rw [if_neg e1]
      by_cases e2 : GG n F t x = j + 1
      · rw [if_pos e2]
        rw [e2] at hp c
        have n1 : GG n F t j ≠ j + 1 := fun e => by rw [e] at c0; omega
        rw [g2 _ f0 n1]
        rw [g4] at hp
        refine hp.cat gj1 ?_ (gl _ f0 n1)
        rw [show 4 * n - 1 - (4 * n - 1 - j) = j by omega]
        exact p0
      · rw [if_neg e2, g2 _ e1 e2]
        exact hp.mono (gl _ e1 e2)
def pr (n : Nat) (d e : List Nat) (i : Nat) : Nat := place n (GG n (FF n d e) n (place n i))
theorem qrv {n : Nat} {d e : List Nat} (hd : isS n d = true) (he : isS n e = true) : NC (2 * n) (GG n (FF n d e) n) := by
  have := qxi (q4c (qhn hd) (qhn he)) n (Nat.le_refl _)
  rwa [show 4 * n - 2 * n = 2 * n by omega] at this
def zp (n : Nat) (d e : List Nat) : Nat → Bool → Nat → List Bool → Option (Nat × Bool × List Bool)
  | 0, _, _, _ => none
  | f + 1, true, i, met => if d.getD i 0 < n then some (d.getD i 0, true, met) else zp n d e f false (d.getD i 0 - n) (met.set (d.getD i 0 - n) true)
  | f + 1, false, i, met => if n ≤ e.getD i 0 then some (e.getD i 0, false, met) else zp n d e f true (n + e.getD i 0) (met.set (e.getD i 0) true)
def at2 (n : Nat) (u : Bool) (i : Nat) : Nat := if u then place n i else 2 * n + place n i
def qpy (n y : Nat) : Nat := if y < 2 * n then y else place n (y - 2 * n)
theorem qm8 {n : Nat} {d e : List Nat} (hd : isS n d = true) (he : isS n e = true) {x y : Nat} (h : Path n (FF n d e) n x y) : ∀ (u : Bool) (i : Nat) (met : List Bool), i < 2 * n → x = at2 n u i →
    ∃ f met', zp n d e f u i met = some (qpy n y, decide (y < 2 * n), met') := by
  obtain ⟨hn, hpd, _⟩ := zz hd
  obtain ⟨_, hpe, _⟩ := zz he
  have F1 : ∀ i, i < 2 * n → FF n d e (at2 n true i) = place n (d.getD i 0) := fun i hi => by
    show FF n d e (place n i) = _
    unfold FF
    rw [if_pos (q7 hi)]
    unfold mf
    rw [zc hi]
  have F2 : ∀ i, i < 2 * n → FF n d e (at2 n false i) = 2 * n + place n (e.getD i 0) := fun i hi => by
    show FF n d e (2 * n + place n i) = _
    unfold FF
    rw [if_neg (by omega), show 2 * n + place n i - 2 * n = place n i by omega]
    unfold mf
    rw [zc hi]
  induction h with
  | @done x y h1 h2 =>
    intro u i met hi hx
    subst hx
    cases u with
    | true =>
      rw [F1 i hi] at h1
      have hl := (hpd i hi).1
      have hlt : d.getD i 0 < n := by
        unfold place at h1; unfold Xc at h2
        split at h1
        · assumption
        · omega
      have hy : y = d.getD i 0 := by rw [← h1]; unfold place; rw [if_pos hlt]
      refine ⟨1, met, ?_⟩
      simp only [zp, if_pos hlt]
      rw [hy]
      unfold qpy
      rw [if_pos (by omega), decide_eq_true (by omega)]
    | false =>
      rw [F2 i hi] at h1
      have hl := (hpe i hi).1
      have hlt : n ≤ e.getD i 0 := by
        unfold place at h1; unfold Xc at h2
        split at h1
        · omega
        · omega
      refine ⟨1, met, ?_⟩
      simp only [zp, if_pos hlt]
      rw [← h1]
      unfold qpy
      rw [if_neg (by omega), show 2 * n + place n (e.getD i 0) - 2 * n = place n (e.getD i 0) by omega, zc hl, decide_eq_false (by omega)]
  | @go x y h1 h2 ih =>
    intro u i met hi hx
    subst hx
    cases u with
    | true =>
      rw [F1 i hi] at h1 ih
      have hl := (hpd i hi).1
      have hge : ¬ d.getD i 0 < n := fun hlt => by
        unfold place Xc at h1; rw [if_pos hlt] at h1; omega
      obtain ⟨f, met', hf⟩ := ih false (d.getD i 0 - n) (met.set (d.getD i 0 - n) true) (by omega) (by
        show 4 * n - 1 - place n (d.getD i 0) = 2 * n + place n (d.getD i 0 - n)
        unfold place
        rw [if_neg hge, if_pos (by omega)]
        omega)
      exact ⟨f + 1, met', by simp only [zp, if_neg hge]; exact hf⟩
    | false =>
      rw [F2 i hi] at h1 ih
      have hl := (hpe i hi).1
      have hlt : ¬ n ≤ e.getD i 0 := fun hge => by
        unfold place Xc at h1; rw [if_neg (by omega)] at h1; omega
      obtain ⟨f, met', hf⟩ := ih true (n + e.getD i 0) (met.set (e.getD i 0) true) (by omega) (by
        show 4 * n - 1 - (2 * n + place n (e.getD i 0)) = place n (n + e.getD i 0)
        unfold place
        rw [if_pos (by omega), if_neg (by omega)]
        omega)
      exact ⟨f + 1, met', by simp only [zp, if_neg hlt]; exact hf⟩
theorem Y8 {n : Nat} {d e : List Nat} (hd : isS n d = true) (he : isS n e = true) {i : Nat} (hi : i < 2 * n) (met : List Bool) : ∃ f met', zp n d e f (decide (i < n)) i met = some (pr n d e i, decide (pr n d e i < n), met') := by
  have hp := quq (q4c (qhn hd) (qhn he)) n (Nat.le_refl _) (place n i) (by have := q7 hi; omega)
  have hg := (qrv hd he).lt _ (q7 hi)
  have e1 : oo n n (place n i) = at2 n (decide (i < n)) i := by
    unfold oo at2 place
    by_cases h : i < n
    · rw [if_pos h, if_pos (by omega)]; simp [h]
    · rw [if_neg h, if_neg (by omega)]; simp only [h, decide_false, Bool.false_eq_true, if_false]; omega
  rw [e1] at hp
  obtain ⟨f, met', hf⟩ := qm8 hd he hp _ i met hi rfl
  refine ⟨f, met', ?_⟩
  rw [hf]
  have e2 : qpy n (oo n n (GG n (FF n d e) n (place n i))) = pr n d e i := by
    unfold pr qpy
    generalize GG n (FF n d e) n (place n i) = k at *
    by_cases h : k < n
    · have e3 : oo n n k = k := if_pos (by omega)
      rw [e3, if_pos (by omega)]; unfold place; rw [if_pos h]
    · have e3 : oo n n k = k + 2 * n := if_neg (by omega)
      rw [e3, if_neg (by omega), show k + 2 * n - 2 * n = k by omega]
  rw [e2]
  congr 3
  unfold pr
  generalize GG n (FF n d e) n (place n i) = k at *
  by_cases h : k < n
  · have e3 : oo n n k = k := if_pos (by omega)
    have e4 : place n k = k := if_pos h
    rw [e3, e4, decide_eq_true h, decide_eq_true (by omega)]
  · have e3 : oo n n k = k + 2 * n := if_neg (by omega)
    have e4 : place n k = 3 * n - 1 - k := if_neg h
    rw [e3, e4, decide_eq_false (by omega), decide_eq_false (by omega)]
def Yz (n : Nat) (d e : List Nat) : Nat → List Nat
  | 0 => List.replicate 16 0
  | k + 1 => ((Yz n d e k).set k (pr n d e k)).set (n + k) (pr n d e (n + k))
def xr (n : Nat) (d e : List Nat) : List Nat := Yz n d e n
theorem wz (n : Nat) (d e : List Nat) : ∀ k, (Yz n d e k).length = 16
  | 0 => by simp [Yz]
  | k + 1 => by simp [Yz, wz n d e k]
theorem qad {n : Nat} {d e : List Nat} (hn : n ≤ 8) : ∀ k, k ≤ n → ∀ i, i < 16 → (Yz n d e k).getD i 0 = if i < k ∨ (n ≤ i ∧ i < n + k) then pr n d e i else 0
  | 0, _, i, hi => by
    rw [if_neg (by omega)]
    simp only [Yz, List.getD_eq_getElem?_getD, List.getElem?_replicate]
    split <;> simp
  | k + 1, hk, i, hi => by
    simp only [Yz]
    rw [jw, jw, List.length_set, wz, qad hn k (by omega) i hi]
    by_cases h1 : n + k = i
    · rw [if_pos ⟨h1, hi⟩, if_pos (by omega), h1]
    · rw [if_neg (by omega)]
      by_cases h2 : k = i
      · rw [if_pos ⟨h2, hi⟩, if_pos (by omega), h2]
      · rw [if_neg (by omega)]
        by_cases h3 : i < k ∨ (n ≤ i ∧ i < n + k)
        · rw [if_pos h3, if_pos (by omega)]
        · rw [if_neg h3, if_neg (by omega)]
theorem qfe {n : Nat} {d e : List Nat} (hd : isS n d = true) (he : isS n e = true) {i : Nat} (hi : i < 2 * n) : pr n d e i < 2 * n := q7 ((qrv hd he).lt _ (q7 hi))
theorem qnp {n : Nat} {d e : List Nat} (hd : isS n d = true) (he : isS n e = true) : isS n (xr n d e) = true ∧ okD (xr n d e) := by
  obtain ⟨hn, _, _⟩ := zz hd
  have hg : ∀ i, i < 2 * n → (xr n d e).getD i 0 = pr n d e i := fun i hi => by
    unfold xr
    rw [qad hn.2 n (Nat.le_refl _) i (by omega), if_pos (by omega)]
  have ht := qrv hd he
  refine ⟨qzs hn (fun i h1 h2 => ?_) (fun i hi => ?_) ?_, wz _ _ _ _, ?_⟩
  · unfold xr
    rw [qad hn.2 n (Nat.le_refl _) i h2, if_neg (by omega)]
  · rw [hg i hi]; exact qfe hd he hi
  · have e1 : ∀ k, k < 2 * n → mf n (xr n d e) k = GG n (FF n d e) n k := fun k hk => by
      unfold mf
      rw [hg _ (q7 hk)]
      unfold pr
      rw [zc hk, zc (ht.lt k hk)]
    refine ⟨fun k hk => ?_, fun k hk => ?_, fun k hk => ?_, fun a b ha hb => ?_⟩
    · rw [e1 k hk]; exact ht.lt k hk
    · rw [e1 k hk, e1 _ (ht.lt k hk)]; exact ht.inv k hk
    · rw [e1 k hk]; exact ht.fix k hk
    · rw [e1 a ha, e1 b hb]; exact ht.jo a b ha hb
  · intro x hx
    obtain ⟨i, hi, rfl⟩ := List.getElem_of_mem hx
    have hl : (xr n d e).length = 16 := wz _ _ _ _
    have h1 : (xr n d e).getD i 0 = (xr n d e)[i] := by simp [List.getD_eq_getElem?_getD, hi]
    rw [← h1]
    by_cases h2 : i < 2 * n
    · rw [hg i h2]; have := qfe hd he h2; omega
    · unfold xr
      rw [qad hn.2 n (Nat.le_refl _) i (by omega), if_neg (by omega)]; omega
def mt (met : List Bool) (x : Nat) : Prop := met.getD x false = true
theorem u4 {met : List Bool} {i x : Nat} (hi : i < met.length) : mt (met.set i true) x ↔ x = i ∨ mt met x := by
  unfold mt
  simp only [List.getD_eq_getElem?_getD, List.getElem?_set]
  by_cases h : i = x
  · subst h; simp [hi]
  · rw [if_neg h]
    exact ⟨.inr, fun h2 => h2.elim (fun e => absurd e.symm h) id⟩
theorem quf {x k : Nat} : ¬ mt (List.replicate k false) x := by
  unfold mt
  simp only [List.getD_eq_getElem?_getD, List.getElem?_replicate]
  split <;> simp
theorem Ul {n : Nat} {d e : List Nat} {r : Nat × Bool × List Bool} : ∀ {f : Nat} {u : Bool} {i : Nat} {met : List Bool}, zp n d e f u i met = some r → zp n d e (f + 1) u i met = some r
  | 0, _, _, _, h => by simp [zp] at h
  | f + 1, true, i, met, h => by
    rw [zp] at h ⊢
    split
    · rename_i h1; rw [if_pos h1] at h; exact h
    · rename_i h1; rw [if_neg h1] at h; exact Ul h
  | f + 1, false, i, met, h => by
    rw [zp] at h ⊢
    split
    · rename_i h1; rw [if_pos h1] at h; exact h
    · rename_i h1; rw [if_neg h1] at h; exact Ul h
theorem U6 {n : Nat} {d e : List Nat} {r : Nat × Bool × List Bool} {f : Nat} {u : Bool} {i : Nat} {met : List Bool} (h : zp n d e f u i met = some r) : ∀ k, zp n d e (f + k) u i met = some r
  | 0 => h
  | k + 1 => Ul (U6 h k)
theorem qma {n : Nat} {d e : List Nat} {r r' : Nat × Bool × List Bool} {f f' : Nat} {u : Bool} {i : Nat} {met : List Bool} (h : zp n d e f u i met = some r) (h' : zp n d e f' u i met = some r') : r = r' := by
  have h1 := U6 h f'
  have h2 := U6 h' f
  rw [Nat.add_comm f' f, h1] at h2
  exact Option.some.inj h2
def CLs (n : Nat) (d e : List Nat) (M : Nat → Prop) : Prop := ∀ x, x < n → M x → (n ≤ d.getD (n + x) 0 → M (d.getD (n + x) 0 - n)) ∧ (e.getD x 0 < n → M (e.getD x 0))
theorem Vf {n : Nat} {d e : List Nat} (hd : isS n d = true) (he : isS n e = true) {r : Nat} {s : Bool} {met' : List Bool} : ∀ {f : Nat} {u : Bool} {i : Nat} {met : List Bool}, zp n d e f u i met = some (r, s, met') → i < 2 * n → met.length = 8 →
    (u = true → n ≤ i → mt met (i - n)) → (u = false → i < n → mt met i) →
    met'.length = 8 ∧ (∀ x, mt met x → mt met' x) ∧ (∀ x, mt met' x → x < n ∨ mt met x) ∧ (∀ x, x < n → mt met' x → mt met x ∨ ((n ≤ d.getD (n + x) 0 → mt met' (d.getD (n + x) 0 - n)) ∧ (e.getD x 0 < n → mt met' (e.getD x 0)))) ∧
      (u = true → n ≤ d.getD i 0 → mt met' (d.getD i 0 - n)) ∧ (u = false → e.getD i 0 < n → mt met' (e.getD i 0))
  | 0, _, _, _, h, _, _, _, _ => by simp [zp] at h
  | f + 1, true, i, met, h, hi, hl, p1, p2 => by
    obtain ⟨hn, hpd, _⟩ := zz hd
    rw [zp] at h
    split at h
    · rename_i hlt
      cases h
      exact ⟨hl, fun x h => h, fun x h => .inr h, fun x _ h => .inl h, fun _ h => absurd hlt (by omega), fun h => by cases h⟩
    · rename_i hlt
      have hs := (hpd i hi).1
      have hinv := (hpd i hi).2.2
      have hsl : d.getD i 0 - n < met.length := by omega
      obtain ⟨a1, a2, a3, a4, _, a6⟩ := Vf hd he h (by omega) (by rw [List.length_set]; exact hl) (fun h => by cases h) (fun _ _ => (u4 hsl).2 (.inl rfl))
      have hself : mt met' (d.getD i 0 - n) := a2 _ ((u4 hsl).2 (.inl rfl))
      refine ⟨a1, fun x hx => a2 x ((u4 hsl).2 (.inr hx)), fun x hx => ?_, fun x hx hm => ?_, fun _ _ => hself, fun h => by cases h⟩
      · rcases a3 x hx with h1 | h1
        · exact .inl h1
        · rcases (u4 hsl).1 h1 with rfl | h1
          · exact .inl (by omega)
          · exact .inr h1
      · rcases a4 x hx hm with h1 | h1
        · rcases (u4 hsl).1 h1 with rfl | h1
          · refine .inr ⟨fun h2 => ?_, fun h2 => a6 rfl h2⟩
            rw [show n + (d.getD i 0 - n) = d.getD i 0 by omega, hinv] at h2 ⊢
            exact a2 _ ((u4 hsl).2 (.inr (p1 rfl h2)))
          · exact .inl h1
        · exact .inr h1
  | f + 1, false, i, met, h, hi, hl, p1, p2 => by
    obtain ⟨hn, hpe, _⟩ := zz he
    rw [zp] at h
    split at h
    · rename_i hlt
      cases h
      exact ⟨hl, fun x h => h, fun x h => .inr h, fun x _ h => .inl h, (fun h => by cases h), fun _ h => absurd hlt (by omega)⟩
    · rename_i hlt
      have hs := (hpe i hi).1
      have hinv := (hpe i hi).2.2
      have hsl : e.getD i 0 < met.length := by omega
      obtain ⟨a1, a2, a3, a4, a5, _⟩ := Vf hd he h (by omega) (by rw [List.length_set]; exact hl) (fun _ _ => (u4 hsl).2 (.inl (by omega))) (fun h => by cases h)
      have hself : mt met' (e.getD i 0) := a2 _ ((u4 hsl).2 (.inl rfl))
      refine ⟨a1, fun x hx => a2 x ((u4 hsl).2 (.inr hx)), fun x hx => ?_, fun x hx hm => ?_, (fun h => by cases h), fun _ _ => hself⟩
      · rcases a3 x hx with h1 | h1
        · exact .inl h1
        · rcases (u4 hsl).1 h1 with rfl | h1
          · exact .inl (by omega)
          · exact .inr h1
      · rcases a4 x hx hm with h1 | h1
        · rcases (u4 hsl).1 h1 with rfl | h1
          · refine .inr ⟨fun h2 => a5 rfl h2, fun h2 => ?_⟩
            rw [hinv] at h2 ⊢
            exact a2 _ ((u4 hsl).2 (.inr (p2 rfl h2)))
          · exact .inl h1
        · exact .inr h1
noncomputable def fol (n : Nat) (d e : List Nat) (u : Bool) (i : Nat) (met : List Bool) : List Bool := (Classical.epsilon fun r : Nat × Bool × List Bool => ∃ f, zp n d e f u i met = some r).2.2
theorem qit {n : Nat} {d e : List Nat} {f : Nat} {u : Bool} {i : Nat} {met : List Bool} {r : Nat × Bool × List Bool} (h : zp n d e f u i met = some r) : fol n d e u i met = r.2.2 := by
  have : ∃ r : Nat × Bool × List Bool, ∃ f, zp n d e f u i met = some r := ⟨r, f, h⟩
  obtain ⟨f', h'⟩ := Classical.epsilon_spec this
  unfold fol
  rw [qma h' h]
noncomputable def qfu (n : Nat) (d e : List Nat) : Nat → List Bool
  | 0 => List.replicate 8 false
  | k + 1 => fol n d e false (n + k) (fol n d e true k (qfu n d e k))
structure Met (n : Nat) (d e : List Nat) (k : Nat) (met : List Bool) : Prop where
  len : met.length = 8
  lt : ∀ x, mt met x → x < n
  cl : CLs n d e (mt met)
  top : ∀ i, i < k → n ≤ d.getD i 0 → mt met (d.getD i 0 - n)
  bot : ∀ i, i < k → e.getD (n + i) 0 < n → mt met (e.getD (n + i) 0)
theorem J9 {n : Nat} {d e : List Nat} (hd : isS n d = true) (he : isS n e = true) : ∀ k, k ≤ n → Met n d e k (qfu n d e k)
  | 0, _ => ⟨by simp [qfu], fun x h => absurd h quf, fun x _ h => absurd h quf, fun i hi => by omega, fun i hi => by omega⟩
  | k + 1, hk => by
    have ih := J9 hd he k (by omega)
    obtain ⟨f1, m1, e1⟩ := Y8 hd he (i := k) (by omega) (qfu n d e k)
    rw [decide_eq_true (by omega)] at e1
    have g1 := qit e1
    obtain ⟨a1, a2, a3, a4, a5, _⟩ := Vf hd he e1 (by omega) ih.len (fun _ h => by omega) (fun h => by cases h)
    obtain ⟨f2, m2, e2⟩ := Y8 hd he (i := n + k) (by omega) m1
    rw [decide_eq_false (by omega)] at e2
    have g2 := qit e2
    obtain ⟨b1, b2, b3, b4, _, b6⟩ := Vf hd he e2 (by omega) a1 (fun h => by cases h) (fun _ h => by omega)
    simp only [qfu, g1, g2]
    refine ⟨b1, fun x hx => ?_, fun x hx hm => ?_, fun i hi h => ?_, fun i hi h => ?_⟩
    · rcases b3 x hx with h | h
      · exact h
      · rcases a3 x h with h | h
        · exact h
        · exact ih.lt x h
    · rcases b4 x hx hm with h | h
      · rcases a4 x hx h with h | h
        · have := ih.cl x hx h
          exact ⟨fun h => b2 _ (a2 _ (this.1 h)), fun h => b2 _ (a2 _ (this.2 h))⟩
        · exact ⟨fun h1 => b2 _ (h.1 h1), fun h1 => b2 _ (h.2 h1)⟩
      · exact h
    · by_cases e : i = k
      · subst e; exact b2 _ (a5 rfl h)
      · exact b2 _ (a2 _ (ih.top i (by omega) h))
    · by_cases e : i = k
      · subst e; exact b6 rfl h
      · exact b2 _ (a2 _ (ih.bot i (by omega) h))
def M0 (n : Nat) (d e : List Nat) (x : Nat) : Prop := mt (qfu n d e n) x
def dm (n : Nat) (d : List Nat) (x : Nat) : Nat := d.getD (n + x) 0 - n
def em (e : List Nat) (x : Nat) : Nat := e.getD x 0
structure Inv (X : Nat → Prop) (f : Nat → Nat) : Prop where
  mem : ∀ x, X x → X (f x)
  inv : ∀ x, X x → f (f x) = x
  fix : ∀ x, X x → f x ≠ x
def XX (n : Nat) (d e : List Nat) (x : Nat) : Prop := x < n ∧ ¬ M0 n d e x
theorem qku {n : Nat} {d e : List Nat} (hd : isS n d = true) (he : isS n e = true) {x : Nat} (h : XX n d e x) : n ≤ d.getD (n + x) 0 ∧ d.getD (n + x) 0 < 2 * n ∧ e.getD x 0 < n := by
  obtain ⟨hn, hpd, _⟩ := zz hd
  obtain ⟨_, hpe, _⟩ := zz he
  have hm := J9 hd he n (Nat.le_refl _)
  have h1 := hpd (n + x) (by have := h.1; omega)
  have h2 := hpe x (by have := h.1; omega)
  have hx := h.1
  refine ⟨Nat.le_of_not_lt fun hlt => h.2 ?_, h1.1, Nat.lt_of_not_le fun hge => h.2 ?_⟩
  · have := hm.top _ hlt (by rw [h1.2.2]; omega)
    rw [h1.2.2, show n + x - n = x by omega] at this
    exact this
  · have := hm.bot (e.getD x 0 - n) (by omega) (by rw [show n + (e.getD x 0 - n) = e.getD x 0 by omega, h2.2.2]; exact hx)
    rw [show n + (e.getD x 0 - n) = e.getD x 0 by omega, h2.2.2] at this
    exact this
theorem qbn {n : Nat} {d e : List Nat} (hd : isS n d = true) (he : isS n e = true) : Inv (XX n d e) (dm n d) := by
  obtain ⟨hn, hpd, _⟩ := zz hd
  have hm := J9 hd he n (Nat.le_refl _)
  have key : ∀ x, XX n d e x → n + dm n d x = d.getD (n + x) 0 ∧ d.getD (d.getD (n + x) 0) 0 = n + x ∧ dm n d x < n := fun x hx => by
    have h1 := hpd (n + x) (by have := hx.1; omega)
    obtain ⟨g1, g2, g3⟩ := qku hd he hx
    unfold dm
    exact ⟨by omega, h1.2.2, by omega⟩
  refine ⟨fun x hx => ?_, fun x hx => ?_, fun x hx e => ?_⟩
  · obtain ⟨k1, k2, k3⟩ := key x hx
    refine ⟨k3, fun hM => hx.2 ?_⟩
    have := (hm.cl (dm n d x) k3 hM).1 (by rw [k1, k2]; omega)
    rw [k1, k2, show n + x - n = x by omega] at this
    exact this
  · obtain ⟨k1, k2, k3⟩ := key x hx
    show d.getD (n + dm n d x) 0 - n = x
    rw [k1, k2]; omega
  · obtain ⟨k1, k2, k3⟩ := key x hx
    have h1 := hpd (n + x) (by have := hx.1; omega)
    rw [e] at k1
    exact h1.2.1 k1.symm
theorem qbk {n : Nat} {d e : List Nat} (hd : isS n d = true) (he : isS n e = true) : Inv (XX n d e) (em e) := by
  obtain ⟨hn, hpe, _⟩ := zz he
  have hm := J9 hd he n (Nat.le_refl _)
  refine ⟨fun x hx => ?_, fun x hx => (hpe x (by have := hx.1; omega)).2.2, fun x hx => (hpe x (by have := hx.1; omega)).2.1⟩
  obtain ⟨g1, g2, g3⟩ := qku hd he hx
  refine ⟨g3, fun hM => hx.2 ?_⟩
  have h1 := (hpe x (by have := hx.1; omega)).2.2
  have := (hm.cl _ g3 hM).2 (by show e.getD (e.getD x 0) 0 < n; rw [h1]; exact hx.1)
  have h2 : M0 n d e (e.getD (e.getD x 0) 0) := this
  rw [h1] at h2
  exact h2
inductive Ring (f g : Nat → Nat) (k0 : Nat) : Nat → Prop
  | base : Ring f g k0 k0
  | one {x : Nat} : Ring f g k0 x → Ring f g k0 (f x)
  | two {x : Nat} : Ring f g k0 x → Ring f g k0 (g x)
theorem Ring.swap {f g : Nat → Nat} {k0 x : Nat} (h : Ring f g k0 x) : Ring g f k0 x := by
  induction h with
  | base => exact .base
  | one _ ih => exact .two ih
  | two _ ih => exact .one ih
theorem Ring.mem {X : Nat → Prop} {f g : Nat → Nat} (hf : Inv X f) (hg : Inv X g) {k0 x : Nat} (h0 : X k0) (h : Ring f g k0 x) : X x := by
  induction h with
  | base => exact h0
  | one _ ih => exact hf.mem _ ih
  | two _ ih => exact hg.mem _ ih
theorem Ring.trans {f g : Nat → Nat} {a b c : Nat} (h : Ring f g a b) (h' : Ring f g b c) : Ring f g a c := by
  induction h' with
  | base => exact h
  | one _ ih => exact .one ih
  | two _ ih => exact .two ih
theorem Ring.symm {X : Nat → Prop} {f g : Nat → Nat} (hf : Inv X f) (hg : Inv X g) {a b : Nat} (h0 : X a) (h : Ring f g a b) : Ring f g b a := by
  induction h with
  | base => exact .base
  | @one x hx ih =>
    have : Ring f g (f x) x := by
      have := Ring.one (Ring.base (f := f) (g := g) (k0 := f x))
      rwa [hf.inv x (Ring.mem hf hg h0 hx)] at this
    exact this.trans ih
  | @two x hx ih =>
    have : Ring f g (g x) x := by
      have := Ring.two (Ring.base (f := f) (g := g) (k0 := g x))
      rwa [hg.inv x (Ring.mem hf hg h0 hx)] at this
    exact this.trans ih
structure qfw (X : Nat → Prop) (f g : Nat → Nat) (k0 : Nat) (T : Nat → Prop) (last : Nat) : Prop where
  ring : ∀ x, T x → Ring f g k0 x
  m0 : T k0
  lm : T last
  ne : last ≠ k0
  cl : ∀ x, T x → T (f x)
  st : ∀ x, T x → x ≠ k0 → x ≠ last → T (g x) ∧ g x ≠ k0 ∧ g x ≠ last
theorem qfw.start {X : Nat → Prop} {f g : Nat → Nat} (hf : Inv X f) {k0 : Nat} (h0 : X k0) : qfw X f g k0 (fun x => x = k0 ∨ x = f k0) (f k0) :=
  ⟨fun x h => h.elim (fun e => e ▸ .base) (fun e => e ▸ .one .base), .inl rfl, .inr rfl, hf.fix k0 h0, fun x h => h.elim (fun e => .inr (by rw [e])) (fun e => .inl (by rw [e]; exact hf.inv _ h0)), fun x h h1 h2 => h.elim (fun e => absurd e h1) (fun e => absurd e h2)⟩
theorem qfw.stop {X : Nat → Prop} {f g : Nat → Nat} (hf : Inv X f) (hg : Inv X g) {k0 last : Nat} {T : Nat → Prop} (h0 : X k0) (h : qfw X f g k0 T last) (hk : T (g last)) : g last = k0 ∧ ∀ x, T x ↔ Ring f g k0 x := by
  have hX : ∀ x, T x → X x := fun x hx => Ring.mem hf hg h0 (h.ring x hx)
  have e : g last = k0 := Classical.byContradiction fun hne => by
    have h1 := hg.fix last (hX _ h.lm)
    have h2 := (h.st _ hk hne h1).2.2
    exact h2 (hg.inv _ (hX _ h.lm))
  have hcl : ∀ x, T x → T (g x) := fun x hx => by
    by_cases h1 : x = k0
    · subst h1
      rw [← e, hg.inv _ (hX _ h.lm)]; exact h.lm
    by_cases h2 : x = last
    · subst h2; rw [e]; exact h.m0
    · exact (h.st x hx h1 h2).1
  refine ⟨e, fun x => ⟨h.ring x, fun hr => ?_⟩⟩
  induction hr with
  | base => exact h.m0
  | one _ ih => exact h.cl _ ih
  | two _ ih => exact hcl _ ih
theorem qfw.next {X : Nat → Prop} {f g : Nat → Nat} (hf : Inv X f) (hg : Inv X g) {k0 last : Nat} {T : Nat → Prop} (h0 : X k0) (h : qfw X f g k0 T last) (hk : ¬ T (g last)) : qfw X f g k0 (fun x => x = g last ∨ x = f (g last) ∨ T x) (f (g last)) ∧ ¬ T (f (g last)) ∧ f (g last) ≠ g last := by
  have hX : ∀ x, T x → X x := fun x hx => Ring.mem hf hg h0 (h.ring x hx)
  have hk' : X (g last) := hg.mem _ (hX _ h.lm)
  have hne : f (g last) ≠ g last := hf.fix _ hk'
  have hnT : ¬ T (f (g last)) := fun hT => hk (by have := h.cl _ hT; rwa [hf.inv _ hk'] at this)
  refine ⟨⟨fun x hx => ?_, .inr (.inr h.m0), .inr (.inl rfl), fun e => hnT (by rw [e]; exact h.m0), fun x hx => ?_, fun x hx h1 h2 => ?_⟩, hnT, hne⟩
  · rcases hx with rfl | rfl | hx
    · exact .two (h.ring _ h.lm)
    · exact .one (.two (h.ring _ h.lm))
    · exact h.ring x hx
  · rcases hx with rfl | rfl | hx
    · exact .inr (.inl rfl)
    · rw [hf.inv _ hk']; exact .inl rfl
    · exact .inr (.inr (h.cl x hx))
  · rcases hx with rfl | rfl | hx
    · rw [hg.inv _ (hX _ h.lm)]
      exact ⟨.inr (.inr h.lm), h.ne, fun e => hnT (by rw [← e]; exact h.lm)⟩
    · exact absurd rfl h2
    · by_cases e : x = last
      · subst e
        exact ⟨.inl rfl, fun e => hk (by rw [e]; exact h.m0), fun e => hne e.symm⟩
      · obtain ⟨q1, q2, q3⟩ := h.st x hx h1 e
        exact ⟨.inr (.inr q1), q2, fun e2 => hnT (by rw [← e2]; exact q1)⟩
def Seen (n : Nat) (d e : List Nat) (i x : Nat) : Prop := M0 n d e x ∨ ∃ j, j < i ∧ XX n d e j ∧ Ring (dm n d) (em e) j x
open Classical in
noncomputable def lpN (n : Nat) (d e : List Nat) : Nat → Nat
  | 0 => 0
  | i + 1 => if Seen n d e i i then lpN n d e i else lpN n d e i + 1
theorem qiw (n : Nat) (d e : List Nat) : ∀ i, lpN n d e i ≤ i
  | 0 => Nat.le_refl _
  | i + 1 => by
    have := qiw n d e i
    unfold lpN; split <;> omega
theorem q2f {n : Nat} {d e : List Nat} (hd : isS n d = true) (he : isS n e = true) {i x : Nat} (h : Seen n d e i x) : x < n := by
  rcases h with h | ⟨j, _, hj, hr⟩
  · exact (J9 hd he n (Nat.le_refl _)).lt x h
  · exact (Ring.mem (qbn hd he) (qbk hd he) hj hr).1
theorem qo2 {n : Nat} {d e : List Nat} (hd : isS n d = true) (he : isS n e = true) {i : Nat} (hi : Seen n d e i i) (x : Nat) : Seen n d e (i + 1) x ↔ Seen n d e i x := by
  constructor
  · rintro (h | ⟨j, hj, hX, hr⟩)
    · exact .inl h
    · by_cases e1 : j = i
      · subst e1
        rcases hi with h | ⟨k, hk, hX', hr'⟩
        · exact absurd h hX.2
        · exact .inr ⟨k, hk, hX', hr'.trans hr⟩
      · exact .inr ⟨j, by omega, hX, hr⟩
  · rintro (h | ⟨j, hj, hX, hr⟩)
    · exact .inl h
    · exact .inr ⟨j, by omega, hX, hr⟩
theorem qnn {n : Nat} {d e : List Nat} {i : Nat} (hin : i < n) (hi : ¬ Seen n d e i i) (x : Nat) : Seen n d e (i + 1) x ↔ Seen n d e i x ∨ Ring (dm n d) (em e) i x := by
  have hX : XX n d e i := ⟨hin, fun h => hi (.inl h)⟩
  constructor
  · rintro (h | ⟨j, hj, hX', hr⟩)
    · exact .inl (.inl h)
    · by_cases e1 : j = i
      · subst e1; exact .inr hr
      · exact .inl (.inr ⟨j, by omega, hX', hr⟩)
  · rintro ((h | ⟨j, hj, hX', hr⟩) | hr)
    · exact .inl h
    · exact .inr ⟨j, by omega, hX', hr⟩
    · exact .inr ⟨i, by omega, hX, hr⟩
theorem Ut {n : Nat} {d e : List Nat} (hd : isS n d = true) (he : isS n e = true) {i x : Nat} (hin : i < n) (hi : ¬ Seen n d e i i) (h : Ring (dm n d) (em e) i x) : ¬ Seen n d e i x := by
  have hX : XX n d e i := ⟨hin, fun h => hi (.inl h)⟩
  rintro (h1 | ⟨j, hj, hX', hr⟩)
  · exact (Ring.mem (qbn hd he) (qbk hd he) hX h).2 h1
  · exact hi (.inr ⟨j, hj, hX', hr.trans (h.symm (qbn hd he) (qbk hd he) hX)⟩)
def chL (n : Int) (φ : List Nat → List Nat) (κ : List Nat → Int) (acc a : List (Int × List Nat × Int)) : List (Int × List Nat × Int) := a.foldl (fun acc t => gu n (φ t.2.1) (t.2.2 * κ t.2.1) acc) acc
def chP (p n : Int) (φ : List Nat → List Nat) (κ : List Nat → Int) (acc a : List (Int × List Nat × Int)) : List (Int × List Nat × Int) := a.foldl (fun acc t => qgo p acc n (φ t.2.1) (t.2.2 * κ t.2.1)) acc
def Ja (φ : List Nat → List Nat) (κ : List Nat → Int) (m : List Nat) : List (Int × List Nat × Int) → Int
  | [] => 0
  | t :: l => (if φ t.2.1 = m then t.2.2 * κ t.2.1 else 0) + Ja φ κ m l
theorem qzf {n : Int} {φ : List Nat → List Nat} {κ : List Nat → Int} {acc a : List (Int × List Nat × Int)} {i : Nat} (h : i < a.length) : chL n φ κ acc (a.take (i + 1)) = gu n (φ a[i].2.1) (a[i].2.2 * κ a[i].2.1) (chL n φ κ acc (a.take i)) := by
  rw [List.take_succ_eq_append_getElem h, chL, List.foldl_append]; rfl
theorem qtl {n : Int} {φ : List Nat → List Nat} {κ : List Nat → Int} : ∀ {a acc : List (Int × List Nat × Int)}, (chL n φ κ acc a).length ≤ acc.length + a.length
  | [], acc => by simp [chL]
  | t :: b, acc => by
    have h1 := qhl (n := n) (m := φ t.2.1) (f := t.2.2 * κ t.2.1) (ts := acc)
    have h2 := qtl (n := n) (φ := φ) (κ := κ) (a := b) (acc := gu n (φ t.2.1) (t.2.2 * κ t.2.1) acc)
    have h3 : chL n φ κ acc (t :: b) = chL n φ κ (gu n (φ t.2.1) (t.2.2 * κ t.2.1) acc) b := rfl
    rw [h3, List.length_cons]; omega
def qhw (n : Int) (F : Int) (φ : List Nat → List Nat) (κ : List Nat → Int) (a : List (Int × List Nat × Int)) : Prop := ∀ t ∈ a, okD (φ t.2.1) ∧ isS n.toNat (φ t.2.1) = true ∧ -F ≤ t.2.2 * κ t.2.1 ∧ t.2.2 * κ t.2.1 ≤ F
theorem qhw.take {n F : Int} {φ : List Nat → List Nat} {κ : List Nat → Int} {a : List (Int × List Nat × Int)} (h : qhw n F φ κ a) (i : Nat) : qhw n F φ κ (a.take i) := fun t ht => h t (List.mem_of_mem_take ht)
theorem qlw {n F : Int} {φ : List Nat → List Nat} {κ : List Nat → Int} (hF : 0 ≤ F) : ∀ {a acc : List (Int × List Nat × Int)} {M : Int}, 0 ≤ M → qak n M acc → qhw n F φ κ a → qak n (M + F * a.length) (chL n φ κ acc a)
  | [], acc, M, hM, h, _ => by simpa [chL] using h
  | t :: b, acc, M, hM, h, hb => by
    obtain ⟨h1, h3, h4⟩ := hb t (List.mem_cons_self ..)
    have h5 := qo9 h1 h3 h4 hM h
    have := qlw hF (a := b) (by omega) h5 fun u hu => hb u (List.mem_cons_of_mem _ hu)
    rw [List.length_cons, show M + F * ((b.length + 1 : Nat) : Int) = M + F + F * b.length by rw [Int.natCast_add, Int.mul_add]; omega]
    exact this
theorem Kf {p n F : Int} {φ : List Nat → List Nat} {κ : List Nat → Int} (hp : 0 < p) : ∀ {a acc : List (Int × List Nat × Int)}, z8 p n acc → qhw n F φ κ a → z8 p n (chP p n φ κ acc a) ∧ (chP p n φ κ acc a).length ≤ acc.length + a.length
  | [], acc, h, _ => ⟨h, by simp [chP]⟩
  | t :: b, acc, h, hb => by
    obtain ⟨h1, h3, h4⟩ := hb t (List.mem_cons_self ..)
    have h5 := qk3 (k := t.2.2 * κ t.2.1) hp h1 h3 h
    have h6 := qp1 (p := p) (n := n) (m := φ t.2.1) (k := t.2.2 * κ t.2.1) (ts := acc)
    have := Kf hp (a := b) h5 fun u hu => hb u (List.mem_cons_of_mem _ hu)
    refine ⟨this.1, ?_⟩
    have h7 := this.2
    have h3 : chP p n φ κ acc (t :: b) = chP p n φ κ (qgo p acc n (φ t.2.1) (t.2.2 * κ t.2.1)) b := rfl
    rw [h3, List.length_cons]; omega
theorem q1b {n : Int} {φ : List Nat → List Nat} {κ : List Nat → Int} {m : List Nat} : ∀ {a acc : List (Int × List Nat × Int)}, (∀ t ∈ acc, t.1 = n) → cf m (chL n φ κ acc a) = cf m acc + Ja φ κ m a
  | [], acc, h => by simp [chL, Ja]
  | t :: b, acc, h => by
    have h1 : ∀ u ∈ gu n (φ t.2.1) (t.2.2 * κ t.2.1) acc, u.1 = n := fun u hu => by
      rcases Wa hu with ⟨v, hv, e, _⟩ | ⟨rfl, _⟩
      · rw [e]; exact h v hv
      · rfl
    have ih := q1b (φ := φ) (κ := κ) (m := m) (a := b) h1
    have e : chL n φ κ acc (t :: b) = chL n φ κ (gu n (φ t.2.1) (t.2.2 * κ t.2.1) acc) b := rfl
    rw [e, ih, qgi h, Ja]
    omega
theorem qh3 {p n : Int} {φ : List Nat → List Nat} {κ : List Nat → Int} {m : List Nat} : ∀ {a acc : List (Int × List Nat × Int)}, (∀ t ∈ acc, t.1 = n) → p ∣ cf m (chP p n φ κ acc a) - (cf m acc + Ja φ κ m a)
  | [], acc, h => by simp [chP, Ja]
  | t :: b, acc, h => by
    have ih := qh3 (p := p) (φ := φ) (κ := κ) (m := m) (a := b) (qs7 (p := p) (m := φ t.2.1) (k := t.2.2 * κ t.2.1) h)
    have h1 := qti (p := p) (k := t.2.2 * κ t.2.1) (m := m) (m' := φ t.2.1) h
    have e : chP p n φ κ acc (t :: b) = chP p n φ κ (qgo p acc n (φ t.2.1) (t.2.2 * κ t.2.1)) b := rfl
    rw [e]
    refine u5 ih h1 ?_
    rw [Ja]
    omega
theorem q56 {p n F : Int} {φ : List Nat → List Nat} {κ : List Nat → Int} {a : List (Int × List Nat × Int)} (hp : 0 < p) (hF : 0 ≤ F) (h : qhw n F φ κ a) : Qs (zr p (chL n φ κ [] a)) = chP p n φ κ [] a := by
  have h0 : z8 p n [] := ⟨(fun t h => by cases h), (fun t h => by cases h), (fun t h => by cases h), .nil⟩
  refine G6 hp (qiu hp (qlw hF (Int.le_refl 0) sum_nil h)) (Kf hp h0 h).1 fun m => ?_
  have h1 := q1b (n := n) (φ := φ) (κ := κ) (m := m) (acc := []) (a := a) (by simp)
  have h2 := qh3 (p := p) (n := n) (φ := φ) (κ := κ) (m := m) (acc := []) (a := a) (by simp)
  have h3 := qmw (p := p) (m := m) (S := chL n φ κ [] a)
  refine Yg h3 h2 ?_
  rw [h1]
  simp only [cf]; omega
def xa (p c : Int) : Nat → Int
  | 0 => 1
  | k + 1 => (xa p c k * c).emod p
theorem qlp {p c : Int} (hp : 2 ≤ p) : ∀ k, 0 ≤ xa p c k ∧ xa p c k ≤ p - 1
  | 0 => by unfold xa; omega
  | k + 1 => by
    have h1 := Int.emod_nonneg (xa p c k * c) (show p ≠ 0 by omega)
    have h2 := Int.emod_lt_of_pos (xa p c k * c) (show 0 < p by omega)
    show 0 ≤ (xa p c k * c) % p ∧ (xa p c k * c) % p ≤ p - 1
    omega
theorem pow_mul {p c x : Int} (hp : 2 ≤ p ∧ p ≤ 97) (hc : 0 ≤ c ∧ c ≤ p - 1) (hx : 0 ≤ x ∧ x ≤ p - 1) : qn .i64 (x * c) = x * c ∧ Int.tmod (x * c) p = (x * c).emod p ∧ 0 ≤ x * c ∧ x * c ≤ 9216 := by
  have h0 : 0 ≤ x * c := Int.mul_nonneg hx.1 hc.1
  have h1 : x * c ≤ 96 * 96 := Int.mul_le_mul (by omega) (by omega) hc.1 (by omega)
  exact ⟨wrap64 (by omega) (by omega), Int.tmod_eq_emod_of_nonneg h0, h0, by omega⟩
def B53 : zb := B39
theorem q5q : qo Try.prog B53 := qr7
theorem q4o (a b : Nat) : Int.tmod (a : Int) (b : Int) = ((a % b : Nat) : Int) := rfl
theorem qgm {N : Nat} {m : List Nat} (h : isS N m = true) {i : Nat} (hi : i < 2 * N) : m.getD i 0 < 2 * N := ((zz h).2.1 i hi).1
theorem Vu {n : Int} {m : List Nat} : List.take 1 (dia n m) = [.int .i64 n] := rfl
theorem x9 {x : Nat} (h : x < 16) : ((0 : Int) ≤ (x : Int) ∧ (x : Int) < ((16 : Nat) : Int)) ∧ 1 + x < 17 := by omega
theorem q7e (a b : Nat) : Int.tdiv (a : Int) (b : Int) = ((a / b : Nat) : Int) := rfl
abbrev elC (p c n : Int) (k : Nat) : List AV := [.int .i64 p, .int .i64 c, .int .i64 n, .slc 0 0 k false 0]
def y9 : AT := (.one (oM 30 7) (.one (oN 31 17 10) (.one (oF 33 17 9) (.one (oL 34 33) (.one (oM 35 11) (.one (oP 36 .mul 34 35) (.alt (o0 32 (.lookup [.int,.int,.int,.int,.int,.int,.int,.int,.int,.int,.int,.int,.int,.int,.int,.int,.int] true (.int .i64 0) false (.t 30) (.t 31))) (.one (oP 37 .add 32 36) (.one (o0 38 (.Jh [.int,.int,.int,.int,.int,.int,.int,.int,.int,.int,.int,.int,.int,.int,.int,.int,.int] true (.int .i64 0) (.t 30) (.t 31))) (.one (oE 39 1 38) (.one ⟨none,none,.op (.Bj (.t 30) (.t 39) (.t 37))⟩ (.nil))))) (.alt (o0 38 (.Jh [.int,.int,.int,.int,.int,.int,.int,.int,.int,.int,.int,.int,.int,.int,.int,.int,.int] true (.int .i64 0) (.t 30) (.t 31))) (.one (o0 32 (.lookup [.int,.int,.int,.int,.int,.int,.int,.int,.int,.int,.int,.int,.int,.int,.int,.int,.int] true (.int .i64 0) false (.t 30) (.t 31))) (.one (oP 37 .add 32 36) (.one (oE 39 1 38) (.one ⟨none,none,.op (.Bj (.t 30) (.t 39) (.t 37))⟩ (.nil))))) (.none)))))))))
def Zc : AC := .region [oK 40 .add 19 1,oM 19 40]
def y5 : AC := .seq (.region [oP 20 .lss 19 18]) (.seq (.cond 20 .skip (.exit 0)) (.seq (.block 1 (.seq (.region [oX 21 18 17 19,oN 22 18 21,o0 9 (.alloc [.int .i64 0,.int .u8 0,.int .u8 0,.int .u8 0,.int .u8 0,.int .u8 0,.int .u8 0,.int .u8 0,.int .u8 0,.int .u8 0,.int .u8 0,.int .u8 0,.int .u8 0,.int .u8 0,.int .u8 0,.int .u8 0,.int .u8 0,.int .i64 0]),oS 18 9 22]) (.seq (.region [oM 24 2,oF 25 0 9,oN 26 17 25,⟨some 27,none,.call (.t 24) [.t 26]⟩,oM 23 27,oE 28 0 23,oE 29 1 23,oD 10,oS 17 10 28,oM 11 29]) (.tree false y9)))) Zc))
def Z3 : AC := .seq (.region [oM 41 0,oM 42 7,oC 43 105 [.t 41,.t 42],oZ 12,oS 4 12 43]) (.seq (.region [oM 44 1,oF 45 2 12,oT 45 44]) (.seq (.region [oN 46 4 12,oS 4 6 46]) .ret))
def J3 : AC := .seq (.region [oZ 6]) (.seq (.region [o0 13 (.Ku),oM 7 13]) (.seq (.seq (.region [oM 14 0,o0 15 (.x7 (.t 14)),oF 16 3 15,oL 17 16,o0 18 (.len .slc (.t 17)),oI 19 0]) (.block 0 (.loop y5))) Z3))
theorem qaj : zh Try.prog 175 = some ⟨47, J3, [.bg 6 4]⟩ := by kernel_rfl
theorem qw2 {B : zb} (hB : qo Try.prog B) (hwith : B 105 = some j3) {fid : Nat} {g : BE} (hf : B fid = some g) {caps : List AV} (hc1 : AV.qt 2 caps) (hc2 : AV.xf [0, 1, 2, 3] caps = true) (hc3 : AV.zg (yy [0, 1, 2, 3]) caps = caps)
    (p c n n' : Int) (a : List (Int × List Nat × Int)) (φ : List Nat → List Nat) (κ : List Nat → Int) (hp : 2 ≤ p ∧ p ≤ 97) (hn : 0 ≤ n' ∧ n' ≤ 8) (ha : okT a) (has : ∀ t ∈ a, t.1 = n) (hl : a.length ≤ 100000) (hch : qhw n' 10000 φ κ a)
    (hg : ∀ t ∈ a, ∀ rest, g (.ro (xb a) :: .ro (elC p c n a.length) :: rest) (.agg (dia n t.2.1) :: caps) = some (.tup [.agg (dia n' (φ t.2.1)), .int .i64 (κ t.2.1)], .ro (xb a) :: .ro (elC p c n a.length) :: rest)) :
    Am.Fn Try.prog 175 [.ptr 1 0, .int .i64 n', .fn fid [] caps] [.ro (xb a), .ro (elC p c n a.length)] (fun v H' => v = elemV p c n' 2 (zr p (chL n' φ κ [] a)).length ∧ H' = [.ro (xb a), .ro (elC p c n a.length), .vec 18 (xb (Qs (zr p (chL n' φ κ [] a))))]) := by
  refine Am.Fn.ofB hB mixed qaj (by simp [AV.qt, AV.under]) ?_ ?_
  · intro j o hj
    match j, hj with
    | 0, hj => cases hj; exact qj _ _ (qc _)
    | 1, hj => cases hj; exact ⟨trivial, trivial, trivial, by simp [AV.under], trivial⟩
    | j + 2, hj => simp at hj
  have hal := xe ha
  simp (maxSteps := 3000000) only [qf, zH, J3, elC, elemV, hal, Nat.le_refl, iE, iN, iB, iC, iL, iD, iA, iS, iM, qa, zZ, ↓qp, ↓reduceIte, reduceCtorEq, nA, nM, nS, nE, nL, nD]; try simp only [qa, zY]
  have hsum1 : ∀ i : Nat, i ≤ a.length → qak n' (10000 * i) (chL n' φ κ [] (a.take i)) ∧ (chL n' φ κ [] (a.take i)).length ≤ i := fun i hi => by
    have h1 := qlw (n := n') (F := 10000) (φ := φ) (κ := κ) (by omega) (a := a.take i) (acc := []) (M := 0) (by omega) sum_nil (hch.take i)
    have h2 := qtl (n := n') (φ := φ) (κ := κ) (acc := []) (a := a.take i)
    rw [List.length_take, Nat.min_eq_left hi] at h1 h2
    exact ⟨by simpa using h1, by simpa using h2⟩
  refine WA.xo hB (fun s => ∃ (i : Nat), i ≤ a.length ∧ s = ⟨[(19, .int .i64 i), (18, .int .i64 a.length), (17, .slc 0 0 a.length false 0), (7, .map 3), (6, .ptr 2 0), (2, .fn fid [] caps), (1, .int .i64 n'), (0, .ptr 1 0)], [.ro (xb a), .ro (elC p c n a.length), .cells [.int .i64 0, .int .i64 0, .int .i64 0, .v (.slice none 0 0)], j5 (chL n' φ κ [] (a.take i))]⟩)
    (fun s => match get s.env 19 with | .int _ x => a.length - x.toNat | _ => 0) ⟨_, qu.qv [19, 18, 17, 7, 6, 2, 1, 0], 0, by omega, rfl⟩ ?_
  rintro s ⟨i, hi, rfl⟩
  obtain ⟨hS, hSl⟩ := hsum1 i hi
  by_cases hlt : i < a.length
  · have hli : (i : Int) < a.length := by omega
    have hli' : (0 : Int) ≤ i := by omega
    have hw : qn .i64 ((i : Int) + 1) = ((i + 1 : Nat) : Int) := by rw [wrap64 (by omega) (by omega)]; rfl
    have hg0 := Zw ha hlt
    have hok := ha _ (List.getElem_mem hlt)
    have hsz := has _ (List.getElem_mem hlt)
    have hgt := hg _ (List.getElem_mem hlt)
    obtain ⟨hokφ, hsφ, hk1, hk2⟩ := hch _ (List.getElem_mem hlt)
    have hb1 : i * 18 < a.length * 18 := by omega
    have hb2 : i * 18 + 18 ≤ a.length * 18 := by omega
    have hn1 := qzf (n := n') (φ := φ) (κ := κ) (acc := []) hlt
    obtain ⟨t, ht⟩ : ∃ t, t = a[i] := ⟨_, rfl⟩
    rw [← ht] at hg0 hok hsz hgt hokφ hsφ hk1 hk2 hn1
    clear ht
    obtain ⟨tn, m, f⟩ := t
    simp only at hg0 hok hsz hgt hokφ hsφ hk1 hk2 hn1
    have hsz1 := hsz.symm
    subst hsz1
    have hov := X9 (t := (0, List.replicate 16 0, 0)) (u := (n, m, f)) (by simp) hok.1
    have htl := xv (t := (n, m, f)) hok
    have htd := Y1 (t := (n, m, f)) hok
    have htf := Qr (t := (n, m, f)) hok
    obtain ⟨kf, hkfe⟩ : ∃ kf, kf = f * κ m := ⟨_, rfl⟩
    have hwk : qn .i64 (f * κ m) = kf := by rw [hkfe]; exact wrap64 (by omega) (by omega)
    rw [← hkfe] at hk1 hk2 hn1
    have hφl := hokφ.1
    generalize φ m = m' at hgt hokφ hsφ hn1 hφl
    simp (maxSteps := 3000000) only [qf, zH, y5, hf, hgt, elC, hli, hli', hal, hb1, hb2, hw, hg0, Zb, htl, htd, htf, Z2, vo, hov, x8, zm, Qy hφl, qe, hφl, zq, List.length_replicate, Nat.le_refl, iE, iN, iB, iC, iL, iD, iA, iS, iM, qa, zZ, ↓qp, ↓reduceIte, reduceCtorEq, nA, nM, nS, nE, nL, nD]; try simp only [qa, zY]
    refine WA.qfi hB (fun s => s = ⟨[(19, .int .i64 i), (18, .int .i64 a.length), (17, .slc 0 0 a.length false 0), (7, .map 3), (6, .ptr 2 0), (2, .fn fid [] caps), (1, .int .i64 n'), (0, .ptr 1 0)], [.ro (xb a), .ro (elC p c n a.length), .cells [.int .i64 0, .int .i64 0, .int .i64 0, .v (.slice none 0 0)], j5 (chL n' φ κ [] (a.take (i + 1)))]⟩) ?_ ?_
    · rw [hn1]
      generalize chL n' φ κ [] (a.take i) = S at hS hSl
      have hmT : j5 S = .map (esT 0 S) S.length := rfl
      have hkok : kok KD true (.agg (dia n' m')) = true := qcj hφl
      have hall := qw (n := n') hφl
      cases hix : Za n' m' S with
      | none =>
        obtain ⟨f1, f2, f3, f4, f5⟩ := qdl hokφ hS.ok hix
        have hw0 : qn .i64 (0 + kf) = kf := by rw [wrap64 (by omega) (by omega)]; omega
        unfold y9
        simp (maxSteps := 3000000) only [qf, zH, b8, Q3, hmT, hkok, f1, f2, f3, f4, htl, htd, htf, hw0, hwk, qe, hφl, hall, jb, iE, iN, iB, iC, iL, iD, iA, iS, iM, qa, zZ, ↓qp, ↓reduceIte, reduceCtorEq, nA, nM, nS, nE, nL, nD]; try simp only [qa, zY]
        refine ⟨⟨_, qu.xy [0, 1, 2, 3] [19, 18, 17, 7, 6, 2, 1, 0] ⟨by decide, ?_⟩ ?_, ?_⟩, _, qu.xy [0, 1, 2, 3] [19, 18, 17, 7, 6, 2, 1, 0] ⟨by decide, ?_⟩ ?_, ?_⟩
        · simp only [qh _ _ (qc _), ↓q9, elC, zK, ↓reduceIte, reduceCtorEq, nE, nB, nA]
        · simp only [qh _ _ (qc _), ↓q9, hc2, zK, ↓reduceIte, reduceCtorEq, nE, nB, nA]
        · simp only [qb _ _ (qc _), ↓vf, hc3, elC, zL, ↓reduceIte, reduceCtorEq, nE, nA]
          rw [j5, f5]
        · simp only [qh _ _ (qc _), ↓q9, elC, zK, ↓reduceIte, reduceCtorEq, nE, nB, nA]
        · simp only [qh _ _ (qc _), ↓q9, hc2, zK, ↓reduceIte, reduceCtorEq, nE, nB, nA]
        · simp only [qb _ _ (qc _), ↓vf, hc3, elC, zL, ↓reduceIte, reduceCtorEq, nE, nA]
          rw [j5, f5]
      | some j =>
        obtain ⟨f1, f2, f3, f4, f5⟩ := qee hφl hS.ok hix
        have hj := U8 hix
        have hfj := hS.fac _ (show S.getD j zT ∈ S by rw [qab hj.1]; exact List.getElem_mem _)
        have hw0 : qn .i64 ((S.getD j zT).2.2 + kf) = (S.getD j zT).2.2 + kf := wrap64 (by omega) (by omega)
        unfold y9
        simp (maxSteps := 3000000) only [qf, zH, b8, Q3, hmT, hkok, f1, f2, f3, f4, htl, htd, htf, hw0, hwk, qe, hφl, hall, jb, iE, iN, iB, iC, iL, iD, iA, iS, iM, qa, zZ, ↓qp, ↓reduceIte, reduceCtorEq, nA, nM, nS, nE, nL, nD]; try simp only [qa, zY]
        refine ⟨⟨_, qu.xy [0, 1, 2, 3] [19, 18, 17, 7, 6, 2, 1, 0] ⟨by decide, ?_⟩ ?_, ?_⟩, _, qu.xy [0, 1, 2, 3] [19, 18, 17, 7, 6, 2, 1, 0] ⟨by decide, ?_⟩ ?_, ?_⟩
        · simp only [qh _ _ (qc _), ↓q9, elC, zK, ↓reduceIte, reduceCtorEq, nE, nB, nA]
        · simp only [qh _ _ (qc _), ↓q9, hc2, zK, ↓reduceIte, reduceCtorEq, nE, nB, nA]
        · simp only [qb _ _ (qc _), ↓vf, hc3, elC, zL, ↓reduceIte, reduceCtorEq, nE, nA]
          rw [j5, f5]
        · simp only [qh _ _ (qc _), ↓q9, elC, zK, ↓reduceIte, reduceCtorEq, nE, nB, nA]
        · simp only [qh _ _ (qc _), ↓q9, hc2, zK, ↓reduceIte, reduceCtorEq, nE, nB, nA]
        · simp only [qb _ _ (qc _), ↓vf, hc3, elC, zL, ↓reduceIte, reduceCtorEq, nE, nA]
          rw [j5, f5]
    · rintro s rfl
      simp (maxSteps := 3000000) only [qf, zH, Zc, hw, iE, iN, iB, iC, iL, iD, iA, iS, iM, qa, zZ, ↓qp, ↓reduceIte, reduceCtorEq, nA, nM, nS, nE, nL, nD]; try simp only [qa, zY]
      refine ⟨_, qu.qv [19, 18, 17, 7, 6, 2, 1, 0], ⟨i + 1, by omega, rfl⟩, ?_⟩
      simp only [zL, ↓reduceIte, reduceCtorEq, nE, nA]; omega
  have hli : ¬ ((i : Int) < a.length) := by omega
  obtain rfl : i = a.length := by omega
  have htk : a.take a.length = a := List.take_length
  rw [htk] at hS hSl ⊢
  have hap := qds hS
  obtain ⟨hz1, hz2, hz3⟩ := qsn (p := p) hn hS
  have hSo := hS.ok
  generalize chL n' φ κ [] a = S at *
  have hmT : j5 S = .map (esT 0 S) S.length := rfl
  have hts := qgj (ts := S) (k := 0) hSo
  have hSl' : S.length ≤ 1000000 := by omega
  have hpp : 0 < p ∧ p ≤ 1000000 := by omega
  simp (maxSteps := 3000000) only [qf, zH, y5, Z3, hwith, j3, hli, hmT, Int.lt_irrefl, hts, hpp, hSl', hz1, hz2, hap, and_self, elC, elemV, iE, iN, iB, iC, iL, iD, iA, iS, iM, qa, zZ, ↓qp, ↓reduceIte, reduceCtorEq, nA, nM, nS, nE, nL, nD]; try simp only [qa, zY]
  refine ⟨hz2, rfl, rfl, rfl, ?_⟩
  refine Ret.xy [0, 1, 4] ⟨⟨by simp, rfl, by decide⟩, ?_⟩ (rs := [.agg [.int .i64 p, .int .i64 c, .int .i64 n', .slc 4 0 (zr p S).length false 0]]) rfl rfl (by simp [xt]) ?_ ⟨?_, ?_⟩
  · simp only [qh _ _ (qc _), ↓q9, zK, ↓reduceIte, reduceCtorEq, nE, nB, nA]
  · intro j l; match j with
    | 0 => exact fun _ => ⟨_, rfl⟩
    | 1 => exact fun _ => ⟨_, rfl⟩
    | 2 => simp [zj, AO.ren]
    | j + 3 => simp [zj]
  · simp only [xt]
    simp only [zL, ↓reduceIte, reduceCtorEq, nE, nA]
  · simp only [qb _ _ (qc _), zL, ↓reduceIte, reduceCtorEq, nE, nA]
def qk2 (fid : Nat) (nn : Int → Int) (φ : Nat → List Nat → List Nat) (lo hi : Int) : BE := fun hp xs => match xs with
  | [.ptr b 0, .int .i64 n', .fn f [] []] => match rd hp b with
    | some (.int .i64 p :: .int .i64 c :: .int .i64 n :: .slc ba 0 la false 0 :: _) => match rd hp ba with
      | some L => match qah la L with
        | some a => chk ((f = fid ∧ n' = nn n) ∧ ((2 ≤ p ∧ p ≤ 97) ∧ (lo ≤ n ∧ n ≤ hi)) ∧ Ug p n a ∧ la ≤ 100000) (some (elemV p c n' hp.length (chP p n' (φ n.toNat) (fun _ => 1) [] a).length, hp ++ [.vec 18 (xb (chP p n' (φ n.toNat) (fun _ => 1) [] a))]))
        | none => none
      | none => none
    | _ => none
  | _ => none
theorem q7w {B : zb} (hB : qo Try.prog B) (hwith : B 105 = some j3) {fid : Nat} {gf : List AV → Option AV} (hf : B fid = some (qk gf)) {nn : Int → Int} {φ : Nat → List Nat → List Nat} {lo hi : Int}
    (hφ : ∀ n m, lo ≤ n ∧ n ≤ hi → isS n.toNat m = true → okD (φ n.toNat m) ∧ isS (nn n).toNat (φ n.toNat m) = true) (hnn : ∀ n, lo ≤ n ∧ n ≤ hi → 0 ≤ nn n ∧ nn n ≤ 8)
    (hgf : ∀ n m, lo ≤ n ∧ n ≤ hi → okD m → isS n.toNat m = true → gf [.agg (dia n m)] = some (.tup [.agg (dia (nn n) (φ n.toNat m)), .int .i64 1])) : Am.Callee Try.prog 175 (qk2 fid nn φ lo hi) := Callee.fp fun hp xs v hp' he => by
  unfold qk2 at he
  split at he
  · rename_i b n' f
    split at he
    · rename_i p c n ba la L0 hL0
      split at he
      · rename_i L hL
        split at he
        · rename_i a h1
          obtain ⟨⟨⟨a1, a2⟩, ⟨a3, a4⟩, a5, a6⟩, he2⟩ := qm he
          simp only [Option.some.injEq, Prod.mk.injEq] at he2
          obtain ⟨rfl, rfl⟩ := he2
          subst a1; subst a2
          obtain ⟨e1, e2, e3, e4⟩ := gv h1
          have g1 := xe e2
          have hgg := a5.qfv e2
          have hch : qhw (nn n) 10000 (φ n.toNat) (fun _ => 1) a := fun t ht => by
            have h2 := hφ n t.2.1 a4 (hgg.dia t ht).2
            have h3 := hgg.fac t ht
            exact ⟨h2.1, h2.2, by show -10000 ≤ t.2.2 * 1; omega, by show t.2.2 * 1 ≤ 10000; omega⟩
          have hfn := qw2 hB hwith hf (caps := []) trivial rfl rfl p c n (nn n) a (φ n.toNat) (fun _ => 1) a3 (hnn n a4) e2 (fun t ht => (hgg.dia t ht).1) (by omega) hch fun t ht rest => by
            simp only [qk, hgf n t.2.1 a4 (e2 t ht) (hgg.dia t ht).2]
          have hlaw := q56 (p := p) (by omega) (by omega) hch
          have hlen : (zr p (chL (nn n) (φ n.toNat) (fun _ => 1) [] a)).length = (chP p (nn n) (φ n.toNat) (fun _ => 1) [] a).length := by rw [← hlaw]; exact (ua _).length_eq.symm
          rw [hlaw, hlen] at hfn
          refine ⟨[(ba, 0), (b, 0)], [.ptr 1 0, .int .i64 (nn n), .fn f [] []], _, _, _, hfn, by simp [AV.ren, AV.zg, ofL], rfl,
            ⟨⟨L, hL, by omega, by rw [List.drop_zero, qb _ _ (qc _), g1, e1]; exact e3⟩, ⟨_, hL0, by simp, by simp [AV.zg, AV.ren, ofL, e1]⟩, trivial⟩, rfl,
            ⟨qj _ _ (qc _), ⟨trivial, trivial, trivial, by simp [AV.under], trivial⟩, trivial⟩, ⟨by simp [AV.under], trivial, ⟨trivial, trivial⟩, trivial⟩, by simp [elemV, AV.ren, AV.zg, Ren.ext], ?_⟩
          simp [after, upd, AO.wr, AO.ren, qb _ _ (qc _)]
        · cases he
      · cases he
    · cases he
  · cases he
def Uh : AC := .draw false [oM 6 0,oM 7 1,oM 8 0,oM 9 2,oM 10 2,o0 11 (.conv .u8 (.t 10)),oM 12 1,o0 13 (.conv .u8 (.t 12)),o0 14 (.x7 (.t 6)),oF 15 1 14,o0 16 (.zn 16 1 (.t 15) (.t 7)),o0 17 (.x7 (.t 8)),oF 18 1 17,oT 16 11,o0 19 (.zn 16 1 (.t 18) (.t 9)),oT 19 13]
theorem qd0 : zh Try.prog 143 = some ⟨20, Uh, []⟩ := by kernel_rfl
theorem q4t (n : Int) (m : List Nat) (i k : Nat) (hm : m.length = 16) (hi : i < 16) (hk : k < 16) :
    Am.Fn Try.prog 143 [.ptr 0 0, .int .i64 i, .int .i64 k] [.cells (dia n m)] (fun v H' => v = .tup [] ∧ H' = [.cells (dia n ((m.set i k).set k i))]) := by
  refine Am.Fn.ofB qr7 mixed qd0 (by simp [AV.qt, AV.under]) (fun j o hj => by
    match j, hj with
    | 0, hj => cases hj; exact qj _ _ (qg _ _)
    | j + 1, hj => simp at hj) ?_
  obtain ⟨a1, a2⟩ := x9 hi
  obtain ⟨b1, b2⟩ := x9 hk
  have hu1 : qn .u8 (i : Int) = i := Uu (by omega)
  have hu2 : qn .u8 (k : Int) = k := Uu (by omega)
  simp (maxSteps := 3000000) only [qf, zH, Uh, qe, hm, List.length_set, a1, a2, b1, b2, hu1, hu2, K9, AV.one, iE, iN, iB, iC, iL, iD, iA, iS, iM, qa, zZ, ↓qp, ↓reduceIte, reduceCtorEq, nA, nM, nS, nE, nL, nD]; try simp only [qa, zY]
  refine Ret.xy [0] ⟨⟨by simp, rfl, by decide⟩, ?_⟩ (rs := []) rfl rfl (by simp [xt]) ?_ ⟨?_, ?_⟩
  · simp only [zK, ↓reduceIte, reduceCtorEq, nE, nB, nA]
  · intro j l; match j with
    | 0 => simp [zj, AO.ren]
    | j + 1 => simp [zj]
  · rfl
  · simp only [zL, ↓reduceIte, reduceCtorEq, nE, nA]
def Qe : BE := fun hp xs => match xs with
  | [.ptr b 0, .int .i64 i, .int .i64 k] => match hp[b]? with
    | some (.cells l) => match vy l with
      | some (n, m) => chk ((0 ≤ i ∧ i < 16) ∧ (0 ≤ k ∧ k < 16)) (some (.tup [], hp.set b (.cells (dia n ((m.set i.toNat k.toNat).set k.toNat i.toNat)))))
      | none => none
    | _ => none
  | _ => none
theorem q0n : Am.Callee Try.prog 143 Qe := Callee.fp fun hp xs v hp' he => by
  unfold Qe at he
  split at he
  · rename_i b i k
    split at he
    · rename_i l hb
      split at he
      · rename_i n m hd
        obtain ⟨⟨h1, h2⟩, he⟩ := qm he
        simp only [Option.some.injEq, Prod.mk.injEq] at he
        obtain ⟨rfl, rfl⟩ := he
        obtain ⟨rfl, hm⟩ := zl hd
        obtain ⟨i, rfl⟩ : ∃ j : Nat, i = j := ⟨i.toNat, by omega⟩
        obtain ⟨k, rfl⟩ : ∃ j : Nat, k = j := ⟨k.toNat, by omega⟩
        simp only [Int.toNat_natCast]
        refine ⟨[(b, 0)], [.ptr 0 0, .int .i64 i, .int .i64 k], _, _, _, q4t n m i k hm.1 (by omega) (by omega), by simp [AV.ren, AV.zg, ofL], rfl, ⟨⟨rfl, by simp only [AO.ren, qb _ _ (qg _ _)]; exact hb⟩, trivial⟩, rfl, ⟨qj _ _ (qg _ _), trivial⟩, ⟨by simp [AV.under], trivial, trivial, trivial⟩, by simp [AV.ren, AV.zg], ?_⟩
        simp [after, upd, AO.wr, AO.ren, qb _ _ (qg _ _)]
      · cases he
    · cases he
  · cases he
def B46 : zb := (B39.put 143 (Qe))
theorem qs1 : qo Try.prog B46 := (qr7.put (q0n))
theorem u9 : B46 143 = some (Qe) := rfl
def W6 (n : Nat) : Nat → List Nat
  | 0 => List.replicate 16 0
  | k + 1 => ((W6 n k).set k (n + k)).set (n + k) k
def wu (n : Nat) : List Nat := W6 n n
theorem qc7 (n : Nat) : ∀ k, (W6 n k).length = 16
  | 0 => by simp [W6]
  | k + 1 => by simp [W6, qc7 n k]
theorem qol {n : Nat} (hn : n ≤ 8) : ∀ k, k ≤ n → ∀ x ∈ W6 n k, x < 16
  | 0, _, x, hx => by rw [(List.mem_replicate.1 hx).2]; omega
  | k + 1, hk, x, hx => by
    unfold W6 at hx
    rcases List.mem_or_eq_of_mem_set hx with hx | rfl
    · rcases List.mem_or_eq_of_mem_set hx with hx | rfl
      · exact qol hn k (by omega) x hx
      · omega
    · omega
theorem Yw {n : Nat} (hn : n ≤ 8) {k : Nat} (hk : k ≤ n) : okD (W6 n k) := ⟨qc7 n k, fun x hx => by have := qol hn k hk x hx; omega⟩
def Kh : AC := .seq (.region [oP 9 .lss 8 7]) (.seq (.cond 9 .skip (.exit 0)) (.seq (.block 1 (.seq (.region [oM 10 8,oM 4 10]) (.region [oM 11 4,oM 12 0,oM 13 4,oP 14 .add 12 13,oC 15 143 [.t 3,.t 11,.t 14]]))) (.region [oK 16 .add 8 1,oM 8 16])))
def qez : AC := .seq (.region [oN 17 17 3,oS 17 2 17]) .ret
def qnq : AC := .seq (.region [oD 2]) (.seq (.region [oM 5 0,o0 6 (.build [.int .i64 0,.int .u8 0,.int .u8 0,.int .u8 0,.int .u8 0,.int .u8 0,.int .u8 0,.int .u8 0,.int .u8 0,.int .u8 0,.int .u8 0,.int .u8 0,.int .u8 0,.int .u8 0,.int .u8 0,.int .u8 0,.int .u8 0] [(0,1,.t 5)]),oD 3,oS 17 3 6]) (.seq (.seq (.region [oM 7 0,oI 8 0]) (.block 0 (.loop Kh))) qez))
theorem qyz : zh Try.prog 88 = some ⟨18, qnq, [.bg 2 17]⟩ := by kernel_rfl
theorem qy2 (n : Nat) (hn : n ≤ 8) : Am.Fn Try.prog 88 [.int .i64 n] [] (fun v H' => v = .agg (dia n (wu n)) ∧ H' = []) := by
  refine Am.Fn.xp (R := fun v => v = _) qs1 mixed qyz (by simp) (by simp) ?_
  simp (maxSteps := 3000000) only [qf, zH, qnq, u9, Qe, x8, zm, Qp, qe, zq, xn xd xd, List.length_replicate, iE, iN, iB, iC, iL, iD, iA, iS, iM, qa, zZ, ↓qp, ↓reduceIte, reduceCtorEq, nA, nM, nS, nE, nL, nD]; try simp only [qa, zY]
  refine WA.xo qs1 (fun s => ∃ i : Nat, i ≤ n ∧ s = ⟨[(8, .int .i64 i), (7, .int .i64 n), (3, .ptr 1 0), (2, .ptr 0 0), (0, .int .i64 n)], [.cells (dia 0 (List.replicate 16 0)), .cells (dia n (W6 n i))]⟩)
    (fun s => match get s.env 8 with | .int _ x => n - x.toNat | _ => 0) ⟨_, qu.qv [8, 7, 3, 2, 0], 0, by omega, rfl⟩ ?_
  rintro s ⟨i, hi, rfl⟩
  have hw : qn .i64 ((i : Int) + 1) = ((i + 1 : Nat) : Int) := by rw [wrap64 (by omega) (by omega)]; rfl
  have hok := Yw hn hi
  by_cases hlt : i < n
  · have hli : (i : Int) < (n : Int) := by omega
    have h2 : qn .i64 ((n : Int) + i) = ((n + i : Nat) : Int) := by rw [wrap64 (by omega) (by omega)]; rfl
    have c1 : (0 : Int) ≤ i ∧ (i : Int) < 16 := by omega
    have c2 : (0 : Int) ≤ (n + i : Nat) ∧ ((n + i : Nat) : Int) < 16 := by omega
    have hnext : W6 n (i + 1) = ((W6 n i).set i (n + i)).set (n + i) i := rfl
    simp (maxSteps := 3000000) only [qf, zH, Kh, u9, Qe, hli, hw, h2, qy hok, c1, c2, iE, iN, iB, iC, iL, iD, iA, iS, iM, qa, zZ, ↓qp, ↓reduceIte, reduceCtorEq, nA, nM, nS, nE, nL, nD]; try simp only [qa, zY]
    refine ⟨_, qu.qv [8, 7, 3, 2, 0], ⟨i + 1, by omega, ?_⟩, ?_⟩
    · simp only [zL, ↓reduceIte, reduceCtorEq, nE, nA]; rw [hnext]
    · simp only [zL, ↓reduceIte, reduceCtorEq, nE, nA]; omega
  · have hli : ¬ ((i : Int) < (n : Int)) := by omega
    obtain rfl : i = n := by omega
    simp (maxSteps := 3000000) only [qf, zH, Kh, qez, u9, Qe, hli, qe, hok.1, qw hok.1, xn xd hok.1, zq, List.length_replicate, Int.lt_irrefl, iE, iN, iB, iC, iL, iD, iA, iS, iM, qa, zZ, ↓qp, ↓reduceIte, reduceCtorEq, nA, nM, nS, nE, nL, nD]; try simp only [qa, zY]
    exact ⟨qg _ _, rfl⟩
def jd : List AV → Option AV
  | [.int .i64 n] => chk (0 ≤ n ∧ n ≤ 8) (some (.agg (dia n (wu n.toNat))))
  | _ => none
theorem qdv {f : FuncId} (h : ∀ n : Nat, n ≤ 8 → Am.Fn Try.prog f [.int .i64 n] [] (fun v H' => v = .agg (dia n (wu n)) ∧ H' = [])) : Am.Callee Try.prog f (qk jd) := Am.Callee.plain fun xs v he => by
  unfold jd at he
  split at he
  · rename_i n
    obtain ⟨h1, he⟩ := qm he
    cases he
    obtain ⟨N, rfl⟩ : ∃ N : Nat, n = N := ⟨n.toNat, by omega⟩
    rw [Int.toNat_natCast]
    exact ⟨rfl, by simp only [AV.zo, qg], h N (by omega)⟩
  · cases he
def q8n : zb := (B46.put 88 (qk jd))
theorem qlf : qo Try.prog q8n := (qs1.put (qdv qy2))
theorem qzo {N i : Nat} (hN : N ≤ 8) (h0 : 1 ≤ N) (hi : i < 2 * N) : qn .i64 (Int.tdiv (i : Int) (N : Int)) = ((i / N : Nat) : Int) ∧ qn .i64 (((i / N : Nat) : Int) * 1) = ((i / N : Nat) : Int) ∧ qn .i64 ((i : Int) + ((i / N : Nat) : Int)) = ((wd N i : Nat) : Int) ∧ wd N i < 17 := by
  have hq : i / N = if i < N then 0 else 1 := by
    by_cases h : i < N
    · rw [if_pos h, Nat.div_eq_of_lt h]
    · rw [if_neg h]
      exact Nat.div_eq_of_lt_le (by omega) (by omega)
  have hw : i + i / N = wd N i := by rw [hq]; unfold wd; split <;> omega
  have hb : i / N ≤ 1 := by rw [hq]; split <;> omega
  refine ⟨by rw [q7e]; exact jj (by omega), by rw [Int.mul_one]; exact jj (by omega), ?_, by omega⟩
  rw [← hw]
  exact wrap64 (by omega) (by omega)
def qe0 : AC := .seq (.region [oI 4 0]) (.seq (.draw false [oM 5 0,oM 6 0,oL 7 1,oP 8 .quo 6 7,oL 9 2,oP 10 .mul 8 9,oP 11 .add 5 10,oM 4 11]) .ret)
theorem qp8 : zh Try.prog 188 = some ⟨12, qe0, [.slot 4]⟩ := by kernel_rfl
theorem qve (N i : Nat) (hN : 1 ≤ N ∧ N ≤ 8) (hi : i < 2 * N) : Am.Fn Try.prog 188 [.int .i64 i, .ptr 0 0, .ptr 1 0] [.ro [.int .i64 N], .ro [.int .i64 1]] (fun v H' => v = .int .i64 ((wd N i : Nat) : Int) ∧ H' = [.ro [.int .i64 N], .ro [.int .i64 1]]) := by
  refine Am.Fn.xp (R := fun v => v = _) qlf mixed qp8 (by simp [AV.qt, AV.under]) (K1 rfl rfl) ?_
  obtain ⟨a1, a2, a3, a4⟩ := qzo hN.2 hN.1 hi
  have hne : (N : Int) ≠ 0 := by omega
  simp (maxSteps := 3000000) only [qf, zH, qe0, a1, a2, a3, hne, iE, iN, iB, iC, iL, iD, iA, iS, iM, qa, zZ, ↓qp, ↓reduceIte, reduceCtorEq, nA, nM, nS, nE, nL, nD]; try simp only [qa, zY]
  exact ⟨_, rfl⟩
def rt (N i : Nat) : Nat := if i = 0 then N else 2 * N + 1
def qeu : AC := .seq (.region [oI 4 0]) (.seq (.draw false [oL 5 1,oM 6 0,oP 7 .add 5 6,oM 8 0,oL 9 2,oP 10 .quo 8 9,oL 11 1,oP 12 .mul 10 11,oP 13 .add 7 12,oM 4 13]) .ret)
theorem qpg : zh Try.prog 189 = some ⟨14, qeu, [.slot 4]⟩ := by kernel_rfl
theorem qwr (N i : Nat) (hN : 1 ≤ N ∧ N ≤ 8) (hi : i < 2) : Am.Fn Try.prog 189 [.int .i64 i, .ptr 0 0, .ptr 1 0] [.ro [.int .i64 N], .ro [.int .i64 1]] (fun v H' => v = .int .i64 ((rt N i : Nat) : Int) ∧ H' = [.ro [.int .i64 N], .ro [.int .i64 1]]) := by
  refine Am.Fn.xp (R := fun v => v = _) qlf mixed qpg (by simp [AV.qt, AV.under]) (K1 rfl rfl) ?_
  have hne : (1 : Int) ≠ 0 := by omega
  have a1 : qn .i64 ((N : Int) + i) = ((N + i : Nat) : Int) := wrap64 (by omega) (by omega)
  have a2 : qn .i64 (Int.tdiv (i : Int) 1) = (i : Int) := by rw [Int.tdiv_one]; exact jj (by omega)
  have a3 : qn .i64 ((i : Int) * N) = ((i * N : Nat) : Int) := by
    have : i = 0 ∨ i = 1 := by omega
    rcases this with rfl | rfl
    · rw [wrap64 (by omega) (by omega)]; rfl
    · rw [wrap64 (by omega) (by omega)]; simp
  have a4 : qn .i64 (((N + i : Nat) : Int) + ((i * N : Nat) : Int)) = ((rt N i : Nat) : Int) := by
    have : i = 0 ∨ i = 1 := by omega
    unfold rt
    rcases this with rfl | rfl
    · rw [wrap64 (by omega) (by omega)]; simp
    · rw [wrap64 (by omega) (by omega)]; simp; omega
  simp (maxSteps := 3000000) only [qf, zH, qeu, a1, a2, a3, a4, hne, iE, iN, iB, iC, iL, iD, iA, iS, iM, qa, zZ, ↓qp, ↓reduceIte, reduceCtorEq, nA, nM, nS, nE, nL, nD]; try simp only [qa, zY]
  exact ⟨_, rfl⟩
def Wc : BE := fun hp xs => match xs with
  | [.int .i64 i, .ptr b 0, .ptr b' 0] => match rd hp b, rd hp b' with
    | some (.int .i64 n :: _), some (.int .i64 m :: _) => chk ((m = 1 ∧ 1 ≤ n ∧ n ≤ 8) ∧ 0 ≤ i ∧ i < 2 * n) (some (.int .i64 ((wd n.toNat i.toNat : Nat) : Int), hp))
    | _, _ => none
  | _ => none
theorem q43 : Am.Callee Try.prog 188 Wc := Callee.fp fun hp xs v hp' he => by
  unfold Wc at he
  split at he
  · rename_i i b b'
    split at he
    · rename_i n L m L' hL hL'
      obtain ⟨⟨⟨h0, h1⟩, h2, h3⟩, he⟩ := qm he
      simp only [Option.some.injEq, Prod.mk.injEq] at he
      obtain ⟨rfl, rfl⟩ := he
      subst h0
      obtain ⟨N, rfl⟩ : ∃ N : Nat, n = N := ⟨n.toNat, by omega⟩
      obtain ⟨k, rfl⟩ : ∃ k : Nat, i = k := ⟨i.toNat, by omega⟩
      simp only [Int.toNat_natCast]
      refine ⟨[(b, 0), (b', 0)], [.int .i64 k, .ptr 0 0, .ptr 1 0], _, _, _, qve N k (by omega) (by omega), by simp [AV.ren, AV.zg, ofL], rfl, ⟨⟨_, hL, by simp, by simp [AV.zg, AV.ren]⟩, ⟨_, hL', by simp, by simp [AV.zg, AV.ren]⟩, trivial⟩, rfl, ⟨⟨trivial, trivial⟩, ⟨trivial, trivial⟩, trivial⟩, ⟨trivial, by simp [AV.under], by simp [AV.under], trivial⟩, by simp [AV.ren], ?_⟩
      simp [after, upd, AO.wr, AO.ren, AV.zg, AV.ren]
    · cases he
  · cases he
def Zq : BE := fun hp xs => match xs with
  | [.int .i64 i, .ptr b 0, .ptr b' 0] => match rd hp b, rd hp b' with
    | some (.int .i64 n :: _), some (.int .i64 m :: _) => chk ((m = 1 ∧ 1 ≤ n ∧ n ≤ 8) ∧ 0 ≤ i ∧ i < 2) (some (.int .i64 ((rt n.toNat i.toNat : Nat) : Int), hp))
    | _, _ => none
  | _ => none
theorem q30 : Am.Callee Try.prog 189 Zq := Callee.fp fun hp xs v hp' he => by
  unfold Zq at he
  split at he
  · rename_i i b b'
    split at he
    · rename_i n L m L' hL hL'
      obtain ⟨⟨⟨h0, h1⟩, h2, h3⟩, he⟩ := qm he
      simp only [Option.some.injEq, Prod.mk.injEq] at he
      obtain ⟨rfl, rfl⟩ := he
      subst h0
      obtain ⟨N, rfl⟩ : ∃ N : Nat, n = N := ⟨n.toNat, by omega⟩
      obtain ⟨k, rfl⟩ : ∃ k : Nat, i = k := ⟨i.toNat, by omega⟩
      simp only [Int.toNat_natCast]
      refine ⟨[(b, 0), (b', 0)], [.int .i64 k, .ptr 0 0, .ptr 1 0], _, _, _, qwr N k (by omega) (by omega), by simp [AV.ren, AV.zg, ofL], rfl, ⟨⟨_, hL, by simp, by simp [AV.zg, AV.ren]⟩, ⟨_, hL', by simp, by simp [AV.zg, AV.ren]⟩, trivial⟩, rfl, ⟨⟨trivial, trivial⟩, ⟨trivial, trivial⟩, trivial⟩, ⟨trivial, by simp [AV.under], by simp [AV.under], trivial⟩, by simp [AV.ren], ?_⟩
      simp [after, upd, AO.wr, AO.ren, AV.zg, AV.ren]
    · cases he
  · cases he
def B47 : zb := ((q8n.put 188 (Wc)).put 189 (Zq))
theorem qk9 : qo Try.prog B47 := ((qlf.put (q43)).put (q30))
theorem wa : B47 168 = some (J1 1 g_n) := rfl
theorem kn : B47 88 = some (qk jd) := rfl
theorem yi : B47 188 = some (Wc) := rfl
theorem ym : B47 189 = some (Zq) := rfl
def qgv (N : Nat) (m : List Nat) : Nat → List Nat
  | 0 => qap N m (2 * N)
  | 1 => (qap N m (2 * N)).set N (2 * N + 1)
  | _ => xg N m
theorem J8 {N : Nat} {m : List Nat} {i : Nat} : (qap N m i).length = 16 := uy _ _ _ _
theorem qcr {N : Nat} {m : List Nat} : ∀ i, (qgv N m i).length = 16
  | 0 => J8
  | 1 => by simp [qgv, J8]
  | i + 2 => by simp [qgv, xg, J8]
def Bb : AC := .seq (.region [oP 23 .lss 22 21]) (.seq (.cond 23 .skip (.exit 0)) (.seq (.block 1 (.seq (.region [oM 24 22,oM 10 24]) (.draw true [oM 25 8,oM 26 10,oM 28 8,oM 29 10,oF 30 1 2,o0 31 (.zn 16 1 (.t 30) (.t 29)),oL 32 31,o0 33 (.conv .i64 (.t 32)),oF 36 1 7,⟨some 27,none,.call (.t 25) [.t 26]⟩,⟨some 34,none,.call (.t 28) [.t 33]⟩,o0 35 (.conv .u8 (.t 34)),o0 37 (.zn 16 1 (.t 36) (.t 27)),oT 37 35]))) (.region [oK 38 .add 22 1,oM 22 38])))
def Uz : AC := .seq (.region [oP 42 .lss 41 40]) (.seq (.cond 42 .skip (.exit 2)) (.seq (.block 3 (.seq (.region [oM 43 41,oM 11 43]) (.draw true [oM 44 9,oM 45 11,oM 47 9,oM 48 11,oF 49 1 3,o0 50 (.zn 16 1 (.t 49) (.t 48)),oL 51 50,o0 52 (.conv .i64 (.t 51)),oF 55 1 7,⟨some 46,none,.call (.t 44) [.t 45]⟩,⟨some 53,none,.call (.t 47) [.t 52]⟩,o0 54 (.conv .u8 (.t 53)),o0 56 (.zn 16 1 (.t 55) (.t 46)),oT 56 54]))) (.region [oK 57 .add 41 1,oM 41 57])))
def qcs : AC := .seq (.region [oN 58 17 7,oS 17 4 58]) .ret
def qbx : AC := .seq (.seq (.region [oL 39 6,o0 40 (.bin .mul (.c (.int .i64 2)) (.t 39)),oI 41 0]) (.block 2 (.loop Uz))) qcs
def qkv : AC := .seq (.region [o0 2 (.box (.t 0)),o0 3 (.box (.t 1)),oD 4]) (.seq (.region [oC 12 168 [.t 2],oC 13 168 [.t 3],o0 5 (.alloc [.int .i64 0]),o0 6 (.alloc [.int .i64 0]),oT 5 12,oT 6 13]) (.seq (.region [oL 14 5,oL 15 6,oP 16 .add 14 15,o0 17 (.build [.int .i64 0,.int .u8 0,.int .u8 0,.int .u8 0,.int .u8 0,.int .u8 0,.int .u8 0,.int .u8 0,.int .u8 0,.int .u8 0,.int .u8 0,.int .u8 0,.int .u8 0,.int .u8 0,.int .u8 0,.int .u8 0,.int .u8 0] [(0,1,.t 16)]),oD 7,oS 17 7 17]) (.seq (.region [o0 18 (.qdd 188 [] [.t 5,.t 6]),oM 8 18]) (.seq (.region [o0 19 (.qdd 189 [] [.t 5,.t 6]),oM 9 19]) (.seq (.seq (.region [oL 20 5,o0 21 (.bin .mul (.c (.int .i64 2)) (.t 20)),oI 22 0]) (.block 0 (.loop Bb))) qbx)))))
theorem qwj : zh Try.prog 177 = some ⟨59, qkv, [.bg 4 17]⟩ := by kernel_rfl
theorem qyx (N : Nat) (m : List Nat) (hm : okD m) (hs : isS N m = true) (hN8 : N < 8) : Am.Fn Try.prog 177 [.agg (dia N m), .agg (dia 1 (wu 1))] [] (fun v H' => v = .agg (dia (N + 1 : Nat) (xg N m)) ∧ H' = []) := by
  refine Am.Fn.xp (R := fun v => v = _) qk9 mixed qwj (by simp) (by simp) ?_
  obtain ⟨hN, hp, hz⟩ := zz hs
  have hml := hm.1
  have hu : okD (wu 1) := Yw (by omega) (by omega)
  have hul := hu.1
  have h2 : qn .i64 (2 * (N : Int)) = ((2 * N : Nat) : Int) := by rw [wrap64 (by omega) (by omega)]; rfl
  have h1 : qn .i64 ((N : Int) + 1) = ((N + 1 : Nat) : Int) := by rw [wrap64 (by omega) (by omega)]; rfl
  simp (maxSteps := 3000000) only [qf, zH, qkv, wa, kn, yi, ym, Wc, g_n, Zq, jd, x8, zm, Qp, qe, hml, hul, vz, Vu, zq, xn xd xd, List.length_replicate, h1, h2, AV.one, iE, iN, iB, iC, iL, iD, iA, iS, iM, qa, zZ, ↓qp, ↓reduceIte, reduceCtorEq, nA, nM, nS, nE, nL, nD]; try simp only [qa, zY]
  refine ⟨⟨rfl, rfl⟩, ⟨rfl, rfl⟩, ?_⟩
  refine WA.xo qk9 (fun s => ∃ i : Nat, i ≤ 2 * N ∧ s = ⟨[(22, .int .i64 i), (21, .int .i64 (2 * N : Nat)), (9, .fn 189 [] [.ptr 3 0, .ptr 4 0]), (8, .fn 188 [] [.ptr 3 0, .ptr 4 0]), (7, .ptr 5 0), (6, .ptr 4 0), (5, .ptr 3 0), (4, .ptr 2 0), (3, .ptr 1 0), (2, .ptr 0 0)], [.cells (dia N m), .cells (dia 1 (wu 1)), .cells (dia 0 (List.replicate 16 0)), .cells [.int .i64 N], .cells [.int .i64 1], .cells (dia (N + 1 : Nat) (qap N m i))]⟩)
    (fun s => match get s.env 22 with | .int _ x => 2 * N - x.toNat | _ => 0) ⟨_, qu.qv [22, 21, 9, 8, 7, 6, 5, 4, 3, 2], 0, by omega, rfl⟩ ?_
  rintro s ⟨i, hi, rfl⟩
  have c1 : (1 : Int) ≤ N ∧ (N : Int) ≤ 8 := by omega
  have hw : qn .i64 ((i : Int) + 1) = ((i + 1 : Nat) : Int) := by rw [wrap64 (by omega) (by omega)]; rfl
  by_cases hlt : i < 2 * N
  · have hli : (i : Int) < ((2 * N : Nat) : Int) := by omega
    have hb := qgm hs hlt
    have a1 : wd N i < 16 := by unfold wd; split <;> omega
    have b1 : wd N (m.getD i 0) < 16 := by unfold wd; split <;> omega
    obtain ⟨a2, a3⟩ := x9 a1
    have hu8 : qn .u8 ((wd N (m.getD i 0) : Nat) : Int) = ((wd N (m.getD i 0) : Nat) : Int) := Uu (by omega)
    obtain ⟨hi16, hi16'⟩ := x9 (show i < 16 by omega)
    have hi17 : i < 16 := by omega
    have hin : i < m.length := by omega
    have hcv : qn .i64 ((m.getD i 0 : Nat) : Int) = ((m.getD i 0 : Nat) : Int) := jj (by omega)
    have hnext : qap N m (i + 1) = (qap N m i).set (wd N i) (wd N (m.getD i 0)) := rfl
    have c2 : (0 : Int) ≤ i ∧ (i : Int) < 2 * N := by omega
    have c3 : (0 : Int) ≤ (m.getD i 0 : Nat) ∧ ((m.getD i 0 : Nat) : Int) < 2 * N := by omega
    simp (maxSteps := 3000000) only [qf, zH, Bb, wa, kn, yi, ym, Wc, g_n, Zq, jd, hw, hli, a2, a3, hu8, c1, c2, c3, hi16, hi16', hi17, AV.one, hcv, Q4 hin, qe, hml, J8, K9, iE, iN, iB, iC, iL, iD, iA, iS, iM, qa, zZ, ↓qp, ↓reduceIte, reduceCtorEq, nA, nM, nS, nE, nL, nD]; try simp only [qa, zY]
    refine ⟨⟨_, rfl⟩, ⟨_, rfl⟩, _, qu.qv [22, 21, 9, 8, 7, 6, 5, 4, 3, 2], ⟨i + 1, by omega, ?_⟩, ?_⟩
    · simp only [zL, ↓reduceIte, reduceCtorEq, nE, nA]; rw [hnext]
    · simp only [zL, ↓reduceIte, reduceCtorEq, nE, nA]; omega
  have hli : ¬ ((i : Int) < ((2 * N : Nat) : Int)) := by omega
  obtain rfl : i = 2 * N := by omega
  have h22 : qn .i64 (2 * 1) = ((2 : Nat) : Int) := by rw [wrap64 (by omega) (by omega)]; rfl
  simp (maxSteps := 3000000) only [qf, zH, Bb, qbx, wa, kn, yi, ym, Wc, g_n, Zq, jd, hli, h22, Int.lt_irrefl, iE, iN, iB, iC, iL, iD, iA, iS, iM, qa, zZ, ↓qp, ↓reduceIte, reduceCtorEq, nA, nM, nS, nE, nL, nD]; try simp only [qa, zY]
  clear hw hli hlt hi
  refine WA.xo qk9 (fun s => ∃ i : Nat, i ≤ 2 ∧ s = ⟨[(41, .int .i64 i), (40, .int .i64 (2 : Nat)), (9, .fn 189 [] [.ptr 3 0, .ptr 4 0]), (7, .ptr 5 0), (4, .ptr 2 0), (3, .ptr 1 0)], [.cells (dia N m), .cells (dia 1 (wu 1)), .cells (dia 0 (List.replicate 16 0)), .cells [.int .i64 N], .cells [.int .i64 1], .cells (dia (N + 1 : Nat) (qgv N m i))]⟩)
    (fun s => match get s.env 41 with | .int _ x => 2 - x.toNat | _ => 0) ⟨_, qu.qv [41, 40, 9, 7, 4, 3], 0, by omega, rfl⟩ ?_
  rintro s ⟨i, hi, rfl⟩
  have hw : qn .i64 ((i : Int) + 1) = ((i + 1 : Nat) : Int) := by rw [wrap64 (by omega) (by omega)]; rfl
  by_cases hlt : i < 2
  · have hli : (i : Int) < ((2 : Nat) : Int) := by omega
    obtain ⟨g1, g2⟩ : (wu 1).getD i 0 = 1 - i ∧ qgv N m (i + 1) = (qgv N m i).set (rt N i) (rt N (1 - i)) := by
      have : i = 0 ∨ i = 1 := by omega
      rcases this with rfl | rfl <;> exact ⟨rfl, rfl⟩
    have hin : i < (wu 1).length := by omega
    have a1 : rt N i < 16 := by unfold rt; split <;> omega
    have b1 : rt N (1 - i) < 16 := by unfold rt; split <;> omega
    obtain ⟨a2, a3⟩ := x9 a1
    have hu8 : qn .u8 ((rt N (1 - i) : Nat) : Int) = ((rt N (1 - i) : Nat) : Int) := Uu (by omega)
    obtain ⟨hi16, hi16'⟩ := x9 (show i < 16 by omega)
    have hi17 : i < 16 := by omega
    have hcv : qn .i64 ((1 - i : Nat) : Int) = ((1 - i : Nat) : Int) := jj (by omega)
    have c2 : (0 : Int) ≤ i ∧ (i : Int) < 2 := by omega
    have c3 : (0 : Int) ≤ (1 - i : Nat) ∧ ((1 - i : Nat) : Int) < 2 := by omega
    simp (maxSteps := 3000000) only [qf, zH, Uz, wa, kn, yi, ym, Wc, g_n, Zq, jd, hw, hli, a2, a3, hu8, c1, c2, c3, hi16, hi16', hi17, AV.one, hcv, g1, qe, hml, hul, qcr, K9, iE, iN, iB, iC, iL, iD, iA, iS, iM, qa, zZ, ↓qp, ↓reduceIte, reduceCtorEq, nA, nM, nS, nE, nL, nD]; try simp only [qa, zY]
    refine ⟨⟨_, rfl⟩, ⟨_, rfl⟩, _, qu.qv [41, 40, 9, 7, 4, 3], ⟨i + 1, by omega, ?_⟩, ?_⟩
    · simp only [zL, ↓reduceIte, reduceCtorEq, nE, nA]; rw [g2]
    · simp only [zL, ↓reduceIte, reduceCtorEq, nE, nA]; omega
  · have hli : ¬ ((i : Int) < ((2 : Nat) : Int)) := by omega
    obtain rfl : i = 2 := by omega
    have hwl : qgv N m 2 = xg N m := rfl
    have hk16 := qcr (N := N) (m := m) 2
    rw [hwl] at hk16 ⊢
    simp (maxSteps := 3000000) only [qf, zH, Uz, qcs, wa, kn, yi, ym, Wc, g_n, Zq, jd, hli, qe, hk16, qw hk16, xn xd hk16, zq, List.length_replicate, Int.lt_irrefl, iE, iN, iB, iC, iL, iD, iA, iS, iM, qa, zZ, ↓qp, ↓reduceIte, reduceCtorEq, nA, nM, nS, nE, nL, nD]; try simp only [qa, zY]
    exact qg _ _
def Gs : List AV → Option AV
  | [.agg l, .agg l'] => match vy l, vy l' with
    | some (n, m), some (n', m') => chk ((n' = 1 ∧ m' = wu 1) ∧ isS n.toNat m = true ∧ 0 ≤ n ∧ n < 8) (some (.agg (dia (n + 1) (xg n.toNat m))))
    | _, _ => none
  | _ => none
theorem qzu : Am.Callee Try.prog 177 (qk Gs) := Am.Callee.plain fun xs v he => by
  unfold Gs at he
  split at he
  · rename_i l l'
    split at he
    · rename_i n m n' m' hd hd'
      obtain ⟨⟨⟨h0, h1⟩, h2, h3⟩, he⟩ := qm he
      cases he
      obtain ⟨rfl, hm⟩ := zl hd
      obtain ⟨rfl, hm'⟩ := zl hd'
      subst h0; subst h1
      obtain ⟨N, rfl⟩ : ∃ N : Nat, n = N := ⟨n.toNat, by omega⟩
      rw [Int.toNat_natCast] at h2 ⊢
      exact ⟨by simp only [AV.zf, AV.zo, qg, Bool.and_self], by simp only [AV.zo, qg], qyx N m hm h2 (by omega)⟩
    · cases he
  · cases he
def B48 : zb := (B47.put 177 (qk Gs))
theorem q1f : qo Try.prog B48 := (qk9.put (qzu))
theorem qbb : B48 168 = some (J1 1 g_n) := rfl
theorem qjc : B48 88 = some (qk jd) := rfl
theorem qeb : B48 188 = some (Wc) := rfl
theorem qd8 : B48 189 = some (Zq) := rfl
theorem qiv : B48 177 = some (qk Gs) := rfl
def Zp : AC := .seq (.region [o0 1 (.box (.t 0)),oD 2,oI 3 0]) (.seq (.draw true [oN 4 17 1,oC 5 88 [(.c (.int .i64 1))],oC 6 177 [.t 4,.t 5],oS 17 2 6,oI 3 1]) .ret)
theorem Us : zh Try.prog 176 = some ⟨7, Zp, [.bg 2 17, .slot 3]⟩ := by kernel_rfl
theorem qmg (N : Nat) (m : List Nat) (hm : okD m) (hs : isS N m = true) (hN8 : N < 8) : Am.Fn Try.prog 176 [.agg (dia N m)] [] (fun v H' => v = .tup [.agg (dia ((N : Int) + 1) (xg N m)), .int .i64 1] ∧ H' = []) := by
  refine Am.Fn.xp (R := fun v => v = _) q1f mixed Us (by simp) (by simp) ?_
  have hml := hm.1
  have hu : okD (wu 1) := Yw (by omega) (by omega)
  have hfl : (xg N m).length = 16 := (qh5 hN8 hs).2.1
  have h0 : (0 : Int) ≤ N ∧ (N : Int) < 8 := by omega
  have h1 : (0 : Int) ≤ 1 ∧ (1 : Int) ≤ 8 := by omega
  simp (maxSteps := 3000000) only [qf, zH, Zp, qbb, qjc, qeb, qd8, qiv, Wc, g_n, Zq, Gs, jd, x8, zm, qe, hml, hfl, qw hml, qw hfl, qy hm, qy hu, hs, h0, h1, zq, Qy hfl, qg, List.length_replicate, Int.toNat_one, iE, iN, iB, iC, iL, iD, iA, iS, iM, qa, zZ, ↓qp, ↓reduceIte, reduceCtorEq, nA, nM, nS, nE, nL, nD]; try simp only [qa, zY]
  exact ⟨⟨_, rfl⟩, ⟨_, rfl⟩⟩
def bt : List AV → Option AV
  | [.agg l] => match vy l with
    | some (n, m) => chk (isS n.toNat m = true ∧ 0 ≤ n ∧ n < 8) (some (.tup [.agg (dia (n + 1) (xg n.toNat m)), .int .i64 1]))
    | none => none
  | _ => none
theorem qod : Am.Callee Try.prog 176 (qk bt) := Am.Callee.plain fun xs v he => by
  unfold bt at he
  split at he
  · rename_i l
    split at he
    · rename_i n m hd
      obtain ⟨⟨h1, h2⟩, he⟩ := qm he
      cases he
      obtain ⟨rfl, hm⟩ := zl hd
      obtain ⟨N, rfl⟩ : ∃ N : Nat, n = N := ⟨n.toNat, by omega⟩
      rw [Int.toNat_natCast] at h1 ⊢
      exact ⟨by simp only [AV.zf, AV.zo, qg, Bool.and_self], by simp only [AV.zo, AV.zf, qg, Bool.and_self], qmg N m hm h1 (by omega)⟩
    · cases he
  · cases he
def B49 : zb := (B48.put 176 (qk bt))
theorem q08 : qo Try.prog B49 := (q1f.put (qod))
theorem qtp {n : Int} {m : List Nat} (hn : 1 ≤ n ∧ n ≤ 7) (hs : isS n.toNat m = true) : okD (xg n.toNat m) ∧ isS (n + 1).toNat (xg n.toNat m) = true := by
  have h := qh5 (n := n.toNat) (by omega) hs
  rw [show (n + 1).toNat = n.toNat + 1 by omega]
  exact ⟨h.2, h.1⟩
theorem q0l : Am.Callee Try.prog 175 (qk2 176 (fun n => n + 1) xg 1 7) := q7w q08 rfl (gf := bt) rfl
  (fun n m hn hs => qtp hn hs) (fun n hn => by omega)
  (fun n m hn hm hs => by
    have h0 : 0 ≤ n ∧ n < 8 := by omega
    simp only [bt, qy hm, hs, h0, and_self, qqk])
def B50 : zb := (B49.put 175 (qk2 176 (fun n => n + 1) xg 1 7))
theorem q57 : qo Try.prog B50 := (q08.put (q0l))
theorem Ye : B50 175 = some (qk2 176 (fun n => n + 1) xg 1 7) := rfl
theorem Vc : B50 176 = some (qk bt) := rfl
def Xy : AC := .seq (.region [oZ 2]) (.seq (.region [oM 3 0,oM 4 0,o0 5 (.x7 (.t 4)),oF 6 2 5,oL 7 6,oK 8 .add 7 1,⟨some 9,none,.call (.c (.fn 175 [] [])) [.t 3,.t 8,(.c (.fn 176 [] []))]⟩,oS 4 2 9]) .ret)
theorem Gg : zh Try.prog 149 = some ⟨10, Xy, [.bg 2 4]⟩ := by kernel_rfl
theorem qsr (p c n : Int) (a : List (Int × List Nat × Int)) (hp : 2 ≤ p ∧ p ≤ 97) (hn : 1 ≤ n ∧ n ≤ 7) (ha : z8 p n a) (hl : a.length ≤ 100000) :
    Am.Fn Try.prog 149 [.ptr 1 0] [.ro (xb a), .ro (elC p c n a.length)] (fun v H' => v = elemV p c (n + 1) 2 (chP p (n + 1) (xg n.toNat) (fun _ => 1) [] a).length ∧ H' = [.ro (xb a), .ro (elC p c n a.length), .vec 18 (xb (chP p (n + 1) (xg n.toNat) (fun _ => 1) [] a))]) := by
  refine Am.Fn.ofB q57 mixed Gg (by simp [AV.qt, AV.under]) ?_ ?_
  · intro j o hj
    match j, hj with
    | 0, hj => cases hj; exact qj _ _ (qc _)
    | 1, hj => cases hj; exact ⟨trivial, trivial, trivial, by simp [AV.under], trivial⟩
    | j + 2, hj => simp at hj
  have hal := xe ha.ok
  have hts := bx ha.ok
  have hg := ha.dec
  have hw : qn .i64 (n + 1) = n + 1 := wrap64 (by omega) (by omega)
  simp (maxSteps := 3000000) only [qf, zH, Xy, Ye, Vc, qk2, bt, elC, elemV, hal, hts, hp, hn, hg, hl, hw, and_self, iE, iN, iB, iC, iL, iD, iA, iS, iM, qa, zZ, ↓qp, ↓reduceIte, reduceCtorEq, nA, nM, nS, nE, nL, nD]; try simp only [qa, zY]
  refine ⟨rfl, ?_⟩
  refine Ret.xy [0, 1, 3] ⟨⟨by simp, rfl, by decide⟩, ?_⟩ (rs := [.agg [.int .i64 p, .int .i64 c, .int .i64 (n + 1), .slc 3 0 (chP p (n + 1) (xg n.toNat) (fun _ => 1) [] a).length false 0]]) rfl rfl (by simp [xt]) ?_ ⟨?_, ?_⟩
  · simp only [qh _ _ (qc _), zK, ↓reduceIte, reduceCtorEq, nE, nB, nA]
  · intro j l; match j with
    | 0 => exact fun _ => ⟨_, rfl⟩
    | 1 => exact fun _ => ⟨_, rfl⟩
    | 2 => simp [zj, AO.ren]
    | j + 3 => simp [zj]
  · simp only [xt]
    simp only [zL, ↓reduceIte, reduceCtorEq, nE, nA]
  · simp only [qb _ _ (qc _), zL, ↓reduceIte, reduceCtorEq, nE, nA]
def Qm : BE := fun hp xs => match xs with
  | [.ptr b 0] => match rd hp b with
    | some (.int .i64 p :: .int .i64 c :: .int .i64 n :: .slc ba 0 la false 0 :: _) => match rd hp ba with
      | some L => match qah la L with
        | some a => chk (((2 ≤ p ∧ p ≤ 97) ∧ (1 ≤ n ∧ n ≤ 7)) ∧ Ug p n a ∧ la ≤ 100000) (some (elemV p c (n + 1) hp.length (chP p (n + 1) (xg n.toNat) (fun _ => 1) [] a).length, hp ++ [.vec 18 (xb (chP p (n + 1) (xg n.toNat) (fun _ => 1) [] a))]))
        | none => none
      | none => none
    | _ => none
  | _ => none
theorem qra : Am.Callee Try.prog 149 Qm := Callee.fp fun hp xs v hp' he => by
  unfold Qm at he
  split at he
  · rename_i b
    split at he
    · rename_i p c n ba la L0 hL0
      split at he
      · rename_i L hL
        split at he
        · rename_i a h1
          obtain ⟨⟨⟨a3, a4⟩, a5, a6⟩, he2⟩ := qm he
          simp only [Option.some.injEq, Prod.mk.injEq] at he2
          obtain ⟨rfl, rfl⟩ := he2
          obtain ⟨e1, e2, e3, e4⟩ := gv h1
          have g1 := xe e2
          refine ⟨[(ba, 0), (b, 0)], [.ptr 1 0], _, _, _, qsr p c n a a3 a4 (a5.qfv e2) (by omega), by simp [AV.ren, AV.zg, ofL], rfl,
            ⟨⟨L, hL, by omega, by rw [List.drop_zero, qb _ _ (qc _), g1, e1]; exact e3⟩, ⟨_, hL0, by simp, by simp [AV.zg, AV.ren, ofL, e1]⟩, trivial⟩, rfl,
            ⟨qj _ _ (qc _), ⟨trivial, trivial, trivial, by simp [AV.under], trivial⟩, trivial⟩, ⟨by simp [AV.under], trivial⟩, by simp [elemV, AV.ren, AV.zg, Ren.ext], ?_⟩
          simp [after, upd, AO.wr, AO.ren, qb _ _ (qc _)]
        · cases he
      · cases he
    · cases he
  · cases he
theorem qwl {p n : Int} {a : List (Int × List Nat × Int)} (hp : p ≤ 97) (hn : 1 ≤ n ∧ n ≤ 7) (h : z8 p n a) : qhw (n + 1) 10000 (xg n.toNat) (fun _ => 1) a := fun t ht => by
  have h1 := qtp hn (h.dia t ht).2
  have h2 := h.fac t ht
  exact ⟨h1.1, h1.2, by show -10000 ≤ t.2.2 * 1; omega, by show t.2.2 * 1 ≤ 10000; omega⟩
def B70 : zb := B53
theorem q58 : qo Try.prog B70 := q5q
def B79 : zb := B70
theorem qsj : qo Try.prog B79 := q58
def q38 (p c n : Int) (L : List (Int × List Nat × Int)) : ER := if L.length ≤ 140 then (p, c, n, L, 0) else (0, 0, 0, [], 3)
theorem qro {p c n : Int} {L : List (Int × List Nat × Int)} (h : okT L) : q80 (q38 p c n L) := by
  unfold q38
  split
  · rename_i hle; exact ⟨h, by simp only; omega⟩
  · exact ⟨(fun t h => by cases h), by simp⟩
structure q4j (H : List AO) (X Y : AV) (ts us : List (Int × List Nat × Int)) : Prop where
  x : ∀ rest, q4b (H ++ rest) X = some ts
  y : ∀ rest, q4b (H ++ rest) Y = some us
  ok : okT ts ∧ okT us
  un : ∀ (j : Nat) (o : AO), H[j]? = some o → o.under H.length
  ux : X.under H.length ∧ Y.under H.length
  sh : (H = [] ∧ X = .v (.slice none 0 0) ∧ Y = .v (.slice none 0 0)) ∨
    (∃ (o : AO) (nx cx : Nat), H = [o] ∧ X = .slc 0 0 nx true cx ∧ Y = .v (.slice none 0 0) ∧ (∀ ids, o.within ids = true) ∧ ∀ ρ, o.ren ρ = o) ∨
    (∃ (o : AO) (ny cy : Nat), H = [o] ∧ X = .v (.slice none 0 0) ∧ Y = .slc 0 0 ny true cy ∧ (∀ ids, o.within ids = true) ∧ ∀ ρ, o.ren ρ = o) ∨
    ∃ (o o' : AO) (nx cx ny cy : Nat), H = [o, o'] ∧ X = .slc 0 0 nx true cx ∧ Y = .slc 1 0 ny true cy ∧ (∀ ids, o.within ids = true) ∧ (∀ ρ, o.ren ρ = o) ∧ (∀ ids, o'.within ids = true) ∧ ∀ ρ, o'.ren ρ = o'
theorem q4j.h {H : List AO} {X Y : AV} {ts us : List (Int × List Nat × Int)} (a : q4j H X Y ts us) : H = [] ∨ (∃ o, H = [o]) ∨ ∃ o o', H = [o, o'] := by
  rcases a.sh with ⟨rfl, _⟩ | ⟨o, _, _, rfl, _⟩ | ⟨o, _, _, rfl, _⟩ | ⟨o, o', _, _, _, _, rfl, _⟩
  · exact .inl rfl
  · exact .inr (.inl ⟨_, rfl⟩)
  · exact .inr (.inl ⟨_, rfl⟩)
  · exact .inr (.inr ⟨_, _, rfl⟩)
theorem Q9 {p : Nat → Prop} (h : ∃ k, p k) : ∃ k, p k ∧ ∀ j, p j → k ≤ j := by
  obtain ⟨k, hk⟩ := h
  induction k using Nat.strongRecOn with
  | ind k ih =>
    by_cases hj : ∃ j, j < k ∧ p j
    · obtain ⟨j, h1, h2⟩ := hj; exact ih j h1 h2
    · exact ⟨k, hk, fun j h2 => Nat.le_of_not_lt fun h1 => hj ⟨j, h1, h2⟩⟩
open Classical in
noncomputable def qlx (J : Nat → St → Prop) (s : St) : Nat := if h : ∃ k, J k s then Classical.choose (Q9 h) else 0
theorem qkm {J : Nat → St → Prop} {s : St} (h : ∃ k, J k s) : J (qlx J s) s ∧ ∀ j, J j s → qlx J s ≤ j := by
  unfold qlx; rw [dif_pos h]; exact Classical.choose_spec (Q9 h)
theorem qyn {B : zb} (hB : qo Try.prog B) {n0 nt : Nat} {Q : AX → St → Prop} {s : St} {a : AC} (J : Nat → St → Prop) (h0 : ∃ s', qu n0 s s' ∧ ∃ k, J k s')
    (round : ∀ k s, J k s → ∀ (post : St → Prop), (∀ s' s'' k', qu n0 s' s'' → J k' s'' → k' < k → post s') → wbC Try.prog B n0 nt a (AX.then post Q) s) : WA Try.prog n0 nt (.loop a) Q s := by
  refine WA.xo hB (fun s => ∃ k, J k s) (qlx J) h0 fun s hs => ?_
  obtain ⟨h1, h2⟩ := qkm hs
  exact round _ s h1 _ fun s' s'' k' hw hj hlt => ⟨s'', hw, ⟨k', hj⟩, Nat.lt_of_le_of_lt ((qkm ⟨k', hj⟩).2 k' hj) hlt⟩
def bls (l : List Bool) : List AV := l.map .bool
theorem z6 (l : List Bool) : (bls l).length = l.length := by simp [bls]
theorem vg (l : List Bool) : AV.zf (bls l) = true := by
  induction l with
  | nil => rfl
  | cons a l ih => simp only [bls, List.map_cons, AV.zf, AV.zo, Bool.true_and]; exact ih
theorem K4 {l : List Bool} {i : Nat} (h : i < l.length) : (bls l)[i]? = some (.bool (l.getD i false)) := by
  simp [bls, List.getD_eq_getElem?_getD, h]
theorem K8 {l : List Bool} {i : Nat} {b : Bool} : (bls l).set i (.bool b) = bls (l.set i b) := by simp [bls, List.map_set]
theorem Yj {x : Nat} (h : x < 8) : ((0 : Int) ≤ (x : Int) ∧ (x : Int) < ((8 : Nat) : Int)) := by omega
def yd : AC := .seq (.region [oM 18 2,oF 19 1 5,o0 20 (.zn 16 1 (.t 19) (.t 18)),oL 21 20,o0 22 (.conv .i64 (.t 21)),oM 13 22]) (.seq (.seq (.region [oM 23 13,oM 24 12,oP 25 .lss 23 24]) (.cond 25 (.seq (.region [oM 26 13,oM 10 26,oB 11 true]) .ret) .skip)) (.seq (.region [oM 27 4,oM 28 13,oM 29 12,oP 30 .sub 28 29,o0 31 (.x7 (.t 27)),o0 32 (.zn 8 1 (.t 31) (.t 30)),⟨none,none,.op (.ue (.t 32) (.c (.bool true)))⟩]) (.seq (.region [oM 33 13,oM 34 12,oP 35 .sub 33 34,oM 2 35]) (.seq (.region [oB 3 false]) (.exit 1)))))
def yp : AC := .block 1 (.seq (.seq (.region [oM 17 3]) (.cond 17 yd .skip)) (.seq (.region [oM 36 2,oF 37 1 6,o0 38 (.zn 16 1 (.t 37) (.t 36)),oL 39 38,o0 40 (.conv .i64 (.t 39)),oM 14 40]) (.seq (.seq (.region [oM 41 14,oM 42 12,oP 43 .geq 41 42]) (.cond 43 (.seq (.region [oM 44 14,oM 10 44,oB 11 false]) .ret) .skip)) (.seq (.region [oM 45 4,oM 46 14,o0 47 (.x7 (.t 45)),o0 48 (.zn 8 1 (.t 47) (.t 46)),⟨none,none,.op (.ue (.t 48) (.c (.bool true)))⟩]) (.seq (.region [oM 49 12,oM 50 14,oP 51 .add 49 50,oM 2 51]) (.region [oB 3 true]))))))
def qam : AC := .seq (.region [o0 5 (.box (.t 0)),o0 6 (.box (.t 1)),oI 10 0,oB 11 false]) (.seq (.region [oF 15 0 5,oL 16 15,oM 12 16]) (.block 0 (.loop yp)))
theorem qjo : zh Try.prog 167 = some ⟨52, qam, [.slot 10, .slot 11]⟩ := by kernel_rfl
theorem qjr (N : Nat) (d e : List Nat) (hd : okD d) (he : okD e) (hds : isS N d = true) (hes : isS N e = true) {f : Nat} {u : Bool} {i : Nat} {met : List Bool} {r : Nat} {s : Bool} {met' : List Bool} (hf : zp N d e f u i met = some (r, s, met')) (hi : i < 2 * N) (hm : met.length = 8) :
    Am.Fn Try.prog 167 [.agg (dia N d), .agg (dia N e), .int .i64 i, .bool u, .ptr 0 0] [.cells (bls met)] (fun v H' => v = .tup [.int .i64 r, .bool s] ∧ H' = [.cells (bls met')]) := by
  refine Am.Fn.ofB qsj mixed qjo (by simp [AV.qt, AV.under, qj _ _ (qg _ _)]) (fun j o hj => by
    match j, hj with
    | 0, hj => cases hj; exact qj _ _ (vg _)
    | j + 1, hj => simp at hj) ?_
  obtain ⟨hN, hpd, _⟩ := zz hds
  obtain ⟨_, hpe, _⟩ := zz hes
  have hdl := hd.1
  have hel := he.1
  simp (maxSteps := 3000000) only [qf, zH, qam, qa, qe, hdl, hel, vz, iE, iN, iB, iC, iL, iD, iA, iS, iM, qa, zZ, ↓qp, ↓reduceIte, reduceCtorEq, nA, nM, nS, nE, nL, nD]; try simp only [qa, zY]
  refine qyn qsj (fun f st => ∃ (u : Bool) (i : Nat) (met : List Bool), zp N d e f u i met = some (r, s, met') ∧ i < 2 * N ∧ met.length = 8 ∧
      st = ⟨[(12, .int .i64 N), (6, .ptr 2 0), (5, .ptr 1 0), (4, .ptr 0 0), (3, .bool u), (2, .int .i64 i)], [.cells (bls met), .cells (dia N d), .cells (dia N e)]⟩) ⟨_, qu.qv [12, 6, 5, 4, 3, 2], f, u, i, met, hf, hi, hm, rfl⟩ ?_
  clear hf hi hm
  rintro k st ⟨u, i, met, hf, hi, hm, rfl⟩ post hpost
  obtain ⟨hi16, hi16'⟩ := x9 (show i < 16 by omega)
  have hi17 : i < 16 := by omega
  match k, u, hf with
  | 0, _, hf => simp [zp] at hf
  | f + 1, true, hf =>
    have hx := (hpd i hi).1
    have hcx : qn .i64 ((d.getD i 0 : Nat) : Int) = ((d.getD i 0 : Nat) : Int) := jj (by omega)
    rw [zp] at hf
    by_cases hlt : d.getD i 0 < N
    · rw [if_pos hlt] at hf
      simp only [Option.some.injEq, Prod.mk.injEq] at hf
      obtain ⟨rfl, rfl, rfl⟩ := hf
      have hli : ((d.getD i 0 : Nat) : Int) < (N : Int) := by omega
      simp (maxSteps := 3000000) only [qf, zH, yp, yd, hi16, hi16', hi17, qe, hdl, hel, hcx, hli, iE, iN, iB, iC, iL, iD, iA, iS, iM, qa, zZ, ↓qp, ↓reduceIte, reduceCtorEq, nA, nM, nS, nE, nL, nD]; try simp only [qa, zY]
      refine Ret.xy [0] ⟨⟨Nat.le_refl 1, rfl, by decide⟩, ?_⟩ (rs := [.int .i64 (d.getD i 0 : Nat), .bool true]) rfl rfl (by simp [xt]) ?_ ⟨?_, ?_⟩
      · simp only [qh _ _ (vg _), zK, ↓reduceIte, reduceCtorEq, nE, nB, nA]
      · intro j l; cases j <;> simp [zj, AO.ren]
      · rfl
      · simp only [qb _ _ (vg _), zL, ↓reduceIte, reduceCtorEq, nE, nA]
    · rw [if_neg hlt] at hf
      have hli : ¬ ((d.getD i 0 : Nat) : Int) < (N : Int) := by omega
      have hsub : qn .i64 (((d.getD i 0 : Nat) : Int) - (N : Int)) = ((d.getD i 0 - N : Nat) : Int) := by rw [wrap64 (by omega) (by omega)]; omega
      have h8 := Yj (show d.getD i 0 - N < 8 by omega)
      have h8' : d.getD i 0 - N < 8 := by omega
      simp (maxSteps := 3000000) only [qf, zH, yp, yd, hi16, hi16', hi17, qe, hdl, hel, hcx, hli, hsub, h8, h8', z6, hm, K8, AV.one, iE, iN, iB, iC, iL, iD, iA, iS, iM, qa, zZ, ↓qp, ↓reduceIte, reduceCtorEq, nA, nM, nS, nE, nL, nD]; try simp only [qa, zY]
      exact hpost _ _ f (qu.qv [12, 6, 5, 4, 3, 2]) ⟨false, d.getD i 0 - N, _, hf, by omega, by simp [hm], rfl⟩ (Nat.lt_succ_self _)
  | f + 1, false, hf =>
    have hx := (hpe i hi).1
    have hcx : qn .i64 ((e.getD i 0 : Nat) : Int) = ((e.getD i 0 : Nat) : Int) := jj (by omega)
    rw [zp] at hf
    by_cases hlt : N ≤ e.getD i 0
    · rw [if_pos hlt] at hf
      simp only [Option.some.injEq, Prod.mk.injEq] at hf
      obtain ⟨rfl, rfl, rfl⟩ := hf
      have hli : (N : Int) ≤ ((e.getD i 0 : Nat) : Int) := by omega
      simp (maxSteps := 3000000) only [qf, zH, yp, yd, hi16, hi16', hi17, qe, hdl, hel, hcx, hli, iE, iN, iB, iC, iL, iD, iA, iS, iM, qa, zZ, ↓qp, ↓reduceIte, reduceCtorEq, nA, nM, nS, nE, nL, nD]; try simp only [qa, zY]
      refine Ret.xy [0] ⟨⟨Nat.le_refl 1, rfl, by decide⟩, ?_⟩ (rs := [.int .i64 (e.getD i 0 : Nat), .bool false]) rfl rfl (by simp [xt]) ?_ ⟨?_, ?_⟩
      · simp only [qh _ _ (vg _), zK, ↓reduceIte, reduceCtorEq, nE, nB, nA]
      · intro j l; cases j <;> simp [zj, AO.ren]
      · rfl
      · simp only [qb _ _ (vg _), zL, ↓reduceIte, reduceCtorEq, nE, nA]
    · rw [if_neg hlt] at hf
      have hli : ¬ (N : Int) ≤ ((e.getD i 0 : Nat) : Int) := by omega
      have hadd : qn .i64 ((N : Int) + ((e.getD i 0 : Nat) : Int)) = ((N + e.getD i 0 : Nat) : Int) := by rw [wrap64 (by omega) (by omega)]; rfl
      have h8 := Yj (show e.getD i 0 < 8 by omega)
      have h8' : e.getD i 0 < 8 := by omega
      simp (maxSteps := 3000000) only [qf, zH, yp, yd, hi16, hi16', hi17, qe, hdl, hel, hcx, hli, hadd, h8, h8', z6, hm, K8, AV.one, iE, iN, iB, iC, iL, iD, iA, iS, iM, qa, zZ, ↓qp, ↓reduceIte, reduceCtorEq, nA, nM, nS, nE, nL, nD]; try simp only [qa, zY]
      exact hpost _ _ f (qu.qv [12, 6, 5, 4, 3, 2]) ⟨true, N + e.getD i 0, _, hf, by omega, by simp [hm], rfl⟩ (Nat.lt_succ_self _)
def W0 : List AV → Option (List Bool)
  | [] => some []
  | .bool b :: l => (W0 l).map (b :: ·)
  | _ => none
theorem Kr : ∀ l, W0 (bls l) = some l
  | [] => rfl
  | b :: l => by
    have := Kr l
    simp only [bls] at this
    simp only [bls, List.map_cons, W0, this, Option.map_some]
theorem U4 : ∀ {l : List AV} {m : List Bool}, W0 l = some m → l = bls m
  | [], m, h => by simp only [W0, Option.some.injEq] at h; subst h; rfl
  | .bool b :: l, m, h => by
    simp only [W0, Option.map_eq_some_iff] at h
    obtain ⟨m', h1, rfl⟩ := h
    rw [U4 h1]; rfl
noncomputable def gb : BE := fun hp xs => match xs with
  | [.agg ld, .agg le, .int .i64 i, .bool u, .ptr b 0] => match hp[b]? with
    | some (.cells lm) => match vy ld, vy le, W0 lm with
      | some (n, d), some (n', e), some met => chk (((n' = n ∧ 0 ≤ n) ∧ isS n.toNat d = true ∧ isS n.toNat e = true) ∧ (0 ≤ i ∧ i < 2 * n) ∧ met.length = 8 ∧ u = decide (i < n)) (some (.tup [.int .i64 (pr n.toNat d e i.toNat : Nat), .bool (decide (pr n.toNat d e i.toNat < n.toNat))], hp.set b (.cells (bls (fol n.toNat d e u i.toNat met)))))
      | _, _, _ => none
    | _ => none
  | _ => none
theorem q0e : Am.Callee Try.prog 167 gb := Callee.fp fun hp xs v hp' he => by
  unfold gb at he
  split at he
  · rename_i ld le i u b
    split at he
    · rename_i lm hb
      split at he
      · rename_i n d n' e met hd1 he1 hm1
        obtain ⟨⟨⟨⟨a1, a2⟩, a3, a4⟩, a5, a6, a7⟩, he2⟩ := qm he
        simp only [Option.some.injEq, Prod.mk.injEq] at he2
        obtain ⟨rfl, rfl⟩ := he2
        obtain ⟨rfl, hd⟩ := zl hd1
        obtain ⟨rfl, he'⟩ := zl he1
        have hbl := U4 hm1
        subst hbl; subst a1
        obtain ⟨N, rfl⟩ : ∃ N : Nat, n' = N := ⟨n'.toNat, by omega⟩
        obtain ⟨k, rfl⟩ : ∃ k : Nat, i = k := ⟨i.toNat, by omega⟩
        simp only [Int.toNat_natCast] at a3 a4 ⊢
        have hu : u = decide (k < N) := by rw [a7]; congr 1; exact propext (by omega)
        subst hu
        obtain ⟨f, met', hf⟩ := Y8 a3 a4 (i := k) (by omega) met
        have hfo := qit hf
        refine ⟨[(b, 0)], [.agg (dia N d), .agg (dia N e), .int .i64 k, .bool (decide (k < N)), .ptr 0 0], _, _, _, qjr N d e hd he' a3 a4 hf (by omega) a6, by simp [AV.ren, AV.zg, ofL, qb _ _ (qg _ _)], by simp [jb], ⟨⟨rfl, by simp only [AO.ren, qb _ _ (vg _)]; exact hb⟩, trivial⟩, rfl, ⟨qj _ _ (vg _), trivial⟩, ⟨qj _ _ (qg _ _), qj _ _ (qg _ _), trivial, trivial, by simp [AV.under], trivial⟩, by simp [AV.ren, AV.zg], ?_⟩
        simp [after, upd, AO.wr, AO.ren, qb _ _ (vg _), hfo]
      · cases he
    · cases he
  · cases he
noncomputable def B80 : zb := (B79.put 167 (gb))
theorem qdz : qo Try.prog B80 := (qsj.put (q0e))
end Go.Proofs.Ytfhckbbgmblhbaa
