/- Plain laws of diagrams: what becomes of them when they are flipped, widened and closed. -/
import Derived.Test.YtkgoadglalpbfaaG7
namespace Go.Proofs.Ytkgoadglalpbfaa
open Go.Am Go.Dia
open Nat renaming reduceAdd → nA, reduceMul → nM, reduceSub → nS, reduceEqDiff → nE, reduceLT → nL, reduceLeDiff → nD, reduceBEq → nB
open Int renaming reduceEq → iE, reduceNe → iN, reduceBEq → iB, reduceBNe → iC, reduceLT → iL, reduceLE → iD, reduceAdd → iA, reduceSub → iS, reduceMul → iM
set_option linter.unusedSimpArgs false
set_option linter.unusedVariables false
set_option maxRecDepth 4000
set_option maxHeartbeats 1000000
structure NC (L : Nat) (F : Nat → Nat) : Prop where
  lt : ∀ k, k < L → F k < L
  inv : ∀ k, k < L → F (F k) = k
  fix : ∀ k, k < L → F k ≠ k
  j5 : ∀ j l, j < L → l < L → ¬(j < l ∧ l < F j ∧ F j < F l)
def mf (n : Nat) (m : List Nat) (k : Nat) : Nat := place n (m.getD (place n k) 0)
theorem ji {n : Nat} {m : List Nat} (h : isS n m = true) : (1 ≤ n ∧ n ≤ 8) ∧ (∀ i, i < 2 * n → m.getD i 0 < 2 * n ∧ m.getD i 0 ≠ i ∧ m.getD (m.getD i 0) 0 = i) ∧ ∀ i, 2 * n ≤ i → i < 16 → m.getD i 0 = 0 := by
  unfold isS at h
  simp only [Bool.and_eq_true, decide_eq_true_eq] at h
  obtain ⟨hn, hp, hc⟩ := h
  refine ⟨hn, fun i hi => ?_, fun i hi hi' => ?_⟩
  · have := List.all_eq_true.1 hp i (List.mem_range.2 (by omega))
    rw [if_neg (by omega)] at this
    simpa using this
  · have := List.all_eq_true.1 hp i (List.mem_range.2 hi')
    rw [if_pos hi] at this
    simpa using this
theorem qgz {n : Nat} {m : List Nat} (h : isS n m = true) : NC (2 * n) (mf n m) := by
  obtain ⟨hn, hp', hz⟩ := ji h
  unfold isS at h
  simp only [Bool.and_eq_true, decide_eq_true_eq] at h
  obtain ⟨_, _, hc⟩ := h
  refine ⟨fun k hk => zp (hp' _ (zp hk)).1, fun k hk => ?_, fun k hk e => ?_, ?_⟩
  · show place n (m.getD (place n (place n (m.getD (place n k) 0))) 0) = k
    rw [zq (hp' _ (zp hk)).1, (hp' _ (zp hk)).2.2, zq hk]
  · apply (hp' _ (zp hk)).2.1
    rw [← zq (hp' _ (zp hk)).1]
    show place n (mf n m k) = place n k
    rw [e]
  · rintro j l hj hl ⟨b1, b2, b3⟩
    have h1 := List.all_eq_true.1 (List.all_eq_true.1 hc (place n j) (List.mem_range.2 (zp hj))) (place n l) (List.mem_range.2 (zp hl))
    simp only [Jn, Jm, zq hj, zq hl, Bool.not_eq_true', decide_eq_false_iff_not] at h1
    apply h1
    show min j (mf n m j) < min l (mf n m l) ∧ min l (mf n m l) < max j (mf n m j) ∧ max j (mf n m j) < max l (mf n m l)
    omega
theorem qwp {n : Nat} {m : List Nat} (hn : 1 ≤ n ∧ n ≤ 8) (hz : ∀ i, 2 * n ≤ i → i < 16 → m.getD i 0 = 0) (hl : ∀ i, i < 2 * n → m.getD i 0 < 2 * n) (h : NC (2 * n) (mf n m)) : isS n m = true := by
  have hm : ∀ i, i < 2 * n → mf n m (place n i) = place n (m.getD i 0) := fun i hi => by unfold mf; rw [zq hi]
  unfold isS
  simp only [Bool.and_eq_true, decide_eq_true_eq]
  refine ⟨hn, List.all_eq_true.2 fun i hi => ?_, List.all_eq_true.2 fun i hi => List.all_eq_true.2 fun k hk => ?_⟩
  · have hi' := List.mem_range.1 hi
    split
    · rename_i g1; simpa using hz i g1 hi'
    · rename_i g1
      have hi2 : i < 2 * n := by omega
      have h1 := hl i hi2
      simp only [decide_eq_true_eq]
      refine ⟨h1, fun e => ?_, ?_⟩
      · apply h.fix (place n i) (zp hi2)
        rw [hm i hi2, e]
      · have h2 := h.inv (place n i) (zp hi2)
        rw [hm i hi2, hm _ h1] at h2
        have h3 := congrArg (place n) h2
        rwa [zq (hl _ h1), zq hi2] at h3
  · have hi' := List.mem_range.1 hi
    have hk' := List.mem_range.1 hk
    simp only [Jn, Jm, ← hm i hi', ← hm k hk', Bool.not_eq_true', decide_eq_false_iff_not]
    rintro ⟨b1, b2, b3⟩
    have hx := zp hi'
    have hy := zp hk'
    generalize place n i = x at *
    generalize place n k = y at *
    have a := h.lt x hx
    have a' := h.lt y hy
    have c := h.inv x hx
    have c' := h.inv y hy
    have k1 := h.j5 x y hx hy
    have k2 := h.j5 x (mf n m y) hx a'
    have k3 := h.j5 (mf n m x) y a hy
    have k4 := h.j5 (mf n m x) (mf n m y) a a'
    rw [c'] at k2
    rw [c] at k3
    rw [c, c'] at k4
    omega
def up (j k : Nat) : Nat := if k < j then k else k + 2
def dn (j k : Nat) : Nat := if k < j then k else k - 2
theorem qnw {j k : Nat} (h1 : k ≠ j) (h2 : k ≠ j + 1) : up j (dn j k) = k := by
  unfold up dn
  by_cases h : k < j
  · rw [if_pos h, if_pos h]
  · rw [if_neg h, if_neg (by omega)]; omega
theorem qod {j k : Nat} : dn j (up j k) = k := by
  unfold up dn
  by_cases h : k < j
  · rw [if_pos h, if_pos h]
  · rw [if_neg h, if_neg (by omega)]; omega
theorem qf7 {j k : Nat} : up j k ≠ j ∧ up j k ≠ j + 1 := by unfold up; split <;> omega
theorem qgc {j k k' : Nat} : up j k < up j k' ↔ k < k' := by unfold up; split <;> split <;> omega
theorem qkv {j k L : Nat} (hj : j ≤ L) : up j k < L + 2 ↔ k < L := by unfold up; split <;> omega
theorem NC.insert {L j : Nat} {F F' : Nat → Nat} (h : NC L F) (hj : j ≤ L) (e1 : F' j = j + 1) (e2 : F' (j + 1) = j) (e : ∀ k, k < L → F' (up j k) = up j (F k)) : NC (L + 2) F' := by
  have hc : ∀ k, k < L + 2 → k = j ∨ k = j + 1 ∨ ∃ i, i < L ∧ k = up j i := fun k hk => by
    by_cases h1 : k = j
    · exact .inl h1
    by_cases h2 : k = j + 1
    · exact .inr (.inl h2)
    exact .inr (.inr ⟨dn j k, (qkv hj).1 (by rw [qnw h1 h2]; exact hk), (qnw h1 h2).symm⟩)
  refine ⟨fun k hk => ?_, fun k hk => ?_, fun k hk => ?_, fun a b ha hb => ?_⟩
  · rcases hc k hk with rfl | rfl | ⟨i, hi, rfl⟩
    · omega
    · omega
    · rw [e i hi]; exact (qkv hj).2 (h.lt i hi)
  · rcases hc k hk with rfl | rfl | ⟨i, hi, rfl⟩
    · rw [e1, e2]
    · rw [e2, e1]
    · rw [e i hi, e _ (h.lt i hi), h.inv i hi]
  · rcases hc k hk with rfl | rfl | ⟨i, hi, rfl⟩
    · omega
    · omega
    · rw [e i hi]
      intro h2
      have := congrArg (dn j) h2
      rw [qod, qod] at this
      exact h.fix i hi this
  · rcases hc a ha with rfl | rfl | ⟨i, hi, rfl⟩
    · rw [e1]; omega
    · rw [e2]; omega
    · rcases hc b hb with rfl | rfl | ⟨l, hl, rfl⟩
      · rw [e1, e i hi]; have := @qf7 b (F i); omega
      · rw [e2, e i hi]; have := @qf7 j (F i); have := @qf7 j i; omega
      · rw [e i hi, e l hl, qgc, qgc, qgc]; exact h.j5 i l hi hl
theorem NC.remove {L j : Nat} {F F' : Nat → Nat} (h : NC (L + 2) F) (hj : j ≤ L) (e : ∀ k, k < L → F' k = dn j (if F (up j k) = j then F (j + 1) else if F (up j k) = j + 1 then F j else F (up j k))) : NC L F' := by
  let G : Nat → Nat := fun x => if F x = j then F (j + 1) else if F x = j + 1 then F j else F x
  have hG : ∀ x, x < L + 2 → x ≠ j → x ≠ j + 1 → G x < L + 2 ∧ G x ≠ j ∧ G x ≠ j + 1 ∧ G (G x) = x ∧ G x ≠ x := fun x hx n1 n2 => by
    have a := h.lt x hx
    have c := h.inv x hx
    have f := h.fix x hx
    have a0 := h.lt j (by omega)
    have c0 := h.inv j (by omega)
    have f0 := h.fix j (by omega)
    have a1 := h.lt (j + 1) (by omega)
    have c1 := h.inv (j + 1) (by omega)
    have f1 := h.fix (j + 1) (by omega)
    show (if F x = j then F (j + 1) else if F x = j + 1 then F j else F x) < L + 2 ∧ _
    by_cases g1 : F x = j
    · have e0 : F j = x := by rw [← g1]; exact c
      have e3 : G x = F (j + 1) := if_pos g1
      have n3 : F (j + 1) ≠ j := fun g => by rw [g] at c1; omega
      refine ⟨by rw [if_pos g1]; exact a1, by rw [e3]; exact n3, by rw [e3]; exact f1, ?_, ?_⟩
      · rw [e3]
        show (if F (F (j + 1)) = j then F (j + 1) else if F (F (j + 1)) = j + 1 then F j else F (F (j + 1))) = x
        rw [c1, if_neg (by omega), if_pos rfl, e0]
      · rw [e3]; intro g; rw [g] at c1; omega
    · by_cases g2 : F x = j + 1
      · have e0 : F (j + 1) = x := by rw [← g2]; exact c
        have e3 : G x = F j := by show (if F x = j then F (j + 1) else if F x = j + 1 then F j else F x) = _; rw [if_neg g1, if_pos g2]
        have n3 : F j ≠ j + 1 := fun g => by rw [g] at c0; omega
        refine ⟨by rw [if_neg g1, if_pos g2]; exact a0, by rw [e3]; exact f0, by rw [e3]; exact n3, ?_, ?_⟩
        · rw [e3]
          show (if F (F j) = j then F (j + 1) else if F (F j) = j + 1 then F j else F (F j)) = x
          rw [c0, if_pos rfl, e0]
        · rw [e3]; intro g; rw [g] at c0; omega
      · have e3 : G x = F x := by show (if F x = j then F (j + 1) else if F x = j + 1 then F j else F x) = _; rw [if_neg g1, if_neg g2]
        refine ⟨by rw [if_neg g1, if_neg g2]; exact a, by rw [e3]; exact g1, by rw [e3]; exact g2, ?_, by rw [e3]; exact f⟩
        rw [e3]
        show (if F (F x) = j then F (j + 1) else if F (F x) = j + 1 then F j else F (F x)) = x
        rw [c, if_neg n1, if_neg n2]
  have hX : ∀ x y, x < L + 2 → y < L + 2 → x ≠ j → x ≠ j + 1 → y ≠ j → y ≠ j + 1 → ¬(x < y ∧ y < G x ∧ G x < G y) := fun x y hx hy n1 n2 n3 n4 => by
    have a := h.lt x hx
    have c := h.inv x hx
    have b := h.lt y hy
    have d := h.inv y hy
    have a0 := h.lt j (by omega)
    have c0 := h.inv j (by omega)
    have f0 := h.fix j (by omega)
    have a1 := h.lt (j + 1) (by omega)
    have c1 := h.inv (j + 1) (by omega)
    have f1 := h.fix (j + 1) (by omega)
    have gx : G x = if F x = j then F (j + 1) else if F x = j + 1 then F j else F x := rfl
    have gy : G y = if F y = j then F (j + 1) else if F y = j + 1 then F j else F y := rfl
    have k1 := h.j5 x y hx hy
    by_cases g1 : F x = j
    · have e0 : F j = x := by rw [← g1]; exact c
      rw [gx, if_pos g1]
      by_cases g3 : F y = j
      · have : F j = y := by rw [← g3]; exact d
        omega
      by_cases g4 : F y = j + 1
      · have e4 : F (j + 1) = y := by rw [← g4]; exact d
        omega
      rw [gy, if_neg g3, if_neg g4]
      have k2 := h.j5 (j + 1) y (by omega) hy
      have k3 := h.j5 (F (j + 1)) (F y) a1 b
      have k4 := h.j5 y (j + 1) hy (by omega)
      have k5 := h.j5 x y hx hy
      have k6 := h.j5 y (F (j + 1)) hy a1
      rw [c1, d] at k3
      rw [c1] at k6
      omega
    · by_cases g2 : F x = j + 1
      · have e0 : F (j + 1) = x := by rw [← g2]; exact c
        rw [gx, if_neg g1, if_pos g2]
        by_cases g3 : F y = j
        · have e3 : F j = y := by rw [← g3]; exact d
          omega
        by_cases g4 : F y = j + 1
        · have : F (j + 1) = y := by rw [← g4]; exact d
          omega
        rw [gy, if_neg g3, if_neg g4]
        have k2 := h.j5 j y (by omega) hy
        have k3 := h.j5 (F j) (F y) a0 b
        have k4 := h.j5 y j hy (by omega)
        have k6 := h.j5 y (F j) hy a0
        rw [c0, d] at k3
        rw [c0] at k6
        omega
      · rw [gx, if_neg g1, if_neg g2]
        by_cases g3 : F y = j
        · have e3 : F j = y := by rw [← g3]; exact d
          rw [gy, if_pos g3]
          have k2 := h.j5 x (j + 1) hx (by omega)
          have k3 := h.j5 (F (j + 1)) x a1 hx
          have k4 := h.j5 x (F (j + 1)) hx a1
          have k5 := h.j5 (j + 1) (F x) (by omega) a
          have k6 := h.j5 j x (by omega) hx
          have k7 := h.j5 (j + 1) x (by omega) hx
          rw [c1] at k3 k4
          rw [c] at k5
          omega
        by_cases g4 : F y = j + 1
        · have e4 : F (j + 1) = y := by rw [← g4]; exact d
          rw [gy, if_neg g3, if_pos g4]
          have k2 := h.j5 x j hx (by omega)
          have k3 := h.j5 (F j) x a0 hx
          have k4 := h.j5 x (F j) hx a0
          have k5 := h.j5 j (F x) (by omega) a
          have k6 := h.j5 j x (by omega) hx
          have k7 := h.j5 (j + 1) x (by omega) hx
          rw [c0] at k3 k4
          rw [c] at k5
          omega
        rw [gy, if_neg g3, if_neg g4]
        exact k1
  have hu : ∀ k, k < L → up j k < L + 2 ∧ up j k ≠ j ∧ up j k ≠ j + 1 := fun k hk => ⟨(qkv hj).2 hk, qf7.1, qf7.2⟩
  have he : ∀ k, k < L → F' k = dn j (G (up j k)) := e
  have hue : ∀ k, k < L → up j (F' k) = G (up j k) := fun k hk => by
    obtain ⟨b1, b2, b3⟩ := hu k hk
    obtain ⟨_, b4, b5, _⟩ := hG _ b1 b2 b3
    rw [he k hk, qnw b4 b5]
  have hlt : ∀ k, k < L → F' k < L := fun k hk => by
    obtain ⟨b1, b2, b3⟩ := hu k hk
    obtain ⟨b0, b4, b5, _⟩ := hG _ b1 b2 b3
    rw [← qkv hj, hue k hk]; exact b0
  have upi : ∀ {a b : Nat}, up j a = up j b → a = b := fun {a b} hab => by have := congrArg (dn j) hab; rwa [qod, qod] at this
  refine ⟨hlt, fun k hk => ?_, fun k hk => ?_, fun a b ha hb => ?_⟩
  · obtain ⟨b1, b2, b3⟩ := hu k hk
    apply upi
    rw [hue _ (hlt k hk), hue k hk]
    exact (hG _ b1 b2 b3).2.2.2.1
  · obtain ⟨b1, b2, b3⟩ := hu k hk
    intro g
    have := hue k hk
    rw [g] at this
    exact (hG _ b1 b2 b3).2.2.2.2 this.symm
  · obtain ⟨b1, b2, b3⟩ := hu a ha
    obtain ⟨d1, d2, d3⟩ := hu b hb
    have := hX _ _ b1 d1 b2 b3 d2 d3
    rw [← hue a ha, ← hue b hb, qgc, qgc, qgc] at this
    exact this
end Go.Proofs.Ytkgoadglalpbfaa
