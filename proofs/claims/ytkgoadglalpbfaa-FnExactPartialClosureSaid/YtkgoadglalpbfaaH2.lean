/- Plain laws of diagrams: flips, a line at the right, and partial closures, as lists. -/
import Derived.Test.YtkgoadglalpbfaaH1
namespace Go.Proofs.Ytkgoadglalpbfaa
open Go.Am Go.Dia
set_option linter.unusedSimpArgs false
set_option linter.unusedVariables false
set_option maxRecDepth 4000
set_option maxHeartbeats 1000000

/-- A list with places written one after the other. -/
def putAll (at' : Nat → Nat) (to : Nat → Nat) (ok : Nat → Bool) : Nat → List Nat
  | 0 => List.replicate 16 0
  | k + 1 => if ok k then (putAll at' to ok k).set (at' k) (to k) else putAll at' to ok k
theorem putAll_length (a t : Nat → Nat) (ok : Nat → Bool) : ∀ k, (putAll a t ok k).length = 16
  | 0 => by simp [putAll]
  | k + 1 => by unfold putAll; split <;> simp [putAll_length a t ok k]
theorem putAll_get {a t : Nat → Nat} {ok : Nat → Bool} {L : Nat} (hinj : ∀ i j, i < L → j < L → ok i = true → ok j = true → a i = a j → i = j) (ha : ∀ i, i < L → ok i = true → a i < 16) : ∀ k, k ≤ L → ∀ i, i < L → ok i = true → (putAll a t ok k).getD (a i) 0 = if i < k then t i else 0
  | 0, _, i, hi, _ => by
    simp only [putAll, List.getD_eq_getElem?_getD, List.getElem?_replicate]
    split <;> simp
  | k + 1, hk, i, hi, ho => by
    have ih := putAll_get (t := t) hinj ha k (by omega) i hi ho
    unfold putAll
    split
    · rename_i hok
      rw [getD_set, putAll_length]
      by_cases e : k = i
      · subst e; rw [if_pos ⟨rfl, ha k hi ho⟩, if_pos (by omega)]
      · rw [if_neg (fun h => e (hinj k i (by omega) hi hok ho h.1)), ih]
        by_cases h : i < k
        · rw [if_pos h, if_pos (by omega)]
        · rw [if_neg h, if_neg (by omega)]
    · rename_i hok
      rw [ih]
      by_cases e : k = i
      · subst e; exact absurd ho hok
      by_cases h : i < k
      · rw [if_pos h, if_pos (by omega)]
      · rw [if_neg h, if_neg (by omega)]
theorem putAll_other {a t : Nat → Nat} {ok : Nat → Bool} {x : Nat} : ∀ k, (∀ i, i < k → ok i = true → a i ≠ x) → (putAll a t ok k).getD x 0 = 0
  | 0, _ => by
    simp only [putAll, List.getD_eq_getElem?_getD, List.getElem?_replicate]
    split <;> simp
  | k + 1, h => by
    have ih := putAll_other (t := t) k fun i hi => h i (by omega)
    unfold putAll
    split
    · rename_i hok
      rw [getD_set, if_neg (fun h2 => h k (by omega) hok h2.1), ih]
    · exact ih
theorem putAll_lt {a t : Nat → Nat} {ok : Nat → Bool} {B : Nat} (hB : 0 < B) : ∀ k, (∀ i, i < k → ok i = true → t i < B) → ∀ x ∈ putAll a t ok k, x < B
  | 0, _, x, hx => by rw [(List.mem_replicate.1 hx).2]; exact hB
  | k + 1, h, x, hx => by
    have ih := putAll_lt (a := a) hB k fun i hi => h i (by omega)
    unfold putAll at hx
    split at hx
    · rename_i hok
      rcases List.mem_or_eq_of_mem_set hx with h1 | h1
      · exact ih x h1
      · rw [h1]; exact h k (by omega) hok
    · exact ih x hx

/-- Where a point lies in the flip. -/
def fl (n i : Nat) : Nat := (i + n) % (2 * n)
theorem fl_eq {n i : Nat} (h : i < 2 * n) : fl n i = if i < n then i + n else i - n := by
  unfold fl
  split
  · rw [Nat.mod_eq_of_lt (by omega)]
  · rw [Nat.mod_eq_sub_mod (by omega), Nat.mod_eq_of_lt (by omega)]; omega
theorem fl_lt {n i : Nat} (h : i < 2 * n) : fl n i < 2 * n := by rw [fl_eq h]; split <;> omega
theorem fl_fl {n i : Nat} (h : i < 2 * n) : fl n (fl n i) = i := by
  rw [fl_eq (fl_lt h), fl_eq h]
  by_cases h1 : i < n
  · rw [if_pos h1, if_neg (by omega)]; omega
  · rw [if_neg h1, if_pos (by omega)]; omega
theorem place_fl {n i : Nat} (h : i < 2 * n) : place n (fl n i) = 2 * n - 1 - place n i := by
  rw [fl_eq h]
  unfold place
  by_cases h1 : i < n
  · rw [if_pos h1, if_pos h1, if_neg (by omega)]; omega
  · rw [if_neg h1, if_neg h1, if_pos (by omega)]; omega
def flipK (n : Nat) (m : List Nat) (k : Nat) : List Nat := putAll (fl n) (fun i => fl n (m.getD i 0)) (fun _ => true) k
def flipL (n : Nat) (m : List Nat) : List Nat := flipK n m (2 * n)
theorem flipL_get {n : Nat} {m : List Nat} (hn : n ≤ 8) {i : Nat} (hi : i < 2 * n) : (flipL n m).getD (fl n i) 0 = fl n (m.getD i 0) := by
  have := putAll_get (a := fl n) (t := fun i => fl n (m.getD i 0)) (ok := fun _ => true) (L := 2 * n) (fun i j hi hj _ _ e => by rw [← fl_fl hi, e, fl_fl hj]) (fun i hi _ => by have := fl_lt hi; omega) (2 * n) (Nat.le_refl _) i hi rfl
  rw [if_pos hi] at this
  exact this
theorem flip_isS {n : Nat} {m : List Nat} (h : isS n m = true) : isS n (flipL n m) = true ∧ okD (flipL n m) := by
  obtain ⟨hn, hp, hz⟩ := isS_mate h
  have hg : ∀ i, i < 2 * n → (flipL n m).getD i 0 = fl n (m.getD (fl n i) 0) := fun i hi => by
    have := flipL_get (m := m) hn.2 (fl_lt hi)
    rwa [fl_fl hi] at this
  refine ⟨isS_of hn (fun i h1 h2 => ?_) (fun i hi => ?_) ?_, putAll_length _ _ _ _, ?_⟩
  · exact putAll_other _ fun j hj _ e => by have := fl_lt hj; omega
  · rw [hg i hi]; exact fl_lt (hp _ (fl_lt hi)).1
  · refine (isS_nc h).flip fun k hk => ?_
    have h1 := place_lt hk
    have h2 := fl_lt h1
    have h3 : place n (2 * n - 1 - k) = fl n (place n k) := by
      have := place_fl h1
      rw [place_place hk] at this
      rw [← this, place_place h2]
    unfold mf
    rw [hg _ h1, place_fl (hp _ h2).1, h3]
  · refine putAll_lt (by omega) _ fun i hi _ => ?_
    have := fl_lt (n := n) (i := m.getD i 0) (hp i hi).1
    show fl n (m.getD i 0) < 256
    omega

/-- Where a point lies beside a line more. -/
def wd (n i : Nat) : Nat := if i < n then i else i + 1
def wideK (n : Nat) (m : List Nat) (k : Nat) : List Nat := putAll (wd n) (fun i => wd n (m.getD i 0)) (fun _ => true) k
def wideL (n : Nat) (m : List Nat) : List Nat := ((wideK n m (2 * n)).set n (2 * n + 1)).set (2 * n + 1) n
theorem wide_isS {n : Nat} {m : List Nat} (hn8 : n < 8) (h : isS n m = true) : isS (n + 1) (wideL n m) = true ∧ okD (wideL n m) := by
  obtain ⟨hn, hp, hz⟩ := isS_mate h
  have hwl : ∀ i, i < 2 * n → wd n i < 2 * n + 1 := fun i hi => by unfold wd; split <;> omega
  have hwn : ∀ i, wd n i ≠ n := fun i => by unfold wd; split <;> omega
  have hinj : ∀ i j, wd n i = wd n j → i = j := fun i j e => by unfold wd at e; split at e <;> split at e <;> omega
  have hg : ∀ i, i < 2 * n → (wideL n m).getD (wd n i) 0 = wd n (m.getD i 0) := fun i hi => by
    have := putAll_get (a := wd n) (t := fun i => wd n (m.getD i 0)) (ok := fun _ => true) (L := 2 * n) (fun i j hi hj _ _ e => hinj i j e) (fun i hi _ => by have := hwl i hi; omega) (2 * n) (Nat.le_refl _) i hi rfl
    rw [if_pos hi] at this
    have h1 := hwl i hi
    have h2 := hwn i
    unfold wideL
    rw [getD_set, if_neg (by omega), getD_set, if_neg (by omega)]
    exact this
  have hgn : (wideL n m).getD n 0 = 2 * n + 1 := by
    unfold wideL
    rw [getD_set, if_neg (by omega), getD_set, if_pos ⟨rfl, by unfold wideK; rw [putAll_length]; omega⟩]
  have hgl : (wideL n m).getD (2 * n + 1) 0 = n := by
    unfold wideL
    rw [getD_set, if_pos ⟨rfl, by unfold wideK; rw [List.length_set, putAll_length]; omega⟩]
  have hcase : ∀ i, i < 2 * (n + 1) → i = n ∨ i = 2 * n + 1 ∨ ∃ k, k < 2 * n ∧ i = wd n k := fun i hi => by
    by_cases h1 : i = n
    · exact .inl h1
    by_cases h2 : i = 2 * n + 1
    · exact .inr (.inl h2)
    by_cases h3 : i < n
    · exact .inr (.inr ⟨i, by omega, by unfold wd; rw [if_pos h3]⟩)
    · exact .inr (.inr ⟨i - 1, by omega, by unfold wd; rw [if_neg (by omega)]; omega⟩)
  have hpw : ∀ k, k < 2 * n → place (n + 1) (wd n k) = up n (place n k) := fun k hk => by
    unfold wd place up
    by_cases h1 : k < n
    · rw [if_pos h1, if_pos h1, if_pos (by omega), if_pos h1]
    · rw [if_neg h1, if_neg h1, if_neg (by omega), if_neg (by omega)]; omega
  refine ⟨isS_of (by omega) (fun i h1 h2 => ?_) (fun i hi => ?_) ?_, ?_, ?_⟩
  · unfold wideL
    rw [getD_set, if_neg (by omega), getD_set, if_neg (by omega)]
    exact putAll_other _ fun j hj _ e => by have := hwl j hj; omega
  · rcases hcase i hi with rfl | rfl | ⟨k, hk, rfl⟩
    · rw [hgn]; omega
    · rw [hgl]; omega
    · rw [hg k hk]; have := hwl _ (hp k hk).1; omega
  · have hp1 : place (n + 1) n = n := by unfold place; rw [if_pos (by omega)]
    have hp2 : place (n + 1) (2 * n + 1) = n + 1 := by unfold place; rw [if_neg (by omega)]; omega
    have hp3 : place (n + 1) (n + 1) = 2 * n + 1 := by unfold place; rw [if_neg (by omega)]; omega
    rw [show 2 * (n + 1) = 2 * n + 2 by omega]
    refine (isS_nc h).insert (j := n) (by omega) ?_ ?_ fun k hk => ?_
    · unfold mf; rw [hp1, hgn, hp2]
    · unfold mf; rw [hp3, hgl, hp1]
    · have h1 := hpw (place n k) (place_lt hk)
      rw [place_place hk] at h1
      have h2 : place (n + 1) (up n k) = wd n (place n k) := by
        rw [← h1, place_place (by have := hwl _ (place_lt hk); omega)]
      unfold mf
      rw [h2, hg _ (place_lt hk), hpw _ (hp _ (place_lt hk)).1]
  · unfold wideL wideK; rw [List.length_set, List.length_set, putAll_length]
  · intro x hx
    unfold wideL at hx
    rcases List.mem_or_eq_of_mem_set hx with hx | rfl
    · rcases List.mem_or_eq_of_mem_set hx with hx | rfl
      · refine Nat.lt_trans (putAll_lt (B := 20) (by omega) _ (fun i hi _ => ?_) x hx) (by omega)
        have := hwl _ (hp i hi).1
        show wd n (m.getD i 0) < 20
        omega
      · omega
    · omega

/-- The partial closure: the last points of both sides are joined. -/
def cmate (n : Nat) (m : List Nat) (i : Nat) : Nat := if m.getD (2 * n - 1) 0 = i then m.getD (n - 1) 0 else if m.getD (n - 1) 0 = i then m.getD (2 * n - 1) 0 else m.getD i 0
def cl (n i : Nat) : Nat := if i < n then i else i - 1
def clOk (n i : Nat) : Bool := i != n - 1 && i != 2 * n - 1
def closeK (n : Nat) (m : List Nat) (k : Nat) : List Nat := putAll (cl n) (fun i => cl n (cmate n m i)) (clOk n) k
def closeL (n : Nat) (m : List Nat) : List Nat := closeK n m (2 * n)
theorem close_isS {n : Nat} {m : List Nat} (hn1 : 1 < n) (h : isS n m = true) : isS (n - 1) (closeL n m) = true ∧ okD (closeL n m) := by
  obtain ⟨hn, hp, hz⟩ := isS_mate h
  have hokI : ∀ i, clOk n i = true ↔ i ≠ n - 1 ∧ i ≠ 2 * n - 1 := fun i => by simp [clOk]
  have hinj : ∀ i j, i < 2 * n → j < 2 * n → clOk n i = true → clOk n j = true → cl n i = cl n j → i = j := fun i j hi hj oi oj e => by
    rw [hokI] at oi oj
    unfold cl at e; split at e <;> split at e <;> omega
  have hcl : ∀ i, i < 2 * n → clOk n i = true → cl n i < 2 * (n - 1) := fun i hi oi => by
    rw [hokI] at oi
    unfold cl; split <;> omega
  have hg : ∀ i, i < 2 * n → clOk n i = true → (closeL n m).getD (cl n i) 0 = cl n (cmate n m i) := fun i hi oi => by
    have := putAll_get (a := cl n) (t := fun i => cl n (cmate n m i)) (ok := clOk n) (L := 2 * n) hinj (fun i hi oi => by have := hcl i hi oi; omega) (2 * n) (Nat.le_refl _) i hi oi
    rw [if_pos hi] at this
    exact this
  have ha := hp (n - 1) (by omega)
  have hb := hp (2 * n - 1) (by omega)
  have hcm : ∀ i, i < 2 * n → clOk n i = true → cmate n m i < 2 * n ∧ clOk n (cmate n m i) = true := fun i hi oi => by
    rw [hokI] at oi ⊢
    have hi' := hp i hi
    unfold cmate
    by_cases h1 : m.getD (2 * n - 1) 0 = i
    · rw [if_pos h1]
      refine ⟨ha.1, ha.2.1, fun e => ?_⟩
      rw [e] at ha; omega
    · rw [if_neg h1]
      by_cases h2 : m.getD (n - 1) 0 = i
      · rw [if_pos h2]
        refine ⟨hb.1, fun e => ?_, hb.2.1⟩
        rw [e] at hb; omega
      · rw [if_neg h2]
        refine ⟨hi'.1, fun e => ?_, fun e => ?_⟩
        · rw [e] at hi'; exact h2 hi'.2.2
        · rw [e] at hi'; exact h1 hi'.2.2
  have hcase : ∀ i, i < 2 * (n - 1) → ∃ k, k < 2 * n ∧ clOk n k = true ∧ i = cl n k := fun i hi => by
    by_cases h3 : i < n - 1
    · exact ⟨i, by omega, (hokI i).2 (by omega), by unfold cl; rw [if_pos (by omega)]⟩
    · exact ⟨i + 1, by omega, (hokI _).2 (by omega), by unfold cl; rw [if_neg (by omega)]; omega⟩
  have hpc : ∀ k, k < 2 * n → clOk n k = true → place (n - 1) (cl n k) = dn (n - 1) (place n k) := fun k hk ok => by
    rw [hokI] at ok
    unfold cl place dn
    by_cases h1 : k < n
    · rw [if_pos h1, if_pos h1, if_pos (by omega), if_pos (by omega)]
    · rw [if_neg h1, if_neg h1, if_neg (by omega), if_neg (by omega)]; omega
  refine ⟨isS_of (by omega) (fun i h1 h2 => ?_) (fun i hi => ?_) ?_, putAll_length _ _ _ _, ?_⟩
  · exact putAll_other _ fun j hj oj e => by have := hcl j hj oj; omega
  · obtain ⟨k, hk, ok, rfl⟩ := hcase i hi
    rw [hg k hk ok]
    exact hcl _ (hcm k hk ok).1 (hcm k hk ok).2
  · have hnc := isS_nc h
    rw [show 2 * n = 2 * (n - 1) + 2 by omega] at hnc
    refine hnc.remove (j := n - 1) (by omega) fun k hk => ?_
    have hu := @up_ne (n - 1) k
    have hul : up (n - 1) k < 2 * n := by have := (up_bd (j := n - 1) (k := k) (L := 2 * (n - 1)) (by omega)).2 hk; omega
    have hpl := place_lt hul
    have q1 : place n (n - 1) = n - 1 := by unfold place; rw [if_pos (by omega)]
    have q2 : place n (2 * n - 1) = n := by unfold place; rw [if_neg (by omega)]; omega
    have q3 : place n n = 2 * n - 1 := by unfold place; rw [if_neg (by omega)]; omega
    have hok : clOk n (place n (up (n - 1) k)) = true := (hokI _).2 ⟨fun e => by
      have := congrArg (place n) e
      rw [place_place hul, q1] at this; omega, fun e => by
      have := congrArg (place n) e
      rw [place_place hul, q2] at this; omega⟩
    have h2 : place (n - 1) k = cl n (place n (up (n - 1) k)) := by
      have h3 := hpc _ hpl hok
      rw [place_place hul, dn_up] at h3
      have h4 := congrArg (place (n - 1)) h3
      rw [place_place (hcl _ hpl hok)] at h4
      exact h4.symm
    obtain ⟨c1, c2⟩ := hcm _ hpl hok
    have hn1' : n - 1 + 1 = n := by omega
    unfold mf
    rw [h2, hg _ hpl hok, hpc _ c1 c2, hn1', q1, q3]
    congr 1
    -- the line that goes on
    have hmi := hp _ hpl
    have inj : ∀ x y, x < 2 * n → y < 2 * n → place n x = place n y → x = y := fun x y hx hy e => by rw [← place_place hx, e, place_place hy]
    generalize place n (up (n - 1) k) = x at *
    unfold cmate
    by_cases g1 : m.getD (2 * n - 1) 0 = x
    · have e1 : m.getD x 0 = 2 * n - 1 := by rw [← g1]; exact hb.2.2
      rw [if_pos g1, e1, q2, if_neg (by omega), if_pos (by omega)]
    · rw [if_neg g1]
      have e1 : m.getD x 0 ≠ 2 * n - 1 := fun e => g1 (by rw [← e]; exact hmi.2.2)
      by_cases g2 : m.getD (n - 1) 0 = x
      · have e2 : m.getD x 0 = n - 1 := by rw [← g2]; exact ha.2.2
        rw [if_pos g2, e2, q1, if_pos rfl]
      · have e2 : m.getD x 0 ≠ n - 1 := fun e => g2 (by rw [← e]; exact hmi.2.2)
        rw [if_neg g2, if_neg (fun e => e2 (inj _ _ hmi.1 (by omega) (by rw [e, q1]))), if_neg (fun e => e1 (inj _ _ hmi.1 (by omega) (by rw [e, q2])))]
  · refine putAll_lt (by omega) _ fun i hi oi => ?_
    have := hcl _ (hcm i hi oi).1 (hcm i hi oi).2
    show cl n (cmate n m i) < 256
    omega
end Go.Proofs.Ytkgoadglalpbfaa
