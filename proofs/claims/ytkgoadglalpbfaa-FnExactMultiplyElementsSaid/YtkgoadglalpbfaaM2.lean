/- Plain laws of elements: sums kept below the modulus. -/
import Derived.Test.YtkgoadglalpbfaaM1
namespace Go.Proofs.Ytkgoadglalpbfaa
open Go.Am Go.Dia
set_option linter.unusedSimpArgs false
set_option linter.unusedVariables false
set_option maxRecDepth 4000
set_option maxHeartbeats 1000000

def valT (n : Int) (m : List Nat) (S : List (Int × List Nat × Int)) : Int := match idxT n m S with
  | none => 0
  | some j => (S.getD j zT).2.2
def setT (n : Int) (m : List Nat) (v : Int) (S : List (Int × List Nat × Int)) : List (Int × List Nat × Int) := match idxT n m S with
  | none => S ++ [(n, m, v)]
  | some j => S.set j (n, m, v)
theorem setT_add {n v : Int} {m : List Nat} {S : List (Int × List Nat × Int)} : setT n m v S = addT n m (v - valT n m S) S := by
  unfold setT valT
  cases h : idxT n m S with
  | none => simp only [(idxT_none h).1, Int.sub_zero]
  | some j =>
    simp only [(idxT_lt h).2.2.2]
    rw [show (S.getD j zT).2.2 + (v - (S.getD j zT).2.2) = v by omega]
theorem setT_mem {n v : Int} {m : List Nat} {S : List (Int × List Nat × Int)} {u : Int × List Nat × Int} (h : u ∈ setT n m v S) : u ∈ S ∨ u = (n, m, v) := by
  unfold setT at h
  split at h
  · rcases List.mem_append.1 h with h | h
    · exact .inl h
    · exact .inr (List.mem_singleton.1 h)
  · exact List.mem_or_eq_of_mem_set h
theorem setT_len {n v : Int} {m : List Nat} {S : List (Int × List Nat × Int)} : (setT n m v S).length ≤ S.length + 1 := by
  unfold setT
  split <;> simp
def SumP (p n : Int) (S : List (Int × List Nat × Int)) : Prop := SumT n 10000 S ∧ ∀ t ∈ S, 0 ≤ t.2.2 ∧ t.2.2 ≤ p - 1
theorem valT_bd {p n : Int} (hp : 0 < p) {m : List Nat} {S : List (Int × List Nat × Int)} (h : SumP p n S) : 0 ≤ valT n m S ∧ valT n m S ≤ p - 1 := by
  unfold valT
  cases e : idxT n m S with
  | none => exact ⟨Int.le_refl 0, by show (0 : Int) ≤ p - 1; omega⟩
  | some j => exact h.2 _ (by rw [getD_at (idxT_lt e).1]; exact List.getElem_mem _)
theorem setT_sum {p n v : Int} {m : List Nat} {S : List (Int × List Nat × Int)} (hp : p ≤ 97) (h : SumP p n S) (hm : okD m) (hs : isS n.toNat m = true) (hv : 0 ≤ v ∧ v ≤ p - 1) : SumP p n (setT n m v S) := by
  have hone := addT_one (n := n) (f := v - valT n m S) (m := m) (ts := S) (fun t ht => (h.1.dia t ht).1) h.1.one
  rw [← setT_add] at hone
  refine ⟨⟨fun t ht => ?_, fun t ht => ?_, fun t ht => ?_, hone⟩, fun t ht => ?_⟩
  · rcases setT_mem ht with h1 | rfl
    · exact h.1.ok t h1
    · exact hm
  · rcases setT_mem ht with h1 | rfl
    · exact h.1.dia t h1
    · exact ⟨rfl, hs⟩
  · rcases setT_mem ht with h1 | rfl
    · exact h.1.fac t h1
    · exact ⟨by show -10000 ≤ v; omega, by show v ≤ 10000; omega⟩
  · rcases setT_mem ht with h1 | rfl
    · exact h.2 t h1
    · exact hv
def addM (p n : Int) (m : List Nat) (f : Int) (S : List (Int × List Nat × Int)) : List (Int × List Nat × Int) := setT n m ((valT n m S + f).emod p) S
def ML (p n : Int) (l : List (Int × List Nat × Int)) : List (Int × List Nat × Int) := l.foldl (fun S t => addM p n t.2.1 t.2.2 S) []
theorem ML_snoc {p n : Int} {l : List (Int × List Nat × Int)} {t : Int × List Nat × Int} : ML p n (l ++ [t]) = addM p n t.2.1 t.2.2 (ML p n l) := by
  unfold ML; rw [List.foldl_append]; rfl
theorem addM_sum {p n f : Int} {m : List Nat} {S : List (Int × List Nat × Int)} (hp : 0 < p ∧ p ≤ 97) (h : SumP p n S) (hm : okD m) (hs : isS n.toNat m = true) : SumP p n (addM p n m f S) :=
  setT_sum hp.2 h hm hs ⟨Int.emod_nonneg _ (by omega), Int.le_sub_one_of_lt (Int.emod_lt_of_pos _ hp.1)⟩
theorem fold_sum {p n : Int} (hp : 0 < p ∧ p ≤ 97) : ∀ {l acc : List (Int × List Nat × Int)}, SumP p n acc → (∀ t ∈ l, okD t.2.1 ∧ isS n.toNat t.2.1 = true) → SumP p n (l.foldl (fun S t => addM p n t.2.1 t.2.2 S) acc) ∧ (l.foldl (fun S t => addM p n t.2.1 t.2.2 S) acc).length ≤ acc.length + l.length
  | [], acc, h, _ => ⟨h, by simp⟩
  | t :: l, acc, h, hl => by
    have h1 := hl t (List.mem_cons_self ..)
    have := fold_sum hp (l := l) (addM_sum (f := t.2.2) hp h h1.1 h1.2) fun u hu => hl u (List.mem_cons_of_mem _ hu)
    have h2 : (addM p n t.2.1 t.2.2 acc).length ≤ acc.length + 1 := setT_len
    refine ⟨this.1, ?_⟩
    have h3 := this.2
    rw [List.foldl_cons, List.length_cons]; omega
theorem cf_addM {p n f : Int} {m m' : List Nat} {S : List (Int × List Nat × Int)} (h : ∀ t ∈ S, t.1 = n) : p ∣ cf m (addM p n m' f S) - (cf m S + if m' = m then f else 0) := by
  unfold addM
  rw [setT_add, cf_addT h]
  by_cases e : m' = m
  · rw [if_pos e, if_pos e]
    have := dv_emod p (valT n m' S + f)
    refine dv_add this (Int.dvd_zero p) ?_
    omega
  · rw [if_neg e, if_neg e]
    refine dv_add (Int.dvd_zero p) (Int.dvd_zero p) ?_
    omega
theorem addM_sz {p n f : Int} {m : List Nat} {S : List (Int × List Nat × Int)} (h : ∀ t ∈ S, t.1 = n) : ∀ t ∈ addM p n m f S, t.1 = n := fun t ht => by
  rcases setT_mem ht with h1 | rfl
  · exact h t h1
  · rfl
theorem cf_fold {p n : Int} {m : List Nat} : ∀ {l acc : List (Int × List Nat × Int)}, (∀ t ∈ acc, t.1 = n) → p ∣ cf m (l.foldl (fun S t => addM p n t.2.1 t.2.2 S) acc) - (cf m acc + csum id (fun _ => 1) m l)
  | [], acc, h => by simp [csum]
  | t :: l, acc, h => by
    have ih := cf_fold (p := p) (m := m) (l := l) (addM_sz (p := p) (m := t.2.1) (f := t.2.2) h)
    have h1 := cf_addM (p := p) (f := t.2.2) (m := m) (m' := t.2.1) h
    rw [List.foldl_cons]
    refine dv_add ih h1 ?_
    simp only [csum, id, Int.mul_one]
    omega
/-- The two ways are one. -/
theorem mul_law {p n : Int} {l : List (Int × List Nat × Int)} (hp : 0 < p ∧ p ≤ 97) (h : okCh n 10000 id (fun _ => 1) l) : sortT (restT p (ML p n l)) = MP p n l := by
  have h0 : GoodT p n [] := ⟨(fun t h => by cases h), (fun t h => by cases h), (fun t h => by cases h), .nil⟩
  have hs := (fold_sum (p := p) (n := n) hp (l := l) (acc := []) ⟨⟨(fun t h => by cases h), (fun t h => by cases h), (fun t h => by cases h), .nil⟩, fun t h => by cases h⟩ fun t ht => ⟨(h t ht).1, (h t ht).2.1⟩).1
  refine good_unique hp.1 (sum_good hp.1 hs.1) (chP_good hp.1 h0 h).1 fun m => ?_
  have h1 := cf_fold (p := p) (n := n) (m := m) (acc := []) (l := l) (by simp)
  have h2 := cf_chP (p := p) (n := n) (φ := id) (κ := fun _ => 1) (m := m) (acc := []) (a := l) (by simp)
  have h3 := cf_with (p := p) (m := m) (S := ML p n l)
  have h4 := dv_add h3 h1 (z := cf m (sortT (restT p (ML p n l))) - (cf m [] + csum id (fun _ => 1) m l)) (by unfold ML; omega)
  exact dv_sub h4 h2 (by unfold MP; omega)
end Go.Proofs.Ytkgoadglalpbfaa
