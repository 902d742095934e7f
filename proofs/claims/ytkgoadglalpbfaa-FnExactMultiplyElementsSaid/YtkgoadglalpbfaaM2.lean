/- Plain laws of elements: sums kept below the modulus. -/
import Derived.Test.YtkgoadglalpbfaaM1
namespace Go.Proofs.Ytkgoadglalpbfaa
open Go.Am Go.Dia
open Nat renaming reduceAdd → nA, reduceMul → nM, reduceSub → nS, reduceEqDiff → nE, reduceLT → nL, reduceLeDiff → nD, reduceBEq → nB
open Int renaming reduceEq → iE, reduceNe → iN, reduceBEq → iB, reduceBNe → iC, reduceLT → iL, reduceLE → iD, reduceAdd → iA, reduceSub → iS, reduceMul → iM
set_option linter.unusedSimpArgs false
set_option linter.unusedVariables false
set_option maxRecDepth 4000
set_option maxHeartbeats 1000000
def Wp (n : Int) (m : List Nat) (S : List (Int × List Nat × Int)) : Int := match Ul n m S with
  | none => 0
  | some j => (S.getD j zT).2.2
def U3 (n : Int) (m : List Nat) (v : Int) (S : List (Int × List Nat × Int)) : List (Int × List Nat × Int) := match Ul n m S with
  | none => S ++ [(n, m, v)]
  | some j => S.set j (n, m, v)
theorem qjm {n v : Int} {m : List Nat} {S : List (Int × List Nat × Int)} : U3 n m v S = B0 n m (v - Wp n m S) S := by
  unfold U3 Wp
  cases h : Ul n m S with
  | none => simp only [(qfk h).1, Int.sub_zero]
  | some j =>
    simp only [(qha h).2.2.2]
    rw [show (S.getD j zT).2.2 + (v - (S.getD j zT).2.2) = v by omega]
theorem Yz {n v : Int} {m : List Nat} {S : List (Int × List Nat × Int)} {u : Int × List Nat × Int} (h : u ∈ U3 n m v S) : u ∈ S ∨ u = (n, m, v) := by
  unfold U3 at h
  split at h
  · rcases List.mem_append.1 h with h | h
    · exact .inl h
    · exact .inr (List.mem_singleton.1 h)
  · exact List.mem_or_eq_of_mem_set h
theorem qsg {n v : Int} {m : List Nat} {S : List (Int × List Nat × Int)} : (U3 n m v S).length ≤ S.length + 1 := by
  unfold U3
  split <;> simp
def qhk (p n : Int) (S : List (Int × List Nat × Int)) : Prop := qun n 10000 S ∧ ∀ t ∈ S, 0 ≤ t.2.2 ∧ t.2.2 ≤ p - 1
theorem qv4 {p n : Int} (hp : 0 < p) {m : List Nat} {S : List (Int × List Nat × Int)} (h : qhk p n S) : 0 ≤ Wp n m S ∧ Wp n m S ≤ p - 1 := by
  unfold Wp
  cases e : Ul n m S with
  | none => exact ⟨Int.le_refl 0, by show (0 : Int) ≤ p - 1; omega⟩
  | some j => exact h.2 _ (by rw [u5 (qha e).1]; exact List.getElem_mem _)
theorem qrt {p n v : Int} {m : List Nat} {S : List (Int × List Nat × Int)} (hp : p ≤ 97) (h : qhk p n S) (hm : okD m) (hs : isS n.toNat m = true) (hv : 0 ≤ v ∧ v ≤ p - 1) : qhk p n (U3 n m v S) := by
  have hone := qkc (n := n) (f := v - Wp n m S) (m := m) (ts := S) (fun t ht => (h.1.dia t ht).1) h.1.one
  rw [← qjm] at hone
  refine ⟨⟨fun t ht => ?_, fun t ht => ?_, fun t ht => ?_, hone⟩, fun t ht => ?_⟩
  · rcases Yz ht with h1 | rfl
    · exact h.1.ok t h1
    · exact hm
  · rcases Yz ht with h1 | rfl
    · exact h.1.dia t h1
    · exact ⟨rfl, hs⟩
  · rcases Yz ht with h1 | rfl
    · exact h.1.fac t h1
    · exact ⟨by show -10000 ≤ v; omega, by show v ≤ 10000; omega⟩
  · rcases Yz ht with h1 | rfl
    · exact h.2 t h1
    · exact hv
def qaw (p n : Int) (m : List Nat) (f : Int) (S : List (Int × List Nat × Int)) : List (Int × List Nat × Int) := U3 n m ((Wp n m S + f).emod p) S
def ML (p n : Int) (l : List (Int × List Nat × Int)) : List (Int × List Nat × Int) := l.foldl (fun S t => qaw p n t.2.1 t.2.2 S) []
theorem qup {p n : Int} {l : List (Int × List Nat × Int)} {t : Int × List Nat × Int} : ML p n (l ++ [t]) = qaw p n t.2.1 t.2.2 (ML p n l) := by
  unfold ML; rw [List.foldl_append]; rfl
theorem qrp {p n f : Int} {m : List Nat} {S : List (Int × List Nat × Int)} (hp : 0 < p ∧ p ≤ 97) (h : qhk p n S) (hm : okD m) (hs : isS n.toNat m = true) : qhk p n (qaw p n m f S) :=
  qrt hp.2 h hm hs ⟨Int.emod_nonneg _ (by omega), Int.le_sub_one_of_lt (Int.emod_lt_of_pos _ hp.1)⟩
theorem qdh {p n : Int} (hp : 0 < p ∧ p ≤ 97) : ∀ {l acc : List (Int × List Nat × Int)}, qhk p n acc → (∀ t ∈ l, okD t.2.1 ∧ isS n.toNat t.2.1 = true) → qhk p n (l.foldl (fun S t => qaw p n t.2.1 t.2.2 S) acc) ∧ (l.foldl (fun S t => qaw p n t.2.1 t.2.2 S) acc).length ≤ acc.length + l.length
  | [], acc, h, _ => ⟨h, by simp⟩
  | t :: l, acc, h, hl => by
    have h1 := hl t (List.mem_cons_self ..)
    have := qdh hp (l := l) (qrp (f := t.2.2) hp h h1.1 h1.2) fun u hu => hl u (List.mem_cons_of_mem _ hu)
    have h2 : (qaw p n t.2.1 t.2.2 acc).length ≤ acc.length + 1 := qsg
    refine ⟨this.1, ?_⟩
    have h3 := this.2
    rw [List.foldl_cons, List.length_cons]; omega
theorem qvs {p n f : Int} {m m' : List Nat} {S : List (Int × List Nat × Int)} (h : ∀ t ∈ S, t.1 = n) : p ∣ cf m (qaw p n m' f S) - (cf m S + if m' = m then f else 0) := by
  unfold qaw
  rw [qjm, qnv h]
  by_cases e : m' = m
  · rw [if_pos e, if_pos e]
    have := qce p (Wp n m' S + f)
    refine kh this (Int.dvd_zero p) ?_
    omega
  · rw [if_neg e, if_neg e]
    refine kh (Int.dvd_zero p) (Int.dvd_zero p) ?_
    omega
theorem qu5 {p n f : Int} {m : List Nat} {S : List (Int × List Nat × Int)} (h : ∀ t ∈ S, t.1 = n) : ∀ t ∈ qaw p n m f S, t.1 = n := fun t ht => by
  rcases Yz ht with h1 | rfl
  · exact h t h1
  · rfl
theorem qnr {p n : Int} {m : List Nat} : ∀ {l acc : List (Int × List Nat × Int)}, (∀ t ∈ acc, t.1 = n) → p ∣ cf m (l.foldl (fun S t => qaw p n t.2.1 t.2.2 S) acc) - (cf m acc + qjk id (fun _ => 1) m l)
  | [], acc, h => by simp [qjk]
  | t :: l, acc, h => by
    have ih := qnr (p := p) (m := m) (l := l) (qu5 (p := p) (m := t.2.1) (f := t.2.2) h)
    have h1 := qvs (p := p) (f := t.2.2) (m := m) (m' := t.2.1) h
    rw [List.foldl_cons]
    refine kh ih h1 ?_
    simp only [qjk, id, Int.mul_one]
    omega
theorem qve {p n : Int} {l : List (Int × List Nat × Int)} (hp : 0 < p ∧ p ≤ 97) (h : qos n 10000 id (fun _ => 1) l) : X4 (xx p (ML p n l)) = MP p n l := by
  have h0 : wk p n [] := ⟨(fun t h => by cases h), (fun t h => by cases h), (fun t h => by cases h), .nil⟩
  have hs := (qdh (p := p) (n := n) hp (l := l) (acc := []) ⟨⟨(fun t h => by cases h), (fun t h => by cases h), (fun t h => by cases h), .nil⟩, fun t h => by cases h⟩ fun t ht => ⟨(h t ht).1, (h t ht).2.1⟩).1
  refine qix hp.1 (qrh hp.1 hs.1) (Kl hp.1 h0 h).1 fun m => ?_
  have h1 := qnr (p := p) (n := n) (m := m) (acc := []) (l := l) (by simp)
  have h2 := qs7 (p := p) (n := n) (φ := id) (κ := fun _ => 1) (m := m) (acc := []) (a := l) (by simp)
  have h3 := qvk (p := p) (m := m) (S := ML p n l)
  have h4 := kh h3 h1 (z := cf m (X4 (xx p (ML p n l))) - (cf m [] + qjk id (fun _ => 1) m l)) (by unfold ML; omega)
  exact qgt h4 h2 (by unfold MP; omega)
end Go.Proofs.Ytkgoadglalpbfaa
