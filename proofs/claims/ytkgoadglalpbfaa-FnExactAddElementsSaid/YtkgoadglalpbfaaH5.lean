/- Plain laws of elements: each diagram becomes another one, and a number. -/
import Derived.Test.YtkgoadglalpbfaaG8
namespace Go.Proofs.Ytkgoadglalpbfaa
open Go.Am Go.Dia
set_option linter.unusedSimpArgs false
set_option linter.unusedVariables false
set_option maxRecDepth 4000
set_option maxHeartbeats 1000000

def chL (n : Int) (φ : List Nat → List Nat) (κ : List Nat → Int) (acc a : List (Int × List Nat × Int)) : List (Int × List Nat × Int) := a.foldl (fun acc t => addT n (φ t.2.1) (t.2.2 * κ t.2.1) acc) acc
def chP (p n : Int) (φ : List Nat → List Nat) (κ : List Nat → Int) (acc a : List (Int × List Nat × Int)) : List (Int × List Nat × Int) := a.foldl (fun acc t => putT p acc n (φ t.2.1) (t.2.2 * κ t.2.1)) acc
def csum (φ : List Nat → List Nat) (κ : List Nat → Int) (m : List Nat) : List (Int × List Nat × Int) → Int
  | [] => 0
  | t :: l => (if φ t.2.1 = m then t.2.2 * κ t.2.1 else 0) + csum φ κ m l
theorem chL_succ {n : Int} {φ : List Nat → List Nat} {κ : List Nat → Int} {acc a : List (Int × List Nat × Int)} {i : Nat} (h : i < a.length) : chL n φ κ acc (a.take (i + 1)) = addT n (φ a[i].2.1) (a[i].2.2 * κ a[i].2.1) (chL n φ κ acc (a.take i)) := by
  rw [List.take_succ_eq_append_getElem h, chL, List.foldl_append]; rfl
theorem chP_succ {p n : Int} {φ : List Nat → List Nat} {κ : List Nat → Int} {acc a : List (Int × List Nat × Int)} {i : Nat} (h : i < a.length) : chP p n φ κ acc (a.take (i + 1)) = putT p (chP p n φ κ acc (a.take i)) n (φ a[i].2.1) (a[i].2.2 * κ a[i].2.1) := by
  rw [List.take_succ_eq_append_getElem h, chP, List.foldl_append]; rfl
theorem chL_len {n : Int} {φ : List Nat → List Nat} {κ : List Nat → Int} : ∀ {a acc : List (Int × List Nat × Int)}, (chL n φ κ acc a).length ≤ acc.length + a.length
  | [], acc => by simp [chL]
  | t :: b, acc => by
    have h1 := addT_len (n := n) (m := φ t.2.1) (f := t.2.2 * κ t.2.1) (ts := acc)
    have h2 := chL_len (n := n) (φ := φ) (κ := κ) (a := b) (acc := addT n (φ t.2.1) (t.2.2 * κ t.2.1) acc)
    have h3 : chL n φ κ acc (t :: b) = chL n φ κ (addT n (φ t.2.1) (t.2.2 * κ t.2.1) acc) b := rfl
    rw [h3, List.length_cons]; omega
/-- What becomes of the diagrams is right. -/
def okCh (n : Int) (F : Int) (φ : List Nat → List Nat) (κ : List Nat → Int) (a : List (Int × List Nat × Int)) : Prop := ∀ t ∈ a, okD (φ t.2.1) ∧ isS n.toNat (φ t.2.1) = true ∧ -F ≤ t.2.2 * κ t.2.1 ∧ t.2.2 * κ t.2.1 ≤ F
theorem okCh.take {n F : Int} {φ : List Nat → List Nat} {κ : List Nat → Int} {a : List (Int × List Nat × Int)} (h : okCh n F φ κ a) (i : Nat) : okCh n F φ κ (a.take i) := fun t ht => h t (List.mem_of_mem_take ht)
theorem chL_sum {n F : Int} {φ : List Nat → List Nat} {κ : List Nat → Int} (hF : 0 ≤ F) : ∀ {a acc : List (Int × List Nat × Int)} {M : Int}, 0 ≤ M → SumT n M acc → okCh n F φ κ a → SumT n (M + F * a.length) (chL n φ κ acc a)
  | [], acc, M, hM, h, _ => by simpa [chL] using h
  | t :: b, acc, M, hM, h, hb => by
    obtain ⟨h1, h3, h4⟩ := hb t (List.mem_cons_self ..)
    have h5 := addT_sum h1 h3 h4 hM h
    have := chL_sum hF (a := b) (by omega) h5 fun u hu => hb u (List.mem_cons_of_mem _ hu)
    rw [List.length_cons, show M + F * ((b.length + 1 : Nat) : Int) = M + F + F * b.length by rw [Int.natCast_add, Int.mul_add]; omega]
    exact this
theorem chP_good {p n F : Int} {φ : List Nat → List Nat} {κ : List Nat → Int} (hp : 0 < p) : ∀ {a acc : List (Int × List Nat × Int)}, GoodT p n acc → okCh n F φ κ a → GoodT p n (chP p n φ κ acc a) ∧ (chP p n φ κ acc a).length ≤ acc.length + a.length
  | [], acc, h, _ => ⟨h, by simp [chP]⟩
  | t :: b, acc, h, hb => by
    obtain ⟨h1, h3, h4⟩ := hb t (List.mem_cons_self ..)
    have h5 := putT_good (k := t.2.2 * κ t.2.1) hp h1 h3 h
    have h6 := putT_len (p := p) (n := n) (m := φ t.2.1) (k := t.2.2 * κ t.2.1) (ts := acc)
    have := chP_good hp (a := b) h5 fun u hu => hb u (List.mem_cons_of_mem _ hu)
    refine ⟨this.1, ?_⟩
    have h7 := this.2
    have h3 : chP p n φ κ acc (t :: b) = chP p n φ κ (putT p acc n (φ t.2.1) (t.2.2 * κ t.2.1)) b := rfl
    rw [h3, List.length_cons]; omega
theorem cf_chL {n : Int} {φ : List Nat → List Nat} {κ : List Nat → Int} {m : List Nat} : ∀ {a acc : List (Int × List Nat × Int)}, (∀ t ∈ acc, t.1 = n) → cf m (chL n φ κ acc a) = cf m acc + csum φ κ m a
  | [], acc, h => by simp [chL, csum]
  | t :: b, acc, h => by
    have h1 : ∀ u ∈ addT n (φ t.2.1) (t.2.2 * κ t.2.1) acc, u.1 = n := fun u hu => by
      rcases addT_mem hu with ⟨v, hv, e, _⟩ | ⟨rfl, _⟩
      · rw [e]; exact h v hv
      · rfl
    have ih := cf_chL (φ := φ) (κ := κ) (m := m) (a := b) h1
    have e : chL n φ κ acc (t :: b) = chL n φ κ (addT n (φ t.2.1) (t.2.2 * κ t.2.1) acc) b := rfl
    rw [e, ih, cf_addT h, csum]
    omega
theorem cf_chP {p n : Int} {φ : List Nat → List Nat} {κ : List Nat → Int} {m : List Nat} : ∀ {a acc : List (Int × List Nat × Int)}, (∀ t ∈ acc, t.1 = n) → p ∣ cf m (chP p n φ κ acc a) - (cf m acc + csum φ κ m a)
  | [], acc, h => by simp [chP, csum]
  | t :: b, acc, h => by
    have ih := cf_chP (p := p) (φ := φ) (κ := κ) (m := m) (a := b) (putT_sz (p := p) (m := φ t.2.1) (k := t.2.2 * κ t.2.1) h)
    have h1 := cf_putT (p := p) (k := t.2.2 * κ t.2.1) (m := m) (m' := φ t.2.1) h
    have e : chP p n φ κ acc (t :: b) = chP p n φ κ (putT p acc n (φ t.2.1) (t.2.2 * κ t.2.1)) b := rfl
    rw [e]
    refine dv_add ih h1 ?_
    rw [csum]
    omega
/-- The two ways are one. -/
theorem ch_law {p n F : Int} {φ : List Nat → List Nat} {κ : List Nat → Int} {a : List (Int × List Nat × Int)} (hp : 0 < p) (hF : 0 ≤ F) (h : okCh n F φ κ a) : sortT (restT p (chL n φ κ [] a)) = chP p n φ κ [] a := by
  have h0 : GoodT p n [] := ⟨(fun t h => by cases h), (fun t h => by cases h), (fun t h => by cases h), .nil⟩
  refine good_unique hp (sum_good hp (chL_sum hF (Int.le_refl 0) sum_nil h)) (chP_good hp h0 h).1 fun m => ?_
  have h1 := cf_chL (n := n) (φ := φ) (κ := κ) (m := m) (acc := []) (a := a) (by simp)
  have h2 := cf_chP (p := p) (n := n) (φ := φ) (κ := κ) (m := m) (acc := []) (a := a) (by simp)
  have h3 := cf_with (p := p) (m := m) (S := chL n φ κ [] a)
  refine dv_sub h3 h2 ?_
  rw [h1]
  simp only [cf]; omega
end Go.Proofs.Ytkgoadglalpbfaa
