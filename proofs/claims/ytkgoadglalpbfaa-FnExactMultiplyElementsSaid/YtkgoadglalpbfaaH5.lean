/- Plain laws of elements: each diagram becomes another one, and a number. -/
import Derived.Test.YtkgoadglalpbfaaG8
namespace Go.Proofs.Ytkgoadglalpbfaa
open Go.Am Go.Dia
open Nat renaming reduceAdd → nA, reduceMul → nM, reduceSub → nS, reduceEqDiff → nE, reduceLT → nL, reduceLeDiff → nD, reduceBEq → nB
open Int renaming reduceEq → iE, reduceNe → iN, reduceBEq → iB, reduceBNe → iC, reduceLT → iL, reduceLE → iD, reduceAdd → iA, reduceSub → iS, reduceMul → iM
set_option linter.unusedSimpArgs false
set_option linter.unusedVariables false
set_option maxRecDepth 4000
set_option maxHeartbeats 1000000
def chP (p n : Int) (φ : List Nat → List Nat) (κ : List Nat → Int) (acc a : List (Int × List Nat × Int)) : List (Int × List Nat × Int) := a.foldl (fun acc t => yy p acc n (φ t.2.1) (t.2.2 * κ t.2.1)) acc
def qjk (φ : List Nat → List Nat) (κ : List Nat → Int) (m : List Nat) : List (Int × List Nat × Int) → Int
  | [] => 0
  | t :: l => (if φ t.2.1 = m then t.2.2 * κ t.2.1 else 0) + qjk φ κ m l
def qos (n : Int) (F : Int) (φ : List Nat → List Nat) (κ : List Nat → Int) (a : List (Int × List Nat × Int)) : Prop := ∀ t ∈ a, okD (φ t.2.1) ∧ isS n.toNat (φ t.2.1) = true ∧ -F ≤ t.2.2 * κ t.2.1 ∧ t.2.2 * κ t.2.1 ≤ F
theorem qos.take {n F : Int} {φ : List Nat → List Nat} {κ : List Nat → Int} {a : List (Int × List Nat × Int)} (h : qos n F φ κ a) (i : Nat) : qos n F φ κ (a.take i) := fun t ht => h t (List.mem_of_mem_take ht)
theorem Kl {p n F : Int} {φ : List Nat → List Nat} {κ : List Nat → Int} (hp : 0 < p) : ∀ {a acc : List (Int × List Nat × Int)}, wk p n acc → qos n F φ κ a → wk p n (chP p n φ κ acc a) ∧ (chP p n φ κ acc a).length ≤ acc.length + a.length
  | [], acc, h, _ => ⟨h, by simp [chP]⟩
  | t :: b, acc, h, hb => by
    obtain ⟨h1, h3, h4⟩ := hb t (List.mem_cons_self ..)
    have h5 := qp6 (k := t.2.2 * κ t.2.1) hp h1 h3 h
    have h6 := qt6 (p := p) (n := n) (m := φ t.2.1) (k := t.2.2 * κ t.2.1) (ts := acc)
    have := Kl hp (a := b) h5 fun u hu => hb u (List.mem_cons_of_mem _ hu)
    refine ⟨this.1, ?_⟩
    have h7 := this.2
    have h3 : chP p n φ κ acc (t :: b) = chP p n φ κ (yy p acc n (φ t.2.1) (t.2.2 * κ t.2.1)) b := rfl
    rw [h3, List.length_cons]; omega
theorem qs7 {p n : Int} {φ : List Nat → List Nat} {κ : List Nat → Int} {m : List Nat} : ∀ {a acc : List (Int × List Nat × Int)}, (∀ t ∈ acc, t.1 = n) → p ∣ cf m (chP p n φ κ acc a) - (cf m acc + qjk φ κ m a)
  | [], acc, h => by simp [chP, qjk]
  | t :: b, acc, h => by
    have ih := qs7 (p := p) (φ := φ) (κ := κ) (m := m) (a := b) (qut (p := p) (m := φ t.2.1) (k := t.2.2 * κ t.2.1) h)
    have h1 := qu6 (p := p) (k := t.2.2 * κ t.2.1) (m := m) (m' := φ t.2.1) h
    have e : chP p n φ κ acc (t :: b) = chP p n φ κ (yy p acc n (φ t.2.1) (t.2.2 * κ t.2.1)) b := rfl
    rw [e]
    refine kh ih h1 ?_
    rw [qjk]
    omega
end Go.Proofs.Ytkgoadglalpbfaa
