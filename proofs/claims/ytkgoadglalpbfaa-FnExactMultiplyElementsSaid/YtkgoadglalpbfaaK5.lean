/- Contracts: what the laws of two elements share. -/
import Derived.Test.YtkgoadglalpbfaaK1
namespace Go.Proofs.Ytkgoadglalpbfaa
open Go.Am Go.Dia
open Nat renaming reduceAdd → nA, reduceMul → nM, reduceSub → nS, reduceEqDiff → nE, reduceLT → nL, reduceLeDiff → nD, reduceBEq → nB
open Int renaming reduceEq → iE, reduceNe → iN, reduceBEq → iB, reduceBNe → iC, reduceLT → iL, reduceLE → iD, reduceAdd → iA, reduceSub → iS, reduceMul → iM
set_option linter.unusedSimpArgs false
set_option linter.unusedVariables false
set_option maxRecDepth 4000
set_option maxHeartbeats 1000000
def G0 (p c n : Int) (L : List (Int × List Nat × Int)) : ER := if L.length ≤ 140 then (p, c, n, L, 0) else (0, 0, 0, [], 3)
theorem qah {p c n p' c' n' : Int} {a b : List (Int × List Nat × Int)} (h : jf p c n a p' c' n' b = 0) : (js p c n a = true ∧ js p' c' n' b = true) ∧ p' = p ∧ c' = c ∧ n' = n := by
  unfold jf at h
  split at h
  · cases h
  · rename_i h1
    split at h
    · cases h
    · rename_i h2
      have h2' : p = p' ∧ c = c' ∧ n = n' := Classical.byContradiction fun x => h2 x
      refine ⟨⟨?_, ?_⟩, h2'.1.symm, h2'.2.1.symm, h2'.2.2.symm⟩
      · cases hh : js p c n a with
        | true => rfl
        | false => exact absurd (.inl hh) h1
      · cases hh : js p' c' n' b with
        | true => rfl
        | false => exact absurd (.inr hh) h1
theorem qgr {a b c d e f g h x y z w : AV} : over [a, b, c, d, e, f, g, h] 0 [x, y, z, w] = [x, y, z, w, e, f, g, h] := rfl
theorem qhz {a b c d e f g h x y z w : AV} : over [a, b, c, d, e, f, g, h] 4 [x, y, z, w] = [a, b, c, d, x, y, z, w] := rfl
theorem qhg {p c n : Int} {L : List (Int × List Nat × Int)} (h : okT L) : qx3 (G0 p c n L) := by
  unfold G0
  split
  · rename_i hle; exact ⟨h, by simp only; omega⟩
  · exact ⟨(fun t h => by cases h), by simp⟩
structure qog (H : List AO) (X Y : AV) (ts us : List (Int × List Nat × Int)) : Prop where
  x : ∀ rest, Zt (H ++ rest) X = some ts
  y : ∀ rest, Zt (H ++ rest) Y = some us
  ok : okT ts ∧ okT us
  un : ∀ (j : Nat) (o : AO), H[j]? = some o → o.under H.length
  ux : X.under H.length ∧ Y.under H.length
  sh : (H = [] ∧ X = .v (.slice none 0 0) ∧ Y = .v (.slice none 0 0)) ∨
    (∃ (o : AO) (nx cx : Nat), H = [o] ∧ X = .slc 0 0 nx true cx ∧ Y = .v (.slice none 0 0) ∧ (∀ ids, o.within ids = true) ∧ ∀ ρ, o.ren ρ = o) ∨
    (∃ (o : AO) (ny cy : Nat), H = [o] ∧ X = .v (.slice none 0 0) ∧ Y = .slc 0 0 ny true cy ∧ (∀ ids, o.within ids = true) ∧ ∀ ρ, o.ren ρ = o) ∨
    ∃ (o o' : AO) (nx cx ny cy : Nat), H = [o, o'] ∧ X = .slc 0 0 nx true cx ∧ Y = .slc 1 0 ny true cy ∧ (∀ ids, o.within ids = true) ∧ (∀ ρ, o.ren ρ = o) ∧ (∀ ids, o'.within ids = true) ∧ ∀ ρ, o'.ren ρ = o'
theorem qog.h {H : List AO} {X Y : AV} {ts us : List (Int × List Nat × Int)} (a : qog H X Y ts us) : H = [] ∨ (∃ o, H = [o]) ∨ ∃ o o', H = [o, o'] := by
  rcases a.sh with ⟨rfl, _⟩ | ⟨o, _, _, rfl, _⟩ | ⟨o, _, _, rfl, _⟩ | ⟨o, o', _, _, _, _, rfl, _⟩
  · exact .inl rfl
  · exact .inr (.inl ⟨_, rfl⟩)
  · exact .inr (.inl ⟨_, rfl⟩)
  · exact .inr (.inr ⟨_, _, rfl⟩)
end Go.Proofs.Ytkgoadglalpbfaa
