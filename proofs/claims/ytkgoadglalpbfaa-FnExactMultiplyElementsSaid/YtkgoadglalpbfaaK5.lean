/- Contracts: what the laws of two elements share. -/
import Derived.Test.YtkgoadglalpbfaaK1
namespace Go.Proofs.Ytkgoadglalpbfaa
open Go.Am Go.Dia
set_option linter.unusedSimpArgs false
set_option linter.unusedVariables false
set_option maxRecDepth 4000
set_option maxHeartbeats 1000000

def limOf (p c n : Int) (L : List (Int × List Nat × Int)) : ER := if L.length ≤ 140 then (p, c, n, L, 0) else (0, 0, 0, [], 3)
theorem both_zero {p c n p' c' n' : Int} {a b : List (Int × List Nat × Int)} (h : bothOf p c n a p' c' n' b = 0) : (elemB p c n a = true ∧ elemB p' c' n' b = true) ∧ p' = p ∧ c' = c ∧ n' = n := by
  unfold bothOf at h
  split at h
  · cases h
  · rename_i h1
    split at h
    · cases h
    · rename_i h2
      have h2' : p = p' ∧ c = c' ∧ n = n' := Classical.byContradiction fun x => h2 x
      refine ⟨⟨?_, ?_⟩, h2'.1.symm, h2'.2.1.symm, h2'.2.2.symm⟩
      · cases hh : elemB p c n a with
        | true => rfl
        | false => exact absurd (.inl hh) h1
      · cases hh : elemB p' c' n' b with
        | true => rfl
        | false => exact absurd (.inr hh) h1
theorem over8_0 {a b c d e f g h x y z w : AV} : over [a, b, c, d, e, f, g, h] 0 [x, y, z, w] = [x, y, z, w, e, f, g, h] := rfl
theorem over8_4 {a b c d e f g h x y z w : AV} : over [a, b, c, d, e, f, g, h] 4 [x, y, z, w] = [a, b, c, d, x, y, z, w] := rfl
theorem lim_ok {p c n : Int} {L : List (Int × List Nat × Int)} (h : okT L) : okER (limOf p c n L) := by
  unfold limOf
  split
  · rename_i hle; exact ⟨h, by simp only; omega⟩
  · exact ⟨(fun t h => by cases h), by simp⟩
/-- What a law is handed as two elements. -/
structure ArgXY (H : List AO) (X Y : AV) (ts us : List (Int × List Nat × Int)) : Prop where
  x : ∀ rest, argTs (H ++ rest) X = some ts
  y : ∀ rest, argTs (H ++ rest) Y = some us
  ok : okT ts ∧ okT us
  un : ∀ (j : Nat) (o : AO), H[j]? = some o → o.under H.length
  ux : X.under H.length ∧ Y.under H.length
  sh : (H = [] ∧ X = .v (.slice none 0 0) ∧ Y = .v (.slice none 0 0)) ∨
    (∃ (o : AO) (nx cx : Nat), H = [o] ∧ X = .slc 0 0 nx true cx ∧ Y = .v (.slice none 0 0) ∧ (∀ ids, o.within ids = true) ∧ ∀ ρ, o.ren ρ = o) ∨
    (∃ (o : AO) (ny cy : Nat), H = [o] ∧ X = .v (.slice none 0 0) ∧ Y = .slc 0 0 ny true cy ∧ (∀ ids, o.within ids = true) ∧ ∀ ρ, o.ren ρ = o) ∨
    ∃ (o o' : AO) (nx cx ny cy : Nat), H = [o, o'] ∧ X = .slc 0 0 nx true cx ∧ Y = .slc 1 0 ny true cy ∧ (∀ ids, o.within ids = true) ∧ (∀ ρ, o.ren ρ = o) ∧ (∀ ids, o'.within ids = true) ∧ ∀ ρ, o'.ren ρ = o'
theorem ArgXY.h {H : List AO} {X Y : AV} {ts us : List (Int × List Nat × Int)} (a : ArgXY H X Y ts us) : H = [] ∨ (∃ o, H = [o]) ∨ ∃ o o', H = [o, o'] := by
  rcases a.sh with ⟨rfl, _⟩ | ⟨o, _, _, rfl, _⟩ | ⟨o, _, _, rfl, _⟩ | ⟨o, o', _, _, _, _, rfl, _⟩
  · exact .inl rfl
  · exact .inr (.inl ⟨_, rfl⟩)
  · exact .inr (.inl ⟨_, rfl⟩)
  · exact .inr (.inr ⟨_, _, rfl⟩)
end Go.Proofs.Ytkgoadglalpbfaa
