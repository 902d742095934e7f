/- The types of the elements that the laws are handed, and the top of a law of one element. -/
import Derived.Test.YtkgoadglalpbfaaT1
import Derived.KernelRfl
namespace Go.Proofs.Ytkgoadglalpbfaa
open Go.Am Go.Dia Go.ChangeShapes Go.WideShapes Go.ChangeAt Go.RowKit
set_option linter.unusedSimpArgs false
set_option linter.unusedVariables false
set_option maxRecDepth 100000

theorem elemTy : ElemTy Try.prog 24 22 100 40 5 38 2 where
  e := ⟨_, _, _, _, Try.underlying24, rfl, rfl, rfl, rfl, rfl, rfl, rfl, rfl⟩
  x := Try.underlying22
  t := ⟨_, _, Try.underlying100, rfl, rfl, rfl, rfl⟩
  d := ⟨_, _, Try.underlying40, rfl, rfl, rfl, rfl⟩
  m := Try.underlying38
  b := by kernel_rfl
  i := by kernel_rfl
  ce := by kernel_rfl
  cx := by kernel_rfl
  ct := by kernel_rfl
  cd := by kernel_rfl
  cm := by kernel_rfl
  c8 := by kernel_rfl
  ci := by kernel_rfl

theorem gam_keep {ι : Nat → Am.Loc} {l : Am.Loc} {H : List AO} {X : AV} {p c n : Int} {ts : List (Int × List Nat × Int)} (hX : ArgX H X ts) (h : ∀ j, j < H.length → ι j = l) : gam (fun _ => l) (.agg [.int .i64 p, .int .i64 c, .int .i64 n, X]) = gam ι (.agg [.int .i64 p, .int .i64 c, .int .i64 n, X]) := by
  refine gam_agree (n := H.length) (fun j hj => (h j hj).symm) _ ⟨trivial, trivial, trivial, ?_, trivial⟩
  rcases hX.2 with ⟨rfl, _⟩ | ⟨rfl, rfl, _⟩ | ⟨_, _, rfl, _, rfl, _⟩
  · trivial
  · simp [AV.under]
  · simp [AV.under]
theorem argX_unders {H : List AO} {X : AV} {ts : List (Int × List Nat × Int)} (hX : ArgX H X ts) : X.under H.length := by
  rcases hX.2 with ⟨rfl, _⟩ | ⟨rfl, rfl, _⟩ | ⟨_, _, rfl, _, rfl, _⟩
  · trivial
  · simp [AV.under]
  · simp [AV.under]
theorem hok_one {l : Am.Loc} {H : List AO} {X : AV} {ts : List (Int × List Nat × Int)} {heap : Array Obj} (hX : ArgX H X ts) (h : ∀ o ∈ H, ORel (fun _ => l) heap l o ∧ o.wr = false) : HOk (fun _ => l) H heap := by
  refine ⟨fun j o hj => ⟨argX_under hX j o hj, (h o (List.mem_of_getElem? hj)).1⟩, fun i j b hi hj => ?_⟩
  obtain ⟨o, ho, hw, _⟩ := hi
  have := (h o (List.mem_of_getElem? ho)).2
  rw [this] at hw; cases hw
end Go.Proofs.Ytkgoadglalpbfaa
