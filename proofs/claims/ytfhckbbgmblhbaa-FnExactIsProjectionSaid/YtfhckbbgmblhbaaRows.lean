/-
  No cell of these rows narrows 'for every input' (looked for: loops, veiled, ifaces, maps, wideKeys, modest, calm, conditions, laid).
  DERIVED. THE GIVEN ROWS OF THIS SEAT. 11 by the template 'for every input the law returns true; each argument reads behind the call as it read before'; 0 by the template 'total and deterministic' (their statements: YtfhckbbgmblhbaaTotals.lean).
  GIVEN WITH THE SEED: the statements are not yours to turn. If you find one false, say at which input.
  Laid BY PROGRAM, IN A SANDBOX (cutbox-rows.mjs): the forced cells as the released guide's own fill.sh prints them over the translation 491f0eebb2aa863a… (all of the seat's roots in one cut). By AI agents, Wed Nov 11 2026. No macro, syntax, notation, axiom, sorry.
-/
import Derived.Test.YtfhckbbgmblhbaaChecked
import GoSem.Claim
import GoSem.ClaimJoined
import GoSem.ClaimMapViews
import Derived.JoinedTies
import Derived.KernelRfl
namespace Go.Proofs.Ytfhckbbgmblhbaa
/- THE CELL 'sum', in the pinned program and in every row, IS THE sha256 OF THE DUMP (.gsa) THAT YtfhckbbgmblhbaaProg.lean LOADS. Nothing in Lean hashes anything: it is a label: what it is worth is what the hold of that sum in a sandbox is worth. -/
noncomputable def Try.pinned : Pinned := { name := "ytfhckbbgmblhbaa", sum := "491f0eebb2aa863ab5c39f6856d424b1c9fd9c868fa47f04589581c5d5243c8f", checked := Try.checked }
namespace Rows
def none {H : Type} : Left H := { results := [], args := [] }

/-- 'laws.FnExactRankOfElement': WHATEVER THE INPUT: true; the input reads as it did. -/
def fnExactRankOfElementSpec : ChangeSpec := { name := "fnExactRankOfElement", fn := fun _ => fun
  | [d1, d2] => { results := [.lit (.bool true)], args := [d1, d2] }
  | _ => none }
def fnExactRankOfElementRow : OpenClaim := { program := "ytfhckbbgmblhbaa", sum := "491f0eebb2aa863ab5c39f6856d424b1c9fd9c868fa47f04589581c5d5243c8f", func := "loop.example/g01251/laws.FnExactRankOfElement", spec := "fnExactRankOfElement", unfollowed := true, recurses := true, plainKeys := false, apart := false }
def FnExactRankOfElementSaid : Prop := fnExactRankOfElementRow.holds Try.pinned (OpenSpec.ofChange fnExactRankOfElementSpec)

/-- ITS FALSE NEIGHBOUR: 'it returns false'. Refute it at one input. -/
def fnExactRankOfElementWrong : ChangeSpec := { name := "fnExactRankOfElement", fn := fun _ => fun
  | [d1, d2] => { results := [.lit (.bool false)], args := [d1, d2] }
  | _ => none }
def FnExactRankOfElementWrongFalsely : Prop := fnExactRankOfElementRow.holds Try.pinned (OpenSpec.ofChange fnExactRankOfElementWrong)

/-- 'laws.FnExactAreEqualBraids': WHATEVER THE INPUT: true; the input reads as it did. -/
def fnExactAreEqualBraidsSpec : ChangeSpec := { name := "fnExactAreEqualBraids", fn := fun _ => fun
  | [d1, d2, d3, d4, d5] => { results := [.lit (.bool true)], args := [d1, d2, d3, d4, d5] }
  | _ => none }
def fnExactAreEqualBraidsRow : OpenClaim := { program := "ytfhckbbgmblhbaa", sum := "491f0eebb2aa863ab5c39f6856d424b1c9fd9c868fa47f04589581c5d5243c8f", func := "loop.example/g01251/laws.FnExactAreEqualBraids", spec := "fnExactAreEqualBraids", inPlace := ["internal/bytealg.abigen_runtime_cmpstring"], unfollowed := true, recurses := true, plainKeys := false, apart := false }
def FnExactAreEqualBraidsSaid : Prop := fnExactAreEqualBraidsRow.holds Try.pinned (OpenSpec.ofChange fnExactAreEqualBraidsSpec)

/-- ITS FALSE NEIGHBOUR: 'it returns false'. Refute it at one input. -/
def fnExactAreEqualBraidsWrong : ChangeSpec := { name := "fnExactAreEqualBraids", fn := fun _ => fun
  | [d1, d2, d3, d4, d5] => { results := [.lit (.bool false)], args := [d1, d2, d3, d4, d5] }
  | _ => none }
def FnExactAreEqualBraidsWrongFalsely : Prop := fnExactAreEqualBraidsRow.holds Try.pinned (OpenSpec.ofChange fnExactAreEqualBraidsWrong)

/-- 'laws.FnExactBracketOf': WHATEVER THE INPUT: true; the input reads as it did. -/
def fnExactBracketOfSpec : ChangeSpec := { name := "fnExactBracketOf", fn := fun _ => fun
  | [d1, d2, d3, d4] => { results := [.lit (.bool true)], args := [d1, d2, d3, d4] }
  | _ => none }
def fnExactBracketOfRow : OpenClaim := { program := "ytfhckbbgmblhbaa", sum := "491f0eebb2aa863ab5c39f6856d424b1c9fd9c868fa47f04589581c5d5243c8f", func := "loop.example/g01251/laws.FnExactBracketOf", spec := "fnExactBracketOf", inPlace := ["internal/bytealg.abigen_runtime_cmpstring"], unfollowed := true, recurses := true, plainKeys := false, apart := false }
def FnExactBracketOfSaid : Prop := fnExactBracketOfRow.holds Try.pinned (OpenSpec.ofChange fnExactBracketOfSpec)

/-- ITS FALSE NEIGHBOUR: 'it returns false'. Refute it at one input. -/
def fnExactBracketOfWrong : ChangeSpec := { name := "fnExactBracketOf", fn := fun _ => fun
  | [d1, d2, d3, d4] => { results := [.lit (.bool false)], args := [d1, d2, d3, d4] }
  | _ => none }
def FnExactBracketOfWrongFalsely : Prop := fnExactBracketOfRow.holds Try.pinned (OpenSpec.ofChange fnExactBracketOfWrong)

/-- 'laws.FnExactJonesValue': WHATEVER THE INPUT: true; the input reads as it did. -/
def fnExactJonesValueSpec : ChangeSpec := { name := "fnExactJonesValue", fn := fun _ => fun
  | [d1, d2, d3, d4] => { results := [.lit (.bool true)], args := [d1, d2, d3, d4] }
  | _ => none }
def fnExactJonesValueRow : OpenClaim := { program := "ytfhckbbgmblhbaa", sum := "491f0eebb2aa863ab5c39f6856d424b1c9fd9c868fa47f04589581c5d5243c8f", func := "loop.example/g01251/laws.FnExactJonesValue", spec := "fnExactJonesValue", inPlace := ["internal/bytealg.abigen_runtime_cmpstring"], unfollowed := true, recurses := true, plainKeys := false, apart := false }
def FnExactJonesValueSaid : Prop := fnExactJonesValueRow.holds Try.pinned (OpenSpec.ofChange fnExactJonesValueSpec)

/-- ITS FALSE NEIGHBOUR: 'it returns false'. Refute it at one input. -/
def fnExactJonesValueWrong : ChangeSpec := { name := "fnExactJonesValue", fn := fun _ => fun
  | [d1, d2, d3, d4] => { results := [.lit (.bool false)], args := [d1, d2, d3, d4] }
  | _ => none }
def FnExactJonesValueWrongFalsely : Prop := fnExactJonesValueRow.holds Try.pinned (OpenSpec.ofChange fnExactJonesValueWrong)

/-- 'laws.FnExactBraidElement': WHATEVER THE INPUT: true; the input reads as it did. -/
def fnExactBraidElementSpec : ChangeSpec := { name := "fnExactBraidElement", fn := fun _ => fun
  | [d1, d2, d3, d4] => { results := [.lit (.bool true)], args := [d1, d2, d3, d4] }
  | _ => none }
def fnExactBraidElementRow : OpenClaim := { program := "ytfhckbbgmblhbaa", sum := "491f0eebb2aa863ab5c39f6856d424b1c9fd9c868fa47f04589581c5d5243c8f", func := "loop.example/g01251/laws.FnExactBraidElement", spec := "fnExactBraidElement", inPlace := ["internal/bytealg.abigen_runtime_cmpstring"], unfollowed := true, recurses := true, plainKeys := false, apart := false }
def FnExactBraidElementSaid : Prop := fnExactBraidElementRow.holds Try.pinned (OpenSpec.ofChange fnExactBraidElementSpec)

/-- ITS FALSE NEIGHBOUR: 'it returns false'. Refute it at one input. -/
def fnExactBraidElementWrong : ChangeSpec := { name := "fnExactBraidElement", fn := fun _ => fun
  | [d1, d2, d3, d4] => { results := [.lit (.bool false)], args := [d1, d2, d3, d4] }
  | _ => none }
def FnExactBraidElementWrongFalsely : Prop := fnExactBraidElementRow.holds Try.pinned (OpenSpec.ofChange fnExactBraidElementWrong)

/-- 'laws.FnExactSkeinSum': WHATEVER THE INPUT: true; the input reads as it did. -/
def fnExactSkeinSumSpec : ChangeSpec := { name := "fnExactSkeinSum", fn := fun _ => fun
  | [d1, d2, d3, d4, d5] => { results := [.lit (.bool true)], args := [d1, d2, d3, d4, d5] }
  | _ => none }
def fnExactSkeinSumRow : OpenClaim := { program := "ytfhckbbgmblhbaa", sum := "491f0eebb2aa863ab5c39f6856d424b1c9fd9c868fa47f04589581c5d5243c8f", func := "loop.example/g01251/laws.FnExactSkeinSum", spec := "fnExactSkeinSum", inPlace := ["internal/bytealg.abigen_runtime_cmpstring"], unfollowed := true, recurses := true, plainKeys := false, apart := false }
def FnExactSkeinSumSaid : Prop := fnExactSkeinSumRow.holds Try.pinned (OpenSpec.ofChange fnExactSkeinSumSpec)

/-- ITS FALSE NEIGHBOUR: 'it returns false'. Refute it at one input. -/
def fnExactSkeinSumWrong : ChangeSpec := { name := "fnExactSkeinSum", fn := fun _ => fun
  | [d1, d2, d3, d4, d5] => { results := [.lit (.bool false)], args := [d1, d2, d3, d4, d5] }
  | _ => none }
def FnExactSkeinSumWrongFalsely : Prop := fnExactSkeinSumRow.holds Try.pinned (OpenSpec.ofChange fnExactSkeinSumWrong)

/-- 'laws.FnExactTraceOfProjection': WHATEVER THE INPUT: true; the input reads as it did. -/
def fnExactTraceOfProjectionSpec : ChangeSpec := { name := "fnExactTraceOfProjection", fn := fun _ => fun
  | [d1, d2, d3] => { results := [.lit (.bool true)], args := [d1, d2, d3] }
  | _ => none }
def fnExactTraceOfProjectionRow : OpenClaim := { program := "ytfhckbbgmblhbaa", sum := "491f0eebb2aa863ab5c39f6856d424b1c9fd9c868fa47f04589581c5d5243c8f", func := "loop.example/g01251/laws.FnExactTraceOfProjection", spec := "fnExactTraceOfProjection", inPlace := ["internal/bytealg.abigen_runtime_cmpstring"], unfollowed := true, recurses := true, plainKeys := false, apart := false }
def FnExactTraceOfProjectionSaid : Prop := fnExactTraceOfProjectionRow.holds Try.pinned (OpenSpec.ofChange fnExactTraceOfProjectionSpec)

/-- ITS FALSE NEIGHBOUR: 'it returns false'. Refute it at one input. -/
def fnExactTraceOfProjectionWrong : ChangeSpec := { name := "fnExactTraceOfProjection", fn := fun _ => fun
  | [d1, d2, d3] => { results := [.lit (.bool false)], args := [d1, d2, d3] }
  | _ => none }
def FnExactTraceOfProjectionWrongFalsely : Prop := fnExactTraceOfProjectionRow.holds Try.pinned (OpenSpec.ofChange fnExactTraceOfProjectionWrong)

/-- 'laws.FnExactIsProjection': WHATEVER THE INPUT: true; the input reads as it did. -/
def fnExactIsProjectionSpec : ChangeSpec := { name := "fnExactIsProjection", fn := fun _ => fun
  | [d] => { results := [.lit (.bool true)], args := [d] }
  | _ => none }
def fnExactIsProjectionRow : OpenClaim := { program := "ytfhckbbgmblhbaa", sum := "491f0eebb2aa863ab5c39f6856d424b1c9fd9c868fa47f04589581c5d5243c8f", func := "loop.example/g01251/laws.FnExactIsProjection", spec := "fnExactIsProjection", inPlace := ["internal/bytealg.abigen_runtime_cmpstring"], unfollowed := true, recurses := true, plainKeys := false, apart := false }
def FnExactIsProjectionSaid : Prop := fnExactIsProjectionRow.holds Try.pinned (OpenSpec.ofChange fnExactIsProjectionSpec)

/-- ITS FALSE NEIGHBOUR: 'it returns false'. Refute it at one input. -/
def fnExactIsProjectionWrong : ChangeSpec := { name := "fnExactIsProjection", fn := fun _ => fun
  | [d] => { results := [.lit (.bool false)], args := [d] }
  | _ => none }
def FnExactIsProjectionWrongFalsely : Prop := fnExactIsProjectionRow.holds Try.pinned (OpenSpec.ofChange fnExactIsProjectionWrong)

/-- 'laws.FnExactCoefficientOf': WHATEVER THE INPUT: true; the input reads as it did. -/
def fnExactCoefficientOfSpec : ChangeSpec := { name := "fnExactCoefficientOf", fn := fun _ => fun
  | [d1, d2, d3] => { results := [.lit (.bool true)], args := [d1, d2, d3] }
  | _ => none }
def fnExactCoefficientOfRow : OpenClaim := { program := "ytfhckbbgmblhbaa", sum := "491f0eebb2aa863ab5c39f6856d424b1c9fd9c868fa47f04589581c5d5243c8f", func := "loop.example/g01251/laws.FnExactCoefficientOf", spec := "fnExactCoefficientOf", inPlace := ["internal/bytealg.abigen_runtime_cmpstring"], unfollowed := true, recurses := true, plainKeys := false, apart := false }
def FnExactCoefficientOfSaid : Prop := fnExactCoefficientOfRow.holds Try.pinned (OpenSpec.ofChange fnExactCoefficientOfSpec)

/-- ITS FALSE NEIGHBOUR: 'it returns false'. Refute it at one input. -/
def fnExactCoefficientOfWrong : ChangeSpec := { name := "fnExactCoefficientOf", fn := fun _ => fun
  | [d1, d2, d3] => { results := [.lit (.bool false)], args := [d1, d2, d3] }
  | _ => none }
def FnExactCoefficientOfWrongFalsely : Prop := fnExactCoefficientOfRow.holds Try.pinned (OpenSpec.ofChange fnExactCoefficientOfWrong)

/-- 'laws.FnExactProjectionOf': WHATEVER THE INPUT: true; the input reads as it did. -/
def fnExactProjectionOfSpec : ChangeSpec := { name := "fnExactProjectionOf", fn := fun _ => fun
  | [d1, d2, d3] => { results := [.lit (.bool true)], args := [d1, d2, d3] }
  | _ => none }
def fnExactProjectionOfRow : OpenClaim := { program := "ytfhckbbgmblhbaa", sum := "491f0eebb2aa863ab5c39f6856d424b1c9fd9c868fa47f04589581c5d5243c8f", func := "loop.example/g01251/laws.FnExactProjectionOf", spec := "fnExactProjectionOf", inPlace := ["internal/bytealg.abigen_runtime_cmpstring"], unfollowed := true, recurses := true, plainKeys := false, apart := false }
def FnExactProjectionOfSaid : Prop := fnExactProjectionOfRow.holds Try.pinned (OpenSpec.ofChange fnExactProjectionOfSpec)

/-- ITS FALSE NEIGHBOUR: 'it returns false'. Refute it at one input. -/
def fnExactProjectionOfWrong : ChangeSpec := { name := "fnExactProjectionOf", fn := fun _ => fun
  | [d1, d2, d3] => { results := [.lit (.bool false)], args := [d1, d2, d3] }
  | _ => none }
def FnExactProjectionOfWrongFalsely : Prop := fnExactProjectionOfRow.holds Try.pinned (OpenSpec.ofChange fnExactProjectionOfWrong)

/-- 'laws.FnExactInverseElement': WHATEVER THE INPUT: true; the input reads as it did. -/
def fnExactInverseElementSpec : ChangeSpec := { name := "fnExactInverseElement", fn := fun _ => fun
  | [d] => { results := [.lit (.bool true)], args := [d] }
  | _ => none }
def fnExactInverseElementRow : OpenClaim := { program := "ytfhckbbgmblhbaa", sum := "491f0eebb2aa863ab5c39f6856d424b1c9fd9c868fa47f04589581c5d5243c8f", func := "loop.example/g01251/laws.FnExactInverseElement", spec := "fnExactInverseElement", inPlace := ["internal/bytealg.abigen_runtime_cmpstring"], unfollowed := true, recurses := true, plainKeys := false, apart := false }
def FnExactInverseElementSaid : Prop := fnExactInverseElementRow.holds Try.pinned (OpenSpec.ofChange fnExactInverseElementSpec)

/-- ITS FALSE NEIGHBOUR: 'it returns false'. Refute it at one input. -/
def fnExactInverseElementWrong : ChangeSpec := { name := "fnExactInverseElement", fn := fun _ => fun
  | [d] => { results := [.lit (.bool false)], args := [d] }
  | _ => none }
def FnExactInverseElementWrongFalsely : Prop := fnExactInverseElementRow.holds Try.pinned (OpenSpec.ofChange fnExactInverseElementWrong)

/- THE SECOND FORM. 'bulk': how many values and letters a reading holds, each counted each time it is reached (what is shared counts as often as it is met; a slice's spare places count too). A statement '..UptoSaid' is the law's where the arguments, and the package variables that the reading takes, are together of bulk at most 1048576: NARROWER than '..Said'. Prove '..Said' where nothing that the law and all that it calls make is longer than what came in: it says more and counts as full. Else prove '..UptoSaid'. A law counts once. -/
mutual
def uptoBulk {H : Type} : DataW H → Nat
  | .lit (.string bytes) => bytes.length + 1
  | .lit _ => 1
  | .nil => 1
  | .ptr d => uptoBulk d + 1
  | .slice elems spare => uptoBulkAll elems + uptoBulkAll spare + 1
  | .agg parts => uptoBulkAll parts + 1
  | .iface _ d => uptoBulk d + 1
  | .map entries => uptoBulkEntries entries + 1
  | .held _ => 1
def uptoBulkAll {H : Type} : List (DataW H) → Nat
  | [] => 0
  | d :: r => uptoBulk d + uptoBulkAll r
def uptoBulkEntries {H : Type} : List (Lit × DataW H) → Nat
  | [] => 0
  | x :: r => uptoBulkEntry x + uptoBulkEntries r
def uptoBulkEntry {H : Type} : Lit × DataW H → Nat
  | (.string bytes, d) => bytes.length + uptoBulk d + 1
  | (_, d) => uptoBulk d + 1
 end
def uptoSmall : (H : Type) → List (DataW H) → Bool := fun _ ds => decide (uptoBulkAll ds ≤ 1048576)
def OpenSpec.upto (s : _root_.Go.ChangeSpec) : _root_.Go.OpenSpec := { _root_.Go.OpenSpec.ofChange s with cond := some uptoSmall }

/-- 'laws.FnExactRankOfElement', WHERE WHAT IT READS IS OF BULK AT MOST 1048576: true; the input reads as it did. -/
def fnExactRankOfElementUptoRow : OpenClaim := { program := "ytfhckbbgmblhbaa", sum := "491f0eebb2aa863ab5c39f6856d424b1c9fd9c868fa47f04589581c5d5243c8f", func := "loop.example/g01251/laws.FnExactRankOfElement", spec := "fnExactRankOfElement", unfollowed := true, recurses := true, plainKeys := false, apart := false, narrowed := true }
def FnExactRankOfElementUptoSaid : Prop := fnExactRankOfElementUptoRow.holds Try.pinned (OpenSpec.upto fnExactRankOfElementSpec)

/-- 'laws.FnExactAreEqualBraids', WHERE WHAT IT READS IS OF BULK AT MOST 1048576: true; the input reads as it did. -/
def fnExactAreEqualBraidsUptoRow : OpenClaim := { program := "ytfhckbbgmblhbaa", sum := "491f0eebb2aa863ab5c39f6856d424b1c9fd9c868fa47f04589581c5d5243c8f", func := "loop.example/g01251/laws.FnExactAreEqualBraids", spec := "fnExactAreEqualBraids", inPlace := ["internal/bytealg.abigen_runtime_cmpstring"], unfollowed := true, recurses := true, plainKeys := false, apart := false, narrowed := true }
def FnExactAreEqualBraidsUptoSaid : Prop := fnExactAreEqualBraidsUptoRow.holds Try.pinned (OpenSpec.upto fnExactAreEqualBraidsSpec)

/-- 'laws.FnExactBracketOf', WHERE WHAT IT READS IS OF BULK AT MOST 1048576: true; the input reads as it did. -/
def fnExactBracketOfUptoRow : OpenClaim := { program := "ytfhckbbgmblhbaa", sum := "491f0eebb2aa863ab5c39f6856d424b1c9fd9c868fa47f04589581c5d5243c8f", func := "loop.example/g01251/laws.FnExactBracketOf", spec := "fnExactBracketOf", inPlace := ["internal/bytealg.abigen_runtime_cmpstring"], unfollowed := true, recurses := true, plainKeys := false, apart := false, narrowed := true }
def FnExactBracketOfUptoSaid : Prop := fnExactBracketOfUptoRow.holds Try.pinned (OpenSpec.upto fnExactBracketOfSpec)

/-- 'laws.FnExactJonesValue', WHERE WHAT IT READS IS OF BULK AT MOST 1048576: true; the input reads as it did. -/
def fnExactJonesValueUptoRow : OpenClaim := { program := "ytfhckbbgmblhbaa", sum := "491f0eebb2aa863ab5c39f6856d424b1c9fd9c868fa47f04589581c5d5243c8f", func := "loop.example/g01251/laws.FnExactJonesValue", spec := "fnExactJonesValue", inPlace := ["internal/bytealg.abigen_runtime_cmpstring"], unfollowed := true, recurses := true, plainKeys := false, apart := false, narrowed := true }
def FnExactJonesValueUptoSaid : Prop := fnExactJonesValueUptoRow.holds Try.pinned (OpenSpec.upto fnExactJonesValueSpec)

/-- 'laws.FnExactBraidElement', WHERE WHAT IT READS IS OF BULK AT MOST 1048576: true; the input reads as it did. -/
def fnExactBraidElementUptoRow : OpenClaim := { program := "ytfhckbbgmblhbaa", sum := "491f0eebb2aa863ab5c39f6856d424b1c9fd9c868fa47f04589581c5d5243c8f", func := "loop.example/g01251/laws.FnExactBraidElement", spec := "fnExactBraidElement", inPlace := ["internal/bytealg.abigen_runtime_cmpstring"], unfollowed := true, recurses := true, plainKeys := false, apart := false, narrowed := true }
def FnExactBraidElementUptoSaid : Prop := fnExactBraidElementUptoRow.holds Try.pinned (OpenSpec.upto fnExactBraidElementSpec)

/-- 'laws.FnExactSkeinSum', WHERE WHAT IT READS IS OF BULK AT MOST 1048576: true; the input reads as it did. -/
def fnExactSkeinSumUptoRow : OpenClaim := { program := "ytfhckbbgmblhbaa", sum := "491f0eebb2aa863ab5c39f6856d424b1c9fd9c868fa47f04589581c5d5243c8f", func := "loop.example/g01251/laws.FnExactSkeinSum", spec := "fnExactSkeinSum", inPlace := ["internal/bytealg.abigen_runtime_cmpstring"], unfollowed := true, recurses := true, plainKeys := false, apart := false, narrowed := true }
def FnExactSkeinSumUptoSaid : Prop := fnExactSkeinSumUptoRow.holds Try.pinned (OpenSpec.upto fnExactSkeinSumSpec)

/-- 'laws.FnExactTraceOfProjection', WHERE WHAT IT READS IS OF BULK AT MOST 1048576: true; the input reads as it did. -/
def fnExactTraceOfProjectionUptoRow : OpenClaim := { program := "ytfhckbbgmblhbaa", sum := "491f0eebb2aa863ab5c39f6856d424b1c9fd9c868fa47f04589581c5d5243c8f", func := "loop.example/g01251/laws.FnExactTraceOfProjection", spec := "fnExactTraceOfProjection", inPlace := ["internal/bytealg.abigen_runtime_cmpstring"], unfollowed := true, recurses := true, plainKeys := false, apart := false, narrowed := true }
def FnExactTraceOfProjectionUptoSaid : Prop := fnExactTraceOfProjectionUptoRow.holds Try.pinned (OpenSpec.upto fnExactTraceOfProjectionSpec)

/-- 'laws.FnExactIsProjection', WHERE WHAT IT READS IS OF BULK AT MOST 1048576: true; the input reads as it did. -/
def fnExactIsProjectionUptoRow : OpenClaim := { program := "ytfhckbbgmblhbaa", sum := "491f0eebb2aa863ab5c39f6856d424b1c9fd9c868fa47f04589581c5d5243c8f", func := "loop.example/g01251/laws.FnExactIsProjection", spec := "fnExactIsProjection", inPlace := ["internal/bytealg.abigen_runtime_cmpstring"], unfollowed := true, recurses := true, plainKeys := false, apart := false, narrowed := true }
def FnExactIsProjectionUptoSaid : Prop := fnExactIsProjectionUptoRow.holds Try.pinned (OpenSpec.upto fnExactIsProjectionSpec)

/-- 'laws.FnExactCoefficientOf', WHERE WHAT IT READS IS OF BULK AT MOST 1048576: true; the input reads as it did. -/
def fnExactCoefficientOfUptoRow : OpenClaim := { program := "ytfhckbbgmblhbaa", sum := "491f0eebb2aa863ab5c39f6856d424b1c9fd9c868fa47f04589581c5d5243c8f", func := "loop.example/g01251/laws.FnExactCoefficientOf", spec := "fnExactCoefficientOf", inPlace := ["internal/bytealg.abigen_runtime_cmpstring"], unfollowed := true, recurses := true, plainKeys := false, apart := false, narrowed := true }
def FnExactCoefficientOfUptoSaid : Prop := fnExactCoefficientOfUptoRow.holds Try.pinned (OpenSpec.upto fnExactCoefficientOfSpec)

/-- 'laws.FnExactProjectionOf', WHERE WHAT IT READS IS OF BULK AT MOST 1048576: true; the input reads as it did. -/
def fnExactProjectionOfUptoRow : OpenClaim := { program := "ytfhckbbgmblhbaa", sum := "491f0eebb2aa863ab5c39f6856d424b1c9fd9c868fa47f04589581c5d5243c8f", func := "loop.example/g01251/laws.FnExactProjectionOf", spec := "fnExactProjectionOf", inPlace := ["internal/bytealg.abigen_runtime_cmpstring"], unfollowed := true, recurses := true, plainKeys := false, apart := false, narrowed := true }
def FnExactProjectionOfUptoSaid : Prop := fnExactProjectionOfUptoRow.holds Try.pinned (OpenSpec.upto fnExactProjectionOfSpec)

/-- 'laws.FnExactInverseElement', WHERE WHAT IT READS IS OF BULK AT MOST 1048576: true; the input reads as it did. -/
def fnExactInverseElementUptoRow : OpenClaim := { program := "ytfhckbbgmblhbaa", sum := "491f0eebb2aa863ab5c39f6856d424b1c9fd9c868fa47f04589581c5d5243c8f", func := "loop.example/g01251/laws.FnExactInverseElement", spec := "fnExactInverseElement", inPlace := ["internal/bytealg.abigen_runtime_cmpstring"], unfollowed := true, recurses := true, plainKeys := false, apart := false, narrowed := true }
def FnExactInverseElementUptoSaid : Prop := fnExactInverseElementUptoRow.holds Try.pinned (OpenSpec.upto fnExactInverseElementSpec)

end Rows
end Go.Proofs.Ytfhckbbgmblhbaa
