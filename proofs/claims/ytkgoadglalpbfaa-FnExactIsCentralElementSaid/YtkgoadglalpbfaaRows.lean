/-
  No cell of these rows narrows 'for every input' (looked for: loops, veiled, ifaces, maps, wideKeys, modest, calm, conditions, laid).
  DERIVED. THE GIVEN ROWS OF THIS SEAT. 11 by the template 'for every input the law returns true; each argument reads behind the call as it read before'; 0 by the template 'total and deterministic' (their statements: YtkgoadglalpbfaaTotals.lean).
  GIVEN WITH THE SEED: the statements are not yours to turn. If you find one false, say at which input.
  Laid BY PROGRAM, IN A SANDBOX (cutbox-rows.mjs): the forced cells as the released guide's own fill.sh prints them over the translation 1fc885b4f4bd4886… (all of the seat's roots in one cut). By AI agents, Wed Nov 11 2026. No macro, syntax, notation, axiom, sorry.
-/
import Derived.Test.YtkgoadglalpbfaaChecked
import GoSem.Claim
import GoSem.ClaimJoined
import GoSem.ClaimMapViews
import Derived.JoinedTies
import Derived.KernelRfl
namespace Go.Proofs.Ytkgoadglalpbfaa
/- THE CELL 'sum', in the pinned program and in every row, IS THE sha256 OF THE DUMP (.gsa) THAT YtkgoadglalpbfaaProg.lean LOADS. Nothing in Lean hashes anything: it is a label: what it is worth is what the hold of that sum in a sandbox is worth. -/
noncomputable def Try.pinned : Pinned := { name := "ytkgoadglalpbfaa", sum := "1fc885b4f4bd4886c09f70e38e0c71c4093df25149609cf9cca8598254732bcb", checked := Try.checked }
namespace Rows
def none {H : Type} : Left H := { results := [], args := [] }

/-- 'laws.FnExactTableOfElement': WHATEVER THE INPUT: true; the input reads as it did. -/
def fnExactTableOfElementSpec : ChangeSpec := { name := "fnExactTableOfElement", fn := fun _ => fun
  | [d1, d2] => { results := [.lit (.bool true)], args := [d1, d2] }
  | _ => none }
def fnExactTableOfElementRow : OpenClaim := { program := "ytkgoadglalpbfaa", sum := "1fc885b4f4bd4886c09f70e38e0c71c4093df25149609cf9cca8598254732bcb", func := "loop.example/g01251/laws.FnExactTableOfElement", spec := "fnExactTableOfElement", unfollowed := true, recurses := true, plainKeys := false, apart := false }
def FnExactTableOfElementSaid : Prop := fnExactTableOfElementRow.holds Try.pinned (OpenSpec.ofChange fnExactTableOfElementSpec)

/-- ITS FALSE NEIGHBOUR: 'it returns false'. Refute it at one input. -/
def fnExactTableOfElementWrong : ChangeSpec := { name := "fnExactTableOfElement", fn := fun _ => fun
  | [d1, d2] => { results := [.lit (.bool false)], args := [d1, d2] }
  | _ => none }
def FnExactTableOfElementWrongFalsely : Prop := fnExactTableOfElementRow.holds Try.pinned (OpenSpec.ofChange fnExactTableOfElementWrong)

/-- 'laws.FnExactElementOf': WHATEVER THE INPUT: true; the input reads as it did. -/
def fnExactElementOfSpec : ChangeSpec := { name := "fnExactElementOf", fn := fun _ => fun
  | [d1, d2, d3, d4] => { results := [.lit (.bool true)], args := [d1, d2, d3, d4] }
  | _ => none }
def fnExactElementOfRow : OpenClaim := { program := "ytkgoadglalpbfaa", sum := "1fc885b4f4bd4886c09f70e38e0c71c4093df25149609cf9cca8598254732bcb", func := "loop.example/g01251/laws.FnExactElementOf", spec := "fnExactElementOf", inPlace := ["internal/bytealg.abigen_runtime_cmpstring"], unfollowed := true, recurses := true, plainKeys := false, apart := false }
def FnExactElementOfSaid : Prop := fnExactElementOfRow.holds Try.pinned (OpenSpec.ofChange fnExactElementOfSpec)

/-- ITS FALSE NEIGHBOUR: 'it returns false'. Refute it at one input. -/
def fnExactElementOfWrong : ChangeSpec := { name := "fnExactElementOf", fn := fun _ => fun
  | [d1, d2, d3, d4] => { results := [.lit (.bool false)], args := [d1, d2, d3, d4] }
  | _ => none }
def FnExactElementOfWrongFalsely : Prop := fnExactElementOfRow.holds Try.pinned (OpenSpec.ofChange fnExactElementOfWrong)

/-- 'laws.FnExactScaleElement': WHATEVER THE INPUT: true; the input reads as it did. -/
def fnExactScaleElementSpec : ChangeSpec := { name := "fnExactScaleElement", fn := fun _ => fun
  | [d1, d2] => { results := [.lit (.bool true)], args := [d1, d2] }
  | _ => none }
def fnExactScaleElementRow : OpenClaim := { program := "ytkgoadglalpbfaa", sum := "1fc885b4f4bd4886c09f70e38e0c71c4093df25149609cf9cca8598254732bcb", func := "loop.example/g01251/laws.FnExactScaleElement", spec := "fnExactScaleElement", inPlace := ["internal/bytealg.abigen_runtime_cmpstring"], unfollowed := true, recurses := true, plainKeys := false, apart := false }
def FnExactScaleElementSaid : Prop := fnExactScaleElementRow.holds Try.pinned (OpenSpec.ofChange fnExactScaleElementSpec)

/-- ITS FALSE NEIGHBOUR: 'it returns false'. Refute it at one input. -/
def fnExactScaleElementWrong : ChangeSpec := { name := "fnExactScaleElement", fn := fun _ => fun
  | [d1, d2] => { results := [.lit (.bool false)], args := [d1, d2] }
  | _ => none }
def FnExactScaleElementWrongFalsely : Prop := fnExactScaleElementRow.holds Try.pinned (OpenSpec.ofChange fnExactScaleElementWrong)

/-- 'laws.FnExactFlipElement': WHATEVER THE INPUT: true; the input reads as it did. -/
def fnExactFlipElementSpec : ChangeSpec := { name := "fnExactFlipElement", fn := fun _ => fun
  | [d] => { results := [.lit (.bool true)], args := [d] }
  | _ => none }
def fnExactFlipElementRow : OpenClaim := { program := "ytkgoadglalpbfaa", sum := "1fc885b4f4bd4886c09f70e38e0c71c4093df25149609cf9cca8598254732bcb", func := "loop.example/g01251/laws.FnExactFlipElement", spec := "fnExactFlipElement", inPlace := ["internal/bytealg.abigen_runtime_cmpstring"], unfollowed := true, recurses := true, plainKeys := false, apart := false }
def FnExactFlipElementSaid : Prop := fnExactFlipElementRow.holds Try.pinned (OpenSpec.ofChange fnExactFlipElementSpec)

/-- ITS FALSE NEIGHBOUR: 'it returns false'. Refute it at one input. -/
def fnExactFlipElementWrong : ChangeSpec := { name := "fnExactFlipElement", fn := fun _ => fun
  | [d] => { results := [.lit (.bool false)], args := [d] }
  | _ => none }
def FnExactFlipElementWrongFalsely : Prop := fnExactFlipElementRow.holds Try.pinned (OpenSpec.ofChange fnExactFlipElementWrong)

/-- 'laws.FnExactAddElements': WHATEVER THE INPUT: true; the input reads as it did. -/
def fnExactAddElementsSpec : ChangeSpec := { name := "fnExactAddElements", fn := fun _ => fun
  | [d1, d2] => { results := [.lit (.bool true)], args := [d1, d2] }
  | _ => none }
def fnExactAddElementsRow : OpenClaim := { program := "ytkgoadglalpbfaa", sum := "1fc885b4f4bd4886c09f70e38e0c71c4093df25149609cf9cca8598254732bcb", func := "loop.example/g01251/laws.FnExactAddElements", spec := "fnExactAddElements", inPlace := ["internal/bytealg.abigen_runtime_cmpstring"], unfollowed := true, recurses := true, plainKeys := false, apart := false }
def FnExactAddElementsSaid : Prop := fnExactAddElementsRow.holds Try.pinned (OpenSpec.ofChange fnExactAddElementsSpec)

/-- ITS FALSE NEIGHBOUR: 'it returns false'. Refute it at one input. -/
def fnExactAddElementsWrong : ChangeSpec := { name := "fnExactAddElements", fn := fun _ => fun
  | [d1, d2] => { results := [.lit (.bool false)], args := [d1, d2] }
  | _ => none }
def FnExactAddElementsWrongFalsely : Prop := fnExactAddElementsRow.holds Try.pinned (OpenSpec.ofChange fnExactAddElementsWrong)

/-- 'laws.FnExactIncludeElement': WHATEVER THE INPUT: true; the input reads as it did. -/
def fnExactIncludeElementSpec : ChangeSpec := { name := "fnExactIncludeElement", fn := fun _ => fun
  | [d] => { results := [.lit (.bool true)], args := [d] }
  | _ => none }
def fnExactIncludeElementRow : OpenClaim := { program := "ytkgoadglalpbfaa", sum := "1fc885b4f4bd4886c09f70e38e0c71c4093df25149609cf9cca8598254732bcb", func := "loop.example/g01251/laws.FnExactIncludeElement", spec := "fnExactIncludeElement", inPlace := ["internal/bytealg.abigen_runtime_cmpstring"], unfollowed := true, recurses := true, plainKeys := false, apart := false }
def FnExactIncludeElementSaid : Prop := fnExactIncludeElementRow.holds Try.pinned (OpenSpec.ofChange fnExactIncludeElementSpec)

/-- ITS FALSE NEIGHBOUR: 'it returns false'. Refute it at one input. -/
def fnExactIncludeElementWrong : ChangeSpec := { name := "fnExactIncludeElement", fn := fun _ => fun
  | [d] => { results := [.lit (.bool false)], args := [d] }
  | _ => none }
def FnExactIncludeElementWrongFalsely : Prop := fnExactIncludeElementRow.holds Try.pinned (OpenSpec.ofChange fnExactIncludeElementWrong)

/-- 'laws.FnExactPartialClosure': WHATEVER THE INPUT: true; the input reads as it did. -/
def fnExactPartialClosureSpec : ChangeSpec := { name := "fnExactPartialClosure", fn := fun _ => fun
  | [d] => { results := [.lit (.bool true)], args := [d] }
  | _ => none }
def fnExactPartialClosureRow : OpenClaim := { program := "ytkgoadglalpbfaa", sum := "1fc885b4f4bd4886c09f70e38e0c71c4093df25149609cf9cca8598254732bcb", func := "loop.example/g01251/laws.FnExactPartialClosure", spec := "fnExactPartialClosure", inPlace := ["internal/bytealg.abigen_runtime_cmpstring"], unfollowed := true, recurses := true, plainKeys := false, apart := false }
def FnExactPartialClosureSaid : Prop := fnExactPartialClosureRow.holds Try.pinned (OpenSpec.ofChange fnExactPartialClosureSpec)

/-- ITS FALSE NEIGHBOUR: 'it returns false'. Refute it at one input. -/
def fnExactPartialClosureWrong : ChangeSpec := { name := "fnExactPartialClosure", fn := fun _ => fun
  | [d] => { results := [.lit (.bool false)], args := [d] }
  | _ => none }
def FnExactPartialClosureWrongFalsely : Prop := fnExactPartialClosureRow.holds Try.pinned (OpenSpec.ofChange fnExactPartialClosureWrong)

/-- 'laws.FnExactIsCentralElement': WHATEVER THE INPUT: true; the input reads as it did. -/
def fnExactIsCentralElementSpec : ChangeSpec := { name := "fnExactIsCentralElement", fn := fun _ => fun
  | [d] => { results := [.lit (.bool true)], args := [d] }
  | _ => none }
def fnExactIsCentralElementRow : OpenClaim := { program := "ytkgoadglalpbfaa", sum := "1fc885b4f4bd4886c09f70e38e0c71c4093df25149609cf9cca8598254732bcb", func := "loop.example/g01251/laws.FnExactIsCentralElement", spec := "fnExactIsCentralElement", inPlace := ["internal/bytealg.abigen_runtime_cmpstring"], unfollowed := true, recurses := true, plainKeys := false, apart := false }
def FnExactIsCentralElementSaid : Prop := fnExactIsCentralElementRow.holds Try.pinned (OpenSpec.ofChange fnExactIsCentralElementSpec)

/-- ITS FALSE NEIGHBOUR: 'it returns false'. Refute it at one input. -/
def fnExactIsCentralElementWrong : ChangeSpec := { name := "fnExactIsCentralElement", fn := fun _ => fun
  | [d] => { results := [.lit (.bool false)], args := [d] }
  | _ => none }
def FnExactIsCentralElementWrongFalsely : Prop := fnExactIsCentralElementRow.holds Try.pinned (OpenSpec.ofChange fnExactIsCentralElementWrong)

/-- 'laws.FnExactMultiplyElements': WHATEVER THE INPUT: true; the input reads as it did. -/
def fnExactMultiplyElementsSpec : ChangeSpec := { name := "fnExactMultiplyElements", fn := fun _ => fun
  | [d1, d2] => { results := [.lit (.bool true)], args := [d1, d2] }
  | _ => none }
def fnExactMultiplyElementsRow : OpenClaim := { program := "ytkgoadglalpbfaa", sum := "1fc885b4f4bd4886c09f70e38e0c71c4093df25149609cf9cca8598254732bcb", func := "loop.example/g01251/laws.FnExactMultiplyElements", spec := "fnExactMultiplyElements", inPlace := ["internal/bytealg.abigen_runtime_cmpstring"], unfollowed := true, recurses := true, plainKeys := false, apart := false }
def FnExactMultiplyElementsSaid : Prop := fnExactMultiplyElementsRow.holds Try.pinned (OpenSpec.ofChange fnExactMultiplyElementsSpec)

/-- ITS FALSE NEIGHBOUR: 'it returns false'. Refute it at one input. -/
def fnExactMultiplyElementsWrong : ChangeSpec := { name := "fnExactMultiplyElements", fn := fun _ => fun
  | [d1, d2] => { results := [.lit (.bool false)], args := [d1, d2] }
  | _ => none }
def FnExactMultiplyElementsWrongFalsely : Prop := fnExactMultiplyElementsRow.holds Try.pinned (OpenSpec.ofChange fnExactMultiplyElementsWrong)

/-- 'laws.FnExactPowerElement': WHATEVER THE INPUT: true; the input reads as it did. -/
def fnExactPowerElementSpec : ChangeSpec := { name := "fnExactPowerElement", fn := fun _ => fun
  | [d1, d2] => { results := [.lit (.bool true)], args := [d1, d2] }
  | _ => none }
def fnExactPowerElementRow : OpenClaim := { program := "ytkgoadglalpbfaa", sum := "1fc885b4f4bd4886c09f70e38e0c71c4093df25149609cf9cca8598254732bcb", func := "loop.example/g01251/laws.FnExactPowerElement", spec := "fnExactPowerElement", inPlace := ["internal/bytealg.abigen_runtime_cmpstring"], unfollowed := true, recurses := true, plainKeys := false, apart := false }
def FnExactPowerElementSaid : Prop := fnExactPowerElementRow.holds Try.pinned (OpenSpec.ofChange fnExactPowerElementSpec)

/-- ITS FALSE NEIGHBOUR: 'it returns false'. Refute it at one input. -/
def fnExactPowerElementWrong : ChangeSpec := { name := "fnExactPowerElement", fn := fun _ => fun
  | [d1, d2] => { results := [.lit (.bool false)], args := [d1, d2] }
  | _ => none }
def FnExactPowerElementWrongFalsely : Prop := fnExactPowerElementRow.holds Try.pinned (OpenSpec.ofChange fnExactPowerElementWrong)

/-- 'laws.FnExactCommutatorElement': WHATEVER THE INPUT: true; the input reads as it did. -/
def fnExactCommutatorElementSpec : ChangeSpec := { name := "fnExactCommutatorElement", fn := fun _ => fun
  | [d1, d2] => { results := [.lit (.bool true)], args := [d1, d2] }
  | _ => none }
def fnExactCommutatorElementRow : OpenClaim := { program := "ytkgoadglalpbfaa", sum := "1fc885b4f4bd4886c09f70e38e0c71c4093df25149609cf9cca8598254732bcb", func := "loop.example/g01251/laws.FnExactCommutatorElement", spec := "fnExactCommutatorElement", inPlace := ["internal/bytealg.abigen_runtime_cmpstring"], unfollowed := true, recurses := true, plainKeys := false, apart := false }
def FnExactCommutatorElementSaid : Prop := fnExactCommutatorElementRow.holds Try.pinned (OpenSpec.ofChange fnExactCommutatorElementSpec)

/-- ITS FALSE NEIGHBOUR: 'it returns false'. Refute it at one input. -/
def fnExactCommutatorElementWrong : ChangeSpec := { name := "fnExactCommutatorElement", fn := fun _ => fun
  | [d1, d2] => { results := [.lit (.bool false)], args := [d1, d2] }
  | _ => none }
def FnExactCommutatorElementWrongFalsely : Prop := fnExactCommutatorElementRow.holds Try.pinned (OpenSpec.ofChange fnExactCommutatorElementWrong)

/- THE SECOND FORM. 'bulk': how many values and letters a reading holds, each counted each time it is reached (what is shared counts as often as it is met; a slice's spare places count too). A statement '..UptoSaid' is the law's where the arguments, and the package variables that the reading takes, are together of bulk at most 1048576: NARROWER than '..Said'. Prove '..Said' where nothing that the law and all that it calls make is longer than what came in: it says more and counts as full. Else prove '..UptoSaid'. A law counts once. -/
mutual
def uptoBulk {H : Type} : DataW H → Nat
  | .lit (.string bytes) => bytes.length + 1
  | .lit _ => 1
  | .nil => 1
  | .ptr d => uptoBulk d + 1
  | .slice elems spare => uptoBulkAll elems + uptoBulkAll spare + 1
  | .agg parts => uptoBulkAll parts + 1
  | .iface _ d => uptoBulk d + 1
  | .map entries => uptoBulkEntries entries + 1
  | .held _ => 1
def uptoBulkAll {H : Type} : List (DataW H) → Nat
  | [] => 0
  | d :: r => uptoBulk d + uptoBulkAll r
def uptoBulkEntries {H : Type} : List (Lit × DataW H) → Nat
  | [] => 0
  | x :: r => uptoBulkEntry x + uptoBulkEntries r
def uptoBulkEntry {H : Type} : Lit × DataW H → Nat
  | (.string bytes, d) => bytes.length + uptoBulk d + 1
  | (_, d) => uptoBulk d + 1
 end
def uptoSmall : (H : Type) → List (DataW H) → Bool := fun _ ds => decide (uptoBulkAll ds ≤ 1048576)
def OpenSpec.upto (s : _root_.Go.ChangeSpec) : _root_.Go.OpenSpec := { _root_.Go.OpenSpec.ofChange s with cond := some uptoSmall }

/-- 'laws.FnExactTableOfElement', WHERE WHAT IT READS IS OF BULK AT MOST 1048576: true; the input reads as it did. -/
def fnExactTableOfElementUptoRow : OpenClaim := { program := "ytkgoadglalpbfaa", sum := "1fc885b4f4bd4886c09f70e38e0c71c4093df25149609cf9cca8598254732bcb", func := "loop.example/g01251/laws.FnExactTableOfElement", spec := "fnExactTableOfElement", unfollowed := true, recurses := true, plainKeys := false, apart := false, narrowed := true }
def FnExactTableOfElementUptoSaid : Prop := fnExactTableOfElementUptoRow.holds Try.pinned (OpenSpec.upto fnExactTableOfElementSpec)

/-- 'laws.FnExactElementOf', WHERE WHAT IT READS IS OF BULK AT MOST 1048576: true; the input reads as it did. -/
def fnExactElementOfUptoRow : OpenClaim := { program := "ytkgoadglalpbfaa", sum := "1fc885b4f4bd4886c09f70e38e0c71c4093df25149609cf9cca8598254732bcb", func := "loop.example/g01251/laws.FnExactElementOf", spec := "fnExactElementOf", inPlace := ["internal/bytealg.abigen_runtime_cmpstring"], unfollowed := true, recurses := true, plainKeys := false, apart := false, narrowed := true }
def FnExactElementOfUptoSaid : Prop := fnExactElementOfUptoRow.holds Try.pinned (OpenSpec.upto fnExactElementOfSpec)

/-- 'laws.FnExactScaleElement', WHERE WHAT IT READS IS OF BULK AT MOST 1048576: true; the input reads as it did. -/
def fnExactScaleElementUptoRow : OpenClaim := { program := "ytkgoadglalpbfaa", sum := "1fc885b4f4bd4886c09f70e38e0c71c4093df25149609cf9cca8598254732bcb", func := "loop.example/g01251/laws.FnExactScaleElement", spec := "fnExactScaleElement", inPlace := ["internal/bytealg.abigen_runtime_cmpstring"], unfollowed := true, recurses := true, plainKeys := false, apart := false, narrowed := true }
def FnExactScaleElementUptoSaid : Prop := fnExactScaleElementUptoRow.holds Try.pinned (OpenSpec.upto fnExactScaleElementSpec)

/-- 'laws.FnExactFlipElement', WHERE WHAT IT READS IS OF BULK AT MOST 1048576: true; the input reads as it did. -/
def fnExactFlipElementUptoRow : OpenClaim := { program := "ytkgoadglalpbfaa", sum := "1fc885b4f4bd4886c09f70e38e0c71c4093df25149609cf9cca8598254732bcb", func := "loop.example/g01251/laws.FnExactFlipElement", spec := "fnExactFlipElement", inPlace := ["internal/bytealg.abigen_runtime_cmpstring"], unfollowed := true, recurses := true, plainKeys := false, apart := false, narrowed := true }
def FnExactFlipElementUptoSaid : Prop := fnExactFlipElementUptoRow.holds Try.pinned (OpenSpec.upto fnExactFlipElementSpec)

/-- 'laws.FnExactAddElements', WHERE WHAT IT READS IS OF BULK AT MOST 1048576: true; the input reads as it did. -/
def fnExactAddElementsUptoRow : OpenClaim := { program := "ytkgoadglalpbfaa", sum := "1fc885b4f4bd4886c09f70e38e0c71c4093df25149609cf9cca8598254732bcb", func := "loop.example/g01251/laws.FnExactAddElements", spec := "fnExactAddElements", inPlace := ["internal/bytealg.abigen_runtime_cmpstring"], unfollowed := true, recurses := true, plainKeys := false, apart := false, narrowed := true }
def FnExactAddElementsUptoSaid : Prop := fnExactAddElementsUptoRow.holds Try.pinned (OpenSpec.upto fnExactAddElementsSpec)

/-- 'laws.FnExactIncludeElement', WHERE WHAT IT READS IS OF BULK AT MOST 1048576: true; the input reads as it did. -/
def fnExactIncludeElementUptoRow : OpenClaim := { program := "ytkgoadglalpbfaa", sum := "1fc885b4f4bd4886c09f70e38e0c71c4093df25149609cf9cca8598254732bcb", func := "loop.example/g01251/laws.FnExactIncludeElement", spec := "fnExactIncludeElement", inPlace := ["internal/bytealg.abigen_runtime_cmpstring"], unfollowed := true, recurses := true, plainKeys := false, apart := false, narrowed := true }
def FnExactIncludeElementUptoSaid : Prop := fnExactIncludeElementUptoRow.holds Try.pinned (OpenSpec.upto fnExactIncludeElementSpec)

/-- 'laws.FnExactPartialClosure', WHERE WHAT IT READS IS OF BULK AT MOST 1048576: true; the input reads as it did. -/
def fnExactPartialClosureUptoRow : OpenClaim := { program := "ytkgoadglalpbfaa", sum := "1fc885b4f4bd4886c09f70e38e0c71c4093df25149609cf9cca8598254732bcb", func := "loop.example/g01251/laws.FnExactPartialClosure", spec := "fnExactPartialClosure", inPlace := ["internal/bytealg.abigen_runtime_cmpstring"], unfollowed := true, recurses := true, plainKeys := false, apart := false, narrowed := true }
def FnExactPartialClosureUptoSaid : Prop := fnExactPartialClosureUptoRow.holds Try.pinned (OpenSpec.upto fnExactPartialClosureSpec)

/-- 'laws.FnExactIsCentralElement', WHERE WHAT IT READS IS OF BULK AT MOST 1048576: true; the input reads as it did. -/
def fnExactIsCentralElementUptoRow : OpenClaim := { program := "ytkgoadglalpbfaa", sum := "1fc885b4f4bd4886c09f70e38e0c71c4093df25149609cf9cca8598254732bcb", func := "loop.example/g01251/laws.FnExactIsCentralElement", spec := "fnExactIsCentralElement", inPlace := ["internal/bytealg.abigen_runtime_cmpstring"], unfollowed := true, recurses := true, plainKeys := false, apart := false, narrowed := true }
def FnExactIsCentralElementUptoSaid : Prop := fnExactIsCentralElementUptoRow.holds Try.pinned (OpenSpec.upto fnExactIsCentralElementSpec)

/-- 'laws.FnExactMultiplyElements', WHERE WHAT IT READS IS OF BULK AT MOST 1048576: true; the input reads as it did. -/
def fnExactMultiplyElementsUptoRow : OpenClaim := { program := "ytkgoadglalpbfaa", sum := "1fc885b4f4bd4886c09f70e38e0c71c4093df25149609cf9cca8598254732bcb", func := "loop.example/g01251/laws.FnExactMultiplyElements", spec := "fnExactMultiplyElements", inPlace := ["internal/bytealg.abigen_runtime_cmpstring"], unfollowed := true, recurses := true, plainKeys := false, apart := false, narrowed := true }
def FnExactMultiplyElementsUptoSaid : Prop := fnExactMultiplyElementsUptoRow.holds Try.pinned (OpenSpec.upto fnExactMultiplyElementsSpec)

/-- 'laws.FnExactPowerElement', WHERE WHAT IT READS IS OF BULK AT MOST 1048576: true; the input reads as it did. -/
def fnExactPowerElementUptoRow : OpenClaim := { program := "ytkgoadglalpbfaa", sum := "1fc885b4f4bd4886c09f70e38e0c71c4093df25149609cf9cca8598254732bcb", func := "loop.example/g01251/laws.FnExactPowerElement", spec := "fnExactPowerElement", inPlace := ["internal/bytealg.abigen_runtime_cmpstring"], unfollowed := true, recurses := true, plainKeys := false, apart := false, narrowed := true }
def FnExactPowerElementUptoSaid : Prop := fnExactPowerElementUptoRow.holds Try.pinned (OpenSpec.upto fnExactPowerElementSpec)

/-- 'laws.FnExactCommutatorElement', WHERE WHAT IT READS IS OF BULK AT MOST 1048576: true; the input reads as it did. -/
def fnExactCommutatorElementUptoRow : OpenClaim := { program := "ytkgoadglalpbfaa", sum := "1fc885b4f4bd4886c09f70e38e0c71c4093df25149609cf9cca8598254732bcb", func := "loop.example/g01251/laws.FnExactCommutatorElement", spec := "fnExactCommutatorElement", inPlace := ["internal/bytealg.abigen_runtime_cmpstring"], unfollowed := true, recurses := true, plainKeys := false, apart := false, narrowed := true }
def FnExactCommutatorElementUptoSaid : Prop := fnExactCommutatorElementUptoRow.holds Try.pinned (OpenSpec.upto fnExactCommutatorElementSpec)

end Rows
end Go.Proofs.Ytkgoadglalpbfaa
