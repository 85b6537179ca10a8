/-
  NARROWER THAN 'FOR EVERY INPUT', by the rows' own cells (each row's printed sentence says how): FnExactListValue: loops · FnExactOriginsOf: loops.
  DERIVED. THE GIVEN ROWS OF THIS SEAT. 9 by the template 'for every input the law returns true; each argument reads behind the call as it read before'; 0 by the template 'total and deterministic' (their statements: YtghemlokpfipoaaTotals.lean).
  GIVEN WITH THE SEED: the statements are not yours to turn. If you find one false, say at which input.
  Laid BY PROGRAM, IN A SANDBOX (cutbox-rows.mjs): the forced cells as the released guide's own fill.sh prints them over the translation 4727d34aac2569b2… (all of the seat's roots in one cut). By AI agents, Wed Nov 11 2026. No macro, syntax, notation, axiom, sorry.
-/
import Derived.Test.YtghemlokpfipoaaChecked
import GoSem.Claim
import GoSem.ClaimJoined
import GoSem.ClaimMapViews
import Derived.JoinedTies
import Derived.KernelRfl
namespace Go.Proofs.Ytghemlokpfipoaa
/- THE CELL 'sum', in the pinned program and in every row, IS THE sha256 OF THE DUMP (.gsa) THAT YtghemlokpfipoaaProg.lean LOADS. Nothing in Lean hashes anything: it is a label: what it is worth is what the hold of that sum in a sandbox is worth. -/
noncomputable def Try.pinned : Pinned := { name := "ytghemlokpfipoaa", sum := "4727d34aac2569b2513aeeea71c8421bd4bd0d5d3125f38ec6f032b1b9f39b97", checked := Try.checked }
namespace Rows
def none {H : Type} : Left H := { results := [], args := [] }

/-- 'laws.FnValues': WHATEVER THE INPUT: true; the input reads as it did. -/
def fnValuesSpec : ChangeSpec := { name := "fnValues", fn := fun _ => fun
  | [d] => { results := [.lit (.bool true)], args := [d] }
  | _ => none }
def fnValuesRow : OpenClaim := { program := "ytghemlokpfipoaa", sum := "4727d34aac2569b2513aeeea71c8421bd4bd0d5d3125f38ec6f032b1b9f39b97", func := "loop.example/g00510/laws.FnValues", spec := "fnValues", recurses := true, plainKeys := false, apart := false }
def FnValuesSaid : Prop := fnValuesRow.holds Try.pinned (OpenSpec.ofChange fnValuesSpec)

/-- ITS FALSE NEIGHBOUR: 'it returns false'. Refute it at one input. -/
def fnValuesWrong : ChangeSpec := { name := "fnValues", fn := fun _ => fun
  | [d] => { results := [.lit (.bool false)], args := [d] }
  | _ => none }
def FnValuesWrongFalsely : Prop := fnValuesRow.holds Try.pinned (OpenSpec.ofChange fnValuesWrong)

/-- 'laws.FnSum': WHATEVER THE INPUT: true; the input reads as it did. -/
def fnSumSpec : ChangeSpec := { name := "fnSum", fn := fun _ => fun
  | [d] => { results := [.lit (.bool true)], args := [d] }
  | _ => none }
def fnSumRow : OpenClaim := { program := "ytghemlokpfipoaa", sum := "4727d34aac2569b2513aeeea71c8421bd4bd0d5d3125f38ec6f032b1b9f39b97", func := "loop.example/g00510/laws.FnSum", spec := "fnSum", recurses := true, plainKeys := false, apart := false }
def FnSumSaid : Prop := fnSumRow.holds Try.pinned (OpenSpec.ofChange fnSumSpec)

/-- ITS FALSE NEIGHBOUR: 'it returns false'. Refute it at one input. -/
def fnSumWrong : ChangeSpec := { name := "fnSum", fn := fun _ => fun
  | [d] => { results := [.lit (.bool false)], args := [d] }
  | _ => none }
def FnSumWrongFalsely : Prop := fnSumRow.holds Try.pinned (OpenSpec.ofChange fnSumWrong)

/-- 'laws.FnStreams': WHATEVER THE INPUT: true; the input reads as it did. -/
def fnStreamsSpec : ChangeSpec := { name := "fnStreams", fn := fun _ => fun
  | [d] => { results := [.lit (.bool true)], args := [d] }
  | _ => none }
def fnStreamsRow : OpenClaim := { program := "ytghemlokpfipoaa", sum := "4727d34aac2569b2513aeeea71c8421bd4bd0d5d3125f38ec6f032b1b9f39b97", func := "loop.example/g00510/laws.FnStreams", spec := "fnStreams", recurses := true, plainKeys := false, apart := false }
def FnStreamsSaid : Prop := fnStreamsRow.holds Try.pinned (OpenSpec.ofChange fnStreamsSpec)

/-- ITS FALSE NEIGHBOUR: 'it returns false'. Refute it at one input. -/
def fnStreamsWrong : ChangeSpec := { name := "fnStreams", fn := fun _ => fun
  | [d] => { results := [.lit (.bool false)], args := [d] }
  | _ => none }
def FnStreamsWrongFalsely : Prop := fnStreamsRow.holds Try.pinned (OpenSpec.ofChange fnStreamsWrong)

/-- 'laws.FnOperators': WHATEVER THE INPUT: true; the input reads as it did. -/
def fnOperatorsSpec : ChangeSpec := { name := "fnOperators", fn := fun _ => fun
  | [d] => { results := [.lit (.bool true)], args := [d] }
  | _ => none }
def fnOperatorsRow : OpenClaim := { program := "ytghemlokpfipoaa", sum := "4727d34aac2569b2513aeeea71c8421bd4bd0d5d3125f38ec6f032b1b9f39b97", func := "loop.example/g00510/laws.FnOperators", spec := "fnOperators", recurses := true, plainKeys := false, apart := false }
def FnOperatorsSaid : Prop := fnOperatorsRow.holds Try.pinned (OpenSpec.ofChange fnOperatorsSpec)

/-- ITS FALSE NEIGHBOUR: 'it returns false'. Refute it at one input. -/
def fnOperatorsWrong : ChangeSpec := { name := "fnOperators", fn := fun _ => fun
  | [d] => { results := [.lit (.bool false)], args := [d] }
  | _ => none }
def FnOperatorsWrongFalsely : Prop := fnOperatorsRow.holds Try.pinned (OpenSpec.ofChange fnOperatorsWrong)

/-- 'laws.FnOperandErrors': WHATEVER THE INPUT: true; the input reads as it did. -/
def fnOperandErrorsSpec : ChangeSpec := { name := "fnOperandErrors", fn := fun _ => fun
  | [d] => { results := [.lit (.bool true)], args := [d] }
  | _ => none }
def fnOperandErrorsRow : OpenClaim := { program := "ytghemlokpfipoaa", sum := "4727d34aac2569b2513aeeea71c8421bd4bd0d5d3125f38ec6f032b1b9f39b97", func := "loop.example/g00510/laws.FnOperandErrors", spec := "fnOperandErrors", recurses := true, plainKeys := false, apart := false }
def FnOperandErrorsSaid : Prop := fnOperandErrorsRow.holds Try.pinned (OpenSpec.ofChange fnOperandErrorsSpec)

/-- ITS FALSE NEIGHBOUR: 'it returns false'. Refute it at one input. -/
def fnOperandErrorsWrong : ChangeSpec := { name := "fnOperandErrors", fn := fun _ => fun
  | [d] => { results := [.lit (.bool false)], args := [d] }
  | _ => none }
def FnOperandErrorsWrongFalsely : Prop := fnOperandErrorsRow.holds Try.pinned (OpenSpec.ofChange fnOperandErrorsWrong)

/-- 'laws.FnExactListValue': WHATEVER THE INPUT: true; the input reads as it did. -/
def fnExactListValueSpec : ChangeSpec := { name := "fnExactListValue", fn := fun _ => fun
  | [d] => { results := [.lit (.bool true)], args := [d] }
  | _ => none }
def fnExactListValueRow : OpenClaim := { program := "ytghemlokpfipoaa", sum := "4727d34aac2569b2513aeeea71c8421bd4bd0d5d3125f38ec6f032b1b9f39b97", func := "loop.example/g00510/laws.FnExactListValue", spec := "fnExactListValue", recurses := true, loops := true, plainKeys := false, apart := false }
def FnExactListValueSaid : Prop := fnExactListValueRow.holds Try.pinned (OpenSpec.ofChange fnExactListValueSpec)

/-- ITS FALSE NEIGHBOUR: 'it returns false'. Refute it at one input. -/
def fnExactListValueWrong : ChangeSpec := { name := "fnExactListValue", fn := fun _ => fun
  | [d] => { results := [.lit (.bool false)], args := [d] }
  | _ => none }
def FnExactListValueWrongFalsely : Prop := fnExactListValueRow.holds Try.pinned (OpenSpec.ofChange fnExactListValueWrong)

/-- 'laws.FnExactUnionOrigins': WHATEVER THE INPUT: true; the input reads as it did. -/
def fnExactUnionOriginsSpec : ChangeSpec := { name := "fnExactUnionOrigins", fn := fun _ => fun
  | [d1, d2] => { results := [.lit (.bool true)], args := [d1, d2] }
  | _ => none }
def fnExactUnionOriginsRow : OpenClaim := { program := "ytghemlokpfipoaa", sum := "4727d34aac2569b2513aeeea71c8421bd4bd0d5d3125f38ec6f032b1b9f39b97", func := "loop.example/g00510/laws.FnExactUnionOrigins", spec := "fnExactUnionOrigins", inPlace := ["internal/reflectlite.ValueOf", "internal/reflectlite.Swapper", "(internal/reflectlite.Value).Len"], unfollowed := true, recurses := true, plainKeys := false, apart := false }
def FnExactUnionOriginsSaid : Prop := fnExactUnionOriginsRow.holds Try.pinned (OpenSpec.ofChange fnExactUnionOriginsSpec)

/-- ITS FALSE NEIGHBOUR: 'it returns false'. Refute it at one input. -/
def fnExactUnionOriginsWrong : ChangeSpec := { name := "fnExactUnionOrigins", fn := fun _ => fun
  | [d1, d2] => { results := [.lit (.bool false)], args := [d1, d2] }
  | _ => none }
def FnExactUnionOriginsWrongFalsely : Prop := fnExactUnionOriginsRow.holds Try.pinned (OpenSpec.ofChange fnExactUnionOriginsWrong)

/-- 'laws.FnExactOriginsOf': WHATEVER THE INPUT: true; the input reads as it did. -/
def fnExactOriginsOfSpec : ChangeSpec := { name := "fnExactOriginsOf", fn := fun _ => fun
  | [d] => { results := [.lit (.bool true)], args := [d] }
  | _ => none }
def fnExactOriginsOfRow : OpenClaim := { program := "ytghemlokpfipoaa", sum := "4727d34aac2569b2513aeeea71c8421bd4bd0d5d3125f38ec6f032b1b9f39b97", func := "loop.example/g00510/laws.FnExactOriginsOf", spec := "fnExactOriginsOf", inPlace := ["internal/reflectlite.ValueOf", "internal/reflectlite.Swapper", "(internal/reflectlite.Value).Len"], unfollowed := true, recurses := true, loops := true, plainKeys := false, apart := false }
def FnExactOriginsOfSaid : Prop := fnExactOriginsOfRow.holds Try.pinned (OpenSpec.ofChange fnExactOriginsOfSpec)

/-- ITS FALSE NEIGHBOUR: 'it returns false'. Refute it at one input. -/
def fnExactOriginsOfWrong : ChangeSpec := { name := "fnExactOriginsOf", fn := fun _ => fun
  | [d] => { results := [.lit (.bool false)], args := [d] }
  | _ => none }
def FnExactOriginsOfWrongFalsely : Prop := fnExactOriginsOfRow.holds Try.pinned (OpenSpec.ofChange fnExactOriginsOfWrong)

/-- 'laws.FnExprs': WHATEVER THE INPUT: true; the input reads as it did. -/
def fnExprsSpec : ChangeSpec := { name := "fnExprs", fn := fun _ => fun
  | [d] => { results := [.lit (.bool true)], args := [d] }
  | _ => none }
def fnExprsRow : OpenClaim := { program := "ytghemlokpfipoaa", sum := "4727d34aac2569b2513aeeea71c8421bd4bd0d5d3125f38ec6f032b1b9f39b97", func := "loop.example/g00510/laws.FnExprs", spec := "fnExprs", recurses := true, plainKeys := false, apart := false }
def FnExprsSaid : Prop := fnExprsRow.holds Try.pinned (OpenSpec.ofChange fnExprsSpec)

/-- ITS FALSE NEIGHBOUR: 'it returns false'. Refute it at one input. -/
def fnExprsWrong : ChangeSpec := { name := "fnExprs", fn := fun _ => fun
  | [d] => { results := [.lit (.bool false)], args := [d] }
  | _ => none }
def FnExprsWrongFalsely : Prop := fnExprsRow.holds Try.pinned (OpenSpec.ofChange fnExprsWrong)

/- THE SECOND FORM. 'bulk': how many values and letters a reading holds, each counted each time it is reached (what is shared counts as often as it is met; a slice's spare places count too). A statement '..UptoSaid' is the law's where the arguments, and the package variables that the reading takes, are together of bulk at most 1048576: NARROWER than '..Said'. Prove '..Said' where nothing that the law and all that it calls make is longer than what came in: it says more and counts as full. Else prove '..UptoSaid'. A law counts once. -/
mutual
def uptoBulk {H : Type} : DataW H → Nat
  | .lit (.string bytes) => bytes.length + 1
  | .lit _ => 1
  | .nil => 1
  | .ptr d => uptoBulk d + 1
  | .slice elems spare => uptoBulkAll elems + uptoBulkAll spare + 1
  | .agg parts => uptoBulkAll parts + 1
  | .iface _ d => uptoBulk d + 1
  | .map entries => uptoBulkEntries entries + 1
  | .held _ => 1
def uptoBulkAll {H : Type} : List (DataW H) → Nat
  | [] => 0
  | d :: r => uptoBulk d + uptoBulkAll r
def uptoBulkEntries {H : Type} : List (Lit × DataW H) → Nat
  | [] => 0
  | x :: r => uptoBulkEntry x + uptoBulkEntries r
def uptoBulkEntry {H : Type} : Lit × DataW H → Nat
  | (.string bytes, d) => bytes.length + uptoBulk d + 1
  | (_, d) => uptoBulk d + 1
 end
def uptoSmall : (H : Type) → List (DataW H) → Bool := fun _ ds => decide (uptoBulkAll ds ≤ 1048576)
def OpenSpec.upto (s : _root_.Go.ChangeSpec) : _root_.Go.OpenSpec := { _root_.Go.OpenSpec.ofChange s with cond := some uptoSmall }

/-- 'laws.FnValues', WHERE WHAT IT READS IS OF BULK AT MOST 1048576: true; the input reads as it did. -/
def fnValuesUptoRow : OpenClaim := { program := "ytghemlokpfipoaa", sum := "4727d34aac2569b2513aeeea71c8421bd4bd0d5d3125f38ec6f032b1b9f39b97", func := "loop.example/g00510/laws.FnValues", spec := "fnValues", recurses := true, plainKeys := false, apart := false, narrowed := true }
def FnValuesUptoSaid : Prop := fnValuesUptoRow.holds Try.pinned (OpenSpec.upto fnValuesSpec)

/-- 'laws.FnSum', WHERE WHAT IT READS IS OF BULK AT MOST 1048576: true; the input reads as it did. -/
def fnSumUptoRow : OpenClaim := { program := "ytghemlokpfipoaa", sum := "4727d34aac2569b2513aeeea71c8421bd4bd0d5d3125f38ec6f032b1b9f39b97", func := "loop.example/g00510/laws.FnSum", spec := "fnSum", recurses := true, plainKeys := false, apart := false, narrowed := true }
def FnSumUptoSaid : Prop := fnSumUptoRow.holds Try.pinned (OpenSpec.upto fnSumSpec)

/-- 'laws.FnStreams', WHERE WHAT IT READS IS OF BULK AT MOST 1048576: true; the input reads as it did. -/
def fnStreamsUptoRow : OpenClaim := { program := "ytghemlokpfipoaa", sum := "4727d34aac2569b2513aeeea71c8421bd4bd0d5d3125f38ec6f032b1b9f39b97", func := "loop.example/g00510/laws.FnStreams", spec := "fnStreams", recurses := true, plainKeys := false, apart := false, narrowed := true }
def FnStreamsUptoSaid : Prop := fnStreamsUptoRow.holds Try.pinned (OpenSpec.upto fnStreamsSpec)

/-- 'laws.FnOperators', WHERE WHAT IT READS IS OF BULK AT MOST 1048576: true; the input reads as it did. -/
def fnOperatorsUptoRow : OpenClaim := { program := "ytghemlokpfipoaa", sum := "4727d34aac2569b2513aeeea71c8421bd4bd0d5d3125f38ec6f032b1b9f39b97", func := "loop.example/g00510/laws.FnOperators", spec := "fnOperators", recurses := true, plainKeys := false, apart := false, narrowed := true }
def FnOperatorsUptoSaid : Prop := fnOperatorsUptoRow.holds Try.pinned (OpenSpec.upto fnOperatorsSpec)

/-- 'laws.FnOperandErrors', WHERE WHAT IT READS IS OF BULK AT MOST 1048576: true; the input reads as it did. -/
def fnOperandErrorsUptoRow : OpenClaim := { program := "ytghemlokpfipoaa", sum := "4727d34aac2569b2513aeeea71c8421bd4bd0d5d3125f38ec6f032b1b9f39b97", func := "loop.example/g00510/laws.FnOperandErrors", spec := "fnOperandErrors", recurses := true, plainKeys := false, apart := false, narrowed := true }
def FnOperandErrorsUptoSaid : Prop := fnOperandErrorsUptoRow.holds Try.pinned (OpenSpec.upto fnOperandErrorsSpec)

/-- 'laws.FnExactListValue', WHERE WHAT IT READS IS OF BULK AT MOST 1048576: true; the input reads as it did. -/
def fnExactListValueUptoRow : OpenClaim := { program := "ytghemlokpfipoaa", sum := "4727d34aac2569b2513aeeea71c8421bd4bd0d5d3125f38ec6f032b1b9f39b97", func := "loop.example/g00510/laws.FnExactListValue", spec := "fnExactListValue", recurses := true, loops := true, plainKeys := false, apart := false, narrowed := true }
def FnExactListValueUptoSaid : Prop := fnExactListValueUptoRow.holds Try.pinned (OpenSpec.upto fnExactListValueSpec)

/-- 'laws.FnExactUnionOrigins', WHERE WHAT IT READS IS OF BULK AT MOST 1048576: true; the input reads as it did. -/
def fnExactUnionOriginsUptoRow : OpenClaim := { program := "ytghemlokpfipoaa", sum := "4727d34aac2569b2513aeeea71c8421bd4bd0d5d3125f38ec6f032b1b9f39b97", func := "loop.example/g00510/laws.FnExactUnionOrigins", spec := "fnExactUnionOrigins", inPlace := ["internal/reflectlite.ValueOf", "internal/reflectlite.Swapper", "(internal/reflectlite.Value).Len"], unfollowed := true, recurses := true, plainKeys := false, apart := false, narrowed := true }
def FnExactUnionOriginsUptoSaid : Prop := fnExactUnionOriginsUptoRow.holds Try.pinned (OpenSpec.upto fnExactUnionOriginsSpec)

/-- 'laws.FnExactOriginsOf', WHERE WHAT IT READS IS OF BULK AT MOST 1048576: true; the input reads as it did. -/
def fnExactOriginsOfUptoRow : OpenClaim := { program := "ytghemlokpfipoaa", sum := "4727d34aac2569b2513aeeea71c8421bd4bd0d5d3125f38ec6f032b1b9f39b97", func := "loop.example/g00510/laws.FnExactOriginsOf", spec := "fnExactOriginsOf", inPlace := ["internal/reflectlite.ValueOf", "internal/reflectlite.Swapper", "(internal/reflectlite.Value).Len"], unfollowed := true, recurses := true, loops := true, plainKeys := false, apart := false, narrowed := true }
def FnExactOriginsOfUptoSaid : Prop := fnExactOriginsOfUptoRow.holds Try.pinned (OpenSpec.upto fnExactOriginsOfSpec)

/-- 'laws.FnExprs', WHERE WHAT IT READS IS OF BULK AT MOST 1048576: true; the input reads as it did. -/
def fnExprsUptoRow : OpenClaim := { program := "ytghemlokpfipoaa", sum := "4727d34aac2569b2513aeeea71c8421bd4bd0d5d3125f38ec6f032b1b9f39b97", func := "loop.example/g00510/laws.FnExprs", spec := "fnExprs", recurses := true, plainKeys := false, apart := false, narrowed := true }
def FnExprsUptoSaid : Prop := fnExprsUptoRow.holds Try.pinned (OpenSpec.upto fnExprsSpec)

end Rows
end Go.Proofs.Ytghemlokpfipoaa
