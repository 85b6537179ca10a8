/-
  NARROWER THAN 'FOR EVERY INPUT', by the rows' own cells (each row's printed sentence says how): FnExactNodeCount: loops · FnExactNestingOf: loops · FnExactEqualExpr: loops · FnExactHasEffect: loops · FnExactIsValidExpr: loops.
  DERIVED. THE GIVEN ROWS OF THIS SEAT. 7 by the template 'for every input the law returns true; each argument reads behind the call as it read before'; 0 by the template 'total and deterministic' (their statements: YtgcdnmpgfgefoaaTotals.lean).
  GIVEN WITH THE SEED: the statements are not yours to turn. If you find one false, say at which input.
  Laid BY PROGRAM, IN A SANDBOX (cutbox-rows.mjs): the forced cells as the released guide's own fill.sh prints them over the translation ec0d4338f9262270… (all of the seat's roots in one cut). By AI agents, Wed Nov 11 2026. No macro, syntax, notation, axiom, sorry.
-/
import Derived.Test.YtgcdnmpgfgefoaaChecked
import GoSem.Claim
import GoSem.ClaimJoined
import GoSem.ClaimMapViews
import Derived.JoinedTies
import Derived.KernelRfl
namespace Go.Proofs.Ytgcdnmpgfgefoaa
/- THE CELL 'sum', in the pinned program and in every row, IS THE sha256 OF THE DUMP (.gsa) THAT YtgcdnmpgfgefoaaProg.lean LOADS. Nothing in Lean hashes anything: it is a label: what it is worth is what the hold of that sum in a sandbox is worth. -/
noncomputable def Try.pinned : Pinned := { name := "ytgcdnmpgfgefoaa", sum := "ec0d4338f9262270427f586f218b091629b335a63853cf45f9fb9a469f628651", checked := Try.checked }
namespace Rows
def none {H : Type} : Left H := { results := [], args := [] }

/-- 'laws.FnExactNodeCount': WHATEVER THE INPUT: true; the input reads as it did. -/
def fnExactNodeCountSpec : ChangeSpec := { name := "fnExactNodeCount", fn := fun _ => fun
  | [d] => { results := [.lit (.bool true)], args := [d] }
  | _ => none }
def fnExactNodeCountRow : OpenClaim := { program := "ytgcdnmpgfgefoaa", sum := "ec0d4338f9262270427f586f218b091629b335a63853cf45f9fb9a469f628651", func := "loop.example/g00510/laws.FnExactNodeCount", spec := "fnExactNodeCount", recurses := true, loops := true, apart := false }
def FnExactNodeCountSaid : Prop := fnExactNodeCountRow.holds Try.pinned (OpenSpec.ofChange fnExactNodeCountSpec)

/-- ITS FALSE NEIGHBOUR: 'it returns false'. Refute it at one input. -/
def fnExactNodeCountWrong : ChangeSpec := { name := "fnExactNodeCount", fn := fun _ => fun
  | [d] => { results := [.lit (.bool false)], args := [d] }
  | _ => none }
def FnExactNodeCountWrongFalsely : Prop := fnExactNodeCountRow.holds Try.pinned (OpenSpec.ofChange fnExactNodeCountWrong)

/-- 'laws.FnExactNestingOf': WHATEVER THE INPUT: true; the input reads as it did. -/
def fnExactNestingOfSpec : ChangeSpec := { name := "fnExactNestingOf", fn := fun _ => fun
  | [d] => { results := [.lit (.bool true)], args := [d] }
  | _ => none }
def fnExactNestingOfRow : OpenClaim := { program := "ytgcdnmpgfgefoaa", sum := "ec0d4338f9262270427f586f218b091629b335a63853cf45f9fb9a469f628651", func := "loop.example/g00510/laws.FnExactNestingOf", spec := "fnExactNestingOf", recurses := true, loops := true, apart := false }
def FnExactNestingOfSaid : Prop := fnExactNestingOfRow.holds Try.pinned (OpenSpec.ofChange fnExactNestingOfSpec)

/-- ITS FALSE NEIGHBOUR: 'it returns false'. Refute it at one input. -/
def fnExactNestingOfWrong : ChangeSpec := { name := "fnExactNestingOf", fn := fun _ => fun
  | [d] => { results := [.lit (.bool false)], args := [d] }
  | _ => none }
def FnExactNestingOfWrongFalsely : Prop := fnExactNestingOfRow.holds Try.pinned (OpenSpec.ofChange fnExactNestingOfWrong)

/-- 'laws.FnExactEqualExpr': WHATEVER THE INPUT: true; the input reads as it did. -/
def fnExactEqualExprSpec : ChangeSpec := { name := "fnExactEqualExpr", fn := fun _ => fun
  | [d1, d2] => { results := [.lit (.bool true)], args := [d1, d2] }
  | _ => none }
def fnExactEqualExprRow : OpenClaim := { program := "ytgcdnmpgfgefoaa", sum := "ec0d4338f9262270427f586f218b091629b335a63853cf45f9fb9a469f628651", func := "loop.example/g00510/laws.FnExactEqualExpr", spec := "fnExactEqualExpr", recurses := true, loops := true, apart := false }
def FnExactEqualExprSaid : Prop := fnExactEqualExprRow.holds Try.pinned (OpenSpec.ofChange fnExactEqualExprSpec)

/-- ITS FALSE NEIGHBOUR: 'it returns false'. Refute it at one input. -/
def fnExactEqualExprWrong : ChangeSpec := { name := "fnExactEqualExpr", fn := fun _ => fun
  | [d1, d2] => { results := [.lit (.bool false)], args := [d1, d2] }
  | _ => none }
def FnExactEqualExprWrongFalsely : Prop := fnExactEqualExprRow.holds Try.pinned (OpenSpec.ofChange fnExactEqualExprWrong)

/-- 'laws.FnExactHasEffect': WHATEVER THE INPUT: true; the input reads as it did. -/
def fnExactHasEffectSpec : ChangeSpec := { name := "fnExactHasEffect", fn := fun _ => fun
  | [d] => { results := [.lit (.bool true)], args := [d] }
  | _ => none }
def fnExactHasEffectRow : OpenClaim := { program := "ytgcdnmpgfgefoaa", sum := "ec0d4338f9262270427f586f218b091629b335a63853cf45f9fb9a469f628651", func := "loop.example/g00510/laws.FnExactHasEffect", spec := "fnExactHasEffect", recurses := true, loops := true, apart := false }
def FnExactHasEffectSaid : Prop := fnExactHasEffectRow.holds Try.pinned (OpenSpec.ofChange fnExactHasEffectSpec)

/-- ITS FALSE NEIGHBOUR: 'it returns false'. Refute it at one input. -/
def fnExactHasEffectWrong : ChangeSpec := { name := "fnExactHasEffect", fn := fun _ => fun
  | [d] => { results := [.lit (.bool false)], args := [d] }
  | _ => none }
def FnExactHasEffectWrongFalsely : Prop := fnExactHasEffectRow.holds Try.pinned (OpenSpec.ofChange fnExactHasEffectWrong)

/-- 'laws.FnExactIsValidExpr': WHATEVER THE INPUT: true; the input reads as it did. -/
def fnExactIsValidExprSpec : ChangeSpec := { name := "fnExactIsValidExpr", fn := fun _ => fun
  | [d] => { results := [.lit (.bool true)], args := [d] }
  | _ => none }
def fnExactIsValidExprRow : OpenClaim := { program := "ytgcdnmpgfgefoaa", sum := "ec0d4338f9262270427f586f218b091629b335a63853cf45f9fb9a469f628651", func := "loop.example/g00510/laws.FnExactIsValidExpr", spec := "fnExactIsValidExpr", recurses := true, loops := true, apart := false }
def FnExactIsValidExprSaid : Prop := fnExactIsValidExprRow.holds Try.pinned (OpenSpec.ofChange fnExactIsValidExprSpec)

/-- ITS FALSE NEIGHBOUR: 'it returns false'. Refute it at one input. -/
def fnExactIsValidExprWrong : ChangeSpec := { name := "fnExactIsValidExpr", fn := fun _ => fun
  | [d] => { results := [.lit (.bool false)], args := [d] }
  | _ => none }
def FnExactIsValidExprWrongFalsely : Prop := fnExactIsValidExprRow.holds Try.pinned (OpenSpec.ofChange fnExactIsValidExprWrong)

/-- 'laws.FnExactWithout': WHATEVER THE INPUT: true; the input reads as it did. -/
def fnExactWithoutSpec : ChangeSpec := { name := "fnExactWithout", fn := fun _ => fun
  | [d1, d2] => { results := [.lit (.bool true)], args := [d1, d2] }
  | _ => none }
def fnExactWithoutRow : OpenClaim := { program := "ytgcdnmpgfgefoaa", sum := "ec0d4338f9262270427f586f218b091629b335a63853cf45f9fb9a469f628651", func := "loop.example/g00510/laws.FnExactWithout", spec := "fnExactWithout", apart := false }
def FnExactWithoutSaid : Prop := fnExactWithoutRow.holds Try.pinned (OpenSpec.ofChange fnExactWithoutSpec)

/-- ITS FALSE NEIGHBOUR: 'it returns false'. Refute it at one input. -/
def fnExactWithoutWrong : ChangeSpec := { name := "fnExactWithout", fn := fun _ => fun
  | [d1, d2] => { results := [.lit (.bool false)], args := [d1, d2] }
  | _ => none }
def FnExactWithoutWrongFalsely : Prop := fnExactWithoutRow.holds Try.pinned (OpenSpec.ofChange fnExactWithoutWrong)

/-- 'laws.FnExactJoin': WHATEVER THE INPUT: true; the input reads as it did. -/
def fnExactJoinSpec : ChangeSpec := { name := "fnExactJoin", fn := fun _ => fun
  | [d1, d2] => { results := [.lit (.bool true)], args := [d1, d2] }
  | _ => none }
def fnExactJoinRow : OpenClaim := { program := "ytgcdnmpgfgefoaa", sum := "ec0d4338f9262270427f586f218b091629b335a63853cf45f9fb9a469f628651", func := "loop.example/g00510/laws.FnExactJoin", spec := "fnExactJoin", inPlace := ["internal/abi.NoEscape", "internal/bytealg.MakeNoZero"], apart := false }
def FnExactJoinSaid : Prop := fnExactJoinRow.holds Try.pinned (OpenSpec.ofChange fnExactJoinSpec)

/-- ITS FALSE NEIGHBOUR: 'it returns false'. Refute it at one input. -/
def fnExactJoinWrong : ChangeSpec := { name := "fnExactJoin", fn := fun _ => fun
  | [d1, d2] => { results := [.lit (.bool false)], args := [d1, d2] }
  | _ => none }
def FnExactJoinWrongFalsely : Prop := fnExactJoinRow.holds Try.pinned (OpenSpec.ofChange fnExactJoinWrong)

/- THE SECOND FORM. 'bulk': how many values and letters a reading holds, each counted each time it is reached (what is shared counts as often as it is met; a slice's spare places count too). A statement '..UptoSaid' is the law's where the arguments, and the package variables that the reading takes, are together of bulk at most 1048576: NARROWER than '..Said'. Prove '..Said' where nothing that the law and all that it calls make is longer than what came in: it says more and counts as full. Else prove '..UptoSaid'. A law counts once. -/
mutual
def uptoBulk {H : Type} : DataW H → Nat
  | .lit (.string bytes) => bytes.length + 1
  | .lit _ => 1
  | .nil => 1
  | .ptr d => uptoBulk d + 1
  | .slice elems spare => uptoBulkAll elems + uptoBulkAll spare + 1
  | .agg parts => uptoBulkAll parts + 1
  | .iface _ d => uptoBulk d + 1
  | .map entries => uptoBulkEntries entries + 1
  | .held _ => 1
def uptoBulkAll {H : Type} : List (DataW H) → Nat
  | [] => 0
  | d :: r => uptoBulk d + uptoBulkAll r
def uptoBulkEntries {H : Type} : List (Lit × DataW H) → Nat
  | [] => 0
  | x :: r => uptoBulkEntry x + uptoBulkEntries r
def uptoBulkEntry {H : Type} : Lit × DataW H → Nat
  | (.string bytes, d) => bytes.length + uptoBulk d + 1
  | (_, d) => uptoBulk d + 1
 end
def uptoSmall : (H : Type) → List (DataW H) → Bool := fun _ ds => decide (uptoBulkAll ds ≤ 1048576)
def OpenSpec.upto (s : _root_.Go.ChangeSpec) : _root_.Go.OpenSpec := { _root_.Go.OpenSpec.ofChange s with cond := some uptoSmall }

/-- 'laws.FnExactNodeCount', WHERE WHAT IT READS IS OF BULK AT MOST 1048576: true; the input reads as it did. -/
def fnExactNodeCountUptoRow : OpenClaim := { program := "ytgcdnmpgfgefoaa", sum := "ec0d4338f9262270427f586f218b091629b335a63853cf45f9fb9a469f628651", func := "loop.example/g00510/laws.FnExactNodeCount", spec := "fnExactNodeCount", recurses := true, loops := true, apart := false, narrowed := true }
def FnExactNodeCountUptoSaid : Prop := fnExactNodeCountUptoRow.holds Try.pinned (OpenSpec.upto fnExactNodeCountSpec)

/-- 'laws.FnExactNestingOf', WHERE WHAT IT READS IS OF BULK AT MOST 1048576: true; the input reads as it did. -/
def fnExactNestingOfUptoRow : OpenClaim := { program := "ytgcdnmpgfgefoaa", sum := "ec0d4338f9262270427f586f218b091629b335a63853cf45f9fb9a469f628651", func := "loop.example/g00510/laws.FnExactNestingOf", spec := "fnExactNestingOf", recurses := true, loops := true, apart := false, narrowed := true }
def FnExactNestingOfUptoSaid : Prop := fnExactNestingOfUptoRow.holds Try.pinned (OpenSpec.upto fnExactNestingOfSpec)

/-- 'laws.FnExactEqualExpr', WHERE WHAT IT READS IS OF BULK AT MOST 1048576: true; the input reads as it did. -/
def fnExactEqualExprUptoRow : OpenClaim := { program := "ytgcdnmpgfgefoaa", sum := "ec0d4338f9262270427f586f218b091629b335a63853cf45f9fb9a469f628651", func := "loop.example/g00510/laws.FnExactEqualExpr", spec := "fnExactEqualExpr", recurses := true, loops := true, apart := false, narrowed := true }
def FnExactEqualExprUptoSaid : Prop := fnExactEqualExprUptoRow.holds Try.pinned (OpenSpec.upto fnExactEqualExprSpec)

/-- 'laws.FnExactHasEffect', WHERE WHAT IT READS IS OF BULK AT MOST 1048576: true; the input reads as it did. -/
def fnExactHasEffectUptoRow : OpenClaim := { program := "ytgcdnmpgfgefoaa", sum := "ec0d4338f9262270427f586f218b091629b335a63853cf45f9fb9a469f628651", func := "loop.example/g00510/laws.FnExactHasEffect", spec := "fnExactHasEffect", recurses := true, loops := true, apart := false, narrowed := true }
def FnExactHasEffectUptoSaid : Prop := fnExactHasEffectUptoRow.holds Try.pinned (OpenSpec.upto fnExactHasEffectSpec)

/-- 'laws.FnExactIsValidExpr', WHERE WHAT IT READS IS OF BULK AT MOST 1048576: true; the input reads as it did. -/
def fnExactIsValidExprUptoRow : OpenClaim := { program := "ytgcdnmpgfgefoaa", sum := "ec0d4338f9262270427f586f218b091629b335a63853cf45f9fb9a469f628651", func := "loop.example/g00510/laws.FnExactIsValidExpr", spec := "fnExactIsValidExpr", recurses := true, loops := true, apart := false, narrowed := true }
def FnExactIsValidExprUptoSaid : Prop := fnExactIsValidExprUptoRow.holds Try.pinned (OpenSpec.upto fnExactIsValidExprSpec)

/-- 'laws.FnExactWithout', WHERE WHAT IT READS IS OF BULK AT MOST 1048576: true; the input reads as it did. -/
def fnExactWithoutUptoRow : OpenClaim := { program := "ytgcdnmpgfgefoaa", sum := "ec0d4338f9262270427f586f218b091629b335a63853cf45f9fb9a469f628651", func := "loop.example/g00510/laws.FnExactWithout", spec := "fnExactWithout", apart := false, narrowed := true }
def FnExactWithoutUptoSaid : Prop := fnExactWithoutUptoRow.holds Try.pinned (OpenSpec.upto fnExactWithoutSpec)

/-- 'laws.FnExactJoin', WHERE WHAT IT READS IS OF BULK AT MOST 1048576: true; the input reads as it did. -/
def fnExactJoinUptoRow : OpenClaim := { program := "ytgcdnmpgfgefoaa", sum := "ec0d4338f9262270427f586f218b091629b335a63853cf45f9fb9a469f628651", func := "loop.example/g00510/laws.FnExactJoin", spec := "fnExactJoin", inPlace := ["internal/abi.NoEscape", "internal/bytealg.MakeNoZero"], apart := false, narrowed := true }
def FnExactJoinUptoSaid : Prop := fnExactJoinUptoRow.holds Try.pinned (OpenSpec.upto fnExactJoinSpec)

end Rows
end Go.Proofs.Ytgcdnmpgfgefoaa
