/-
  NARROWER THAN 'FOR EVERY INPUT', by the rows' own cells (each row's printed sentence says how): FnExactIsTrue: loops · FnExactColumnIndex: loops · FnExactSizeOf: loops · FnExactDepthOf: loops · FnExactEqualShown: loops · FnExactEqualValue: loops.
  DERIVED. THE GIVEN ROWS OF THIS SEAT. 12 by the template 'for every input the law returns true; each argument reads behind the call as it read before'; 0 by the template 'total and deterministic' (their statements: YtfdfhfdhkdldlaaTotals.lean).
  GIVEN WITH THE SEED: the statements are not yours to turn. If you find one false, say at which input.
  Laid BY PROGRAM, IN A SANDBOX (cutbox-rows.mjs): the forced cells as the released guide's own fill.sh prints them over the translation 8efece6d929d31c4… (all of the seat's roots in one cut). By AI agents, Wed Nov 11 2026. No macro, syntax, notation, axiom, sorry.
-/
import Derived.Test.YtfdfhfdhkdldlaaChecked
import GoSem.Claim
import GoSem.ClaimJoined
import GoSem.ClaimMapViews
import Derived.JoinedTies
import Derived.KernelRfl
namespace Go.Proofs.Ytfdfhfdhkdldlaa
/- THE CELL 'sum', in the pinned program and in every row, IS THE sha256 OF THE DUMP (.gsa) THAT YtfdfhfdhkdldlaaProg.lean LOADS. Nothing in Lean hashes anything: it is a label: what it is worth is what the hold of that sum in a sandbox is worth. -/
noncomputable def Try.pinned : Pinned := { name := "ytfdfhfdhkdldlaa", sum := "8efece6d929d31c4891deee0e1e7aada54f2cd5c4377a8de3f74118095fbed70", checked := Try.checked }
namespace Rows
def none {H : Type} : Left H := { results := [], args := [] }

/-- 'laws.FnExactIsTrue': WHATEVER THE INPUT: true; the input reads as it did. -/
def fnExactIsTrueSpec : ChangeSpec := { name := "fnExactIsTrue", fn := fun _ => fun
  | [d] => { results := [.lit (.bool true)], args := [d] }
  | _ => none }
def fnExactIsTrueRow : OpenClaim := { program := "ytfdfhfdhkdldlaa", sum := "8efece6d929d31c4891deee0e1e7aada54f2cd5c4377a8de3f74118095fbed70", func := "loop.example/g00510/laws.FnExactIsTrue", spec := "fnExactIsTrue", recurses := true, loops := true, apart := false }
def FnExactIsTrueSaid : Prop := fnExactIsTrueRow.holds Try.pinned (OpenSpec.ofChange fnExactIsTrueSpec)

/-- ITS FALSE NEIGHBOUR: 'it returns false'. Refute it at one input. -/
def fnExactIsTrueWrong : ChangeSpec := { name := "fnExactIsTrue", fn := fun _ => fun
  | [d] => { results := [.lit (.bool false)], args := [d] }
  | _ => none }
def FnExactIsTrueWrongFalsely : Prop := fnExactIsTrueRow.holds Try.pinned (OpenSpec.ofChange fnExactIsTrueWrong)

/-- 'laws.FnExactErrorValue': WHATEVER THE INPUT: true; the input reads as it did. -/
def fnExactErrorValueSpec : ChangeSpec := { name := "fnExactErrorValue", fn := fun _ => fun
  | [d] => { results := [.lit (.bool true)], args := [d] }
  | _ => none }
def fnExactErrorValueRow : OpenClaim := { program := "ytfdfhfdhkdldlaa", sum := "8efece6d929d31c4891deee0e1e7aada54f2cd5c4377a8de3f74118095fbed70", func := "loop.example/g00510/laws.FnExactErrorValue", spec := "fnExactErrorValue", recurses := true, apart := false }
def FnExactErrorValueSaid : Prop := fnExactErrorValueRow.holds Try.pinned (OpenSpec.ofChange fnExactErrorValueSpec)

/-- ITS FALSE NEIGHBOUR: 'it returns false'. Refute it at one input. -/
def fnExactErrorValueWrong : ChangeSpec := { name := "fnExactErrorValue", fn := fun _ => fun
  | [d] => { results := [.lit (.bool false)], args := [d] }
  | _ => none }
def FnExactErrorValueWrongFalsely : Prop := fnExactErrorValueRow.holds Try.pinned (OpenSpec.ofChange fnExactErrorValueWrong)

/-- 'laws.FnExactNumberValue': WHATEVER THE INPUT: true; the input reads as it did. -/
def fnExactNumberValueSpec : ChangeSpec := { name := "fnExactNumberValue", fn := fun _ => fun
  | [d] => { results := [.lit (.bool true)], args := [d] }
  | _ => none }
def fnExactNumberValueRow : OpenClaim := { program := "ytfdfhfdhkdldlaa", sum := "8efece6d929d31c4891deee0e1e7aada54f2cd5c4377a8de3f74118095fbed70", func := "loop.example/g00510/laws.FnExactNumberValue", spec := "fnExactNumberValue", recurses := true, apart := false }
def FnExactNumberValueSaid : Prop := fnExactNumberValueRow.holds Try.pinned (OpenSpec.ofChange fnExactNumberValueSpec)

/-- ITS FALSE NEIGHBOUR: 'it returns false'. Refute it at one input. -/
def fnExactNumberValueWrong : ChangeSpec := { name := "fnExactNumberValue", fn := fun _ => fun
  | [d] => { results := [.lit (.bool false)], args := [d] }
  | _ => none }
def FnExactNumberValueWrongFalsely : Prop := fnExactNumberValueRow.holds Try.pinned (OpenSpec.ofChange fnExactNumberValueWrong)

/-- 'laws.FnExactTextValue': WHATEVER THE INPUT: true; the input reads as it did. -/
def fnExactTextValueSpec : ChangeSpec := { name := "fnExactTextValue", fn := fun _ => fun
  | [d] => { results := [.lit (.bool true)], args := [d] }
  | _ => none }
def fnExactTextValueRow : OpenClaim := { program := "ytfdfhfdhkdldlaa", sum := "8efece6d929d31c4891deee0e1e7aada54f2cd5c4377a8de3f74118095fbed70", func := "loop.example/g00510/laws.FnExactTextValue", spec := "fnExactTextValue", recurses := true, apart := false }
def FnExactTextValueSaid : Prop := fnExactTextValueRow.holds Try.pinned (OpenSpec.ofChange fnExactTextValueSpec)

/-- ITS FALSE NEIGHBOUR: 'it returns false'. Refute it at one input. -/
def fnExactTextValueWrong : ChangeSpec := { name := "fnExactTextValue", fn := fun _ => fun
  | [d] => { results := [.lit (.bool false)], args := [d] }
  | _ => none }
def FnExactTextValueWrongFalsely : Prop := fnExactTextValueRow.holds Try.pinned (OpenSpec.ofChange fnExactTextValueWrong)

/-- 'laws.FnExactStreamValue': WHATEVER THE INPUT: true; the input reads as it did. -/
def fnExactStreamValueSpec : ChangeSpec := { name := "fnExactStreamValue", fn := fun _ => fun
  | [d1, d2] => { results := [.lit (.bool true)], args := [d1, d2] }
  | _ => none }
def fnExactStreamValueRow : OpenClaim := { program := "ytfdfhfdhkdldlaa", sum := "8efece6d929d31c4891deee0e1e7aada54f2cd5c4377a8de3f74118095fbed70", func := "loop.example/g00510/laws.FnExactStreamValue", spec := "fnExactStreamValue", recurses := true, apart := false }
def FnExactStreamValueSaid : Prop := fnExactStreamValueRow.holds Try.pinned (OpenSpec.ofChange fnExactStreamValueSpec)

/-- ITS FALSE NEIGHBOUR: 'it returns false'. Refute it at one input. -/
def fnExactStreamValueWrong : ChangeSpec := { name := "fnExactStreamValue", fn := fun _ => fun
  | [d1, d2] => { results := [.lit (.bool false)], args := [d1, d2] }
  | _ => none }
def FnExactStreamValueWrongFalsely : Prop := fnExactStreamValueRow.holds Try.pinned (OpenSpec.ofChange fnExactStreamValueWrong)

/-- 'laws.FnExactColumnIndex': WHATEVER THE INPUT: true; the input reads as it did. -/
def fnExactColumnIndexSpec : ChangeSpec := { name := "fnExactColumnIndex", fn := fun _ => fun
  | [d1, d2] => { results := [.lit (.bool true)], args := [d1, d2] }
  | _ => none }
def fnExactColumnIndexRow : OpenClaim := { program := "ytfdfhfdhkdldlaa", sum := "8efece6d929d31c4891deee0e1e7aada54f2cd5c4377a8de3f74118095fbed70", func := "loop.example/g00510/laws.FnExactColumnIndex", spec := "fnExactColumnIndex", recurses := true, loops := true, apart := false }
def FnExactColumnIndexSaid : Prop := fnExactColumnIndexRow.holds Try.pinned (OpenSpec.ofChange fnExactColumnIndexSpec)

/-- ITS FALSE NEIGHBOUR: 'it returns false'. Refute it at one input. -/
def fnExactColumnIndexWrong : ChangeSpec := { name := "fnExactColumnIndex", fn := fun _ => fun
  | [d1, d2] => { results := [.lit (.bool false)], args := [d1, d2] }
  | _ => none }
def FnExactColumnIndexWrongFalsely : Prop := fnExactColumnIndexRow.holds Try.pinned (OpenSpec.ofChange fnExactColumnIndexWrong)

/-- 'laws.FnExactSizeOf': WHATEVER THE INPUT: true; the input reads as it did. -/
def fnExactSizeOfSpec : ChangeSpec := { name := "fnExactSizeOf", fn := fun _ => fun
  | [d] => { results := [.lit (.bool true)], args := [d] }
  | _ => none }
def fnExactSizeOfRow : OpenClaim := { program := "ytfdfhfdhkdldlaa", sum := "8efece6d929d31c4891deee0e1e7aada54f2cd5c4377a8de3f74118095fbed70", func := "loop.example/g00510/laws.FnExactSizeOf", spec := "fnExactSizeOf", recurses := true, loops := true, apart := false }
def FnExactSizeOfSaid : Prop := fnExactSizeOfRow.holds Try.pinned (OpenSpec.ofChange fnExactSizeOfSpec)

/-- ITS FALSE NEIGHBOUR: 'it returns false'. Refute it at one input. -/
def fnExactSizeOfWrong : ChangeSpec := { name := "fnExactSizeOf", fn := fun _ => fun
  | [d] => { results := [.lit (.bool false)], args := [d] }
  | _ => none }
def FnExactSizeOfWrongFalsely : Prop := fnExactSizeOfRow.holds Try.pinned (OpenSpec.ofChange fnExactSizeOfWrong)

/-- 'laws.FnExactDepthOf': WHATEVER THE INPUT: true; the input reads as it did. -/
def fnExactDepthOfSpec : ChangeSpec := { name := "fnExactDepthOf", fn := fun _ => fun
  | [d] => { results := [.lit (.bool true)], args := [d] }
  | _ => none }
def fnExactDepthOfRow : OpenClaim := { program := "ytfdfhfdhkdldlaa", sum := "8efece6d929d31c4891deee0e1e7aada54f2cd5c4377a8de3f74118095fbed70", func := "loop.example/g00510/laws.FnExactDepthOf", spec := "fnExactDepthOf", recurses := true, loops := true, apart := false }
def FnExactDepthOfSaid : Prop := fnExactDepthOfRow.holds Try.pinned (OpenSpec.ofChange fnExactDepthOfSpec)

/-- ITS FALSE NEIGHBOUR: 'it returns false'. Refute it at one input. -/
def fnExactDepthOfWrong : ChangeSpec := { name := "fnExactDepthOf", fn := fun _ => fun
  | [d] => { results := [.lit (.bool false)], args := [d] }
  | _ => none }
def FnExactDepthOfWrongFalsely : Prop := fnExactDepthOfRow.holds Try.pinned (OpenSpec.ofChange fnExactDepthOfWrong)

/-- 'laws.FnExactTruthValue': WHATEVER THE INPUT: true; the input reads as it did. -/
def fnExactTruthValueSpec : ChangeSpec := { name := "fnExactTruthValue", fn := fun _ => fun
  | [d] => { results := [.lit (.bool true)], args := [d] }
  | _ => none }
def fnExactTruthValueRow : OpenClaim := { program := "ytfdfhfdhkdldlaa", sum := "8efece6d929d31c4891deee0e1e7aada54f2cd5c4377a8de3f74118095fbed70", func := "loop.example/g00510/laws.FnExactTruthValue", spec := "fnExactTruthValue", recurses := true, apart := false }
def FnExactTruthValueSaid : Prop := fnExactTruthValueRow.holds Try.pinned (OpenSpec.ofChange fnExactTruthValueSpec)

/-- ITS FALSE NEIGHBOUR: 'it returns false'. Refute it at one input. -/
def fnExactTruthValueWrong : ChangeSpec := { name := "fnExactTruthValue", fn := fun _ => fun
  | [d] => { results := [.lit (.bool false)], args := [d] }
  | _ => none }
def FnExactTruthValueWrongFalsely : Prop := fnExactTruthValueRow.holds Try.pinned (OpenSpec.ofChange fnExactTruthValueWrong)

/-- 'laws.FnExactCheckedNumber': WHATEVER THE INPUT: true; the input reads as it did. -/
def fnExactCheckedNumberSpec : ChangeSpec := { name := "fnExactCheckedNumber", fn := fun _ => fun
  | [d] => { results := [.lit (.bool true)], args := [d] }
  | _ => none }
def fnExactCheckedNumberRow : OpenClaim := { program := "ytfdfhfdhkdldlaa", sum := "8efece6d929d31c4891deee0e1e7aada54f2cd5c4377a8de3f74118095fbed70", func := "loop.example/g00510/laws.FnExactCheckedNumber", spec := "fnExactCheckedNumber", recurses := true, apart := false }
def FnExactCheckedNumberSaid : Prop := fnExactCheckedNumberRow.holds Try.pinned (OpenSpec.ofChange fnExactCheckedNumberSpec)

/-- ITS FALSE NEIGHBOUR: 'it returns false'. Refute it at one input. -/
def fnExactCheckedNumberWrong : ChangeSpec := { name := "fnExactCheckedNumber", fn := fun _ => fun
  | [d] => { results := [.lit (.bool false)], args := [d] }
  | _ => none }
def FnExactCheckedNumberWrongFalsely : Prop := fnExactCheckedNumberRow.holds Try.pinned (OpenSpec.ofChange fnExactCheckedNumberWrong)

/-- 'laws.FnExactEqualShown': WHATEVER THE INPUT: true; the input reads as it did. -/
def fnExactEqualShownSpec : ChangeSpec := { name := "fnExactEqualShown", fn := fun _ => fun
  | [d1, d2] => { results := [.lit (.bool true)], args := [d1, d2] }
  | _ => none }
def fnExactEqualShownRow : OpenClaim := { program := "ytfdfhfdhkdldlaa", sum := "8efece6d929d31c4891deee0e1e7aada54f2cd5c4377a8de3f74118095fbed70", func := "loop.example/g00510/laws.FnExactEqualShown", spec := "fnExactEqualShown", recurses := true, loops := true, apart := false }
def FnExactEqualShownSaid : Prop := fnExactEqualShownRow.holds Try.pinned (OpenSpec.ofChange fnExactEqualShownSpec)

/-- ITS FALSE NEIGHBOUR: 'it returns false'. Refute it at one input. -/
def fnExactEqualShownWrong : ChangeSpec := { name := "fnExactEqualShown", fn := fun _ => fun
  | [d1, d2] => { results := [.lit (.bool false)], args := [d1, d2] }
  | _ => none }
def FnExactEqualShownWrongFalsely : Prop := fnExactEqualShownRow.holds Try.pinned (OpenSpec.ofChange fnExactEqualShownWrong)

/-- 'laws.FnExactEqualValue': WHATEVER THE INPUT: true; the input reads as it did. -/
def fnExactEqualValueSpec : ChangeSpec := { name := "fnExactEqualValue", fn := fun _ => fun
  | [d1, d2] => { results := [.lit (.bool true)], args := [d1, d2] }
  | _ => none }
def fnExactEqualValueRow : OpenClaim := { program := "ytfdfhfdhkdldlaa", sum := "8efece6d929d31c4891deee0e1e7aada54f2cd5c4377a8de3f74118095fbed70", func := "loop.example/g00510/laws.FnExactEqualValue", spec := "fnExactEqualValue", recurses := true, loops := true, apart := false }
def FnExactEqualValueSaid : Prop := fnExactEqualValueRow.holds Try.pinned (OpenSpec.ofChange fnExactEqualValueSpec)

/-- ITS FALSE NEIGHBOUR: 'it returns false'. Refute it at one input. -/
def fnExactEqualValueWrong : ChangeSpec := { name := "fnExactEqualValue", fn := fun _ => fun
  | [d1, d2] => { results := [.lit (.bool false)], args := [d1, d2] }
  | _ => none }
def FnExactEqualValueWrongFalsely : Prop := fnExactEqualValueRow.holds Try.pinned (OpenSpec.ofChange fnExactEqualValueWrong)

/- THE SECOND FORM. 'bulk': how many values and letters a reading holds, each counted each time it is reached (what is shared counts as often as it is met; a slice's spare places count too). A statement '..UptoSaid' is the law's where the arguments, and the package variables that the reading takes, are together of bulk at most 1048576: NARROWER than '..Said'. Prove '..Said' where nothing that the law and all that it calls make is longer than what came in: it says more and counts as full. Else prove '..UptoSaid'. A law counts once. -/
mutual
def uptoBulk {H : Type} : DataW H → Nat
  | .lit (.string bytes) => bytes.length + 1
  | .lit _ => 1
  | .nil => 1
  | .ptr d => uptoBulk d + 1
  | .slice elems spare => uptoBulkAll elems + uptoBulkAll spare + 1
  | .agg parts => uptoBulkAll parts + 1
  | .iface _ d => uptoBulk d + 1
  | .map entries => uptoBulkEntries entries + 1
  | .held _ => 1
def uptoBulkAll {H : Type} : List (DataW H) → Nat
  | [] => 0
  | d :: r => uptoBulk d + uptoBulkAll r
def uptoBulkEntries {H : Type} : List (Lit × DataW H) → Nat
  | [] => 0
  | x :: r => uptoBulkEntry x + uptoBulkEntries r
def uptoBulkEntry {H : Type} : Lit × DataW H → Nat
  | (.string bytes, d) => bytes.length + uptoBulk d + 1
  | (_, d) => uptoBulk d + 1
 end
def uptoSmall : (H : Type) → List (DataW H) → Bool := fun _ ds => decide (uptoBulkAll ds ≤ 1048576)
def OpenSpec.upto (s : _root_.Go.ChangeSpec) : _root_.Go.OpenSpec := { _root_.Go.OpenSpec.ofChange s with cond := some uptoSmall }

/-- 'laws.FnExactIsTrue', WHERE WHAT IT READS IS OF BULK AT MOST 1048576: true; the input reads as it did. -/
def fnExactIsTrueUptoRow : OpenClaim := { program := "ytfdfhfdhkdldlaa", sum := "8efece6d929d31c4891deee0e1e7aada54f2cd5c4377a8de3f74118095fbed70", func := "loop.example/g00510/laws.FnExactIsTrue", spec := "fnExactIsTrue", recurses := true, loops := true, apart := false, narrowed := true }
def FnExactIsTrueUptoSaid : Prop := fnExactIsTrueUptoRow.holds Try.pinned (OpenSpec.upto fnExactIsTrueSpec)

/-- 'laws.FnExactErrorValue', WHERE WHAT IT READS IS OF BULK AT MOST 1048576: true; the input reads as it did. -/
def fnExactErrorValueUptoRow : OpenClaim := { program := "ytfdfhfdhkdldlaa", sum := "8efece6d929d31c4891deee0e1e7aada54f2cd5c4377a8de3f74118095fbed70", func := "loop.example/g00510/laws.FnExactErrorValue", spec := "fnExactErrorValue", recurses := true, apart := false, narrowed := true }
def FnExactErrorValueUptoSaid : Prop := fnExactErrorValueUptoRow.holds Try.pinned (OpenSpec.upto fnExactErrorValueSpec)

/-- 'laws.FnExactNumberValue', WHERE WHAT IT READS IS OF BULK AT MOST 1048576: true; the input reads as it did. -/
def fnExactNumberValueUptoRow : OpenClaim := { program := "ytfdfhfdhkdldlaa", sum := "8efece6d929d31c4891deee0e1e7aada54f2cd5c4377a8de3f74118095fbed70", func := "loop.example/g00510/laws.FnExactNumberValue", spec := "fnExactNumberValue", recurses := true, apart := false, narrowed := true }
def FnExactNumberValueUptoSaid : Prop := fnExactNumberValueUptoRow.holds Try.pinned (OpenSpec.upto fnExactNumberValueSpec)

/-- 'laws.FnExactTextValue', WHERE WHAT IT READS IS OF BULK AT MOST 1048576: true; the input reads as it did. -/
def fnExactTextValueUptoRow : OpenClaim := { program := "ytfdfhfdhkdldlaa", sum := "8efece6d929d31c4891deee0e1e7aada54f2cd5c4377a8de3f74118095fbed70", func := "loop.example/g00510/laws.FnExactTextValue", spec := "fnExactTextValue", recurses := true, apart := false, narrowed := true }
def FnExactTextValueUptoSaid : Prop := fnExactTextValueUptoRow.holds Try.pinned (OpenSpec.upto fnExactTextValueSpec)

/-- 'laws.FnExactStreamValue', WHERE WHAT IT READS IS OF BULK AT MOST 1048576: true; the input reads as it did. -/
def fnExactStreamValueUptoRow : OpenClaim := { program := "ytfdfhfdhkdldlaa", sum := "8efece6d929d31c4891deee0e1e7aada54f2cd5c4377a8de3f74118095fbed70", func := "loop.example/g00510/laws.FnExactStreamValue", spec := "fnExactStreamValue", recurses := true, apart := false, narrowed := true }
def FnExactStreamValueUptoSaid : Prop := fnExactStreamValueUptoRow.holds Try.pinned (OpenSpec.upto fnExactStreamValueSpec)

/-- 'laws.FnExactColumnIndex', WHERE WHAT IT READS IS OF BULK AT MOST 1048576: true; the input reads as it did. -/
def fnExactColumnIndexUptoRow : OpenClaim := { program := "ytfdfhfdhkdldlaa", sum := "8efece6d929d31c4891deee0e1e7aada54f2cd5c4377a8de3f74118095fbed70", func := "loop.example/g00510/laws.FnExactColumnIndex", spec := "fnExactColumnIndex", recurses := true, loops := true, apart := false, narrowed := true }
def FnExactColumnIndexUptoSaid : Prop := fnExactColumnIndexUptoRow.holds Try.pinned (OpenSpec.upto fnExactColumnIndexSpec)

/-- 'laws.FnExactSizeOf', WHERE WHAT IT READS IS OF BULK AT MOST 1048576: true; the input reads as it did. -/
def fnExactSizeOfUptoRow : OpenClaim := { program := "ytfdfhfdhkdldlaa", sum := "8efece6d929d31c4891deee0e1e7aada54f2cd5c4377a8de3f74118095fbed70", func := "loop.example/g00510/laws.FnExactSizeOf", spec := "fnExactSizeOf", recurses := true, loops := true, apart := false, narrowed := true }
def FnExactSizeOfUptoSaid : Prop := fnExactSizeOfUptoRow.holds Try.pinned (OpenSpec.upto fnExactSizeOfSpec)

/-- 'laws.FnExactDepthOf', WHERE WHAT IT READS IS OF BULK AT MOST 1048576: true; the input reads as it did. -/
def fnExactDepthOfUptoRow : OpenClaim := { program := "ytfdfhfdhkdldlaa", sum := "8efece6d929d31c4891deee0e1e7aada54f2cd5c4377a8de3f74118095fbed70", func := "loop.example/g00510/laws.FnExactDepthOf", spec := "fnExactDepthOf", recurses := true, loops := true, apart := false, narrowed := true }
def FnExactDepthOfUptoSaid : Prop := fnExactDepthOfUptoRow.holds Try.pinned (OpenSpec.upto fnExactDepthOfSpec)

/-- 'laws.FnExactTruthValue', WHERE WHAT IT READS IS OF BULK AT MOST 1048576: true; the input reads as it did. -/
def fnExactTruthValueUptoRow : OpenClaim := { program := "ytfdfhfdhkdldlaa", sum := "8efece6d929d31c4891deee0e1e7aada54f2cd5c4377a8de3f74118095fbed70", func := "loop.example/g00510/laws.FnExactTruthValue", spec := "fnExactTruthValue", recurses := true, apart := false, narrowed := true }
def FnExactTruthValueUptoSaid : Prop := fnExactTruthValueUptoRow.holds Try.pinned (OpenSpec.upto fnExactTruthValueSpec)

/-- 'laws.FnExactCheckedNumber', WHERE WHAT IT READS IS OF BULK AT MOST 1048576: true; the input reads as it did. -/
def fnExactCheckedNumberUptoRow : OpenClaim := { program := "ytfdfhfdhkdldlaa", sum := "8efece6d929d31c4891deee0e1e7aada54f2cd5c4377a8de3f74118095fbed70", func := "loop.example/g00510/laws.FnExactCheckedNumber", spec := "fnExactCheckedNumber", recurses := true, apart := false, narrowed := true }
def FnExactCheckedNumberUptoSaid : Prop := fnExactCheckedNumberUptoRow.holds Try.pinned (OpenSpec.upto fnExactCheckedNumberSpec)

/-- 'laws.FnExactEqualShown', WHERE WHAT IT READS IS OF BULK AT MOST 1048576: true; the input reads as it did. -/
def fnExactEqualShownUptoRow : OpenClaim := { program := "ytfdfhfdhkdldlaa", sum := "8efece6d929d31c4891deee0e1e7aada54f2cd5c4377a8de3f74118095fbed70", func := "loop.example/g00510/laws.FnExactEqualShown", spec := "fnExactEqualShown", recurses := true, loops := true, apart := false, narrowed := true }
def FnExactEqualShownUptoSaid : Prop := fnExactEqualShownUptoRow.holds Try.pinned (OpenSpec.upto fnExactEqualShownSpec)

/-- 'laws.FnExactEqualValue', WHERE WHAT IT READS IS OF BULK AT MOST 1048576: true; the input reads as it did. -/
def fnExactEqualValueUptoRow : OpenClaim := { program := "ytfdfhfdhkdldlaa", sum := "8efece6d929d31c4891deee0e1e7aada54f2cd5c4377a8de3f74118095fbed70", func := "loop.example/g00510/laws.FnExactEqualValue", spec := "fnExactEqualValue", recurses := true, loops := true, apart := false, narrowed := true }
def FnExactEqualValueUptoSaid : Prop := fnExactEqualValueUptoRow.holds Try.pinned (OpenSpec.upto fnExactEqualValueSpec)

end Rows
end Go.Proofs.Ytfdfhfdhkdldlaa
