/-
  No cell of these rows narrows 'for every input' (looked for: loops, veiled, ifaces, maps, wideKeys, modest, calm, conditions, laid).
  DERIVED. THE GIVEN ROWS OF THIS SEAT. 10 by the template 'for every input the law returns true; each argument reads behind the call as it read before'; 0 by the template 'total and deterministic' (their statements: YtbpalgildbodkaaTotals.lean).
  GIVEN WITH THE SEED: the statements are not yours to turn. If you find one false, say at which input.
  Laid BY PROGRAM, IN A SANDBOX (cutbox-rows.mjs): the forced cells as the released guide's own fill.sh prints them over the translation d6f98c16e312974b… (all of the seat's roots in one cut). By AI agents, Wed Nov 11 2026. No macro, syntax, notation, axiom, sorry.
-/
import Derived.Test.YtbpalgildbodkaaChecked
import GoSem.Claim
import GoSem.ClaimJoined
import GoSem.ClaimMapViews
import Derived.JoinedTies
import Derived.KernelRfl
namespace Go.Proofs.Ytbpalgildbodkaa
/- THE CELL 'sum', in the pinned program and in every row, IS THE sha256 OF THE DUMP (.gsa) THAT YtbpalgildbodkaaProg.lean LOADS. Nothing in Lean hashes anything: it is a label: what it is worth is what the hold of that sum in a sandbox is worth. -/
noncomputable def Try.pinned : Pinned := { name := "ytbpalgildbodkaa", sum := "d6f98c16e312974b71c1bbb9c7b6f8f08c983819a081c01cc40d00dbfd4ac10d", checked := Try.checked }
namespace Rows
def none {H : Type} : Left H := { results := [], args := [] }

/-- 'laws.FnExactConstants': WHATEVER THE INPUT: true; the input reads as it did. -/
def fnExactConstantsSpec : ChangeSpec := { name := "fnExactConstants", fn := fun _ => fun
  | [] => { results := [.lit (.bool true)], args := [] }
  | _ => none }
def fnExactConstantsRow : OpenClaim := { program := "ytbpalgildbodkaa", sum := "d6f98c16e312974b71c1bbb9c7b6f8f08c983819a081c01cc40d00dbfd4ac10d", func := "loop.example/g00510/laws.FnExactConstants", spec := "fnExactConstants", apart := false }
def FnExactConstantsSaid : Prop := fnExactConstantsRow.holds Try.pinned (OpenSpec.ofChange fnExactConstantsSpec)

/-- ITS FALSE NEIGHBOUR: 'it returns false'. Refute it at one input. -/
def fnExactConstantsWrong : ChangeSpec := { name := "fnExactConstants", fn := fun _ => fun
  | [] => { results := [.lit (.bool false)], args := [] }
  | _ => none }
def FnExactConstantsWrongFalsely : Prop := fnExactConstantsRow.holds Try.pinned (OpenSpec.ofChange fnExactConstantsWrong)

/-- 'laws.FnExactOpSymbol': WHATEVER THE INPUT: true; the input reads as it did. -/
def fnExactOpSymbolSpec : ChangeSpec := { name := "fnExactOpSymbol", fn := fun _ => fun
  | [d] => { results := [.lit (.bool true)], args := [d] }
  | _ => none }
def fnExactOpSymbolRow : OpenClaim := { program := "ytbpalgildbodkaa", sum := "d6f98c16e312974b71c1bbb9c7b6f8f08c983819a081c01cc40d00dbfd4ac10d", func := "loop.example/g00510/laws.FnExactOpSymbol", spec := "fnExactOpSymbol", apart := false }
def FnExactOpSymbolSaid : Prop := fnExactOpSymbolRow.holds Try.pinned (OpenSpec.ofChange fnExactOpSymbolSpec)

/-- ITS FALSE NEIGHBOUR: 'it returns false'. Refute it at one input. -/
def fnExactOpSymbolWrong : ChangeSpec := { name := "fnExactOpSymbol", fn := fun _ => fun
  | [d] => { results := [.lit (.bool false)], args := [d] }
  | _ => none }
def FnExactOpSymbolWrongFalsely : Prop := fnExactOpSymbolRow.holds Try.pinned (OpenSpec.ofChange fnExactOpSymbolWrong)

/-- 'laws.FnExactIsValidText': WHATEVER THE INPUT: true; the input reads as it did. -/
def fnExactIsValidTextSpec : ChangeSpec := { name := "fnExactIsValidText", fn := fun _ => fun
  | [d] => { results := [.lit (.bool true)], args := [d] }
  | _ => none }
def fnExactIsValidTextRow : OpenClaim := { program := "ytbpalgildbodkaa", sum := "d6f98c16e312974b71c1bbb9c7b6f8f08c983819a081c01cc40d00dbfd4ac10d", func := "loop.example/g00510/laws.FnExactIsValidText", spec := "fnExactIsValidText", apart := false }
def FnExactIsValidTextSaid : Prop := fnExactIsValidTextRow.holds Try.pinned (OpenSpec.ofChange fnExactIsValidTextSpec)

/-- ITS FALSE NEIGHBOUR: 'it returns false'. Refute it at one input. -/
def fnExactIsValidTextWrong : ChangeSpec := { name := "fnExactIsValidText", fn := fun _ => fun
  | [d] => { results := [.lit (.bool false)], args := [d] }
  | _ => none }
def FnExactIsValidTextWrongFalsely : Prop := fnExactIsValidTextRow.holds Try.pinned (OpenSpec.ofChange fnExactIsValidTextWrong)

/-- 'laws.FnExactIsKeyword': WHATEVER THE INPUT: true; the input reads as it did. -/
def fnExactIsKeywordSpec : ChangeSpec := { name := "fnExactIsKeyword", fn := fun _ => fun
  | [d1, d2] => { results := [.lit (.bool true)], args := [d1, d2] }
  | _ => none }
def fnExactIsKeywordRow : OpenClaim := { program := "ytbpalgildbodkaa", sum := "d6f98c16e312974b71c1bbb9c7b6f8f08c983819a081c01cc40d00dbfd4ac10d", func := "loop.example/g00510/laws.FnExactIsKeyword", spec := "fnExactIsKeyword", apart := false }
def FnExactIsKeywordSaid : Prop := fnExactIsKeywordRow.holds Try.pinned (OpenSpec.ofChange fnExactIsKeywordSpec)

/-- ITS FALSE NEIGHBOUR: 'it returns false'. Refute it at one input. -/
def fnExactIsKeywordWrong : ChangeSpec := { name := "fnExactIsKeyword", fn := fun _ => fun
  | [d1, d2] => { results := [.lit (.bool false)], args := [d1, d2] }
  | _ => none }
def FnExactIsKeywordWrongFalsely : Prop := fnExactIsKeywordRow.holds Try.pinned (OpenSpec.ofChange fnExactIsKeywordWrong)

/-- 'laws.FnExactIsSymbol': WHATEVER THE INPUT: true; the input reads as it did. -/
def fnExactIsSymbolSpec : ChangeSpec := { name := "fnExactIsSymbol", fn := fun _ => fun
  | [d1, d2] => { results := [.lit (.bool true)], args := [d1, d2] }
  | _ => none }
def fnExactIsSymbolRow : OpenClaim := { program := "ytbpalgildbodkaa", sum := "d6f98c16e312974b71c1bbb9c7b6f8f08c983819a081c01cc40d00dbfd4ac10d", func := "loop.example/g00510/laws.FnExactIsSymbol", spec := "fnExactIsSymbol", apart := false }
def FnExactIsSymbolSaid : Prop := fnExactIsSymbolRow.holds Try.pinned (OpenSpec.ofChange fnExactIsSymbolSpec)

/-- ITS FALSE NEIGHBOUR: 'it returns false'. Refute it at one input. -/
def fnExactIsSymbolWrong : ChangeSpec := { name := "fnExactIsSymbol", fn := fun _ => fun
  | [d1, d2] => { results := [.lit (.bool false)], args := [d1, d2] }
  | _ => none }
def FnExactIsSymbolWrongFalsely : Prop := fnExactIsSymbolRow.holds Try.pinned (OpenSpec.ofChange fnExactIsSymbolWrong)

/-- 'laws.FnExactArgumentCount': WHATEVER THE INPUT: true; the input reads as it did. -/
def fnExactArgumentCountSpec : ChangeSpec := { name := "fnExactArgumentCount", fn := fun _ => fun
  | [d] => { results := [.lit (.bool true)], args := [d] }
  | _ => none }
def fnExactArgumentCountRow : OpenClaim := { program := "ytbpalgildbodkaa", sum := "d6f98c16e312974b71c1bbb9c7b6f8f08c983819a081c01cc40d00dbfd4ac10d", func := "loop.example/g00510/laws.FnExactArgumentCount", spec := "fnExactArgumentCount", apart := false }
def FnExactArgumentCountSaid : Prop := fnExactArgumentCountRow.holds Try.pinned (OpenSpec.ofChange fnExactArgumentCountSpec)

/-- ITS FALSE NEIGHBOUR: 'it returns false'. Refute it at one input. -/
def fnExactArgumentCountWrong : ChangeSpec := { name := "fnExactArgumentCount", fn := fun _ => fun
  | [d] => { results := [.lit (.bool false)], args := [d] }
  | _ => none }
def FnExactArgumentCountWrongFalsely : Prop := fnExactArgumentCountRow.holds Try.pinned (OpenSpec.ofChange fnExactArgumentCountWrong)

/-- 'laws.FnExactIsReserved': WHATEVER THE INPUT: true; the input reads as it did. -/
def fnExactIsReservedSpec : ChangeSpec := { name := "fnExactIsReserved", fn := fun _ => fun
  | [d] => { results := [.lit (.bool true)], args := [d] }
  | _ => none }
def fnExactIsReservedRow : OpenClaim := { program := "ytbpalgildbodkaa", sum := "d6f98c16e312974b71c1bbb9c7b6f8f08c983819a081c01cc40d00dbfd4ac10d", func := "loop.example/g00510/laws.FnExactIsReserved", spec := "fnExactIsReserved", apart := false }
def FnExactIsReservedSaid : Prop := fnExactIsReservedRow.holds Try.pinned (OpenSpec.ofChange fnExactIsReservedSpec)

/-- ITS FALSE NEIGHBOUR: 'it returns false'. Refute it at one input. -/
def fnExactIsReservedWrong : ChangeSpec := { name := "fnExactIsReserved", fn := fun _ => fun
  | [d] => { results := [.lit (.bool false)], args := [d] }
  | _ => none }
def FnExactIsReservedWrongFalsely : Prop := fnExactIsReservedRow.holds Try.pinned (OpenSpec.ofChange fnExactIsReservedWrong)

/-- 'laws.FnExactIndexOf': WHATEVER THE INPUT: true; the input reads as it did. -/
def fnExactIndexOfSpec : ChangeSpec := { name := "fnExactIndexOf", fn := fun _ => fun
  | [d1, d2] => { results := [.lit (.bool true)], args := [d1, d2] }
  | _ => none }
def fnExactIndexOfRow : OpenClaim := { program := "ytbpalgildbodkaa", sum := "d6f98c16e312974b71c1bbb9c7b6f8f08c983819a081c01cc40d00dbfd4ac10d", func := "loop.example/g00510/laws.FnExactIndexOf", spec := "fnExactIndexOf", apart := false }
def FnExactIndexOfSaid : Prop := fnExactIndexOfRow.holds Try.pinned (OpenSpec.ofChange fnExactIndexOfSpec)

/-- ITS FALSE NEIGHBOUR: 'it returns false'. Refute it at one input. -/
def fnExactIndexOfWrong : ChangeSpec := { name := "fnExactIndexOf", fn := fun _ => fun
  | [d1, d2] => { results := [.lit (.bool false)], args := [d1, d2] }
  | _ => none }
def FnExactIndexOfWrongFalsely : Prop := fnExactIndexOfRow.holds Try.pinned (OpenSpec.ofChange fnExactIndexOfWrong)

/-- 'laws.FnExactIsValidName': WHATEVER THE INPUT: true; the input reads as it did. -/
def fnExactIsValidNameSpec : ChangeSpec := { name := "fnExactIsValidName", fn := fun _ => fun
  | [d] => { results := [.lit (.bool true)], args := [d] }
  | _ => none }
def fnExactIsValidNameRow : OpenClaim := { program := "ytbpalgildbodkaa", sum := "d6f98c16e312974b71c1bbb9c7b6f8f08c983819a081c01cc40d00dbfd4ac10d", func := "loop.example/g00510/laws.FnExactIsValidName", spec := "fnExactIsValidName", apart := false }
def FnExactIsValidNameSaid : Prop := fnExactIsValidNameRow.holds Try.pinned (OpenSpec.ofChange fnExactIsValidNameSpec)

/-- ITS FALSE NEIGHBOUR: 'it returns false'. Refute it at one input. -/
def fnExactIsValidNameWrong : ChangeSpec := { name := "fnExactIsValidName", fn := fun _ => fun
  | [d] => { results := [.lit (.bool false)], args := [d] }
  | _ => none }
def FnExactIsValidNameWrongFalsely : Prop := fnExactIsValidNameRow.holds Try.pinned (OpenSpec.ofChange fnExactIsValidNameWrong)

/-- 'laws.FnExactAllDistinct': WHATEVER THE INPUT: true; the input reads as it did. -/
def fnExactAllDistinctSpec : ChangeSpec := { name := "fnExactAllDistinct", fn := fun _ => fun
  | [d] => { results := [.lit (.bool true)], args := [d] }
  | _ => none }
def fnExactAllDistinctRow : OpenClaim := { program := "ytbpalgildbodkaa", sum := "d6f98c16e312974b71c1bbb9c7b6f8f08c983819a081c01cc40d00dbfd4ac10d", func := "loop.example/g00510/laws.FnExactAllDistinct", spec := "fnExactAllDistinct", apart := false }
def FnExactAllDistinctSaid : Prop := fnExactAllDistinctRow.holds Try.pinned (OpenSpec.ofChange fnExactAllDistinctSpec)

/-- ITS FALSE NEIGHBOUR: 'it returns false'. Refute it at one input. -/
def fnExactAllDistinctWrong : ChangeSpec := { name := "fnExactAllDistinct", fn := fun _ => fun
  | [d] => { results := [.lit (.bool false)], args := [d] }
  | _ => none }
def FnExactAllDistinctWrongFalsely : Prop := fnExactAllDistinctRow.holds Try.pinned (OpenSpec.ofChange fnExactAllDistinctWrong)

/- THE SECOND FORM. 'bulk': how many values and letters a reading holds, each counted each time it is reached (what is shared counts as often as it is met; a slice's spare places count too). A statement '..UptoSaid' is the law's where the arguments, and the package variables that the reading takes, are together of bulk at most 1048576: NARROWER than '..Said'. Prove '..Said' where nothing that the law and all that it calls make is longer than what came in: it says more and counts as full. Else prove '..UptoSaid'. A law counts once. -/
mutual
def uptoBulk {H : Type} : DataW H → Nat
  | .lit (.string bytes) => bytes.length + 1
  | .lit _ => 1
  | .nil => 1
  | .ptr d => uptoBulk d + 1
  | .slice elems spare => uptoBulkAll elems + uptoBulkAll spare + 1
  | .agg parts => uptoBulkAll parts + 1
  | .iface _ d => uptoBulk d + 1
  | .map entries => uptoBulkEntries entries + 1
  | .held _ => 1
def uptoBulkAll {H : Type} : List (DataW H) → Nat
  | [] => 0
  | d :: r => uptoBulk d + uptoBulkAll r
def uptoBulkEntries {H : Type} : List (Lit × DataW H) → Nat
  | [] => 0
  | x :: r => uptoBulkEntry x + uptoBulkEntries r
def uptoBulkEntry {H : Type} : Lit × DataW H → Nat
  | (.string bytes, d) => bytes.length + uptoBulk d + 1
  | (_, d) => uptoBulk d + 1
 end
def uptoSmall : (H : Type) → List (DataW H) → Bool := fun _ ds => decide (uptoBulkAll ds ≤ 1048576)
def OpenSpec.upto (s : _root_.Go.ChangeSpec) : _root_.Go.OpenSpec := { _root_.Go.OpenSpec.ofChange s with cond := some uptoSmall }

/-- 'laws.FnExactConstants', WHERE WHAT IT READS IS OF BULK AT MOST 1048576: true; the input reads as it did. -/
def fnExactConstantsUptoRow : OpenClaim := { program := "ytbpalgildbodkaa", sum := "d6f98c16e312974b71c1bbb9c7b6f8f08c983819a081c01cc40d00dbfd4ac10d", func := "loop.example/g00510/laws.FnExactConstants", spec := "fnExactConstants", apart := false, narrowed := true }
def FnExactConstantsUptoSaid : Prop := fnExactConstantsUptoRow.holds Try.pinned (OpenSpec.upto fnExactConstantsSpec)

/-- 'laws.FnExactOpSymbol', WHERE WHAT IT READS IS OF BULK AT MOST 1048576: true; the input reads as it did. -/
def fnExactOpSymbolUptoRow : OpenClaim := { program := "ytbpalgildbodkaa", sum := "d6f98c16e312974b71c1bbb9c7b6f8f08c983819a081c01cc40d00dbfd4ac10d", func := "loop.example/g00510/laws.FnExactOpSymbol", spec := "fnExactOpSymbol", apart := false, narrowed := true }
def FnExactOpSymbolUptoSaid : Prop := fnExactOpSymbolUptoRow.holds Try.pinned (OpenSpec.upto fnExactOpSymbolSpec)

/-- 'laws.FnExactIsValidText', WHERE WHAT IT READS IS OF BULK AT MOST 1048576: true; the input reads as it did. -/
def fnExactIsValidTextUptoRow : OpenClaim := { program := "ytbpalgildbodkaa", sum := "d6f98c16e312974b71c1bbb9c7b6f8f08c983819a081c01cc40d00dbfd4ac10d", func := "loop.example/g00510/laws.FnExactIsValidText", spec := "fnExactIsValidText", apart := false, narrowed := true }
def FnExactIsValidTextUptoSaid : Prop := fnExactIsValidTextUptoRow.holds Try.pinned (OpenSpec.upto fnExactIsValidTextSpec)

/-- 'laws.FnExactIsKeyword', WHERE WHAT IT READS IS OF BULK AT MOST 1048576: true; the input reads as it did. -/
def fnExactIsKeywordUptoRow : OpenClaim := { program := "ytbpalgildbodkaa", sum := "d6f98c16e312974b71c1bbb9c7b6f8f08c983819a081c01cc40d00dbfd4ac10d", func := "loop.example/g00510/laws.FnExactIsKeyword", spec := "fnExactIsKeyword", apart := false, narrowed := true }
def FnExactIsKeywordUptoSaid : Prop := fnExactIsKeywordUptoRow.holds Try.pinned (OpenSpec.upto fnExactIsKeywordSpec)

/-- 'laws.FnExactIsSymbol', WHERE WHAT IT READS IS OF BULK AT MOST 1048576: true; the input reads as it did. -/
def fnExactIsSymbolUptoRow : OpenClaim := { program := "ytbpalgildbodkaa", sum := "d6f98c16e312974b71c1bbb9c7b6f8f08c983819a081c01cc40d00dbfd4ac10d", func := "loop.example/g00510/laws.FnExactIsSymbol", spec := "fnExactIsSymbol", apart := false, narrowed := true }
def FnExactIsSymbolUptoSaid : Prop := fnExactIsSymbolUptoRow.holds Try.pinned (OpenSpec.upto fnExactIsSymbolSpec)

/-- 'laws.FnExactArgumentCount', WHERE WHAT IT READS IS OF BULK AT MOST 1048576: true; the input reads as it did. -/
def fnExactArgumentCountUptoRow : OpenClaim := { program := "ytbpalgildbodkaa", sum := "d6f98c16e312974b71c1bbb9c7b6f8f08c983819a081c01cc40d00dbfd4ac10d", func := "loop.example/g00510/laws.FnExactArgumentCount", spec := "fnExactArgumentCount", apart := false, narrowed := true }
def FnExactArgumentCountUptoSaid : Prop := fnExactArgumentCountUptoRow.holds Try.pinned (OpenSpec.upto fnExactArgumentCountSpec)

/-- 'laws.FnExactIsReserved', WHERE WHAT IT READS IS OF BULK AT MOST 1048576: true; the input reads as it did. -/
def fnExactIsReservedUptoRow : OpenClaim := { program := "ytbpalgildbodkaa", sum := "d6f98c16e312974b71c1bbb9c7b6f8f08c983819a081c01cc40d00dbfd4ac10d", func := "loop.example/g00510/laws.FnExactIsReserved", spec := "fnExactIsReserved", apart := false, narrowed := true }
def FnExactIsReservedUptoSaid : Prop := fnExactIsReservedUptoRow.holds Try.pinned (OpenSpec.upto fnExactIsReservedSpec)

/-- 'laws.FnExactIndexOf', WHERE WHAT IT READS IS OF BULK AT MOST 1048576: true; the input reads as it did. -/
def fnExactIndexOfUptoRow : OpenClaim := { program := "ytbpalgildbodkaa", sum := "d6f98c16e312974b71c1bbb9c7b6f8f08c983819a081c01cc40d00dbfd4ac10d", func := "loop.example/g00510/laws.FnExactIndexOf", spec := "fnExactIndexOf", apart := false, narrowed := true }
def FnExactIndexOfUptoSaid : Prop := fnExactIndexOfUptoRow.holds Try.pinned (OpenSpec.upto fnExactIndexOfSpec)

/-- 'laws.FnExactIsValidName', WHERE WHAT IT READS IS OF BULK AT MOST 1048576: true; the input reads as it did. -/
def fnExactIsValidNameUptoRow : OpenClaim := { program := "ytbpalgildbodkaa", sum := "d6f98c16e312974b71c1bbb9c7b6f8f08c983819a081c01cc40d00dbfd4ac10d", func := "loop.example/g00510/laws.FnExactIsValidName", spec := "fnExactIsValidName", apart := false, narrowed := true }
def FnExactIsValidNameUptoSaid : Prop := fnExactIsValidNameUptoRow.holds Try.pinned (OpenSpec.upto fnExactIsValidNameSpec)

/-- 'laws.FnExactAllDistinct', WHERE WHAT IT READS IS OF BULK AT MOST 1048576: true; the input reads as it did. -/
def fnExactAllDistinctUptoRow : OpenClaim := { program := "ytbpalgildbodkaa", sum := "d6f98c16e312974b71c1bbb9c7b6f8f08c983819a081c01cc40d00dbfd4ac10d", func := "loop.example/g00510/laws.FnExactAllDistinct", spec := "fnExactAllDistinct", apart := false, narrowed := true }
def FnExactAllDistinctUptoSaid : Prop := fnExactAllDistinctUptoRow.holds Try.pinned (OpenSpec.upto fnExactAllDistinctSpec)

end Rows
end Go.Proofs.Ytbpalgildbodkaa
