/-
  NARROWER THAN 'FOR EVERY INPUT', by the rows' own cells (each row's printed sentence says how): FnExactErrorName: laid · FnExactErrorCode: laid.
  DERIVED. THE GIVEN ROWS OF THIS SEAT. 2 by the template 'for every input the law returns true; each argument reads behind the call as it read before'; 0 by the template 'total and deterministic' (their statements: YtbpalgildbodkaaDoorTotals.lean).
  GIVEN WITH THE SEED: the statements are not yours to turn. If you find one false, say at which input.
  Laid BY PROGRAM, IN A SANDBOX (cutbox-rows.mjs): the forced cells as the released guide's own fill.sh prints them over the translation aa63164d1389ef8f… (all of the seat's roots in one cut). By AI agents, Wed Nov 11 2026. No macro, syntax, notation, axiom, sorry.
-/
import Derived.Test.YtbpalgildbodkaaDoorChecked
import GoSem.Claim
import GoSem.ClaimJoined
import GoSem.ClaimMapViews
import Derived.JoinedTies
import Derived.KernelRfl
namespace Go.Proofs.YtbpalgildbodkaaDoor
/- THE CELL 'sum', in the pinned program and in every row, IS THE sha256 OF THE DUMP (.gsa) THAT YtbpalgildbodkaaDoorProg.lean LOADS. Nothing in Lean hashes anything: it is a label: what it is worth is what the hold of that sum in a sandbox is worth. -/
noncomputable def Tryd.pinned : Pinned := { name := "ytbpalgildbodkaadoor", sum := "aa63164d1389ef8f6cbc105a1354b5ceac79c3357955589615ad39f3bbc2a18d", checked := Tryd.checked }
namespace Rows
def none {H : Type} : Left H := { results := [], args := [] }

/- WHAT THE LISTED PACKAGE-LEVEL VARIABLES READ AS WHEN THE CALL BEGINS. Each datum BY PROGRAM (the guide's laid-datum.mjs) off the statement by which the dump's own 'gosem.cut.vars' lays the variable. In a bare row this is a premise. The card (YtbpalgildbodkaaDoorCards.lean) ties it to the program's text. -/
def laid_loop_example_g00510_impl_errorNames {H : Type} : DataW H := .slice [.lit (.string [109, 105, 115, 115, 105, 110, 103]), .lit (.string [100, 117, 112, 108, 105, 99, 97, 116, 101]), .lit (.string [99, 121, 99, 108, 101]), .lit (.string [116, 121, 112, 101]), .lit (.string [114, 97, 110, 103, 101]), .lit (.string [108, 105, 109, 105, 116]), .lit (.string [99, 111, 108, 117, 109, 110]), .lit (.string [115, 121, 110, 116, 97, 120])] []

/-- 'laws.FnExactErrorName': WHATEVER THE INPUT: true; the input reads as it did. -/
def fnExactErrorNameSpec : ChangeSpec := { name := "fnExactErrorName", vars := ["loop.example/g00510/impl.errorNames"], fn := fun _ => fun
  | [d, g1] => { results := [.lit (.bool true)], args := [d], vars := [g1] }
  | _ => none }
def fnExactErrorNameRow : OpenClaim := { program := "ytbpalgildbodkaadoor", sum := "aa63164d1389ef8f6cbc105a1354b5ceac79c3357955589615ad39f3bbc2a18d", func := "loop.example/g00510/laws.FnExactErrorName", spec := "fnExactErrorName", named := ["loop.example/g00510/impl.errorNames"], apart := false, laid := [("loop.example/g00510/impl.errorNames", laid_loop_example_g00510_impl_errorNames)] }
def FnExactErrorNameSaid : Prop := fnExactErrorNameRow.holds Tryd.pinned (OpenSpec.ofChange fnExactErrorNameSpec)

/-- ITS FALSE NEIGHBOUR: 'it returns false'. Refute it at one input. -/
def fnExactErrorNameWrong : ChangeSpec := { name := "fnExactErrorName", vars := ["loop.example/g00510/impl.errorNames"], fn := fun _ => fun
  | [d, g1] => { results := [.lit (.bool false)], args := [d], vars := [g1] }
  | _ => none }
def FnExactErrorNameWrongFalsely : Prop := fnExactErrorNameRow.holds Tryd.pinned (OpenSpec.ofChange fnExactErrorNameWrong)

/-- 'laws.FnExactErrorCode': WHATEVER THE INPUT: true; the input reads as it did. -/
def fnExactErrorCodeSpec : ChangeSpec := { name := "fnExactErrorCode", vars := ["loop.example/g00510/impl.errorNames"], fn := fun _ => fun
  | [d, g1] => { results := [.lit (.bool true)], args := [d], vars := [g1] }
  | _ => none }
def fnExactErrorCodeRow : OpenClaim := { program := "ytbpalgildbodkaadoor", sum := "aa63164d1389ef8f6cbc105a1354b5ceac79c3357955589615ad39f3bbc2a18d", func := "loop.example/g00510/laws.FnExactErrorCode", spec := "fnExactErrorCode", named := ["loop.example/g00510/impl.errorNames"], apart := false, laid := [("loop.example/g00510/impl.errorNames", laid_loop_example_g00510_impl_errorNames)] }
def FnExactErrorCodeSaid : Prop := fnExactErrorCodeRow.holds Tryd.pinned (OpenSpec.ofChange fnExactErrorCodeSpec)

/-- ITS FALSE NEIGHBOUR: 'it returns false'. Refute it at one input. -/
def fnExactErrorCodeWrong : ChangeSpec := { name := "fnExactErrorCode", vars := ["loop.example/g00510/impl.errorNames"], fn := fun _ => fun
  | [d, g1] => { results := [.lit (.bool false)], args := [d], vars := [g1] }
  | _ => none }
def FnExactErrorCodeWrongFalsely : Prop := fnExactErrorCodeRow.holds Tryd.pinned (OpenSpec.ofChange fnExactErrorCodeWrong)

/- THE SECOND FORM. 'bulk': how many values and letters a reading holds, each counted each time it is reached (what is shared counts as often as it is met; a slice's spare places count too). A statement '..UptoSaid' is the law's where the arguments, and the package variables that the reading takes, are together of bulk at most 1048576: NARROWER than '..Said'. Prove '..Said' where nothing that the law and all that it calls make is longer than what came in: it says more and counts as full. Else prove '..UptoSaid'. A law counts once. -/
mutual
def uptoBulk {H : Type} : DataW H → Nat
  | .lit (.string bytes) => bytes.length + 1
  | .lit _ => 1
  | .nil => 1
  | .ptr d => uptoBulk d + 1
  | .slice elems spare => uptoBulkAll elems + uptoBulkAll spare + 1
  | .agg parts => uptoBulkAll parts + 1
  | .iface _ d => uptoBulk d + 1
  | .map entries => uptoBulkEntries entries + 1
  | .held _ => 1
def uptoBulkAll {H : Type} : List (DataW H) → Nat
  | [] => 0
  | d :: r => uptoBulk d + uptoBulkAll r
def uptoBulkEntries {H : Type} : List (Lit × DataW H) → Nat
  | [] => 0
  | x :: r => uptoBulkEntry x + uptoBulkEntries r
def uptoBulkEntry {H : Type} : Lit × DataW H → Nat
  | (.string bytes, d) => bytes.length + uptoBulk d + 1
  | (_, d) => uptoBulk d + 1
 end
def uptoSmall : (H : Type) → List (DataW H) → Bool := fun _ ds => decide (uptoBulkAll ds ≤ 1048576)
def OpenSpec.upto (s : _root_.Go.ChangeSpec) : _root_.Go.OpenSpec := { _root_.Go.OpenSpec.ofChange s with cond := some uptoSmall }

/-- 'laws.FnExactErrorName', WHERE WHAT IT READS IS OF BULK AT MOST 1048576: true; the input reads as it did. -/
def fnExactErrorNameUptoRow : OpenClaim := { program := "ytbpalgildbodkaadoor", sum := "aa63164d1389ef8f6cbc105a1354b5ceac79c3357955589615ad39f3bbc2a18d", func := "loop.example/g00510/laws.FnExactErrorName", spec := "fnExactErrorName", named := ["loop.example/g00510/impl.errorNames"], apart := false, laid := [("loop.example/g00510/impl.errorNames", laid_loop_example_g00510_impl_errorNames)], narrowed := true }
def FnExactErrorNameUptoSaid : Prop := fnExactErrorNameUptoRow.holds Tryd.pinned (OpenSpec.upto fnExactErrorNameSpec)

/-- 'laws.FnExactErrorCode', WHERE WHAT IT READS IS OF BULK AT MOST 1048576: true; the input reads as it did. -/
def fnExactErrorCodeUptoRow : OpenClaim := { program := "ytbpalgildbodkaadoor", sum := "aa63164d1389ef8f6cbc105a1354b5ceac79c3357955589615ad39f3bbc2a18d", func := "loop.example/g00510/laws.FnExactErrorCode", spec := "fnExactErrorCode", named := ["loop.example/g00510/impl.errorNames"], apart := false, laid := [("loop.example/g00510/impl.errorNames", laid_loop_example_g00510_impl_errorNames)], narrowed := true }
def FnExactErrorCodeUptoSaid : Prop := fnExactErrorCodeUptoRow.holds Tryd.pinned (OpenSpec.upto fnExactErrorCodeSpec)

end Rows
end Go.Proofs.YtbpalgildbodkaaDoor
