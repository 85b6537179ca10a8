/-
  NARROWER THAN 'FOR EVERY INPUT', by the rows' own cells (each row's printed sentence says how): FnExactOriginsOf: loops.
  DERIVED. THE GIVEN ROWS OF THIS SEAT. 2 by the template 'for every input the law returns true; each argument reads behind the call as it read before'; 0 by the template 'total and deterministic' (their statements: YtjjmbldgemnhbaaTotals.lean).
  GIVEN WITH THE SEED: the statements are not yours to turn. If you find one false, say at which input.
  Laid BY PROGRAM, IN A SANDBOX (cutbox-rows.mjs): the forced cells as the released guide's own fill.sh prints them over the translation 438ed3ef8029d0e0… (all of the seat's roots in one cut). By AI agents, Wed Nov 11 2026. No macro, syntax, notation, axiom, sorry.
-/
import Derived.Test.YtjjmbldgemnhbaaChecked
import GoSem.Claim
import GoSem.ClaimJoined
import GoSem.ClaimMapViews
import Derived.JoinedTies
import Derived.KernelRfl
namespace Go.Proofs.Ytjjmbldgemnhbaa
/- THE CELL 'sum', in the pinned program and in every row, IS THE sha256 OF THE DUMP (.gsa) THAT YtjjmbldgemnhbaaProg.lean LOADS. Nothing in Lean hashes anything: it is a label: what it is worth is what the hold of that sum in a sandbox is worth. -/
noncomputable def Try.pinned : Pinned := { name := "ytjjmbldgemnhbaa", sum := "438ed3ef8029d0e0666c454875606b8a713dfc03dc2d70cba4e6c5d4fc7ff671", checked := Try.checked }
namespace Rows
def none {H : Type} : Left H := { results := [], args := [] }

/-- 'laws.FnExactUnionOrigins': WHATEVER THE INPUT: true; the input reads as it did. -/
def fnExactUnionOriginsSpec : ChangeSpec := { name := "fnExactUnionOrigins", fn := fun _ => fun
  | [d1, d2] => { results := [.lit (.bool true)], args := [d1, d2] }
  | _ => none }
def fnExactUnionOriginsRow : OpenClaim := { program := "ytjjmbldgemnhbaa", sum := "438ed3ef8029d0e0666c454875606b8a713dfc03dc2d70cba4e6c5d4fc7ff671", func := "loop.example/g00510/laws.FnExactUnionOrigins", spec := "fnExactUnionOrigins", inPlace := ["internal/reflectlite.ValueOf", "internal/reflectlite.Swapper", "(internal/reflectlite.Value).Len"], unfollowed := true, recurses := true, plainKeys := false, apart := false }
def FnExactUnionOriginsSaid : Prop := fnExactUnionOriginsRow.holds Try.pinned (OpenSpec.ofChange fnExactUnionOriginsSpec)

/-- ITS FALSE NEIGHBOUR: 'it returns false'. Refute it at one input. -/
def fnExactUnionOriginsWrong : ChangeSpec := { name := "fnExactUnionOrigins", fn := fun _ => fun
  | [d1, d2] => { results := [.lit (.bool false)], args := [d1, d2] }
  | _ => none }
def FnExactUnionOriginsWrongFalsely : Prop := fnExactUnionOriginsRow.holds Try.pinned (OpenSpec.ofChange fnExactUnionOriginsWrong)

/-- 'laws.FnExactOriginsOf': WHATEVER THE INPUT: true; the input reads as it did. -/
def fnExactOriginsOfSpec : ChangeSpec := { name := "fnExactOriginsOf", fn := fun _ => fun
  | [d] => { results := [.lit (.bool true)], args := [d] }
  | _ => none }
def fnExactOriginsOfRow : OpenClaim := { program := "ytjjmbldgemnhbaa", sum := "438ed3ef8029d0e0666c454875606b8a713dfc03dc2d70cba4e6c5d4fc7ff671", func := "loop.example/g00510/laws.FnExactOriginsOf", spec := "fnExactOriginsOf", inPlace := ["internal/reflectlite.ValueOf", "internal/reflectlite.Swapper", "(internal/reflectlite.Value).Len"], unfollowed := true, recurses := true, loops := true, plainKeys := false, apart := false }
def FnExactOriginsOfSaid : Prop := fnExactOriginsOfRow.holds Try.pinned (OpenSpec.ofChange fnExactOriginsOfSpec)

/-- ITS FALSE NEIGHBOUR: 'it returns false'. Refute it at one input. -/
def fnExactOriginsOfWrong : ChangeSpec := { name := "fnExactOriginsOf", fn := fun _ => fun
  | [d] => { results := [.lit (.bool false)], args := [d] }
  | _ => none }
def FnExactOriginsOfWrongFalsely : Prop := fnExactOriginsOfRow.holds Try.pinned (OpenSpec.ofChange fnExactOriginsOfWrong)

/- THE SECOND FORM. 'bulk': how many values and letters a reading holds, each counted each time it is reached (what is shared counts as often as it is met; a slice's spare places count too). A statement '..UptoSaid' is the law's where the arguments, and the package variables that the reading takes, are together of bulk at most 1048576: NARROWER than '..Said'. Prove '..Said' where nothing that the law and all that it calls make is longer than what came in: it says more and counts as full. Else prove '..UptoSaid'. A law counts once. -/
mutual
def uptoBulk {H : Type} : DataW H → Nat
  | .lit (.string bytes) => bytes.length + 1
  | .lit _ => 1
  | .nil => 1
  | .ptr d => uptoBulk d + 1
  | .slice elems spare => uptoBulkAll elems + uptoBulkAll spare + 1
  | .agg parts => uptoBulkAll parts + 1
  | .iface _ d => uptoBulk d + 1
  | .map entries => uptoBulkEntries entries + 1
  | .held _ => 1
def uptoBulkAll {H : Type} : List (DataW H) → Nat
  | [] => 0
  | d :: r => uptoBulk d + uptoBulkAll r
def uptoBulkEntries {H : Type} : List (Lit × DataW H) → Nat
  | [] => 0
  | x :: r => uptoBulkEntry x + uptoBulkEntries r
def uptoBulkEntry {H : Type} : Lit × DataW H → Nat
  | (.string bytes, d) => bytes.length + uptoBulk d + 1
  | (_, d) => uptoBulk d + 1
 end
def uptoSmall : (H : Type) → List (DataW H) → Bool := fun _ ds => decide (uptoBulkAll ds ≤ 1048576)
def OpenSpec.upto (s : _root_.Go.ChangeSpec) : _root_.Go.OpenSpec := { _root_.Go.OpenSpec.ofChange s with cond := some uptoSmall }

/-- 'laws.FnExactUnionOrigins', WHERE WHAT IT READS IS OF BULK AT MOST 1048576: true; the input reads as it did. -/
def fnExactUnionOriginsUptoRow : OpenClaim := { program := "ytjjmbldgemnhbaa", sum := "438ed3ef8029d0e0666c454875606b8a713dfc03dc2d70cba4e6c5d4fc7ff671", func := "loop.example/g00510/laws.FnExactUnionOrigins", spec := "fnExactUnionOrigins", inPlace := ["internal/reflectlite.ValueOf", "internal/reflectlite.Swapper", "(internal/reflectlite.Value).Len"], unfollowed := true, recurses := true, plainKeys := false, apart := false, narrowed := true }
def FnExactUnionOriginsUptoSaid : Prop := fnExactUnionOriginsUptoRow.holds Try.pinned (OpenSpec.upto fnExactUnionOriginsSpec)

/-- 'laws.FnExactOriginsOf', WHERE WHAT IT READS IS OF BULK AT MOST 1048576: true; the input reads as it did. -/
def fnExactOriginsOfUptoRow : OpenClaim := { program := "ytjjmbldgemnhbaa", sum := "438ed3ef8029d0e0666c454875606b8a713dfc03dc2d70cba4e6c5d4fc7ff671", func := "loop.example/g00510/laws.FnExactOriginsOf", spec := "fnExactOriginsOf", inPlace := ["internal/reflectlite.ValueOf", "internal/reflectlite.Swapper", "(internal/reflectlite.Value).Len"], unfollowed := true, recurses := true, loops := true, plainKeys := false, apart := false, narrowed := true }
def FnExactOriginsOfUptoSaid : Prop := fnExactOriginsOfUptoRow.holds Try.pinned (OpenSpec.upto fnExactOriginsOfSpec)

end Rows
end Go.Proofs.Ytjjmbldgemnhbaa
