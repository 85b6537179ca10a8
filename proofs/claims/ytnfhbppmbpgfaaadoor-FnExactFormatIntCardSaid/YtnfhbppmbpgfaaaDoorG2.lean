/-
  The law FnExactFormatInt: its walk.
-/
import Derived.Test.YtnfhbppmbpgfaaaDoorG1
namespace Go.Proofs.YtnfhbppmbpgfaaaDoor
open Go.ChangeShapes Go.WideShapes Go.ChangeAt Go.RowKit
set_option linter.unusedVariables false
set_option linter.unusedSimpArgs false

theorem walk_FnExactFormatInt (n : Int) (w : World) (hn : Between64 n) (ht : TabAt w) : Calls Tryd.prog 5 #[.int .i64 n] w fun r w' => r = .returned (.bool true) ∧ Later w w' := by
  have CS := fun W => specFormatInt n hn W
  have CI := fun W (hW : Later w W) => implFormatInt n hn W (ht.later hW)
  obtain ⟨B, hB⟩ : ∃ B, B = itoaB n := ⟨_, rfl⟩
  simp only [← hB] at CS CI
  have HS := Lib.hid CS; have HI := Lib.hid CI
  clear CS CI hB hn ht
  go_enter Tryd.func5, Tryd.ntmps5
  go_wp2_with fail
  refine (HS.out _).mono ?_; rintro e w1 ⟨rfl, hb1⟩
  have L1 := Lib.hid hb1
  clear hb1
  go_wp2_with fail
  refine (HI.out _ L1.out).mono ?_; rintro e w2 ⟨rfl, hb2⟩
  go_wp2_with fail
  go_ret
  exact ⟨rfl, L1.out.trans hb2⟩
end Go.Proofs.YtnfhbppmbpgfaaaDoor
