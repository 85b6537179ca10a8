/-
  The law FnExprs: its walk.
-/
import Derived.Test.YtghemlokpfipoaaYEX10
import Derived.Test.YtghemlokpfipoaaYE4
import Derived.Test.YtghemlokpfipoaaYMG1
namespace Go.Proofs.Ytghemlokpfipoaa
open Go.ChangeShapes Go.WideShapes Go.ChangeAt Go.RowKit
set_option linter.unusedVariables false
set_option linter.unusedSimpArgs false
set_option maxRecDepth 100000

/-- DrawIsValidExpr. -/
theorem drawValidExpr (v : Value) (n : Nat) (W : World) (h : BytesAt W v n) (hn : n ≤ 1048576) : Calls Try.prog 54 #[v] W fun r w' =>
    (∃ k n t args A c, r = .returned (.agg #[.int .i64 k, .int .i64 n, .string t, .slice A (args : List Ex).length c]) ∧ (Ex.mk k n t args).cost ≤ 363200 ∧ Ats w' anyB (encE (.mk k n t args)) [.int .i64 k, .int .i64 n, .string t, .slice A args.length c]) ∧ Later W w' := by
  have HN := Lib.hid (fun W' (hW : Later W W') => drawNew v n W' (h.later hW) hn)
  clear h hn
  go_enter Try.func54, Try.ntmps54
  go_wp2_with fail
  refine (HN.out _ ((Later.rfl' _).alloc _)).mono ?_; rintro e w1 ⟨⟨g, rfl, hg, hc⟩, hb⟩
  have HC := Lib.hid hc; have HB := Lib.hid hb; have HG := Lib.hid hg
  clear hc hb hg HN
  go_wp2_with fail
  refine (drawBentX g _ HC.out).mono ?_; rintro e w2 ⟨⟨k, m, t, args, A, c, rfl, hco, hat⟩, hcu, hch⟩
  have hgs := HG.out
  rw [World.size_alloc] at hgs
  have hB : Box w2 W.heap.size [.int .i64 0, .int .i64 0, .string ⟨#[]⟩, .slice none 0 0] := ((box_alloc W #[.int .i64 0, .int .i64 0, .string ⟨#[]⟩, .slice none 0 0] 67).later HB.out).chg hch fun h => by unfold onlyB at h; omega
  obtain ⟨r0, r1, r2, r3, f0, f1, f2, f3⟩ := box_four hB
  have hz := hB.lt
  have hz1 := HB.out.size
  rw [World.size_alloc] at hz1
  have HCO := Lib.hid hco
  have cg := chg_setFrom (g := W.heap.size) [.int .i64 k, .int .i64 m, .string t, .slice A args.length c] w2 0
  have HAT := Lib.hid ((hat.chg cg fun b h1 h2 => by omega).more (S' := anyB) fun _ _ => trivial)
  have HL := Lib.hid (later_setFrom (Nat.le_refl _) [.int .i64 k, .int .i64 m, .string t, .slice A args.length c] w2 0 (Chg.later (((Later.rfl' W).alloc _).trans HB.out) hch fun k hk => by unfold onlyB at hk; omega))
  clear hco hat hcu hch hB cg HC HG HB hgs
  go_wp2_with fail
  exact bodyPost_ret (v := .agg #[.int .i64 k, .int .i64 m, .string t, .slice A args.length c]) (by simp [results, Try.results54, go_sem, r0, r1, r2, r3]) rfl ⟨⟨k, m, t, args, A, c, rfl, HCO.out, HAT.out⟩, HL.out⟩
end Go.Proofs.Ytghemlokpfipoaa
