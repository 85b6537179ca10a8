/-
  The law FnExactTokenize: its walk.
-/
import Derived.Test.YtghemlokpfipoaaDoorYTK4
import Derived.Test.YtghemlokpfipoaaDoorYTM
import Derived.Test.YtghemlokpfipoaaDoorYTB
namespace Go.Proofs.YtghemlokpfipoaaDoor
open Go.ChangeShapes Go.WideShapes Go.ChangeAt Go.RowKit
set_option linter.unusedVariables false
set_option linter.unusedSimpArgs false
set_option maxRecDepth 100000

theorem cntT : ∀ l : List Tk, Dt.cnts (l.flatMap encT) = 4 * l.length
  | [] => rfl
  | t :: l => by
    rw [List.flatMap_cons, cnts_append, cntT l, List.length_cons]
    simp [encT, Dt.cnts, Dt.cnt]
    omega
set_option maxHeartbeats 4000000 in
theorem walk_FnExactTokenize (s : ByteArray) (w : World) (hs : s.size ≤ maxLen) (hp : ParseAt w) : Calls Tryd.prog 3 #[.string s] w fun r w' => r = .returned (.bool true) ∧ Later w w' := by
  unfold maxLen at hs
  by_cases hc : s.size ≤ 1048576
  · have CS := fun W => specTokenize s hc W
    have CI := fun W (hW : Later w W) => implTokenize s hc W (hp.later hW)
    obtain ⟨_, hl60, _⟩ := tokens_out s
    unfold TokOut at CS CI
    obtain ⟨T, hT⟩ : ∃ T, T = (tokensB s).1 := ⟨_, rfl⟩
    obtain ⟨B, hB⟩ : ∃ B, B = (tokensB s).2 := ⟨_, rfl⟩
    simp only [← hT, ← hB] at CS CI hl60
    have CM := fun W S v (h : Own W S (.sl 4 T.length (T.flatMap encT)) v) => marksQ_at (markTokenS T) 1 (show (1 : Int) = ((1 : Nat) : Int) by simp) (by rw [cntT]; omega) h
    have CH := fun W S v h => heldTokenS T 1 1 W S v (by simp) (flat_len encT_len T) (by rw [cntT]; omega) h
    obtain ⟨N, hN⟩ : ∃ N, N = 1 + Dt.cnts (T.flatMap encT) := ⟨_, rfl⟩
    simp only [← hN] at CM CH
    have hNp : (0 : Int) ≤ (N : Int) := by omega
    have HS := Lib.hid CS; have HI := Lib.hid CI; have HM := Lib.hid CM; have HH := Lib.hid CH; have HEQ := Lib.hid (eqTokenS T)
    clear CS CI CM CH hT hB hN hl60 hs
    go_enter Tryd.func3, Tryd.ntmps3
    go_wp2_with fail
    refine (HS.out _).mono ?_; rintro e w1 ⟨⟨v1, rfl, hx⟩, hb⟩
    have L := Lib.hid hb
    have hs0 := L.out.size
    have A := Lib.hid (hx.own encT_len); clear hb hx HS
    go_wp2_with fail
    refine (HI.out _ L.out).mono ?_; rintro e w2 ⟨⟨v2, rfl, hx⟩, hb⟩
    replace L := Lib.hid (L.out.trans hb); replace A := Lib.hid (A.out.later hb)
    have G := Lib.hid (hx.own encT_len)
    have hs1 := L.out.size; clear hb hx
    go_wp2_with fail
    refine (HEQ.out _ _ _ _ _ G.out.at_ A.out.at_).mono ?_; rintro e w3 ⟨rfl, hb⟩
    replace L := Lib.hid (L.out.trans hb); replace A := Lib.hid (A.out.later hb); replace G := Lib.hid (G.out.later hb); clear hb
    go_wp2_with fail
    refine (HM.out _ _ _ G.out).mono ?_; rintro e w4 ⟨rfl, ho, hcg⟩
    replace A := Lib.hid (A.out.chg hcg fun b h1 h2 => by omega)
    have L4 := Lib.hid (Chg.later L.out hcg fun b hb => by omega)
    replace G := Lib.hid ho; clear hcg ho L HM
    go_wp2_with fail
    refine (HH.out _ _ _ G.out.at_).mono ?_; rintro e w5 ⟨rfl, hb⟩
    have L := Lib.hid (L4.out.trans hb); replace A := Lib.hid (A.out.later hb); replace G := Lib.hid (G.out.later hb); clear hb L4
    go_wp2_with fail
    refine (HI.out _ L.out).mono ?_; rintro e w6 ⟨⟨v3, rfl, hx⟩, hb⟩
    replace L := Lib.hid (L.out.trans hb); replace A := Lib.hid (A.out.later hb); replace G := Lib.hid (G.out.later hb)
    have K := Lib.hid (hx.own encT_len); clear hb hx HI
    go_wp2_with fail
    refine (HEQ.out _ _ _ _ _ K.out.at_ A.out.at_).mono ?_; rintro e w7 ⟨rfl, hb⟩
    replace L := Lib.hid (L.out.trans hb); replace G := Lib.hid (G.out.later hb); clear hb A K HEQ
    go_wp2_with fail
    refine (HH.out _ _ _ G.out.at_).mono ?_; rintro e w8 ⟨rfl, hb⟩
    replace L := Lib.hid (L.out.trans hb); clear hb
    go_wp2_with fail
    go_ret
    exact ⟨rfl, L.out⟩
  · have hi : (1048576 : Int) < (s.size : Int) := by omega
    clear hp hc
    go_enter Tryd.func3, Tryd.ntmps3
    go_wp2_with fail
    go_ret
    exact ⟨rfl, Later.rfl' _⟩
end Go.Proofs.YtghemlokpfipoaaDoor
