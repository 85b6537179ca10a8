/-
  Draws of texts: l1Turned, l9Text, DrawTokenize: the walks.
-/
import Derived.Test.YtghemlokpfipoaaDoorYTD2
import Derived.Deep.RegionHeld3
namespace Go.Proofs.YtghemlokpfipoaaDoor
open Go.ChangeShapes Go.WideShapes Go.ChangeAt Go.RowKit
set_option linter.unusedVariables false
set_option linter.unusedSimpArgs false
set_option maxRecDepth 100000

theorem drawAt (n g : Nat) (hn : n ≤ 1048576) (W : World) (hc : CurAt W g) : Calls Tryd.prog 35 #[.pointer (some ⟨g, 0, none⟩), .int .i64 ((n : Int) + 1)] W fun r w' => (∃ x : Nat, x ≤ n ∧ r = .returned (.int .i64 (x : Int))) ∧ CurAt w' g ∧ Chg (onlyB g) W w' := by
  rw [show (n : Int) + 1 = ((n + 1 : Nat) : Int) by omega]
  by_cases h : n + 1 ≤ 256
  · refine (drawBelow (n + 1) g (by omega) h W hc).mono ?_; rintro r w' ⟨⟨x, hx, rfl⟩, h2⟩
    exact ⟨⟨x, by omega, rfl⟩, h2⟩
  · refine (drawBig (n + 1) g (by omega) (by omega) W hc).mono ?_; rintro r w' ⟨⟨x, hx, rfl⟩, h2⟩
    exact ⟨⟨x, by omega, rfl⟩, h2⟩
/-- A drawn text of a bounded size. -/
def TextR (M g : Nat) (W w' : World) (r : Ending) : Prop := (∃ s : ByteArray, s.size ≤ M ∧ r = .returned (.string s)) ∧ CurAt w' g ∧ Chg (onlyB g) W w'
def turnList : List ByteArray := [⟨#[34]⟩, ⟨#[61]⟩, ⟨#[120]⟩, ⟨#[48]⟩, ⟨#[65]⟩, ⟨#[32, 32]⟩, ⟨#[10]⟩, ⟨#[57, 57, 57, 57, 57, 57, 57, 57, 57, 57, 57]⟩]
theorem turnList_small : ∀ s ∈ turnList, s.size ≤ 100 := by decide
def textsList : List ByteArray := [⟨#[]⟩, ⟨#[32]⟩, ⟨#[97, 43, 49]⟩, ⟨#[97, 61, 61, 98]⟩, ⟨#[97, 61, 98]⟩, ⟨#[97, 98, 99, 100, 101, 102, 103, 104, 105]⟩, ⟨#[48, 48]⟩, ⟨#[49, 48, 48, 48, 48, 48, 48, 48, 48, 49]⟩, ⟨#[34, 97, 98]⟩, ⟨#[108, 101, 116, 32, 120, 61, 49, 32, 105, 110, 32, 120]⟩, ⟨#[35]⟩, ⟨#[97, 10]⟩]
theorem textsList_small : ∀ s ∈ textsList, s.size ≤ 100 := by decide
set_option maxHeartbeats 4000000 in
theorem drawTurned (g b : Nat) (s : ByteArray) (hs : s.size ≤ 10000) (hne : b ≠ g) (W : World) (hc : CurAt W g) (B : Box W b (turnList.map .string)) : Calls Tryd.prog 36 #[.pointer (some ⟨g, 0, none⟩), .string s, .slice (some ⟨b, 0, none⟩) turnList.length turnList.length] W fun r w' => TextR 10100 g W w' r := by
  have HCU := Lib.hid hc; have HB := Lib.hid B
  have HAT := Lib.hid (drawAt s.size g (by omega) W hc)
  have hsi : (s.size : Int) ≤ 10000 := by omega
  clear hc B
  go_enter Tryd.func36, Tryd.ntmps36
  go_wp2_with fail
  refine HAT.out.mono ?_; rintro e w1 ⟨⟨x, hx, rfl⟩, hcu, hch⟩
  have HC1 := Lib.hid hcu; have HH1 := Lib.hid hch; have HB1 := Lib.hid (HB.out.chg hch fun e => hne e)
  clear hcu hch HAT HCU HB
  go_wp2_with fail
  refine (drawBelow 6 g (by omega) (by omega) _ HC1.out).mono ?_; rintro e w2 ⟨⟨m, hm, rfl⟩, hcu, hch⟩
  have HC2 := Lib.hid hcu; have HH2 := Lib.hid (HH1.out.trans hch); have HB2 := Lib.hid (HB1.out.chg hch fun e => hne e)
  clear hcu hch HC1 HH1 HB1
  have hxi : (x : Int) ≤ (s.size : Int) := by omega
  have hx0 : (0 : Int) ≤ (x : Int) := by omega
  obtain ⟨P, hP⟩ : ∃ P, P = s.extract 0 x := ⟨_, rfl⟩
  obtain ⟨Q, hQ⟩ : ∃ Q, Q = s.extract x s.size := ⟨_, rfl⟩
  have hPz : P.size ≤ 10000 := by rw [hP, ByteArray.size_extract]; omega
  have hQz : Q.size ≤ 10000 := by rw [hQ, ByteArray.size_extract]; omega
  have hPQ : P.size + Q.size = s.size := by rw [hP, hQ, ByteArray.size_extract, ByteArray.size_extract]; omega
  have hPs : s.extract 0 x = P := hP.symm
  have hQs : s.extract x s.size = Q := hQ.symm
  clear hP hQ
  by_cases hm0 : m = 0
  · subst hm0
    clear hm
    go_wp2_with fail
    go_region_held3 (fun w' => True) (trivial)
      (first | (go_at_call 37; refine (drawPick g b turnList hne (by decide) (by decide) _ (HC2.out.later (Later.rfl' _).drew) (HB2.out.later (Later.rfl' _).drew)).mono ?_; rintro r w3 ⟨⟨p, hp, rfl⟩, hcu, hch⟩; have HC3 := Lib.hid hcu; have HH3 := Lib.hid ((HH2.out.trans ((Later.rfl' _).drew.chg _)).trans hch); have hpz := turnList_small p hp; have hT1 : ¬ 9223372036854775807 < P.size + p.size := (by omega); have hT2 : ¬ 9223372036854775807 < P.size + p.size + Q.size := (by omega); clear hcu hch hp))
    all_goals
      (rename_i hHL; clear hHL
       have hfin : (P ++ p ++ Q).size ≤ 10100 := by rw [ByteArray.size_append, ByteArray.size_append]; omega
       have HFI := Lib.hid hfin
       clear hfin
       go_wp2_with fail
       go_ret
       exact ⟨⟨_, HFI.out, rfl⟩, HC3.out, HH3.out⟩)
  · by_cases hm1 : m = 1
    · subst hm1
      clear hm0 hm
      go_wp2_with fail
      go_ret
      exact ⟨⟨P, by omega, rfl⟩, HC2.out, HH2.out⟩
    · have e0 : ((m : Int) == 0) = false := by simpa using hm0
      have e1 : ((m : Int) == 1) = false := by simp; omega
      clear hm0 hm1 hm
      go_wp2_with fail
      go_ret
      exact ⟨⟨s, by omega, rfl⟩, HC2.out, HH2.out⟩
theorem costS_sum {l : List Tk} (h : ∀ t ∈ l, SmallTk t) : l.length + sumN Tk.cost l ≤ 101 * l.length := by
  induction l with
  | nil => simp [sumN]
  | cons t l ih =>
    have h1 := ih fun y hy => h y (List.mem_cons_of_mem _ hy)
    have h2 := (h t List.mem_cons_self).2.2.2
    unfold sumN at h1 ⊢
    simp only [List.map_cons, List.sum_cons, List.length_cons]
    have : Tk.cost t = t.text.size := rfl
    omega
theorem joinT_size {l : List Tk} (h : ∀ t ∈ l, SmallTk t) (hl : l.length ≤ 61) : (⟨(joinB (l.map tkB) ⟨#[32]⟩).toArray⟩ : ByteArray).size ≤ 10000 := by
  have h1 := joinB_le (l.map tkB) ⟨#[32]⟩
  have h2 := costS_tk l fun d hd => by have := (h d hd).2.1; unfold Between64; omega
  have h3 := costS_sum h
  unfold costS at h2
  rw [List.length_map] at h1 h2
  have h4 : (⟨#[32]⟩ : ByteArray).size = 1 := rfl
  rw [h4] at h1
  show (joinB (l.map tkB) ⟨#[32]⟩).toArray.size ≤ 10000
  rw [List.size_toArray]
  omega
set_option maxHeartbeats 4000000 in
theorem drawText9 (g : Nat) (W : World) (hc : CurAt W g) : Calls Tryd.prog 20 #[.pointer (some ⟨g, 0, none⟩)] W fun r w' => TextR 10100 g W w' r := by
  have hlt := hc.lt
  have HCU := Lib.hid hc
  clear hc
  go_enter Tryd.func20, Tryd.ntmps20
  go_wp2_with fail
  refine (drawTokens g _ HCU.out).mono ?_; rintro e w1 ⟨⟨l, v, rfl, hrow, hl⟩, hcu, hch⟩
  have HC1 := Lib.hid hcu; have HH1 := Lib.hid hch
  have HF := Lib.hid (specFormatTokens l w1 anyB v hrow.sl (by have := costS_sum hrow.2; omega))
  have hsz := joinT_size hrow.2 hl
  obtain ⟨s, hs⟩ : ∃ s, s = (⟨(joinB (l.map tkB) ⟨#[32]⟩).toArray⟩ : ByteArray) := ⟨_, rfl⟩
  rw [← hs] at HF hsz
  clear hcu hch hrow hl hs HCU
  go_wp2_with fail
  refine HF.out.mono ?_; rintro e w2 ⟨rfl, hb⟩
  have HC2 := Lib.hid (HC1.out.later hb); have HH2 := Lib.hid (HH1.out.trans (hb.chg _))
  clear hb HF HC1 HH1
  go_wp2_with fail
  refine (drawBelow 4 g (by omega) (by omega) _ HC2.out).mono ?_; rintro e w3 ⟨⟨m, hm, rfl⟩, hcu, hch⟩
  have HC3 := Lib.hid hcu; have HH3 := Lib.hid (HH2.out.trans hch)
  have hz3 := HH3.out.size
  clear hcu hch HC2 HH2
  by_cases hm0 : m = 0
  · subst hm0
    clear hm
    go_wp2_with fail
    refine (drawTurned g _ s hsz (by omega) _ (HC3.out.later ((Later.rfl' _).alloc _)) (box_alloc _ _ _)).mono ?_; rintro e w4 ⟨⟨u, hu, rfl⟩, hcu, hch⟩
    have HC4 := Lib.hid hcu; have HH4 := Lib.hid (HH3.out.trans ((((Later.rfl' _).alloc _).chg _).trans hch)); have HU := Lib.hid hu
    clear hcu hch hu
    go_wp2_with fail
    go_ret
    exact ⟨⟨u, HU.out, rfl⟩, HC4.out, HH4.out⟩
  · by_cases hm1 : m = 1
    · subst hm1
      clear hm0 hm
      go_wp2_with fail
      refine (drawPick g _ textsList (by omega) (by decide) (by decide) _ (HC3.out.later ((Later.rfl' _).alloc _)) (box_alloc _ _ _)).mono ?_; rintro e w4 ⟨⟨u, hu, rfl⟩, hcu, hch⟩
      have HC4 := Lib.hid hcu; have HH4 := Lib.hid (HH3.out.trans ((((Later.rfl' _).alloc _).chg _).trans hch)); have HU := Lib.hid (textsList_small u hu)
      clear hcu hch hu
      go_wp2_with fail
      go_ret
      exact ⟨⟨u, Nat.le_trans HU.out (by decide), rfl⟩, HC4.out, HH4.out⟩
    · have e0 : ((m : Int) == 0) = false := by simpa using hm0
      have e1 : ((m : Int) == 1) = false := by simp; omega
      have HZ := Lib.hid hsz
      clear hm0 hm1 hm hsz
      go_wp2_with fail
      go_ret
      exact ⟨⟨s, Nat.le_trans HZ.out (by decide), rfl⟩, HC3.out, HH3.out⟩
theorem drawTokenize (v : Value) (n : Nat) (W : World) (h : BytesAt W v n) (hn : n ≤ 1048576) : Calls Tryd.prog 11 #[v] W fun r w' => (∃ s : ByteArray, s.size ≤ 10100 ∧ r = .returned (.string s)) ∧ Later W w' := by
  have HN := Lib.hid (drawNew v n W h hn)
  clear h hn
  go_enter Tryd.func11, Tryd.ntmps11
  go_wp2_with fail
  refine HN.out.mono ?_; rintro e w1 ⟨⟨g, rfl, hg, hc⟩, hb⟩
  have HC := Lib.hid hc; have HB := Lib.hid hb; have HG := Lib.hid hg
  clear hc hb hg HN
  go_wp2_with fail
  refine (drawText9 g _ HC.out).mono ?_; rintro e w2 ⟨⟨s, hs, rfl⟩, hcu, hch⟩
  have HS := Lib.hid hs; have HL := Lib.hid (Chg.later HB.out hch fun k hk => by have := HG.out; unfold onlyB at hk; omega)
  clear hs hcu hch
  go_wp2_with fail
  go_ret
  exact ⟨⟨s, HS.out, rfl⟩, HL.out⟩
end Go.Proofs.YtghemlokpfipoaaDoor
