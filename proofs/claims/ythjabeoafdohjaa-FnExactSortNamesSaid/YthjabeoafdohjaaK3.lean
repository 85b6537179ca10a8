/-
  Draws of names and of lists of names: the walks.
-/
import Derived.Test.YthjabeoafdohjaaK1
import Derived.Test.YthjabeoafdohjaaW1
namespace Go.Proofs.Ythjabeoafdohjaa
open Go.ChangeShapes Go.WideShapes Go.ChangeAt Go.RowKit
set_option linter.unusedVariables false
set_option linter.unusedSimpArgs false
set_option maxRecDepth 100000

theorem CurAt.chg {w w' : World} {g : Nat} {S : Nat → Prop} (h : CurAt w g) (c : Chg S w w') (hS : ∀ b, b ≤ g → ¬ S b) : CurAt w' g := by
  obtain ⟨A, c0, n, i, hh, B, h1, h2, h3, h4⟩ := h
  refine ⟨A, c0, n, i, hh, B.chg c (hS g (Nat.le_refl _)), h1, h2, h3, fun hn => ?_⟩
  obtain ⟨b, off, e, hl, hc⟩ := h4 hn
  refine ⟨b, off, e, hl, fun k hk => ?_⟩
  obtain ⟨x, hx, hcell⟩ := hc k hk
  exact ⟨x, hx, (World.cell?_of_block (w := w) (a := ⟨b, _, none⟩) (c.block b (Nat.lt_trans hl B.lt) (hS b (Nat.le_of_lt hl)))).trans hcell⟩
theorem CurAt.lt {w : World} {g : Nat} (h : CurAt w g) : g < w.heap.size := by
  obtain ⟨A, c0, n, i, hh, B, _⟩ := h
  exact B.lt
theorem chg_grown {w w' : World} {row : Option Nat} (h : w.grownBy w' row) : Chg (fun b => some b = row) w w' := ⟨h.os, h.tape, h.output, h.size, fun k hk hne => h.block k hk fun e => hne e⟩

theorem drawOnce (n g : Nat) (hn : 0 < n) (hn2 : n ≤ 256) (W : World) (hc : CurAt W g) : Calls Try.prog 137 #[.pointer (some ⟨g, 0, none⟩), .int .i64 (n : Int)] W fun r w' => (∃ q : Bool, r = .returned (.bool q)) ∧ CurAt w' g ∧ Chg (onlyB g) W w' := by
  have HC := Lib.hid (drawBelow n g hn hn2 W hc)
  clear hc hn hn2
  go_enter Try.func137, Try.ntmps137
  go_wp2_with fail
  refine HC.out.mono ?_; rintro e w1 ⟨⟨x, hx, rfl⟩, hcu, hch⟩
  have H1 := Lib.hid hcu; have H2 := Lib.hid hch
  clear hcu hch hx
  go_wp2_with fail
  go_ret
  exact ⟨⟨_, rfl⟩, H1.out, H2.out⟩

theorem drawPick (g b : Nat) (xs : List ByteArray) (hne : b ≠ g) (h0 : 0 < xs.length) (h1 : xs.length ≤ 256) (W : World) (hc : CurAt W g) (B : Box W b (xs.map .string)) :
    Calls Try.prog 173 #[.pointer (some ⟨g, 0, none⟩), .slice (some ⟨b, 0, none⟩) xs.length xs.length] W fun r w' => (∃ s, s ∈ xs ∧ r = .returned (.string s)) ∧ CurAt w' g ∧ Chg (onlyB g) W w' := by
  have HC := Lib.hid (drawBelow xs.length g h0 h1 W hc)
  have HB := Lib.hid B
  clear hc B h0 h1
  go_enter Try.func173, Try.ntmps173
  go_wp2_with fail
  refine HC.out.mono ?_; rintro e w1 ⟨⟨x, hx, rfl⟩, hcu, hch⟩
  have hcell := (HB.out.chg hch (fun e => hne e)).cell (j := x) (u := .string xs[x]) (by simp [hx])
  have hm : xs[x] ∈ xs := List.getElem_mem hx
  have hki : (x : Int) < (xs.length : Int) := by omega
  obtain ⟨s, hs⟩ : ∃ s, s = xs[x] := ⟨_, rfl⟩
  rw [← hs] at hcell hm
  have HM := Lib.hid hm
  have H1 := Lib.hid hcu; have H2 := Lib.hid hch
  clear hcu hch hs hm HC HB
  go_wp2_with fail
  go_ret
  exact ⟨⟨s, HM.out, rfl⟩, H1.out, H2.out⟩

def nameList : List ByteArray := [⟨#[97]⟩, ⟨#[98]⟩, ⟨#[99]⟩, ⟨#[100]⟩, ⟨#[120]⟩, ⟨#[121]⟩, ⟨#[116]⟩, ⟨#[117]⟩]
def anyList : List ByteArray := [⟨#[]⟩, ⟨#[49, 97]⟩, ⟨#[97, 49]⟩, ⟨#[97, 98, 99, 100, 101, 102, 103, 104]⟩, ⟨#[97, 98, 99, 100, 101, 102, 103, 104, 105]⟩, ⟨#[108, 101, 116]⟩, ⟨#[116, 97, 98, 108, 101]⟩, ⟨#[115, 117, 109]⟩, ⟨#[115, 117, 109, 115]⟩, ⟨#[65]⟩, ⟨#[97, 95, 98]⟩, ⟨#[108, 101, 110]⟩]
theorem nameList_small : ∀ s ∈ nameList, s.size ≤ 100 := by decide
theorem anyList_small : ∀ s ∈ anyList, s.size ≤ 100 := by decide
def SmallS (g : Nat) (W w' : World) (r : Ending) : Prop := (∃ s : ByteArray, s.size ≤ 100 ∧ r = .returned (.string s)) ∧ CurAt w' g ∧ Chg (onlyB g) W w'


theorem drawName (g : Nat) (W : World) (hc : CurAt W g) : Calls Try.prog 208 #[.pointer (some ⟨g, 0, none⟩)] W fun r w' => SmallS g W w' r := by
  have hlt := hc.lt
  have C := fun w b (hb : b ≠ g) (hcu : CurAt w g) (B : Box w b (nameList.map .string)) => drawPick g b nameList hb (by decide) (by decide) w hcu B
  have HC := Lib.hid C
  have HCU := Lib.hid hc
  clear C hc
  go_enter Try.func208, Try.ntmps208
  go_wp2_with fail
  refine (HC.out _ _ (by omega) (HCU.out.later ((Later.rfl' _).alloc _)) (box_alloc _ _ _)).mono ?_; rintro e w1 ⟨⟨s, hs, rfl⟩, hcu, hch⟩
  have H1 := Lib.hid hcu; have H2 := Lib.hid ((((Later.rfl' W).alloc _).chg (onlyB g)).trans hch); have HM := Lib.hid (nameList_small s hs)
  clear hcu hch hs
  go_wp2_with fail
  go_ret
  exact ⟨⟨s, HM.out, rfl⟩, H1.out, H2.out⟩

theorem drawAny (g : Nat) (W : World) (hc : CurAt W g) : Calls Try.prog 170 #[.pointer (some ⟨g, 0, none⟩)] W fun r w' => SmallS g W w' r := by
  have C := fun w b (hb : b ≠ g) (hcu : CurAt w g) (B : Box w b (anyList.map .string)) => drawPick g b anyList hb (by decide) (by decide) w hcu B
  have HC := Lib.hid C
  have HO := Lib.hid (drawOnce 2 g (by omega) (by omega) W hc)
  clear C hc
  go_enter Try.func170, Try.ntmps170
  go_wp2_with fail
  refine HO.out.mono ?_; rintro e w1 ⟨⟨q, rfl⟩, hcu, hch⟩
  have H1 := Lib.hid hcu; have H2 := Lib.hid hch
  have hlt := hcu.lt
  clear hcu hch HO
  cases q with
  | true =>
    go_wp2_with fail
    refine (drawName g _ H1.out).mono ?_; rintro e w2 ⟨⟨s, hs, rfl⟩, hcu, hch⟩
    have H3 := Lib.hid hcu; have H4 := Lib.hid (H2.out.trans hch); have HS := Lib.hid hs
    clear hcu hch hs
    go_wp2_with fail
    go_ret
    exact ⟨⟨s, HS.out, rfl⟩, H3.out, H4.out⟩
  | false =>
    go_wp2_with fail
    refine (HC.out _ _ (by omega) (H1.out.later ((Later.rfl' _).alloc _)) (box_alloc _ _ _)).mono ?_; rintro e w2 ⟨⟨s, hs, rfl⟩, hcu, hch⟩
    have H3 := Lib.hid hcu; have H4 := Lib.hid (H2.out.trans ((((Later.rfl' w1).alloc _).chg (onlyB g)).trans hch)); have HM := Lib.hid (anyList_small s hs)
    clear hcu hch hs
    go_wp2_with fail
    go_ret
    exact ⟨⟨s, HM.out, rfl⟩, H3.out, H4.out⟩

/-- A list of small strings that a call has made. -/
def SmallL (lo : Nat) (w' : World) (v : Value) (xs : List ByteArray) : Prop := w'.ownsRow lo 9 1 v xs.length (xs.map .string) ∧ xs.length ≤ 6 ∧ ∀ x ∈ xs, x.size ≤ 100
def freshB (g lo : Nat) : Nat → Prop := fun b => b = g ∨ lo ≤ b
set_option maxHeartbeats 1000000 in
theorem drawNames (g : Nat) (W : World) (hc : CurAt W g) : Calls Try.prog 130 #[.pointer (some ⟨g, 0, none⟩)] W fun r w' => (∃ xs v, r = .returned v ∧ SmallL W.heap.size w' v xs) ∧ CurAt w' g ∧ Chg (onlyB g) W w' := by
  have hlt := hc.lt
  have HCU := Lib.hid (hc.later ((Later.rfl' W).alloc (.cells #[] 9)))
  obtain ⟨i0, hi, hz0, hz1, hz2⟩ := info_parts info_string
  clear hc
  go_enter Try.func130, Try.ntmps130
  go_wp2_with fail
  refine (drawBelow 6 g (by omega) (by omega) _ HCU.out).mono ?_; rintro e w1 ⟨⟨m, hm, rfl⟩, hcu, hch⟩
  have hown0 : w1.ownsRow W.heap.size 9 1 (.slice (some ⟨W.heap.size, 0, none⟩) 0 0) 0 [] :=
    row_block (World.ownsRow_made W #[] 0 (Nat.le_refl _) (Nat.zero_le _) rfl) fun k hk => hch.block k ((World.ownsRow_made (e := 9) (size := 1) W #[] 0 (Nat.le_refl _) (Nat.zero_le _) rfl).lt k hk).2 (by simp only [Value.ownBlock, Option.some.injEq] at hk; unfold onlyB; omega)
  have hch0 : Chg (freshB g W.heap.size) W w1 := (((Later.rfl' W).alloc (.cells #[] 9)).chg _).trans (hch.more fun k hk => .inl hk)
  have HO := Lib.hid hown0; have H1 := Lib.hid hcu; have H2 := Lib.hid hch0
  clear hcu hch hown0 hch0 HCU
  go_wp2_with fail
  go_loopw [3, 5] (fun o i wr => ∃ (xs : List ByteArray) (j : Nat), i = .int .i64 (j : Int) ∧ j ≤ m ∧ xs.length = j ∧ wr.ownsRow W.heap.size 9 1 o xs.length (xs.map .string) ∧ (∀ x ∈ xs, x.size ≤ 100) ∧ CurAt wr g ∧ Chg (freshB g W.heap.size) W wr) (fun _ i _ => m - (intOf i).toNat)
  case atStart => exact ⟨[], 0, rfl, Nat.zero_le _, rfl, HO.out, fun x hx => by simp at hx, H1.out, H2.out⟩
  case round =>
    obtain ⟨xs, j, rfl, hj, hxl, hown, hsm, hcu, hch⟩ := hrel
    by_cases hlt2 : j < m
    · have hki : (j : Int) < (m : Int) := by omega
      have HOW := Lib.hid hown; have HSM := Lib.hid hsm; have HC := Lib.hid (drawAny g wr hcu); have HCH := Lib.hid hch; have HXL := Lib.hid hxl
      have hgw := hcu.lt
      clear hown hsm hcu hch hxl
      go_wp2_with fail
      refine HC.out.mono ?_; rintro e w2 ⟨⟨s, hs, rfl⟩, hcu2, hch2⟩
      have hown2 := row_block HOW.out fun k hk => hch2.block k (HOW.out.lt k hk).2 (by have := (HOW.out.lt k hk).1; unfold onlyB; omega)
      have hcc := HCH.out.trans (hch2.more (S' := freshB g W.heap.size) fun k hk => .inl hk)
      have hsz := hcc.size
      have hxl := HXL.out
      have HS := Lib.hid hs
      have HCU2 := Lib.hid hcu2; have HCC := Lib.hid hcc
      clear hcu2 hch2 hs hcc
      go_wp2_with (at_builtin; refine wpList_append_own _ rfl _ _ 25 rfl W.heap.size 9 i0 (.string ByteArray.empty) 1 16 Try.underlying25 hi hz0 hz1 hz2 rfl (by decide) _ _ _ rfl (hown2.alloc _) ⟨w2.heap.size, 0, none⟩ 1 1 [.string s] rfl rfl ?c1 ?c2 ?c3 ?c4 ?c5 ?_)
      case c1 =>
        intro j' u hj
        match j', hj with
        | 0, hj => simp at hj; subst hj; simp [Addr.add]
      case c2 => intro u hu; simp at hu; subst hu; rfl
      case c3 => unfold maxLen; omega
      case c4 => omega
      case c5 => simp; omega
      · intro v' w3 hown3 hgrow _
        have hg3 := chg_grown hgrow
        have hfr : ∀ b, some b = Value.ownBlock _ → W.heap.size ≤ b := fun b hb => ((hown2.alloc (.cells #[.string s] 9)).lt b hb.symm).1
        have hcu3 : CurAt w3 g := (HCU2.out.later ((Later.rfl' _).alloc _)).chg hg3 fun b hb he => by have := hfr b he; omega
        have hcc3 : Chg (freshB g W.heap.size) W w3 := (HCC.out.trans (((Later.rfl' _).alloc _).chg _)).trans (hg3.more fun k hk => .inr (hfr k hk))
        have HR : Hid (w3.ownsRow W.heap.size 9 1 v' (xs ++ [s]).length ((xs ++ [s]).map .string)) := by
          unfold Hid
          rw [List.map_append, List.length_append, hxl]
          exact hown3
        have HR2 : Hid ((xs ++ [s]).length = j + 1 ∧ ∀ x ∈ xs ++ [s], x.size ≤ 100) := ⟨by rw [List.length_append, hxl]; rfl, fun x hx => by
          rcases List.mem_append.1 hx with h | h
          · exact HSM.out x h
          · rw [List.mem_singleton.1 h]; exact HS.out⟩
        have HR3 := Lib.hid hcu3; have HR4 := Lib.hid hcc3
        clear hown3 hgrow hg3 hfr hcu3 hcc3 hown2 hsz hxl
        go_wp2_with fail
        go_roundw
        case rel => exact ⟨xs ++ [s], j + 1, by go_num, by omega, HR2.out.1, HR.out, HR2.out.2, HR3.out, HR4.out⟩
        case measure => simp [intOf]; omega
    · have hcc : Chg (onlyB g) W wr := ⟨hch.os, hch.tape, hch.output, hch.size, fun k hk hne => hch.block k hk fun e => by
        rcases e with e | e
        · exact hne e
        · omega⟩
      have HR : Hid (SmallL W.heap.size wr _ xs) := ⟨hown, by omega, hsm⟩
      have H3 := Lib.hid hcu; have H4 := Lib.hid hcc
      clear hown hsm hcu hch hcc
      go_wp2_with fail
      go_ret
      exact ⟨⟨xs, _, rfl, HR.out⟩, H3.out, H4.out⟩
end Go.Proofs.Ythjabeoafdohjaa
