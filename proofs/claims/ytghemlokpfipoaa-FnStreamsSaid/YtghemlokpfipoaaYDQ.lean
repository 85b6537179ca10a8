/-
  Three slices of a value that is being made in a variable of the call's own: pushing onto one of them.
-/
import Derived.Test.YtghemlokpfipoaaYDP
namespace Go.Proofs.Ytghemlokpfipoaa
open Go.ChangeShapes Go.WideShapes Go.ChangeAt Go.RowKit
set_option linter.unusedVariables false
set_option linter.unusedSimpArgs false

/-- Three slices in memory of their own, at or above lo, none in block gB. -/
def Trio (lo gB : Nat) (w : World) (l : List Vl) (cl : List ByteArray) (rs : List Rw) (v4 v5 v6 : Value) : Prop :=
  ∃ S1 S2 S3 : Nat → Prop, (∀ b, S1 b ∨ S2 b ∨ S3 b → lo ≤ b ∧ b < w.heap.size ∧ b ≠ gB) ∧ (∀ b, S1 b → S2 b → False) ∧ (∀ b, S1 b → S3 b → False) ∧ (∀ b, S2 b → S3 b → False) ∧
    PushIn S1 w 28 7 encV l v4 ∧ PushIn S2 w 9 1 encS cl v5 ∧ PushIn S3 w 79 2 encR rs v6
theorem Trio.drawn {lo gB : Nat} {w : World} {l : List Vl} {cl : List ByteArray} {rs : List Rw} {v4 v5 v6 : Value} (h : Trio lo gB w l cl rs v4 v5 v6) : DrawnT lo w l cl rs v4 v5 v6 := by
  obtain ⟨S1, S2, S3, h1, hh⟩ := h
  exact ⟨S1, S2, S3, fun b hb => ⟨(h1 b hb).1, (h1 b hb).2.1⟩, hh⟩
theorem DrawnT.trio {lo gB : Nat} {w : World} {l : List Vl} {cl : List ByteArray} {rs : List Rw} {v4 v5 v6 : Value} (h : DrawnT lo w l cl rs v4 v5 v6) (hg : gB < lo) : Trio lo gB w l cl rs v4 v5 v6 := by
  obtain ⟨S1, S2, S3, h1, hh⟩ := h
  exact ⟨S1, S2, S3, fun b hb => ⟨(h1 b hb).1, (h1 b hb).2, by have := (h1 b hb).1; omega⟩, hh⟩
theorem Trio.nils (lo gB : Nat) (w : World) : Trio lo gB w [] [] [] (.slice none 0 0) (.slice none 0 0) (.slice none 0 0) :=
  ⟨fun _ => False, fun _ => False, fun _ => False, fun b h => by simp at h, fun _ h => False.elim h, fun _ h => False.elim h, fun _ h => False.elim h, PushIn.nil _ _ _ _ _, PushIn.nil _ _ _ _ _, PushIn.nil _ _ _ _ _⟩
theorem Trio.chg {lo gB : Nat} {w w' : World} {l : List Vl} {cl : List ByteArray} {rs : List Rw} {v4 v5 v6 : Value} {C : Nat → Prop} (h : Trio lo gB w l cl rs v4 v5 v6) (c : Chg C w w') (hC : ∀ b, lo ≤ b → b < w.heap.size → b ≠ gB → ¬ C b) : Trio lo gB w' l cl rs v4 v5 v6 := by
  obtain ⟨S1, S2, S3, h1, h2, h3, h4, h5, h6, h7⟩ := h
  have hs := c.size
  have hk : ∀ b, S1 b ∨ S2 b ∨ S3 b → C b → False := fun b hb hc => hC b (h1 b hb).1 (h1 b hb).2.1 (h1 b hb).2.2 hc
  exact ⟨S1, S2, S3, fun b hb => ⟨(h1 b hb).1, by have := (h1 b hb).2.1; omega, (h1 b hb).2.2⟩, h2, h3, h4, h5.chg c fun b hb hc => hk b (.inl hb) hc, h6.chg c fun b hb hc => hk b (.inr (.inl hb)) hc, h7.chg c fun b hb hc => hk b (.inr (.inr hb)) hc⟩
theorem Trio.later {lo gB : Nat} {w w' : World} {l : List Vl} {cl : List ByteArray} {rs : List Rw} {v4 v5 v6 : Value} (h : Trio lo gB w l cl rs v4 v5 v6) (hb : Later w w') : Trio lo gB w' l cl rs v4 v5 v6 := h.chg (hb.chg (fun _ => False)) fun _ _ _ _ h => h
theorem Trio.shape {lo gB : Nat} {w : World} {l : List Vl} {cl : List ByteArray} {rs : List Rw} {v4 v5 v6 : Value} (h : Trio lo gB w l cl rs v4 v5 v6) : ∃ A4 c4 A5 c5 A6 c6, v4 = .slice A4 l.length c4 ∧ v5 = .slice A5 cl.length c5 ∧ v6 = .slice A6 rs.length c6 := h.drawn.shape
/-- What an append onto the list asks for, and what the store behind it leaves. -/
theorem trio_list {lo gB p : Nat} {w0 w3 : World} {C : Nat → Prop} {l : List Vl} {cl : List ByteArray} {rs : List Rw} {v4 v5 v6 : Value} {cells : List Value} {x : Vl} {us : List Value} (tt : TypeId)
    (h : Trio lo gB w0 l cl rs v4 v5 v6) (B : Box w0 gB cells) (c : Chg C w0 w3) (hC : ∀ b, C b → b < lo ∧ b ≠ gB) (hlo : lo ≤ w0.heap.size) (ho : Owns w3 (fun b => w0.heap.size ≤ b ∧ b < w3.heap.size) (encV x) us) :
    Box w3 gB cells ∧ ∃ xs, (w3.alloc (.cells us.toArray tt)).ownsRow 0 28 7 v4 l.length xs ∧ us.length = 1 * 7 ∧ (∀ u ∈ us, u.oneCell' = true) ∧ (∀ j u, us[j]? = some u → (w3.alloc (.cells us.toArray tt)).cell? ((⟨w3.heap.size, 0, none⟩ : Addr).add j) = some u) ∧
      ∀ g cap w4, w4.ownsRow 0 28 7 (.slice (some ⟨g, 0, none⟩) (l.length + 1) cap) (l.length + 1) (xs ++ us) → (w3.alloc (.cells us.toArray tt)).grownBy w4 v4.ownBlock → (v4.ownBlock = some g ∨ g = w3.heap.size + 1) →
        Box w4 gB cells ∧ Hid (Trio lo gB (w4.setCell ⟨gB, p, none⟩ (.slice (some ⟨g, 0, none⟩) (l.length + 1) cap)) (l ++ [x]) cl rs  (.slice (some ⟨g, 0, none⟩) (l.length + 1) cap) v5 v6 ∧
          Box (w4.setCell ⟨gB, p, none⟩ (.slice (some ⟨g, 0, none⟩) (l.length + 1) cap)) gB (cells.set p (.slice (some ⟨g, 0, none⟩) (l.length + 1) cap)) ∧ Chg (fun b => b = gB ∨ lo ≤ b) w3 (w4.setCell ⟨gB, p, none⟩ (.slice (some ⟨g, 0, none⟩) (l.length + 1) cap))) := by
  obtain ⟨S1, S2, S3, h1, h2, h3, h4, h5, h6, h7⟩ := h
  have hk : ∀ b, S1 b ∨ S2 b ∨ S3 b → C b → False := fun b hb hc => by have := h1 b hb; have := hC b hc; omega
  obtain ⟨B3, xs, a1, a2, a3, a4, a5⟩ := push_in (p := p) encV_len tt B h5 (fun b hb => ⟨(h1 b (.inl hb)).2.1, (h1 b (.inl hb)).2.2⟩) c (fun b hb hc => hk b (.inl hb) hc) (fun h => (hC gB h).2 rfl) ho
  refine ⟨B3, xs, a1, a2, a3, a4, fun g cap w4 hr hg hat => ?_⟩
  obtain ⟨B4, H⟩ := a5 g cap w4 hr hg hat
  obtain ⟨q1, q2, q3⟩ := H.out
  have hs3 := c.size
  have hs4 := hg.size
  simp only [World.size_alloc] at hs4
  have hlt := B.lt
  have hne := fun b (hb : v4.ownBlock = some b) => h5.block b hb
  have hsw : (w4.setCell ⟨gB, p, none⟩ (.slice (some ⟨g, 0, none⟩) (l.length + 1) cap)).heap.size = w4.heap.size := World.size_setCell ..
  refine ⟨B4, ⟨fun b => S1 b ∨ (w0.heap.size ≤ b ∧ b < w4.heap.size), S2, S3, fun b hb => ?_, fun b hb hb' => by
      rcases hb with hb | hb
      · exact h2 b hb hb'
      · have := (h1 b (.inr (.inl hb'))).2.1; omega, fun b hb hb' => by
      rcases hb with hb | hb
      · exact h3 b hb hb'
      · have := (h1 b (.inr (.inr hb'))).2.1; omega, h4, q1, (h6.chg c (fun b hb hc => hk b (.inr (.inl hb)) hc)).chg q3 fun b hb hb' => by
      rcases hb' with e | e
      · exact (h1 b (.inr (.inl hb))).2.2 e
      · exact h2 b (hne b e).1 hb, (h7.chg c (fun b hb hc => hk b (.inr (.inr hb)) hc)).chg q3 fun b hb hb' => by
      rcases hb' with e | e
      · exact (h1 b (.inr (.inr hb))).2.2 e
      · exact h3 b (hne b e).1 hb⟩, q2, q3.more fun b hb => ?_⟩
  · rw [hsw]
    have hold : S1 b ∨ S2 b ∨ S3 b → lo ≤ b ∧ b < w4.heap.size ∧ b ≠ gB := fun h => by have := h1 b h; omega
    rcases hb with hb | hb | hb
    · rcases hb with hb | hb
      · exact hold (.inl hb)
      · omega
    · exact hold (.inr (.inl hb))
    · exact hold (.inr (.inr hb))
  · rcases hb with hb | hb
    · exact .inl hb
    · exact .inr (h1 b (.inl (hne b hb).1)).1
theorem trio_cols {lo gB p : Nat} {w0 w3 : World} {C : Nat → Prop} {l : List Vl} {cl : List ByteArray} {rs : List Rw} {v4 v5 v6 : Value} {cells : List Value} {x : ByteArray} {us : List Value} (tt : TypeId)
    (h : Trio lo gB w0 l cl rs v4 v5 v6) (B : Box w0 gB cells) (c : Chg C w0 w3) (hC : ∀ b, C b → b < lo ∧ b ≠ gB) (hlo : lo ≤ w0.heap.size) (ho : Owns w3 (fun b => w0.heap.size ≤ b ∧ b < w3.heap.size) (encS x) us) :
    Box w3 gB cells ∧ ∃ xs, (w3.alloc (.cells us.toArray tt)).ownsRow 0 9 1 v5 cl.length xs ∧ us.length = 1 * 1 ∧ (∀ u ∈ us, u.oneCell' = true) ∧ (∀ j u, us[j]? = some u → (w3.alloc (.cells us.toArray tt)).cell? ((⟨w3.heap.size, 0, none⟩ : Addr).add j) = some u) ∧
      ∀ g cap w4, w4.ownsRow 0 9 1 (.slice (some ⟨g, 0, none⟩) (cl.length + 1) cap) (cl.length + 1) (xs ++ us) → (w3.alloc (.cells us.toArray tt)).grownBy w4 v5.ownBlock → (v5.ownBlock = some g ∨ g = w3.heap.size + 1) →
        Box w4 gB cells ∧ Hid (Trio lo gB (w4.setCell ⟨gB, p, none⟩ (.slice (some ⟨g, 0, none⟩) (cl.length + 1) cap)) l (cl ++ [x]) rs  v4 (.slice (some ⟨g, 0, none⟩) (cl.length + 1) cap) v6 ∧
          Box (w4.setCell ⟨gB, p, none⟩ (.slice (some ⟨g, 0, none⟩) (cl.length + 1) cap)) gB (cells.set p (.slice (some ⟨g, 0, none⟩) (cl.length + 1) cap)) ∧ Chg (fun b => b = gB ∨ lo ≤ b) w3 (w4.setCell ⟨gB, p, none⟩ (.slice (some ⟨g, 0, none⟩) (cl.length + 1) cap))) := by
  obtain ⟨S1, S2, S3, h1, h2, h3, h4, h5, h6, h7⟩ := h
  have hk : ∀ b, S1 b ∨ S2 b ∨ S3 b → C b → False := fun b hb hc => by have := h1 b hb; have := hC b hc; omega
  obtain ⟨B3, xs, a1, a2, a3, a4, a5⟩ := push_in (p := p) encS_len tt B h6 (fun b hb => ⟨(h1 b (.inr (.inl hb))).2.1, (h1 b (.inr (.inl hb))).2.2⟩) c (fun b hb hc => hk b (.inr (.inl hb)) hc) (fun h => (hC gB h).2 rfl) ho
  refine ⟨B3, xs, a1, a2, a3, a4, fun g cap w4 hr hg hat => ?_⟩
  obtain ⟨B4, H⟩ := a5 g cap w4 hr hg hat
  obtain ⟨q1, q2, q3⟩ := H.out
  have hs3 := c.size
  have hs4 := hg.size
  simp only [World.size_alloc] at hs4
  have hlt := B.lt
  have hne := fun b (hb : v5.ownBlock = some b) => h6.block b hb
  have hsw : (w4.setCell ⟨gB, p, none⟩ (.slice (some ⟨g, 0, none⟩) (cl.length + 1) cap)).heap.size = w4.heap.size := World.size_setCell ..
  refine ⟨B4, ⟨S1, fun b => S2 b ∨ (w0.heap.size ≤ b ∧ b < w4.heap.size), S3, fun b hb => ?_, fun b hb hb' => by
      rcases hb' with hb' | hb'
      · exact h2 b hb hb'
      · have := (h1 b (.inl hb)).2.1; omega, h3, fun b hb hb' => by
      rcases hb with hb | hb
      · exact h4 b hb hb'
      · have := (h1 b (.inr (.inr hb'))).2.1; omega, (h5.chg c (fun b hb hc => hk b (.inl hb) hc)).chg q3 fun b hb hb' => by
      rcases hb' with e | e
      · exact (h1 b (.inl hb)).2.2 e
      · exact h2 b hb (hne b e).1, q1, (h7.chg c (fun b hb hc => hk b (.inr (.inr hb)) hc)).chg q3 fun b hb hb' => by
      rcases hb' with e | e
      · exact (h1 b (.inr (.inr hb))).2.2 e
      · exact h4 b (hne b e).1 hb⟩, q2, q3.more fun b hb => ?_⟩
  · rw [hsw]
    have hold : S1 b ∨ S2 b ∨ S3 b → lo ≤ b ∧ b < w4.heap.size ∧ b ≠ gB := fun h => by have := h1 b h; omega
    rcases hb with hb | hb | hb
    · exact hold (.inl hb)
    · rcases hb with hb | hb
      · exact hold (.inr (.inl hb))
      · omega
    · exact hold (.inr (.inr hb))
  · rcases hb with hb | hb
    · exact .inl hb
    · exact .inr (h1 b (.inr (.inl (hne b hb).1))).1
theorem trio_rows {lo gB p : Nat} {w0 w3 : World} {C : Nat → Prop} {l : List Vl} {cl : List ByteArray} {rs : List Rw} {v4 v5 v6 : Value} {cells : List Value} {x : Rw} {us : List Value} (tt : TypeId)
    (h : Trio lo gB w0 l cl rs v4 v5 v6) (B : Box w0 gB cells) (c : Chg C w0 w3) (hC : ∀ b, C b → b < lo ∧ b ≠ gB) (hlo : lo ≤ w0.heap.size) (ho : Owns w3 (fun b => w0.heap.size ≤ b ∧ b < w3.heap.size) (encR x) us) :
    Box w3 gB cells ∧ ∃ xs, (w3.alloc (.cells us.toArray tt)).ownsRow 0 79 2 v6 rs.length xs ∧ us.length = 1 * 2 ∧ (∀ u ∈ us, u.oneCell' = true) ∧ (∀ j u, us[j]? = some u → (w3.alloc (.cells us.toArray tt)).cell? ((⟨w3.heap.size, 0, none⟩ : Addr).add j) = some u) ∧
      ∀ g cap w4, w4.ownsRow 0 79 2 (.slice (some ⟨g, 0, none⟩) (rs.length + 1) cap) (rs.length + 1) (xs ++ us) → (w3.alloc (.cells us.toArray tt)).grownBy w4 v6.ownBlock → (v6.ownBlock = some g ∨ g = w3.heap.size + 1) →
        Box w4 gB cells ∧ Hid (Trio lo gB (w4.setCell ⟨gB, p, none⟩ (.slice (some ⟨g, 0, none⟩) (rs.length + 1) cap)) l cl (rs ++ [x])  v4 v5 (.slice (some ⟨g, 0, none⟩) (rs.length + 1) cap) ∧
          Box (w4.setCell ⟨gB, p, none⟩ (.slice (some ⟨g, 0, none⟩) (rs.length + 1) cap)) gB (cells.set p (.slice (some ⟨g, 0, none⟩) (rs.length + 1) cap)) ∧ Chg (fun b => b = gB ∨ lo ≤ b) w3 (w4.setCell ⟨gB, p, none⟩ (.slice (some ⟨g, 0, none⟩) (rs.length + 1) cap))) := by
  obtain ⟨S1, S2, S3, h1, h2, h3, h4, h5, h6, h7⟩ := h
  have hk : ∀ b, S1 b ∨ S2 b ∨ S3 b → C b → False := fun b hb hc => by have := h1 b hb; have := hC b hc; omega
  obtain ⟨B3, xs, a1, a2, a3, a4, a5⟩ := push_in (p := p) encR_len tt B h7 (fun b hb => ⟨(h1 b (.inr (.inr hb))).2.1, (h1 b (.inr (.inr hb))).2.2⟩) c (fun b hb hc => hk b (.inr (.inr hb)) hc) (fun h => (hC gB h).2 rfl) ho
  refine ⟨B3, xs, a1, a2, a3, a4, fun g cap w4 hr hg hat => ?_⟩
  obtain ⟨B4, H⟩ := a5 g cap w4 hr hg hat
  obtain ⟨q1, q2, q3⟩ := H.out
  have hs3 := c.size
  have hs4 := hg.size
  simp only [World.size_alloc] at hs4
  have hlt := B.lt
  have hne := fun b (hb : v6.ownBlock = some b) => h7.block b hb
  have hsw : (w4.setCell ⟨gB, p, none⟩ (.slice (some ⟨g, 0, none⟩) (rs.length + 1) cap)).heap.size = w4.heap.size := World.size_setCell ..
  refine ⟨B4, ⟨S1, S2, fun b => S3 b ∨ (w0.heap.size ≤ b ∧ b < w4.heap.size), fun b hb => ?_, h2, fun b hb hb' => by
      rcases hb' with hb' | hb'
      · exact h3 b hb hb'
      · have := (h1 b (.inl hb)).2.1; omega, fun b hb hb' => by
      rcases hb' with hb' | hb'
      · exact h4 b hb hb'
      · have := (h1 b (.inr (.inl hb))).2.1; omega, (h5.chg c (fun b hb hc => hk b (.inl hb) hc)).chg q3 fun b hb hb' => by
      rcases hb' with e | e
      · exact (h1 b (.inl hb)).2.2 e
      · exact h3 b hb (hne b e).1, (h6.chg c (fun b hb hc => hk b (.inr (.inl hb)) hc)).chg q3 fun b hb hb' => by
      rcases hb' with e | e
      · exact (h1 b (.inr (.inl hb))).2.2 e
      · exact h4 b hb (hne b e).1, q1⟩, q2, q3.more fun b hb => ?_⟩
  · rw [hsw]
    have hold : S1 b ∨ S2 b ∨ S3 b → lo ≤ b ∧ b < w4.heap.size ∧ b ≠ gB := fun h => by have := h1 b h; omega
    rcases hb with hb | hb | hb
    · exact hold (.inl hb)
    · exact hold (.inr (.inl hb))
    · rcases hb with hb | hb
      · exact hold (.inr (.inr hb))
      · omega
  · rcases hb with hb | hb
    · exact .inl hb
    · exact .inr (h1 b (.inr (.inr (hne b hb).1))).1
end Go.Proofs.Ytghemlokpfipoaa
