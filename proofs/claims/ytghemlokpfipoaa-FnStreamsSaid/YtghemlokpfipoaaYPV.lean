/-
  Two drawn values: words for their draws.
-/
import Derived.Test.YtghemlokpfipoaaYVD4
import Derived.Test.YtghemlokpfipoaaYCP2
namespace Go.Proofs.Ytghemlokpfipoaa
open Go.ChangeShapes Go.WideShapes Go.ChangeAt Go.RowKit
set_option linter.unusedVariables false
set_option linter.unusedSimpArgs false
set_option maxRecDepth 100000

/-- Two values that a draw has made, as they lie. -/
def PairA (M g : Nat) (W w' : World) (r : Ending) : Prop := (∃ d d' z0 z1 z2 z3 A1 z4 z7 A2 z5 z8 A3 z6 z9 y0 y1 y2 y3 B1 y4 y7 B2 y5 y8 B3 y6 y9,
  r = .returned (.tuple #[.agg #[.int .i64 z0, .int .i64 z1, .int .i64 z2, .string z3, .slice A1 z4 z7, .slice A2 z5 z8, .slice A3 z6 z9], .agg #[.int .i64 y0, .int .i64 y1, .int .i64 y2, .string y3, .slice B1 y4 y7, .slice B2 y5 y8, .slice B3 y6 y9]]) ∧
  Ats w' (fun b => W.heap.size ≤ b) (encV d) [.int .i64 z0, .int .i64 z1, .int .i64 z2, .string z3, .slice A1 z4 z7, .slice A2 z5 z8, .slice A3 z6 z9] ∧
  Ats w' (fun b => W.heap.size ≤ b) (encV d') [.int .i64 y0, .int .i64 y1, .int .i64 y2, .string y3, .slice B1 y4 y7, .slice B2 y5 y8, .slice B3 y6 y9] ∧ d.cost ≤ M ∧ d'.cost ≤ M) ∧ CurAt w' g ∧ Chg (onlyB g) W w'
theorem pair_end2 {M g : Nat} {W w4 wf : World} {r : Ending} {d d' : Vl} {z0 z1 z2 : Int} {z3 : ByteArray} {A1 A2 A3 : Option Addr} {z4 z5 z6 z7 z8 z9 : Nat} {y0 y1 y2 : Int} {y3 : ByteArray} {B1 B2 B3 : Option Addr} {y4 y5 y6 y7 y8 y9 : Nat}
    (hr : r = .returned (.tuple #[.agg #[.int .i64 z0, .int .i64 z1, .int .i64 z2, .string z3, .slice A1 z4 z7, .slice A2 z5 z8, .slice A3 z6 z9], .agg #[.int .i64 y0, .int .i64 y1, .int .i64 y2, .string y3, .slice B1 y4 y7, .slice B2 y5 y8, .slice B3 y6 y9]]))
    (ho : Ats w4 (fun b => W.heap.size + 2 ≤ b) (encV d) [.int .i64 z0, .int .i64 z1, .int .i64 z2, .string z3, .slice A1 z4 z7, .slice A2 z5 z8, .slice A3 z6 z9])
    (ho' : Ats w4 (fun b => W.heap.size + 2 ≤ b) (encV d') [.int .i64 y0, .int .i64 y1, .int .i64 y2, .string y3, .slice B1 y4 y7, .slice B2 y5 y8, .slice B3 y6 y9])
    (hcu : CurAt w4 g) (hch : Chg (freshB g W.heap.size) W w4) (hlt : g < W.heap.size) (hM : d.cost ≤ M) (hM' : d'.cost ≤ M) (c : Chg (fun b => b = W.heap.size ∨ b = W.heap.size + 1) w4 wf) : PairA M g W wf r := by
  refine ⟨⟨d, d', _, _, _, _, _, _, _, _, _, _, _, _, _, _, _, _, _, _, _, _, _, _, _, _, _, _, hr, (ho.chg c fun b h1 h2 => by omega).more fun b h => by omega, (ho'.chg c fun b h1 h2 => by omega).more fun b h => by omega, hM, hM'⟩,
    hcu.chg c fun b hb h => by omega, chg_only (hch.trans (c.more fun k hk => .inr (by omega)))⟩
theorem leaf_own (lo : Nat) (w : World) {k n s : Int} {t : ByteArray} (hk : Between64 k) (hn : Between64 n) (hs : Between64 s) (ht : t.size ≤ 9223372036854775807) : Ats w (fun b => lo ≤ b) (encV (leafD k n s t)) [.int .i64 k, .int .i64 n, .int .i64 s, .string t, .slice none 0 0, .slice none 0 0, .slice none 0 0] :=
  ((DrawnT.nils lo w).owns hk hn hs ht).ats.more fun b h => h.1
theorem put_two (w : World) (R : Nat) (vs vs' : List Value) : Chg (fun b => b = R ∨ b = R + 1) w (setFrom (setFrom w R 0 vs) (R + 1) 0 vs') :=
  ((chg_setFrom vs w 0).more fun k hk => .inl hk).trans ((chg_setFrom vs' _ 0).more fun k hk => .inr hk)

/-- A variable's seven cells. -/
abbrev Held7 (w : World) (H : Nat) (c0 c1 c2 c3 c4 c5 c6 : Value) : Prop := w.cell? ⟨H, 0, none⟩ = some c0 ∧ w.cell? ⟨H, 1, none⟩ = some c1 ∧ w.cell? ⟨H, 2, none⟩ = some c2 ∧ w.cell? ⟨H, 3, none⟩ = some c3 ∧ w.cell? ⟨H, 4, none⟩ = some c4 ∧ w.cell? ⟨H, 5, none⟩ = some c5 ∧ w.cell? ⟨H, 6, none⟩ = some c6
theorem Held7.of {w : World} {H : Nat} {c0 c1 c2 c3 c4 c5 c6 : Value} (B : Box w H [c0, c1, c2, c3, c4, c5, c6]) : Held7 w H c0 c1 c2 c3 c4 c5 c6 := ⟨B.cell rfl, B.cell rfl, B.cell rfl, B.cell rfl, B.cell rfl, B.cell rfl, B.cell rfl⟩
theorem Held7.block {w w' : World} {H : Nat} {c0 c1 c2 c3 c4 c5 c6 : Value} (h : Held7 w H c0 c1 c2 c3 c4 c5 c6) (hb : w'.heap[H]? = w.heap[H]?) : Held7 w' H c0 c1 c2 c3 c4 c5 c6 :=
  ⟨(World.cell?_of_block hb).trans h.1, (World.cell?_of_block hb).trans h.2.1, (World.cell?_of_block hb).trans h.2.2.1, (World.cell?_of_block hb).trans h.2.2.2.1, (World.cell?_of_block hb).trans h.2.2.2.2.1, (World.cell?_of_block hb).trans h.2.2.2.2.2.1, (World.cell?_of_block hb).trans h.2.2.2.2.2.2⟩
theorem Held7.set {w : World} {H : Nat} {c0 c1 c2 c3 c4 c5 c6 : Value} (h : Held7 w H c0 c1 c2 c3 c4 c5 c6) {g : Nat} (hg : H ≠ g) (a0 a1 a2 a3 a4 a5 a6 : Value) :
    Held7 (((((((w.setCell ⟨g, 0, none⟩ a0).setCell ⟨g, 1, none⟩ a1).setCell ⟨g, 2, none⟩ a2).setCell ⟨g, 3, none⟩ a3).setCell ⟨g, 4, none⟩ a4).setCell ⟨g, 5, none⟩ a5).setCell ⟨g, 6, none⟩ a6) H c0 c1 c2 c3 c4 c5 c6 := by
  have hb := block_setFrom (g := g) (b := H) hg [a0, a1, a2, a3, a4, a5, a6] w 0
  rw [chain7] at hb
  exact h.block hb
theorem Held7.drew {w : World} {H : Nat} {c0 c1 c2 c3 c4 c5 c6 : Value} (h : Held7 w H c0 c1 c2 c3 c4 c5 c6) : Held7 w.drew H c0 c1 c2 c3 c4 c5 c6 := h.block rfl
theorem chain_chg (w : World) (g : Nat) (a0 a1 a2 a3 a4 a5 a6 : Value) : Chg (fun b => b = g) w (((((((w.setCell ⟨g, 0, none⟩ a0).setCell ⟨g, 1, none⟩ a1).setCell ⟨g, 2, none⟩ a2).setCell ⟨g, 3, none⟩ a3).setCell ⟨g, 4, none⟩ a4).setCell ⟨g, 5, none⟩ a5).setCell ⟨g, 6, none⟩ a6) := by
  have h := chg_setFrom (g := g) [a0, a1, a2, a3, a4, a5, a6] w 0
  rw [chain7] at h
  exact h
theorem box_blk {w w' : World} {g : Nat} {xs : List Value} (h : Box w g xs) (hb : w'.heap[g]? = w.heap[g]?) : Box w' g xs := by
  obtain ⟨e, h⟩ := h
  refine ⟨e, row_block h fun g' hg' => ?_⟩
  simp only [Value.ownBlock, Option.some.injEq] at hg'
  subst hg'
  exact hb
/-- A second value drawn, wherever the first result was stored. -/
def CallB (g R H : Nat) (w3 W' w4 : World) (r : Ending) : Prop := ∃ d2 y0 y1 y2 y3 B1 y4 y7 B2 y5 y8 B3 y6 y9, r = .returned (.agg #[.int .i64 y0, .int .i64 y1, .int .i64 y2, .string y3, .slice B1 y4 y7, .slice B2 y5 y8, .slice B3 y6 y9]) ∧
  Ats w4 (fun b => R + 2 ≤ b) (encV d2) [.int .i64 y0, .int .i64 y1, .int .i64 y2, .string y3, .slice B1 y4 y7, .slice B2 y5 y8, .slice B3 y6 y9] ∧ d2.cost ≤ 121000 ∧ CurAt w4 g ∧ Chg (fun b => b = g ∨ b = R) w3 w4 ∧
  w4.heap[R]? = W'.heap[R]? ∧ w4.heap[R + 1]? = w3.heap[R + 1]? ∧ w4.heap[H]? = W'.heap[H]?
theorem callB_bent {g R H : Nat} {w3 : World} (hcu : CurAt w3 g) (hg : g < R) (hH : R + 2 ≤ H) (hs : H < w3.heap.size) (W' : World) (c : Chg (fun b => b = R) w3 W') : Calls Try.prog 124 #[.pointer (some ⟨g, 0, none⟩)] W' fun r w' => CallB g R H w3 W' w' r := by
  refine (drawBent g W' (hcu.chg c fun b hb h => by omega)).mono ?_
  rintro r w4 ⟨⟨d2, ⟨y0, y1, y2, y3, B1, y4, y7, B2, y5, y8, B3, y6, y9, rfl, ho⟩, hM⟩, hcu4, hch⟩
  have hsz := c.size
  exact ⟨d2, _, _, _, _, _, _, _, _, _, _, _, _, _, rfl, ho.ats.more fun b hb => by omega, hM, hcu4, (c.more fun k hk => .inr hk).trans (hch.more fun k hk => .inl hk),
    hch.block _ (by omega) fun h => by unfold onlyB at h; omega, (hch.block _ (by omega) fun h => by unfold onlyB at h; omega).trans (c.block _ (by omega) fun h => by omega), hch.block _ (by omega) fun h => by unfold onlyB at h; omega⟩
theorem callB_copy {g R H : Nat} {w3 : World} {S : Nat → Prop} {d : Vl} {cs : List Value} (h : Ats w3 S (encV d) cs) (hS : ∀ b, S b → b ≠ R) (hM : d.cost ≤ 121000) (hcu : CurAt w3 g) (hg : g < R) (hH : R + 2 ≤ H) (hs : H < w3.heap.size) (W' : World) (c : Chg (fun b => b = R) w3 W') : Calls Try.prog 100 #[.agg cs.toArray] W' fun r w' => CallB g R H w3 W' w' r := by
  refine (specCopy d (by omega) W' S cs (h.chg c fun b h1 h2 => hS b h1 h2)).mono ?_
  rintro r w4 ⟨⟨y0, y1, y2, y3, B1, y4, y7, B2, y5, y8, B3, y6, y9, rfl, ho⟩, hb⟩
  have hsz := c.size
  have hch := hb.chg (fun _ => False)
  exact ⟨d, _, _, _, _, _, _, _, _, _, _, _, _, _, rfl, ho.ats.more fun b hb => by omega, hM, (hcu.chg c fun b hb h => by omega).later hb, (c.more fun k hk => .inr hk).trans (hch.more fun k hk => False.elim hk),
    hch.block _ (by omega) fun h => h, (hch.block _ (by omega) fun h => h).trans (c.block _ (by omega) fun h => by omega), hch.block _ (by omega) fun h => h⟩
end Go.Proofs.Ytghemlokpfipoaa
