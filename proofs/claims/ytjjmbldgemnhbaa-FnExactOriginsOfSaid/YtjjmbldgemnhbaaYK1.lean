/-
  Draws: the cursor over the bytes of a draw: l1New, l1Byte, l1Below: the walks.
-/
import Derived.Test.YtjjmbldgemnhbaaYD5
import Derived.Deep.QuietTactic
import Derived.BigQuiet
import Derived.StillTailTactics
import Derived.Laws.BitsLemmas
import Derived.IntWalk
namespace Go.Proofs.Ytjjmbldgemnhbaa
open Go.ChangeShapes Go.WideShapes Go.ChangeAt Go.RowKit
set_option linter.unusedVariables false
set_option linter.unusedSimpArgs false
set_option maxRecDepth 100000

/-- Bytes that lie below a block. -/
def BytesIn (w : World) (B : Nat) (A : Option Addr) (n : Nat) : Prop := 0 < n → ∃ b off, A = some ⟨b, off, none⟩ ∧ b < B ∧ ∀ i, i < n → ∃ x : Nat, x < 256 ∧ w.cell? ⟨b, off + i, none⟩ = some (.int .u8 (x : Int))
def BytesAt (w : World) (v : Value) (n : Nat) : Prop := ∃ A c, v = .slice A n c ∧ n ≤ c ∧ c ≤ 9223372036854775807 ∧ BytesIn w w.heap.size A n
section
variable {H : Type} {enc : TypeId × Value → H} {w : World} {sp : Nat → Bool} {held : Bool}
theorem lawsBytes_of_trod {fuel : Nat} {A : Option Addr} {n c : Nat} {x : DataW H × List MemPlace} (h : DataW.trod enc Try.prog w 0 sp held fuel 105 (Value.slice A n c).cells.toList = some x) : ∃ d : Nat, BytesAt w (.slice A n c) d := by
  simp only [Value.cells] at h
  rcases DataW.trod_slice Try.underlying105 h with ⟨hcs, _⟩ | ⟨a, len, cap, elems, rest, m, _, hcs, _, _, hl, hm, hlen, hel, _⟩
  · simp only [List.cons.injEq, Value.slice.injEq, and_true] at hcs
    obtain ⟨rfl, rfl, rfl⟩ := hcs
    exact ⟨0, none, 0, rfl, Nat.le_refl _, by omega, fun h => absurd h (by omega)⟩
  · simp only [List.cons.injEq, Value.slice.injEq, and_true] at hcs
    obtain ⟨rfl, rfl, rfl⟩ := hcs
    have hall : ∀ i, i < n → ∃ x : Nat, x < 256 ∧ w.cell? (a.add i) = some (.int .u8 (x : Int)) := by
      intro i hi
      have hx := hel i hi
      have he' : elems[i]? = some (elems[i]'(by omega)) := List.getElem?_eq_getElem (by omega)
      rw [he'] at hx
      simp only [show Try.prog.cellsOf 5 = 1 by kernel_rfl, Nat.mul_one, Option.bind_eq_some_iff] at hx
      obtain ⟨cs', hc, hd⟩ := hx
      obtain ⟨z, rfl, _, wz⟩ := DataW.trod_int Try.underlying5 hd
      obtain ⟨_, _, hat⟩ := World.cells?_some hc
      have hz : 0 ≤ z ∧ z < 256 := by have := u8_of_wf wz; unfold Between8 at this; omega
      exact ⟨z.toNat, by omega, by rw [show ((z.toNat : Nat) : Int) = z by omega]; simpa [Addr.add] using hat 0 (by omega)⟩
    refine ⟨n, some a, c, rfl, by simpa using hl, by simp only [maxLen] at hm; omega, fun hn0 => ?_⟩
    obtain ⟨x0, _, h0⟩ := hall 0 hn0
    have hsp := spot_none (by simpa [Addr.add] using h0)
    refine ⟨a.block, a.off, by rw [← hsp], ?_, fun j hj => ?_⟩
    · have := World.block_lt_of_cell? w _ h0
      simpa [Addr.add] using this
    · obtain ⟨x, hx, hc⟩ := hall j hj
      refine ⟨x, hx, ?_⟩
      rw [hsp] at hc
      rw [add_lit] at hc
      exact hc
end
theorem BytesIn.later {w w' : World} {B : Nat} {A : Option Addr} {n : Nat} (h : BytesIn w B A n) (hB : B ≤ w.heap.size) (hb : Later w w') : BytesIn w' B A n := by
  intro hn
  obtain ⟨b, off, e, hl, hc⟩ := h hn
  refine ⟨b, off, e, hl, fun i hi => ?_⟩
  obtain ⟨x, hx, hcell⟩ := hc i hi
  exact ⟨x, hx, kept_cell hb hcell⟩

theorem BytesAt.later {w w' : World} {v : Value} {n : Nat} (h : BytesAt w v n) (hW : Later w w') : BytesAt w' v n := by
  obtain ⟨A, c, rfl, h1, h2, h3⟩ := h
  refine ⟨A, c, rfl, h1, h2, fun h0 => ?_⟩
  obtain ⟨b, off, e, hl, hc⟩ := h3 h0
  exact ⟨b, off, e, Nat.lt_of_lt_of_le hl hW.size, fun i hi => by obtain ⟨x, hx, hcell⟩ := hc i hi; exact ⟨x, hx, kept_cell hW hcell⟩⟩
/-- A cursor that lies at a block. -/
def CurAt (w : World) (g : Nat) : Prop := ∃ A c n i h, Box w g [.slice A n c, .int .i64 ((i : Nat) : Int), .int .i64 h] ∧ n ≤ c ∧ c ≤ 9223372036854775807 ∧ i ≤ n ∧ BytesIn w g A n
theorem CurAt.later {w w' : World} {g : Nat} (h : CurAt w g) (hb : Later w w') : CurAt w' g := by
  obtain ⟨A, c, n, i, h, B, h1, h2, h3, h4⟩ := h
  exact ⟨A, c, n, i, h, B.later hb, h1, h2, h3, h4.later (Nat.le_of_lt B.lt) hb⟩
def onlyB (g : Nat) : Nat → Prop := fun b => b = g
theorem BytesIn.chg {w w' : World} {g B : Nat} {A : Option Addr} {n : Nat} (h : BytesIn w B A n) (hB : B ≤ g) (hg : g < w.heap.size) (c : Chg (onlyB g) w w') : BytesIn w' B A n := by
  intro hn
  obtain ⟨b, off, e, hl, hc⟩ := h hn
  refine ⟨b, off, e, hl, fun i hi => ?_⟩
  obtain ⟨x, hx, hcell⟩ := hc i hi
  exact ⟨x, hx, (World.cell?_of_block (w := w) (a := ⟨b, _, none⟩) (c.block b (by omega) (fun e => by unfold onlyB at e; omega))).trans hcell⟩
/-- What a mask leaves. -/
theorem and_mask (X : Int) (m : Nat) (hm : m < 1099511627776) : ∃ x : Nat, x ≤ m ∧ bits .and .i64 X (m : Int) = (x : Int) := by
  refine ⟨(BitVec.ofInt 64 X).toNat &&& m, Nat.and_le_right, ?_⟩
  have hle : (BitVec.ofInt 64 X).toNat &&& m ≤ m := Nat.and_le_right
  have e : (BitVec.ofInt 64 (m : Int)).toNat = m := by
    rw [BitVec.ofInt_natCast, BitVec.toNat_ofNat]
    exact Nat.mod_eq_of_lt (by omega)
  have : bits .and .i64 X (m : Int) = IntKind.i64.wrap (((BitVec.ofInt 64 X).toNat &&& (BitVec.ofInt 64 (m : Int)).toNat : Nat) : Int) := rfl
  rw [this, e]
  exact IntWalk.i64_in _ (by omega)

end Go.Proofs.Ytjjmbldgemnhbaa
