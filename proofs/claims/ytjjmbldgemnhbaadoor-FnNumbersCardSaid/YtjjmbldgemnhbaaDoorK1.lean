/-
  Draws: the cursor over the bytes of a draw: l1New, l1Byte, l1Below: the walks.
-/
import Derived.Test.YtjjmbldgemnhbaaDoorD5
import Derived.Deep.QuietTactic
import Derived.BigQuiet
import Derived.StillTailTactics
import Derived.Laws.BitsLemmas
import Derived.IntWalk
namespace Go.Proofs.YtjjmbldgemnhbaaDoor
open Go.ChangeShapes Go.WideShapes Go.ChangeAt Go.RowKit
set_option linter.unusedVariables false
set_option linter.unusedSimpArgs false
set_option maxRecDepth 100000

/-- Bytes that lie below a block. -/
def BytesIn (w : World) (B : Nat) (A : Option Addr) (n : Nat) : Prop := 0 < n → ∃ b off, A = some ⟨b, off, none⟩ ∧ b < B ∧ ∀ i, i < n → ∃ x : Nat, x < 256 ∧ w.cell? ⟨b, off + i, none⟩ = some (.int .u8 (x : Int))
def BytesAt (w : World) (v : Value) (n : Nat) : Prop := ∃ A c, v = .slice A n c ∧ n ≤ c ∧ c ≤ 9223372036854775807 ∧ BytesIn w w.heap.size A n
section
variable {H : Type} {enc : TypeId × Value → H} {w : World} {sp : Nat → Bool} {held : Bool}
theorem lawsBytes_of_trod {fuel : Nat} {A : Option Addr} {n c : Nat} {x : DataW H × List MemPlace} (h : DataW.trod enc Tryd.prog w 0 sp held fuel 25 (Value.slice A n c).cells.toList = some x) : ∃ d : Nat, BytesAt w (.slice A n c) d := by
  simp only [Value.cells] at h
  rcases DataW.trod_slice Tryd.underlying25 h with ⟨hcs, _⟩ | ⟨a, len, cap, elems, rest, m, _, hcs, _, _, hl, hm, hlen, hel, _⟩
  · simp only [List.cons.injEq, Value.slice.injEq, and_true] at hcs
    obtain ⟨rfl, rfl, rfl⟩ := hcs
    exact ⟨0, none, 0, rfl, Nat.le_refl _, by omega, fun h => absurd h (by omega)⟩
  · simp only [List.cons.injEq, Value.slice.injEq, and_true] at hcs
    obtain ⟨rfl, rfl, rfl⟩ := hcs
    have hall : ∀ i, i < n → ∃ x : Nat, x < 256 ∧ w.cell? (a.add i) = some (.int .u8 (x : Int)) := by
      intro i hi
      have hx := hel i hi
      have he' : elems[i]? = some (elems[i]'(by omega)) := List.getElem?_eq_getElem (by omega)
      rw [he'] at hx
      simp only [show Tryd.prog.cellsOf 5 = 1 by kernel_rfl, Nat.mul_one, Option.bind_eq_some_iff] at hx
      obtain ⟨cs', hc, hd⟩ := hx
      obtain ⟨z, rfl, _, wz⟩ := DataW.trod_int Tryd.underlying5 hd
      obtain ⟨_, _, hat⟩ := World.cells?_some hc
      have hz : 0 ≤ z ∧ z < 256 := by have := u8_of_wf wz; unfold Between8 at this; omega
      exact ⟨z.toNat, by omega, by rw [show ((z.toNat : Nat) : Int) = z by omega]; simpa [Addr.add] using hat 0 (by omega)⟩
    refine ⟨n, some a, c, rfl, by simpa using hl, by simp only [maxLen] at hm; omega, fun hn0 => ?_⟩
    obtain ⟨x0, _, h0⟩ := hall 0 hn0
    have hsp := spot_none (by simpa [Addr.add] using h0)
    refine ⟨a.block, a.off, by rw [← hsp], ?_, fun j hj => ?_⟩
    · have := World.block_lt_of_cell? w _ h0
      simpa [Addr.add] using this
    · obtain ⟨x, hx, hc⟩ := hall j hj
      refine ⟨x, hx, ?_⟩
      rw [hsp] at hc
      rw [add_lit] at hc
      exact hc
end
theorem BytesIn.later {w w' : World} {B : Nat} {A : Option Addr} {n : Nat} (h : BytesIn w B A n) (hB : B ≤ w.heap.size) (hb : Later w w') : BytesIn w' B A n := by
  intro hn
  obtain ⟨b, off, e, hl, hc⟩ := h hn
  refine ⟨b, off, e, hl, fun i hi => ?_⟩
  obtain ⟨x, hx, hcell⟩ := hc i hi
  exact ⟨x, hx, kept_cell hb hcell⟩

theorem BytesAt.later {w w' : World} {v : Value} {n : Nat} (h : BytesAt w v n) (hW : Later w w') : BytesAt w' v n := by
  obtain ⟨A, c, rfl, h1, h2, h3⟩ := h
  refine ⟨A, c, rfl, h1, h2, fun h0 => ?_⟩
  obtain ⟨b, off, e, hl, hc⟩ := h3 h0
  exact ⟨b, off, e, Nat.lt_of_lt_of_le hl hW.size, fun i hi => by obtain ⟨x, hx, hcell⟩ := hc i hi; exact ⟨x, hx, kept_cell hW hcell⟩⟩
/-- A cursor that lies at a block. -/
def CurAt (w : World) (g : Nat) : Prop := ∃ A c n i h, Box w g [.slice A n c, .int .i64 ((i : Nat) : Int), .int .i64 h] ∧ n ≤ c ∧ c ≤ 9223372036854775807 ∧ i ≤ n ∧ BytesIn w g A n
theorem CurAt.later {w w' : World} {g : Nat} (h : CurAt w g) (hb : Later w w') : CurAt w' g := by
  obtain ⟨A, c, n, i, h, B, h1, h2, h3, h4⟩ := h
  exact ⟨A, c, n, i, h, B.later hb, h1, h2, h3, h4.later (Nat.le_of_lt B.lt) hb⟩
def onlyB (g : Nat) : Nat → Prop := fun b => b = g
theorem BytesIn.chg {w w' : World} {g B : Nat} {A : Option Addr} {n : Nat} (h : BytesIn w B A n) (hB : B ≤ g) (hg : g < w.heap.size) (c : Chg (onlyB g) w w') : BytesIn w' B A n := by
  intro hn
  obtain ⟨b, off, e, hl, hc⟩ := h hn
  refine ⟨b, off, e, hl, fun i hi => ?_⟩
  obtain ⟨x, hx, hcell⟩ := hc i hi
  exact ⟨x, hx, (World.cell?_of_block (w := w) (a := ⟨b, _, none⟩) (c.block b (by omega) (fun e => by unfold onlyB at e; omega))).trans hcell⟩
/-- What a mask leaves. -/
theorem and_mask (X : Int) (m : Nat) (hm : m < 1099511627776) : ∃ x : Nat, x ≤ m ∧ bits .and .i64 X (m : Int) = (x : Int) := by
  refine ⟨(BitVec.ofInt 64 X).toNat &&& m, Nat.and_le_right, ?_⟩
  have hle : (BitVec.ofInt 64 X).toNat &&& m ≤ m := Nat.and_le_right
  have e : (BitVec.ofInt 64 (m : Int)).toNat = m := by
    rw [BitVec.ofInt_natCast, BitVec.toNat_ofNat]
    exact Nat.mod_eq_of_lt (by omega)
  have : bits .and .i64 X (m : Int) = IntKind.i64.wrap (((BitVec.ofInt 64 X).toNat &&& (BitVec.ofInt 64 (m : Int)).toNat : Nat) : Int) := rfl
  rw [this, e]
  exact IntWalk.i64_in _ (by omega)

set_option maxHeartbeats 2000000 in
theorem drawByte (g : Nat) (W : World) (hc : CurAt W g) : Calls Tryd.prog 28 #[.pointer (some ⟨g, 0, none⟩)] W fun r w' => (∃ x : Nat, x < 256 ∧ r = .returned (.int .i64 (x : Int))) ∧ CurAt w' g ∧ Chg (onlyB g) W w' := by
  obtain ⟨A, c, n, i, h, B, h1, h2, h3, h4⟩ := hc
  have b0 := B.cell (j := 0) rfl
  have b1 := B.cell (j := 1) rfl
  have b2 := B.cell (j := 2) rfl
  have f1 := B.free 1
  have f2 := B.free 2
  have hg := B.lt
  have HFIN : Hid (∀ (k l : Nat) (u : Int), Chg (onlyB g) W (((W.setCell ⟨g, 2, none⟩ (.int .i64 u)).drewN k).drewN l) ∧ CurAt (((W.setCell ⟨g, 2, none⟩ (.int .i64 u)).drewN k).drewN l) g) := by
    intro k l u
    have hcg : Chg (onlyB g) W (((W.setCell ⟨g, 2, none⟩ (.int .i64 u)).drewN k).drewN l) := (((Chg.rfl' (onlyB g) W).set rfl).trans ((Later.drewN _ _).chg _)).trans ((Later.drewN _ _).chg _)
    exact ⟨hcg, A, c, n, i, u, ((B.set 2 (.int .i64 u)).later (Later.drewN _ _)).later (Later.drewN _ _), h1, h2, h3, h4.chg (Nat.le_refl _) hg hcg⟩
  have HFIN2 : Hid (∀ (k : Nat) (u : Int), i < n → Chg (onlyB g) W (((W.setCell ⟨g, 2, none⟩ (.int .i64 u)).drewN k).setCell ⟨g, 1, none⟩ (.int .i64 ((i : Int) + 1))) ∧ CurAt (((W.setCell ⟨g, 2, none⟩ (.int .i64 u)).drewN k).setCell ⟨g, 1, none⟩ (.int .i64 ((i : Int) + 1))) g) := by
    intro k u hlt
    have hcg : Chg (onlyB g) W (((W.setCell ⟨g, 2, none⟩ (.int .i64 u)).drewN k).setCell ⟨g, 1, none⟩ (.int .i64 ((i : Int) + 1))) := (((Chg.rfl' (onlyB g) W).set rfl).trans ((Later.drewN _ _).chg _)).set rfl
    exact ⟨hcg, A, c, n, i + 1, u, by have := ((B.set 2 (.int .i64 u)).later (Later.drewN _ k)).set 1 (.int .i64 ((i : Int) + 1)); rw [show (((i + 1 : Nat)) : Int) = (i : Int) + 1 by omega]; exact this, h1, h2, by omega, h4.chg (Nat.le_refl _) hg hcg⟩
  by_cases hlt : i < n
  · obtain ⟨b, off, rfl, hbg, hx⟩ := h4 (by omega)
    obtain ⟨x, hx256, e0⟩ := hx i hlt
    have hne : b ≠ g := by omega
    have hki : (i : Int) < (n : Int) := by omega
    clear B h4 hx
    go_enter Tryd.func28, Tryd.ntmps28
    go_wp2
    go_quiet (fail)
    go_wp2
    go_quiet (fail)
    go_wp2
    go_quiet (fail)
    go_wp2
    go_ret
    obtain ⟨x', hx', e'⟩ := and_mask _ 255 (by omega)
    exact ⟨⟨x', by omega, ret_int e'⟩, (HFIN2.out _ _ hlt).2, (HFIN2.out _ _ hlt).1⟩
  · have hn : i = n := by omega
    subst hn
    clear B h4
    go_enter Tryd.func28, Tryd.ntmps28
    go_wp2
    go_quiet (fail)
    go_wp2
    go_quiet (fail)
    go_wp2
    go_ret
    obtain ⟨x', hx', e'⟩ := and_mask _ 255 (by omega)
    exact ⟨⟨x', by omega, ret_int e'⟩, (HFIN.out _ _ _).2, (HFIN.out _ _ _).1⟩

/-- A number below n. -/
theorem drawBelow (n g : Nat) (hn : 0 < n) (hn2 : n ≤ 256) (W : World) (hc : CurAt W g) : Calls Tryd.prog 23 #[.pointer (some ⟨g, 0, none⟩), .int .i64 (n : Int)] W fun r w' => (∃ x : Nat, x < n ∧ r = .returned (.int .i64 (x : Int))) ∧ CurAt w' g ∧ Chg (onlyB g) W w' := by
  have C := drawByte g W hc
  have HC := Lib.hid C
  have hp : (0 : Int) < (n : Int) := by omega
  have hp2 : (n : Int) ≤ 256 := by omega
  clear C hc
  go_enter Tryd.func23, Tryd.ntmps23
  go_wp2_with fail
  refine HC.out.mono ?_; rintro e w1 ⟨⟨x, hx, rfl⟩, hcu, hch⟩
  have ht : (x : Int).tmod (n : Int) = ((x % n : Nat) : Int) := rfl
  have ht2 : (x : Int) % (n : Int) = ((x % n : Nat) : Int) := rfl
  have hb : x % n < n := Nat.mod_lt _ hn
  have HB := Lib.hid hb
  have H1 := Lib.hid hcu; have H2 := Lib.hid hch
  obtain ⟨y, hy⟩ : ∃ y, y = x % n := ⟨_, rfl⟩
  rw [← hy] at ht ht2 HB
  clear hcu hch hb hy
  go_wp2_with fail
  go_ret
  exact ⟨⟨y, HB.out, rfl⟩, H1.out, H2.out⟩

theorem drawNew (v : Value) (n : Nat) (W : World) (h : BytesAt W v n) (hn : n ≤ 1048576) : Calls Tryd.prog 18 #[v] W fun r w' => (∃ g, r = .returned (.pointer (some ⟨g, 0, none⟩)) ∧ W.heap.size ≤ g ∧ CurAt w' g) ∧ Later W w' := by
  obtain ⟨A, c, rfl, h1, h2, h3⟩ := h
  have HX := Lib.hid h3
  clear h3
  go_enter Tryd.func18, Tryd.ntmps18
  go_wp2_with fail
  go_loopw [3, 4] (fun hh i wr => ∃ (x : Int) (j : Nat), hh = .int .i64 x ∧ j ≤ n ∧ i = .int .i64 (j : Int) ∧ Later W wr) (fun _ i _ => n - (intOf i).toNat)
  case atStart => exact ⟨_, 0, rfl, Nat.zero_le _, rfl, Later.rfl' _⟩
  case round =>
    obtain ⟨x, j, rfl, hj, rfl, hw⟩ := hrel
    have HEND : Hid (∀ u : Int, CurAt (wr.alloc (.cells #[.slice A n c, .int .i64 0, .int .i64 u] 46)) wr.heap.size ∧ Later W (wr.alloc (.cells #[.slice A n c, .int .i64 0, .int .i64 u] 46))) := by
      intro u
      have hB : BytesIn wr wr.heap.size A n := by
        intro h0
        obtain ⟨b, off, e, hl, hc⟩ := HX.out h0
        exact ⟨b, off, e, Nat.lt_of_lt_of_le hl hw.size, fun i hi => by obtain ⟨x, hx, hcell⟩ := hc i hi; exact ⟨x, hx, kept_cell hw hcell⟩⟩
      exact ⟨⟨A, c, n, 0, u, box_alloc wr _ _, h1, h2, Nat.zero_le _, hB.later (Nat.le_refl _) ((Later.rfl' _).alloc _)⟩, hw.alloc _⟩
    have HSZ := Lib.hid hw.size
    by_cases hlt : j < n
    · by_cases h4 : j < 4000
      · obtain ⟨b, off, rfl, hb, hx⟩ := HX.out (by omega)
        obtain ⟨z, hz, e0⟩ := hx j hlt
        have e1 := kept_cell hw e0
        have HW := Lib.hid hw
        have hki : (j : Int) < (n : Int) := by omega
        have h4' : (j : Int) < 4000 := by omega
        clear hx e0 hw HEND
        go_wp2_with fail
        go_roundw
        case rel => exact ⟨_, j + 1, rfl, by omega, by go_num, HW.out⟩
        case measure => simp [intOf]; omega
      · have h4' : ¬ (j : Int) < 4000 := by omega
        have hki : (j : Int) < (n : Int) := by omega
        clear hw
        go_wp2_with fail
        go_ret
        exact ⟨⟨_, rfl, HSZ.out, (HEND.out _).1⟩, (HEND.out _).2⟩
    · have : j = n := by omega
      subst this
      clear hw
      go_wp2_with fail
      go_ret
      exact ⟨⟨_, rfl, HSZ.out, (HEND.out _).1⟩, (HEND.out _).2⟩
theorem bigBytes (v : Value) (n : Nat) (W : World) (h : BytesAt W v n) : Calls Tryd.prog 10 #[v] W fun r w' => r = .returned (.bool (decide (1048576 < n))) ∧ Later W w' := by
  obtain ⟨A, c, rfl, h1, h2, h3⟩ := h
  clear h3
  by_cases hb : 1048576 < n
  · have hd : decide ((1048576 : Int) < (n : Int)) = true := by simp; omega
    have hd2 : decide (1048576 < n) = true := by simp; omega
    have HD := Lib.hid hd2
    rw [hd2]
    clear hb hd2
    go_enter Tryd.func10, Tryd.ntmps10
    go_wp2
    go_ret
    exact ⟨ret_bool (by first | rfl | exact hd | simp [hd]), Later.rfl' _⟩
  · have hd : decide ((1048576 : Int) < (n : Int)) = false := by simp; omega
    have hd2 : decide (1048576 < n) = false := by simp; omega
    rw [hd2]
    clear hb hd2
    go_enter Tryd.func10, Tryd.ntmps10
    go_wp2
    go_ret
    exact ⟨ret_bool (by first | rfl | exact hd | simp [hd]), Later.rfl' _⟩
end Go.Proofs.YtjjmbldgemnhbaaDoor
