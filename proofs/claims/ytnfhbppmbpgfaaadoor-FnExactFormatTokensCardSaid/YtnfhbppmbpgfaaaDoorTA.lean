/-
  Tokens in slices: szTokenS, toTokenS, eqTokenS: the walks.
-/
import Derived.Test.YtnfhbppmbpgfaaaDoorD7
namespace Go.Proofs.YtnfhbppmbpgfaaaDoor
open Go.ChangeShapes Go.WideShapes Go.ChangeAt Go.RowKit
set_option linter.unusedVariables false
set_option linter.unusedSimpArgs false
set_option maxRecDepth 100000

theorem SlAt.tokAt {w : World} {S : Nat → Prop} {l : List Tk} {A : Option Addr} {n c : Nat} (h : SlAt w S 4 encT l (.slice A n c)) {i : Nat} (hi : i < l.length) :
    ∃ b off, A = some ⟨b, off, none⟩ ∧ b < w.heap.size ∧ S b ∧ w.cell? ⟨b, off + i * 4, none⟩ = some (.int .i64 l[i].kind) ∧ w.cell? ⟨b, off + i * 4 + 1, none⟩ = some (.int .i64 l[i].n) ∧ w.cell? ⟨b, off + i * 4 + 2, none⟩ = some (.int .i64 l[i].at_) ∧ w.cell? ⟨b, off + i * 4 + 3, none⟩ = some (.string l[i].text) ∧
      Between64 l[i].kind ∧ Between64 l[i].n ∧ Between64 l[i].at_ ∧ l[i].text.size ≤ 9223372036854775807 := by
  obtain ⟨b, off, e, hl, hs, hc⟩ := h.elem encT_len hi (by omega)
  obtain ⟨u0, g0, a0⟩ := hc 0 _ (by omega) rfl
  obtain ⟨u1, g1, a1⟩ := hc 1 _ (by omega) rfl
  obtain ⟨u2, g2, a2⟩ := hc 2 _ (by omega) rfl
  obtain ⟨u3, g3, a3⟩ := hc 3 _ (by omega) rfl
  obtain ⟨rfl, b0⟩ := a0.int_inv
  obtain ⟨rfl, b1⟩ := a1.int_inv
  obtain ⟨rfl, b2⟩ := a2.int_inv
  obtain ⟨rfl, b3⟩ := a3.str_inv
  simp only [Nat.add_assoc] at g0 g1 g2 g3 ⊢
  exact ⟨b, off, e, hl, hs, by simpa using g0, g1, g2, g3, b0, b1, b2, b3⟩
section
variable {H : Type} {enc : TypeId × Value → H} {w : World} {sp : Nat → Bool} {held : Bool}
theorem lawsToks_of_trod {fuel : Nat} {A : Option Addr} {n c : Nat} {x : DataW H × List MemPlace} (h : DataW.trod enc Tryd.prog w 0 sp held fuel 52 [.slice A n c] = some x) : ∃ l, ToksAt w (.slice A n c) l :=
  cell_sl encT_len (by omega) Tryd.underlying52 (by kernel_rfl) (fun m' _ cs x hx => elem_tok hx) h
end
theorem info_token : (Tryd.prog.info? 45).map (fun i => (i.zero, i.size, i.bytes)) = some (some (.agg #[.int .i64 0, .int .i64 0, .int .i64 0, .string ByteArray.empty]), 4, 40) := by kernel_rfl

theorem szTk (k n a : Int) (t : ByteArray) (left : Int) (h0 : 0 ≤ left) (h1 : left ≤ 1048576) (ht : t.size ≤ 9223372036854775807) (W : World) :
    Calls Tryd.prog 23 #[.agg #[.int .i64 k, .int .i64 n, .int .i64 a, .string t], .int .i64 left] W fun e w' => e = .returned (.int .i64 (szR left t.size)) ∧ Later W w' := by
  rcases szR_range left t.size h0 h1 with ⟨e, hl⟩ | ⟨e, hl⟩
  · have HV := Lib.hid e
    have hn : left - t.size < 0 := by omega
    rw [e]
    clear e hl HV
    go_enter Tryd.func23, Tryd.ntmps23
    go_wp2
    go_ret
    exact ⟨rfl, (Later.rfl' _).alloc _⟩
  · rw [e]
    clear e
    go_enter Tryd.func23, Tryd.ntmps23
    go_wp2
    go_ret
    exact ⟨rfl, (Later.rfl' _).alloc _⟩
theorem toTk (k n a : Int) (t : ByteArray) (W : World) : Calls Tryd.prog 25 #[.agg #[.int .i64 k, .int .i64 n, .int .i64 a, .string t]] W fun e w' => e = .returned (.agg #[.int .i64 k, .int .i64 n, .int .i64 a, .string t]) ∧ Later W w' := by
  go_enter Tryd.func25, Tryd.ntmps25
  go_wp2
  refine bodyPost_ret (v := .agg #[.int .i64 k, .int .i64 n, .int .i64 a, .string t]) (by simp [results, Tryd.results25, go_sem]) rfl ⟨rfl, (((Later.rfl' _).alloc _).alloc _).alloc _⟩
theorem eqTk (k n a : Int) (t : ByteArray) (W : World) : Calls Tryd.prog 38 #[.agg #[.int .i64 k, .int .i64 n, .int .i64 a, .string t], .agg #[.int .i64 k, .int .i64 n, .int .i64 a, .string t]] W fun r w' => r = .returned (.bool true) ∧ Later W w' := by
  go_enter Tryd.func38, Tryd.ntmps38
  go_wp2_with fail
  go_ret
  exact ⟨rfl, ((Later.rfl' _).alloc _).alloc _⟩

def Tk.cost (t : Tk) : Nat := t.text.size
theorem szTokenS (l : List Tk) (left : Int) (h0 : 0 ≤ left) (h1 : left ≤ 1048576) (W : World) (S : Nat → Prop) (v : Value) (h : SlAt W S 4 encT l v) :
    Calls Tryd.prog 32 #[v, .int .i64 left] W fun r w' => r = .returned (.int .i64 (szR left (l.length + sumN Tk.cost l))) ∧ Later W w' := by
  obtain ⟨A, c, rfl, hlc, hcm⟩ := sl_parts h
  have HE := Lib.hid h; clear h
  by_cases hl : left < (l.length : Int)
  · have HV : Hid (szR left (l.length + sumN Tk.cost l) = -1) := szR_big (by omega)
    go_enter Tryd.func32, Tryd.ntmps32
    go_wp2
    go_ret
    exact ⟨ret_int HV.out.symm, Later.rfl' _⟩
  · have hl' : (l.length : Int) ≤ left := by omega
    clear hl
    go_enter Tryd.func32, Tryd.ntmps32
    go_wp2
    go_loopw [1, 5] (fun lf i wr => ∃ j : Nat, j ≤ l.length ∧ i = .int .i64 j ∧ ((l.length + sumN Tk.cost (l.take j) : Nat) : Int) ≤ left ∧ lf = .int .i64 (left - ((l.length + sumN Tk.cost (l.take j) : Nat) : Int)) ∧ Later W wr) (fun _ i _ => l.length - (intOf i).toNat)
    case atStart => exact ⟨0, Nat.zero_le _, rfl, by simpa [sumN] using hl', by simp [sumN], Later.rfl' _⟩
    case round =>
      obtain ⟨j, hj, rfl, hle0, rfl, hw⟩ := hrel
      have hle := sumN_le Tk.cost l j
      by_cases hlt : j < l.length
      · obtain ⟨b, off, rfl, hb, _, e0, e1, e2, e3, _, _, _, hb3⟩ := (HE.out.later hw).tokAt hlt
        have hs := sumN_succ (f := Tk.cost) hlt
        have hs2 := sumN_le Tk.cost l (j + 1)
        unfold Tk.cost at hs
        simp only [show (fun t : Tk => t.text.size) = Tk.cost from rfl] at hs
        obtain ⟨⟨y0, y1, y2, y3⟩, hX⟩ : ∃ X, X = l[j] := ⟨_, rfl⟩
        rw [← hX] at e0 e1 e2 e3 hs hb3
        simp only at e0 e1 e2 e3 hs hb3
        obtain ⟨N, hN⟩ : ∃ N, N = y3.size := ⟨_, rfl⟩
        obtain ⟨M, hM⟩ : ∃ M, M = l.length + sumN Tk.cost (l.take j) := ⟨_, rfl⟩
        obtain ⟨M', hM'⟩ : ∃ M, M = l.length + sumN Tk.cost (l.take (j + 1)) := ⟨_, rfl⟩
        obtain ⟨Z, hZ⟩ : ∃ Z, Z = l.length + sumN Tk.cost l := ⟨_, rfl⟩
        rw [← hM] at hle0 ⊢
        rw [← hN] at hs
        have hMM : M' = M + N := by omega
        have hMZ : M' ≤ Z := by omega
        have hr := szR_range (left - M) N (by omega) (by omega)
        have C := fun W' => szTk y0 y1 y2 y3 (left - M) (by omega) (by omega) hb3 W'
        rw [← hN] at C
        obtain ⟨q, hq'⟩ : ∃ q, q = szR (left - M) N := ⟨_, rfl⟩
        simp only [← hq'] at C hr
        have HM' : Hid (M' = l.length + sumN Tk.cost (l.take (j + 1))) := hM'
        have HZ : Hid (Z = l.length + sumN Tk.cost l) := hZ
        have HS : Hid (M' = M + N) := hMM
        have HC := Lib.hid C
        have HW2 := Lib.hid hw
        clear C hN hM hM' hZ hs hs2 hle hw hq' hMM hX
        rcases hr with ⟨hq1, hq2⟩ | ⟨hq1, hq2⟩
        · have hneg : q < 0 := by omega
          have HV : Hid (szR left Z = -1) := szR_big (by have := HS.out; omega)
          clear hq1
          go_wp2_with fail
          refine (HC.out _).mono ?_; rintro r w1 ⟨rfl, hb1⟩
          go_wp2
          go_ret
          exact ⟨ret_int (by rw [← HZ.out]; exact HV.out.symm), HW2.out.trans hb1⟩
        · have hneg : 0 ≤ q := by omega
          have HQ1 : Hid (q = left - M - N) := hq1
          clear hq1
          go_wp2_with fail
          refine (HC.out _).mono ?_; rintro r w1 ⟨rfl, hb1⟩
          go_wp2
          go_roundw
          case rel => exact ⟨j + 1, by omega, by go_num, by rw [← HM'.out, HS.out]; omega, by rw [← HM'.out, HS.out, HQ1.out]; go_num, HW2.out.trans hb1⟩
          case measure => simp [intOf]; omega
      · have e : l.take j = l := List.take_of_length_le (by omega)
        rw [e] at hle0 ⊢
        have HV : Hid (szR left (l.length + sumN Tk.cost l) = left - ((l.length + sumN Tk.cost l : Nat) : Int)) := szR_small (by omega)
        have HW2 := Lib.hid hw
        obtain ⟨Z, hZ⟩ : ∃ Z, Z = l.length + sumN Tk.cost l := ⟨_, rfl⟩
        have HZ : Hid (Z = l.length + sumN Tk.cost l) := hZ
        rw [← hZ] at hle0 HV ⊢
        clear hw e hZ hle
        go_wp2
        go_ret
        exact ⟨ret_int (by rw [← HZ.out]; exact HV.out.symm), HW2.out⟩

theorem toTokenS (l : List Tk) (W : World) (S : Nat → Prop) (v : Value) (h : SlAt W S 4 encT l v) (hn : l.length ≤ 1048576) : Calls Tryd.prog 34 #[v] W fun r w' => CopyS W w' 4 encT l r ∧ Later W w' := by
  obtain ⟨A, c, rfl, hlc, hcm⟩ := sl_parts h
  have HE := Lib.hid h; clear h
  obtain ⟨i0, hi, hz0, hz1, hz2⟩ := info_parts info_token
  go_enter Tryd.func34, Tryd.ntmps34
  go_wp2_with (at_make; refine wpList_make_full _ rfl _ _ _ rfl W.heap.size 45 i0 (.agg #[.int .i64 0, .int .i64 0, .int .i64 0, .string ByteArray.empty]) 4 Tryd.underlying22 hi hz0 hz1 .i64 .i64 _ _ l.length rfl rfl rfl rfl (by rw [hz2]; omega) (by simp only [maxLen]; omega) (Nat.le_refl _) ?_; intro w1 hown hgrow)
  obtain ⟨xs, hxs, hl1, hs1⟩ := madeOwn hown hgrow
  have HF := Lib.hid (Filling.start (enc := encT) hxs hl1 hs1)
  clear hown hgrow hi hz0 hz1 hz2 hxs hl1 hs1
  go_loopw [4] (fun i wr => ∃ j : Nat, j ≤ l.length ∧ i = .int .i64 j ∧ Filling W wr 45 4 encT l j) (fun i _ => l.length - (intOf i).toNat)
  case atStart => exact ⟨0, Nat.zero_le _, rfl, HF.out⟩
  case round =>
    clear HF
    obtain ⟨j, hj, rfl, hf⟩ := hrel
    by_cases hlt : j < l.length
    · obtain ⟨b, off, rfl, hb, _, e0, e1, e2, e3, hb0, hb1, hb2, hb3⟩ := (HE.out.later hf.later_).tokAt hlt
      obtain ⟨⟨y0, y1, y2, y3⟩, hX⟩ : ∃ X, X = l[j] := ⟨_, rfl⟩
      rw [← hX] at e0 e1 e2 e3 hb0 hb1 hb2 hb3
      simp only at e0 e1 e2 e3 hb0 hb1 hb2 hb3
      have HX := Lib.hid hX
      have HF := Lib.hid hf
      have HB := Lib.hid (And.intro hb0 (And.intro hb1 (And.intro hb2 hb3)))
      clear hX hf hb0 hb1 hb2 hb3
      go_wp2_with fail
      refine (toTk _ _ _ _ _).mono ?_; rintro r w2 ⟨rfl, hl2⟩
      have hst := HF.out.step hlt hl2 (vs := [.int .i64 y0, .int .i64 y1, .int .i64 y2, .string y3]) rfl (by rw [← HX.out]; exact owns_leaves (S := anyB) (.cons (.int _ HB.out.1) (.cons (.int _ HB.out.2.1) (.cons (.int _ HB.out.2.2.1) (.cons (.str _ HB.out.2.2.2) .nil)))) (by simp [encT]))
      obtain ⟨u0, k0, f0⟩ := HF.out.cell (p := j * 4) (by omega)
      obtain ⟨u1, k1, f1⟩ := HF.out.cell (p := j * 4 + 1) (by omega)
      obtain ⟨u2, k2, f2⟩ := HF.out.cell (p := j * 4 + 2) (by omega)
      obtain ⟨u3, k3, f3⟩ := HF.out.cell (p := j * 4 + 3) (by omega)
      have hW := World.block_lt_of_cell? _ _ k0
      have K0 := kept_cell hl2 k0
      have K1 := kept_cell hl2 k1
      have K2 := kept_cell hl2 k2
      have K3 := kept_cell hl2 k3
      have F0 := kept_free hl2 hW f0
      have F1 := kept_free hl2 hW f1
      have F2 := kept_free hl2 hW f2
      have F3 := kept_free hl2 hW f3
      have HS := Lib.hid hst
      clear hst hl2 k0 k1 k2 k3 f0 f1 f2 f3 e0 e1 e2 e3 hW
      go_wp2_with fail
      go_roundw
      case rel => exact ⟨j + 1, by omega, by go_num, HS.out⟩
      case measure => simp [intOf]; omega
    · have e : j = l.length := by omega
      subst e
      have HR := Lib.hid (hf.done encT_len (by omega))
      have HL := Lib.hid hf.later_
      clear hf
      go_wp2_with fail
      go_ret
      exact ⟨⟨_, rfl, HR.out⟩, HL.out⟩

theorem eqTokenS (l : List Tk) (W : World) (S S' : Nat → Prop) (v u : Value) (h : SlAt W S 4 encT l v) (h' : SlAt W S' 4 encT l u) : Calls Tryd.prog 11 #[v, u] W fun r w' => r = .returned (.bool true) ∧ Later W w' := by
  obtain ⟨A, c, rfl, hlc, hcm⟩ := sl_parts h
  obtain ⟨A', c', rfl, hlc', hcm'⟩ := sl_parts h'
  have HE := Lib.hid h; have HE' := Lib.hid h'; clear h h'
  go_enter Tryd.func11, Tryd.ntmps11
  go_wp2
  go_loopw [5] (fun i wr => ∃ j : Nat, j ≤ l.length ∧ i = .int .i64 j ∧ Later W wr) (fun i _ => l.length - (intOf i).toNat)
  case atStart => exact ⟨0, Nat.zero_le _, rfl, Later.rfl' _⟩
  case round =>
    obtain ⟨j, hj, rfl, hw⟩ := hrel
    by_cases hlt : j < l.length
    · obtain ⟨b, off, rfl, hb, _, e0, e1, e2, e3, _⟩ := (HE.out.later hw).tokAt hlt
      obtain ⟨b', off', rfl, hb', _, e0', e1', e2', e3', _⟩ := (HE'.out.later hw).tokAt hlt
      have hki : (j : Int) < (l.length : Int) := by omega
      obtain ⟨⟨y0, y1, y2, y3⟩, hX⟩ : ∃ X, X = l[j] := ⟨_, rfl⟩
      rw [← hX] at e0 e0' e1 e1' e2 e2' e3 e3'
      simp only at e0 e0' e1 e1' e2 e2' e3 e3'
      have HW := Lib.hid hw
      clear hX hw
      go_wp2
      go_still_tail 8, (by kernel_rfl)
      go_wp2_with fail
      refine (eqTk _ _ _ _ _).mono ?_; rintro r w1 ⟨rfl, hb1⟩
      go_wp2_with fail
      go_roundw
      case rel => exact ⟨j + 1, by omega, by go_num, HW.out.trans ((Later.rfl' _).drew.trans hb1)⟩
      case measure => simp [intOf]; omega
    · go_wp2
      go_ret
      exact ⟨rfl, hw⟩
end Go.Proofs.YtnfhbppmbpgfaaaDoor
