/-
  Join: plain law and the walk of spec.Join.
-/
import Derived.Test.YtghemlokpfipoaaDoorYS2
import Derived.Test.YtghemlokpfipoaaDoorYW1
import Derived.Lib.AppendStr
import Derived.Laws.BytesString
namespace Go.Proofs.YtghemlokpfipoaaDoor
open Go.ChangeShapes Go.WideShapes Go.ChangeAt Go.RowKit
set_option linter.unusedVariables false
set_option linter.unusedSimpArgs false
set_option maxRecDepth 100000

def joinB (xs : List ByteArray) (sep : ByteArray) : List UInt8 := Lib.join (xs.map (·.data.toList)) sep.data.toList
theorem joinB_first {xs : List ByteArray} {sep : ByteArray} (h : 0 < xs.length) : joinB (xs.take 1) sep = xs[0].data.toList := by
  cases xs with
  | nil => simp at h
  | cons x r => simp [joinB, Lib.join_one]
theorem joinB_next {xs : List ByteArray} {sep : ByteArray} {k : Nat} (h0 : 0 < k) (hk : k < xs.length) : joinB (xs.take (k + 1)) sep = joinB (xs.take k) sep ++ sep.data.toList ++ xs[k].data.toList := by
  cases xs with
  | nil => simp at hk
  | cons x r =>
    obtain ⟨j, rfl⟩ : ∃ j, k = j + 1 := ⟨k - 1, by omega⟩
    have hj : j < r.length := by simpa using hk
    simp only [joinB, List.take_succ_cons, List.map_cons, Lib.join_cons, List.getElem_cons_succ, List.map_take]
    rw [Lib.joinTail_take_succ _ _ j (r[j].data.toList) (by simp [hj])]
    simp [List.append_assoc]
theorem sum_lens (xs : List ByteArray) : Lib.lens (xs.map (·.data.toList)) = (xs.map ByteArray.size).sum := by
  induction xs with
  | nil => rfl
  | cons x r ih => simp [Lib.lens] at ih ⊢; omega
theorem joinB_le (xs : List ByteArray) (sep : ByteArray) : (joinB xs sep).length ≤ sep.size * xs.length + (xs.map ByteArray.size).sum := by
  cases xs with
  | nil => simp [joinB, Lib.join_nil]
  | cons x r =>
    have := Lib.join_length x.data.toList (r.map (·.data.toList)) sep.data.toList
    have hl := sum_lens (x :: r)
    simp only [joinB, List.map_cons] at *
    rw [this, hl, List.length_map]
    have hs : sep.data.toList.length = sep.size := by simp
    rw [hs, List.length_cons, Nat.mul_succ]
    omega

def bytesOf (l : List UInt8) : List Value := l.map fun b => .int .u8 b.toNat
theorem fold_bytes (l : List UInt8) : ∀ s : ByteArray, (l.map fun b => (b.toNat : Int)).foldl (fun r n => r.push (UInt8.ofNat n.toNat)) s = ⟨(s.data.toList ++ l).toArray⟩ := by
  induction l with
  | nil => intro s; simp
  | cons b r ih =>
    intro s
    rw [List.map_cons, List.foldl_cons, ih]
    simp [ByteArray.push]
theorem conv_own {w : World} {lo : Nat} {v : Value} (l : List UInt8) (h : w.ownsRow lo 5 1 v l.length (bytesOf l)) : (convert 28 9 v).run Tryd.prog w = .ok (.string ⟨l.toArray⟩) w := by
  rcases h.2 with ⟨rfl, h0⟩ | ⟨g, cap, cur, rfl, hb, hg, hnc, hm, hs, htake⟩
  · have : l = [] := List.eq_nil_of_length_eq_zero h0
    subst this
    rw [run_convert_bytes_string _ _ _ 5 _ _ _ Tryd.underlying28 Tryd.underlying5 Tryd.underlying9]
    rfl
  · rw [run_convert_bytes_string _ _ _ 5 _ _ _ Tryd.underlying28 Tryd.underlying5 Tryd.underlying9]
    have hl := run_loadCells_list (P := Tryd.prog) (w := w) ⟨g, 0, none⟩ (bytesOf l) (h.cells (g := g) rfl)
    rw [show (bytesOf l).length = l.length by simp [bytesOf]] at hl
    rw [run_bytesToString _ _ _ _ (l.map fun b => (b.toNat : Int)) (by rw [hl]; simp [bytesOf])]
    rw [fold_bytes]
    rfl
theorem info_byte : (Tryd.prog.info? 5).map (fun i => (i.zero, i.size, i.bytes)) = some (some (.int .u8 0), 1, 1) := by kernel_rfl

theorem specJoin (v : Value) (xs : List ByteArray) (sep : ByteArray) (w : World) (h : Strs w v xs) (hn : costS xs ≤ 33554432) (hs : sep.size ≤ 1048576) :
    Calls Tryd.prog 45 #[v, .string sep] w fun e w' => e = .returned (.string ⟨(joinB xs sep).toArray⟩) ∧ Later w w' := by
  obtain ⟨_, A, c, rfl, hlc, hcm, hc⟩ := h
  obtain ⟨i0, hi, hz0, hz1, hz2⟩ := info_parts info_byte
  have HB : Hid (∀ k, k ≤ xs.length → (joinB (xs.take k) sep).length ≤ 70368744177664) := by
    intro k hk
    have h1 := joinB_le (xs.take k) sep
    have h2 := sum_take_le xs k
    have h3 : sep.size * (xs.take k).length ≤ 1048576 * 33554432 := Nat.mul_le_mul hs (by rw [List.length_take]; unfold costS at hn; omega)
    unfold costS at hn
    omega
  have hnl : xs.length ≤ 33554432 := by unfold costS at hn; omega
  have HSZ : Hid (∀ k, (hk : k < xs.length) → xs[k].size ≤ 33554432) := by
    intro k hk
    have h1 := sum_take_succ hk
    have h2 := sum_take_le xs (k + 1)
    unfold costS at hn
    omega
  go_enter Tryd.func45, Tryd.ntmps45
  go_wp2_with fail
  go_loopw [5, 6] (fun o i wr => ∃ k : Nat, k ≤ xs.length ∧ i = .int .i64 k ∧ wr.ownsRow w.heap.size 5 1 o (joinB (xs.take k) sep).length (bytesOf (joinB (xs.take k) sep)) ∧ Later w wr) (fun _ i _ => xs.length - (intOf i).toNat)
  case atStart => exact ⟨0, Nat.zero_le _, rfl, World.ownsRow_made w #[] 0 (Nat.le_refl _) (Nat.zero_le _) rfl, (Later.rfl' _).alloc _⟩
  case round =>
    obtain ⟨k, hk, rfl, hown, hw⟩ := hrel
    by_cases hlt : k < xs.length
    · obtain ⟨b, off, rfl, hb, hcell0⟩ := hc.at_ (k := k) (by simpa using hlt)
      simp only [List.getElem_map] at hcell0
      have hcell := kept_cell hw hcell0
      clear hcell0
      have hx1 := HSZ.out k hlt
      have hb1 := HB.out k (by omega)
      have hsz := hw.size
      obtain ⟨x, hx⟩ : ∃ x, x = xs[k] := ⟨_, rfl⟩
      obtain ⟨J, hJ⟩ : ∃ J, J = joinB (xs.take k) sep := ⟨_, rfl⟩
      obtain ⟨J', hJ'⟩ : ∃ J, J = joinB (xs.take (k + 1)) sep := ⟨_, rfl⟩
      rcases Nat.eq_zero_or_pos k with h0 | h0
      · have hj : J' = J ++ x.data.toList := by
          subst h0
          rw [hJ', hJ, hx]
          rw [joinB_first hlt]
          rfl
        have hk0 : (k : Int) ≤ 0 := by omega
        rw [← hx] at hcell hx1
        rw [← hJ] at hown hb1
        have HJ := Lib.hid hj
        have HJ' := Lib.hid hJ'
        clear hj hx hJ hJ' hc h0
        go_wp2_with (at_builtin; refine Lib.wpList_append_own_string _ rfl _ _ 28 9 rfl w.heap.size 5 i0 Tryd.underlying28 Tryd.underlying9 hi hz0 hz1 hz2 _ _ _ rfl hown x rfl (by simp only [maxLen]; omega) (by omega) hsz ?_; intro v' w2 hown2 hgrow2 _)
        have HL := Lib.hid (later_append hw hown hgrow2)
        have HR : Hid (w2.ownsRow w.heap.size 5 1 v' J'.length (bytesOf J')) := by
          unfold Hid
          rw [HJ.out]
          simpa [bytesOf, Lib.strCells] using hown2
        clear hown2 hgrow2 hown hw hcell
        go_wp2_with fail
        go_roundw
        case rel => exact ⟨k + 1, by omega, by go_num, by rw [← HJ'.out]; exact HR.out, HL.out⟩
        case measure => simp [intOf]; omega
      · have hj : J' = (J ++ sep.data.toList) ++ x.data.toList := by rw [hJ', hJ, hx]; exact joinB_next h0 hlt
        have hk0 : (0 : Int) < (k : Int) := by omega
        rw [← hx] at hcell hx1
        rw [← hJ] at hown hb1
        have HJ := Lib.hid hj
        have HJ' := Lib.hid hJ'
        clear hj hx hJ hJ' hc h0
        go_wp2_with (first
          | (at_builtin; refine Lib.wpList_append_own_string _ rfl _ _ 28 9 rfl w.heap.size 5 i0 Tryd.underlying28 Tryd.underlying9 hi hz0 hz1 hz2 _ _ _ rfl hown sep rfl (by simp only [maxLen]; omega) (by omega) hsz ?_; intro v' w2 hown2 hgrow2 _; have hcell2 : w2.cell? ⟨b, off + k, none⟩ = some (.string x) := hgrow2.cell hcell (by intro e; have := (hown.lt b e.symm).1; omega); have hl2 := later_append hw hown hgrow2; have hown3 : w2.ownsRow w.heap.size 5 1 v' (J ++ sep.data.toList).length (bytesOf (J ++ sep.data.toList)) := by { simpa [bytesOf, Lib.strCells] using hown2 }; have hsz2 := hl2.size; have hb2 : (J ++ sep.data.toList).length ≤ 70368845840384 := by { simp; omega }; obtain ⟨J2, hJ2⟩ : ∃ J2, J2 = J ++ sep.data.toList := ⟨_, rfl⟩; rw [← hJ2] at hown3 hb2 HJ; clear hown2 hgrow2 hown hw hcell hJ2)
          | (at_builtin; refine Lib.wpList_append_own_string _ rfl _ _ 28 9 rfl w.heap.size 5 i0 Tryd.underlying28 Tryd.underlying9 hi hz0 hz1 hz2 _ _ _ rfl hown3 x rfl (by simp only [maxLen]; omega) (by omega) hsz2 ?_; intro v'' w3 hown4 hgrow4 _))
        have HL := Lib.hid (later_append hl2 hown3 hgrow4)
        have HR : Hid (w3.ownsRow w.heap.size 5 1 v'' J'.length (bytesOf J')) := by
          unfold Hid
          rw [HJ.out]
          simpa [bytesOf, Lib.strCells] using hown4
        clear hown4 hgrow4 hown3 hl2 hcell2
        go_wp2_with fail
        go_roundw
        case rel => exact ⟨k + 1, by omega, by go_num, by rw [← HJ'.out]; exact HR.out, HL.out⟩
        case measure => simp [intOf]; omega
    · have e : xs.take k = xs := List.take_of_length_le (by omega)
      rw [e] at hown
      have hcv := conv_own _ hown
      clear e hc hown
      go_wp2_with fail
      go_ret
      exact ⟨rfl, hw⟩
end Go.Proofs.YtghemlokpfipoaaDoor
