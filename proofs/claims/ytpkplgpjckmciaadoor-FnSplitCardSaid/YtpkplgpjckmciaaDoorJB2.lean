/-
  Join: plain law and the walk of spec.Join.
-/
import Derived.Test.YtpkplgpjckmciaaDoorS2
import Derived.Test.YtpkplgpjckmciaaDoorW1
import Derived.Lib.AppendStr
import Derived.Laws.BytesString
namespace Go.Proofs.YtpkplgpjckmciaaDoor
open Go.ChangeShapes Go.WideShapes Go.ChangeAt Go.RowKit
set_option linter.unusedVariables false
set_option linter.unusedSimpArgs false
set_option maxRecDepth 100000

def joinB (xs : List ByteArray) (sep : ByteArray) : List UInt8 := Lib.join (xs.map (·.data.toList)) sep.data.toList
theorem joinB_first {xs : List ByteArray} {sep : ByteArray} (h : 0 < xs.length) : joinB (xs.take 1) sep = xs[0].data.toList := by
  cases xs with
  | nil => simp at h
  | cons x r => simp [joinB, Lib.join_one]
theorem joinB_next {xs : List ByteArray} {sep : ByteArray} {k : Nat} (h0 : 0 < k) (hk : k < xs.length) : joinB (xs.take (k + 1)) sep = joinB (xs.take k) sep ++ sep.data.toList ++ xs[k].data.toList := by
  cases xs with
  | nil => simp at hk
  | cons x r =>
    obtain ⟨j, rfl⟩ : ∃ j, k = j + 1 := ⟨k - 1, by omega⟩
    have hj : j < r.length := by simpa using hk
    simp only [joinB, List.take_succ_cons, List.map_cons, Lib.join_cons, List.getElem_cons_succ, List.map_take]
    rw [Lib.joinTail_take_succ _ _ j (r[j].data.toList) (by simp [hj])]
    simp [List.append_assoc]
theorem sum_lens (xs : List ByteArray) : Lib.lens (xs.map (·.data.toList)) = (xs.map ByteArray.size).sum := by
  induction xs with
  | nil => rfl
  | cons x r ih => simp [Lib.lens] at ih ⊢; omega
theorem joinB_le (xs : List ByteArray) (sep : ByteArray) : (joinB xs sep).length ≤ sep.size * xs.length + (xs.map ByteArray.size).sum := by
  cases xs with
  | nil => simp [joinB, Lib.join_nil]
  | cons x r =>
    have := Lib.join_length x.data.toList (r.map (·.data.toList)) sep.data.toList
    have hl := sum_lens (x :: r)
    simp only [joinB, List.map_cons] at *
    rw [this, hl, List.length_map]
    have hs : sep.data.toList.length = sep.size := by simp
    rw [hs, List.length_cons, Nat.mul_succ]
    omega

def bytesOf (l : List UInt8) : List Value := l.map fun b => .int .u8 b.toNat
theorem fold_bytes (l : List UInt8) : ∀ s : ByteArray, (l.map fun b => (b.toNat : Int)).foldl (fun r n => r.push (UInt8.ofNat n.toNat)) s = ⟨(s.data.toList ++ l).toArray⟩ := by
  induction l with
  | nil => intro s; simp
  | cons b r ih =>
    intro s
    rw [List.map_cons, List.foldl_cons, ih]
    simp [ByteArray.push]
theorem conv_own {w : World} {lo : Nat} {v : Value} (l : List UInt8) (h : w.ownsRow lo 5 1 v l.length (bytesOf l)) : (convert 22 9 v).run Tryd.prog w = .ok (.string ⟨l.toArray⟩) w := by
  rcases h.2 with ⟨rfl, h0⟩ | ⟨g, cap, cur, rfl, hb, hg, hnc, hm, hs, htake⟩
  · have : l = [] := List.eq_nil_of_length_eq_zero h0
    subst this
    rw [run_convert_bytes_string _ _ _ 5 _ _ _ Tryd.underlying22 Tryd.underlying5 Tryd.underlying9]
    rfl
  · rw [run_convert_bytes_string _ _ _ 5 _ _ _ Tryd.underlying22 Tryd.underlying5 Tryd.underlying9]
    have hl := run_loadCells_list (P := Tryd.prog) (w := w) ⟨g, 0, none⟩ (bytesOf l) (h.cells (g := g) rfl)
    rw [show (bytesOf l).length = l.length by simp [bytesOf]] at hl
    rw [run_bytesToString _ _ _ _ (l.map fun b => (b.toNat : Int)) (by rw [hl]; simp [bytesOf])]
    rw [fold_bytes]
    rfl
theorem info_byte : (Tryd.prog.info? 5).map (fun i => (i.zero, i.size, i.bytes)) = some (some (.int .u8 0), 1, 1) := by kernel_rfl

end Go.Proofs.YtpkplgpjckmciaaDoor
