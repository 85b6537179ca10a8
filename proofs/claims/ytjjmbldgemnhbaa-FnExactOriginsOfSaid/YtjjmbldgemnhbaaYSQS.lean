/-
  sort.Slice of origins with a 'less' that lays blocks; the 'less' of UnionOrigins.
-/
import Derived.Test.YtjjmbldgemnhbaaYSQP
import Derived.Test.YtjjmbldgemnhbaaYUO2
import Derived.Shelf.GgSortFunc.Slice
import Derived.Shelf.GgSortFunc.SmallK
import Derived.Shelf.GgSortFunc.Tiny
namespace Go.Proofs.Ytjjmbldgemnhbaa
open Go.RowKit Go.ChangeShapes Go.WideShapes Go.Sort Go.Lib Go.Shelf
set_option linter.unusedVariables false
set_option linter.unusedSimpArgs false
set_option maxRecDepth 100000

theorem swoO : SWO ltO where
  irrefl := ltO_irrefl
  trans := fun x y z h k => ltO_trans h k
  ntrans := fun x y z h k => by
    cases e : ltO x z with
    | false => rfl
    | true =>
      have h' : ¬ (x.1 < y.1 ∨ (x.1 = y.1 ∧ x.2 < y.2)) := fun q => by rw [ltO_iff.2 q] at h; cases h
      have k' : ¬ (y.1 < z.1 ∨ (y.1 = z.1 ∧ y.2 < z.2)) := fun q => by rw [ltO_iff.2 q] at k; cases k
      have := ltO_iff.1 e
      omega
theorem slT_ex : ∃ i, Try.prog.info? 24 = some i ∧ i.desc = .slice 47 := by
  have h : (Try.prog.info? 24).map (fun i => i.desc) = some (.slice 47) := by kernel_rfl
  exact Option.map_eq_some_iff.1 h
theorem slE_ex : ∃ i, Try.prog.info? 47 = some i ∧ i.size = 2 ∧ i.hasPointers = false ∧ i.bytes = 16 := by
  have h : (Try.prog.info? 47).map (fun i => (i.size, i.hasPointers, i.bytes)) = some (2, false, 16) := by kernel_rfl
  obtain ⟨i, h1, h2⟩ := Option.map_eq_some_iff.1 h
  simp only [Prod.mk.injEq] at h2
  exact ⟨i, h1, h2⟩
theorem slK (ie : TypeInfo) (a : ie.hasPointers = false) (b : ie.bytes = 16) (n : Nat) (h2 : 2 ≤ n) : swapperK n ie 25 = 9 := by
  have c : (n == 0) = false := by simp; omega
  have d : (n == 1) = false := by simp; omega
  simp [swapperK, a, b, c, d]
theorem later_grow (W : World) (os : Array Obj) : Later W (grow W os) := by
  refine ⟨rfl, rfl, rfl, by rw [size_grow]; exact Nat.le_add_right _ _, fun k hk => ?_⟩
  show (W.heap ++ os)[k]? = W.heap[k]?
  rw [Array.getElem?_append_left hk]

theorem sqSlice {W : World} {blk n c g : Nat} {lb : Array Value} (eg : ∀ args w, (callFunc g args).run Try.prog w = .ok (.enter g args) w) (hn : n < 4611686018427387904) (hblk : blk < W.heap.size) (d : Array Org) (hd : d.size = n) (hH : HoldsK cellsO 2 W blk 0 d)
    (less : ∀ (W1 : World) (d1 : Array Org), SR W blk n W1 d1 → ∀ i j : Nat, i < n → j < n → Calls Try.prog g (#[.int .i64 (i : Int), .int .i64 (j : Int)] ++ lb) W1 fun r w' => r = .returned (.bool (ltO d1[i]! d1[j]!)) ∧ Later W1 w') :
    Calls Try.prog 20 #[.iface 24 (.slice (some ⟨blk, 0, none⟩) n c), .func (.func g) #[] lb] W fun e w' => e = .returned (.tuple #[]) ∧ ∃ d', SR W blk n w' d' ∧ PermIn 0 n d d' ∧ SortedIn ltO 0 n d' := by
  have h0 : SR W blk n W d := ⟨Chg.rfl' _ _, hH, hd, Same.rfl' _ _⟩
  obtain ⟨slT, hT1, hT2⟩ := slT_ex
  obtain ⟨slE, hE1, hE2, hE3, hE4⟩ := slE_ex
  by_cases h1 : n ≤ 1
  · have hf : ∃ f, Try.prog.funcs.findIdx? (·.name == "internal/reflectlite" ++ ".Swapper$" ++ toString (swapperK n slE 25)) = some f := by
      rcases (by omega : n = 0 ∨ n = 1) with rfl | rfl
      · exact ⟨47, by rw [show swapperK 0 slE 25 = 1 from rfl]; kernel_rfl⟩
      · exact ⟨48, by rw [show swapperK 1 slE 25 = 2 from rfl]; kernel_rfl⟩
    obtain ⟨f, hf⟩ := hf
    have hc := Any.sort_Slice_tiny slLays 24 47 slT slE hT1 hT2 (by kernel_rfl) hE1 25 (fun _ => by kernel_rfl) (some ⟨blk, 0, none⟩) n c h1 f hf (.func g) #[] lb W
    refine Calls.mono (show Calls Try.prog 20 _ W _ from hc) ?_
    rintro e w' ⟨rfl, os, rfl⟩
    exact ⟨rfl, d, h0.later (later_grow W os), permIn_refl _ _ _, fun i j _ h2 h3 => by omega⟩
  · have h2 : 2 ≤ n := by omega
    have hc := fun hp => Any.sort_Slice_of_pdq slLays 24 47 slT slE hT1 hT2 (by kernel_rfl) hE1 25 (fun _ => by kernel_rfl) (some ⟨blk, 0, none⟩) n c hn 55 (by rw [slK slE hE3 hE4 _ h2]; kernel_rfl) (.func g) #[] lb W (fun w' => ∃ d', SR W blk n w' d' ∧ PermIn 0 n d d' ∧ SortedIn ltO 0 n d') hp
    refine (show Calls Try.prog 20 _ W _ from hc ?_)
    have hB : sliceBound Try.prog 47 slE 25 (some ⟨blk, 0, none⟩) n c = #[.slice (some ⟨blk, 0, none⟩) n c, typeHandle Try.prog 47] := by
      unfold sliceBound; rw [if_neg (swapperK_gt _ _ _ h2)]
    rw [hB]
    have hx : ∀ args W, (callFunc 55 args).run Try.prog W = ((Extern.ReflectliteSwapper.swap false args).run Try.prog W).andThen fun v w' => .ok (.value v) w' :=
      fun args W => run_callFunc_extern Try.func55 (by kernel_rfl) (by kernel_rfl) (by kernel_rfl) (e := Extern.ReflectliteSwapper.swap false) (by kernel_rfl) args W
    have hK := swapSwapsK_of_literal (P := Try.prog) false 55 hx 47 slE hE1 cellsO 2 cellsO_len hE2 (fun _ => by kernel_rfl) (fun x v hv => by simp [cellsO] at hv; rcases hv with rfl | rfl <;> rfl) blk 0 n c
    have E : SE W blk n ltO g lb 55 #[.slice (some ⟨blk, 0, none⟩) n c, typeHandle Try.prog 47] :=
      ⟨hblk, hn, eg, less, fun W1 d1 hs i j hi hj => hK W1 d1 hs.row hs.size i j hi hj, hK⟩
    have hlim : Go.Lib.bitLen n < 4611686018427387904 := Nat.lt_of_le_of_lt (Go.Lib.bitLen_le n 62 (by omega) (by omega)) (by omega)
    have hp := sqPdqAll swoO (n + 1) W E (sliceWorld Try.prog Try.laysGg6_ren 24 (some ⟨blk, 0, none⟩) n c W) d (h0.later (((Later.rfl' _).alloc _).alloc _)) 0 n (Go.Lib.bitLen n) (by omega) (Nat.zero_le _) (Nat.le_refl _) hlim (Or.inl rfl)
    refine Calls.mono hp ?_
    rintro e w' ⟨rfl, hs⟩
    have hq := pdq_sorts ltO swoO d 0 n (Go.Lib.bitLen n) true true (Nat.zero_le _) (by omega) (Or.inl rfl)
    exact ⟨rfl, _, hs, hq.1, hq.2⟩

/-- The 'less' of UnionOrigins: it reads the slice out of the variable 'out'. -/
theorem lessU {W : World} {q blk n c : Nat} {d : Array Org} (hP : W.cell? ⟨q, 0, none⟩ = some (.slice (some ⟨blk, 0, none⟩) n c)) (hr : HoldsK cellsO 2 W blk 0 d) (hs : d.size = n) (hn : n < 4611686018427387904) (i j : Nat) (hi : i < n) (hj : j < n) :
    Calls Try.prog 21 #[.int .i64 (i : Int), .int .i64 (j : Int), .pointer (some ⟨q, 0, none⟩)] W fun r w' => r = .returned (.bool (ltO d[i]! d[j]!)) ∧ Later W w' := by
  have i0 := (hr.cell (i := i) (c := 0) (by omega) (by omega)).1
  have i1 := (hr.cell (i := i) (c := 1) (by omega) (by omega)).1
  have j0 := (hr.cell (i := j) (c := 0) (by omega) (by omega)).1
  have j1 := (hr.cell (i := j) (c := 1) (by omega) (by omega)).1
  have CB := fun W => before_impl.originBefore d[i]! d[j]! W
  obtain ⟨qv, hqv⟩ : ∃ v, v = ltO d[i]! d[j]! := ⟨_, rfl⟩
  simp only [← hqv] at CB
  rw [← hqv]
  obtain ⟨⟨x0, x1⟩, hx⟩ : ∃ x, x = d[i]! := ⟨_, rfl⟩
  obtain ⟨⟨y0, y1⟩, hy⟩ : ∃ x, x = d[j]! := ⟨_, rfl⟩
  rw [← hx] at i0 i1
  rw [← hy] at j0 j1
  simp only [← hx, ← hy] at CB
  simp only [cellsO, Nat.zero_add, Nat.add_zero] at i0 i1 j0 j1
  have e0 : W.cell? ⟨blk, i * 2, none⟩ = some (.int .i64 x0) := i0
  have e1 : W.cell? ⟨blk, i * 2 + 1, none⟩ = some (.int .i64 x1) := i1
  have f0 : W.cell? ⟨blk, j * 2, none⟩ = some (.int .i64 y0) := j0
  have f1 : W.cell? ⟨blk, j * 2 + 1, none⟩ = some (.int .i64 y1) := j1
  have HC := Lib.hid CB
  have hi' : (i : Int) < (n : Int) := by omega
  have hj' : (j : Int) < (n : Int) := by omega
  clear CB hqv hx hy i0 i1 j0 j1 hr hs
  go_enter Try.func21, Try.ntmps21
  go_wp2_with fail
  go_region_held3 (fun w' => w'.cell? ⟨q, 0, none⟩ = some (.slice (some ⟨blk, 0, none⟩) n c) ∧ w'.cell? ⟨blk, i * 2, none⟩ = some (.int .i64 x0) ∧ w'.cell? ⟨blk, i * 2 + 1, none⟩ = some (.int .i64 x1) ∧ w'.cell? ⟨blk, j * 2, none⟩ = some (.int .i64 y0) ∧ w'.cell? ⟨blk, j * 2 + 1, none⟩ = some (.int .i64 y1))
    (first | exact ⟨hP, e0, e1, f0, f1⟩ | exact ⟨kept_cell hb1 hP, kept_cell hb1 e0, kept_cell hb1 e1, kept_cell hb1 f0, kept_cell hb1 f1⟩)
    (first | (go_at_call 22; refine (HC.out _).mono ?_; rintro r w1 ⟨rfl, hb1⟩))
  have HL := Lib.hid ((Later.rfl' W).drew.trans hb1)
  clear hb1
  go_wp2_with fail
  go_ret
  exact ⟨rfl, HL.out⟩
end Go.Proofs.Ytjjmbldgemnhbaa
