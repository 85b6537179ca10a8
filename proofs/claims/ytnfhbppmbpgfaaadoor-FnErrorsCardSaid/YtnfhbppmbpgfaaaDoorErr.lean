/-
  Names of errors: ErrorName, ErrorCode: the walks.
-/
import Derived.Test.YtnfhbppmbpgfaaaDoorFrame
import Derived.Test.YtnfhbppmbpgfaaaDoorA3
import Derived.ChangeVars
import Derived.LaidLaws
import Derived.WalkSmall
namespace Go.Proofs.YtnfhbppmbpgfaaaDoor
open Go.ChangeShapes Go.WideShapes Go.ChangeAt Go.RowKit
set_option linter.unusedVariables false
set_option linter.unusedSimpArgs false

def errList : List ByteArray := [⟨#[109, 105, 115, 115, 105, 110, 103]⟩, ⟨#[100, 117, 112, 108, 105, 99, 97, 116, 101]⟩, ⟨#[99, 121, 99, 108, 101]⟩, ⟨#[116, 121, 112, 101]⟩, ⟨#[114, 97, 110, 103, 101]⟩, ⟨#[108, 105, 109, 105, 116]⟩, ⟨#[99, 111, 108, 117, 109, 110]⟩, ⟨#[115, 121, 110, 116, 97, 120]⟩]

/-- What the variable errorNames holds. -/
def ErrAt (w : World) : Prop := ∃ v, w.cell? ⟨0, 0, none⟩ = some v ∧ Strs w v errList
theorem ErrAt.later {w w' : World} (h : ErrAt w) (hb : Later w w') : ErrAt w' := by
  obtain ⟨v, hc, hs⟩ := h
  exact ⟨v, (Below.cell hb (p := ⟨_, 0, none⟩) (World.block_lt_of_cell? w _ hc)).trans hc, hs.later hb⟩

def RetStrs' (w' : World) (xs : List ByteArray) (e : Ending) : Prop := ∃ v, e = .returned v ∧ Strs w' v xs
def errName (n : Int) : ByteArray :=
  if n = 1 then ⟨#[109, 105, 115, 115, 105, 110, 103]⟩ else if n = 2 then ⟨#[100, 117, 112, 108, 105, 99, 97, 116, 101]⟩ else if n = 3 then ⟨#[99, 121, 99, 108, 101]⟩ else if n = 4 then ⟨#[116, 121, 112, 101]⟩ else
  if n = 5 then ⟨#[114, 97, 110, 103, 101]⟩ else if n = 6 then ⟨#[108, 105, 109, 105, 116]⟩ else if n = 7 then ⟨#[99, 111, 108, 117, 109, 110]⟩ else if n = 8 then ⟨#[115, 121, 110, 116, 97, 120]⟩ else ⟨#[63]⟩
theorem err_ways (n : Int) : n < 1 ∨ n = 1 ∨ n = 2 ∨ n = 3 ∨ n = 4 ∨ n = 5 ∨ n = 6 ∨ n = 7 ∨ n = 8 ∨ 8 < n := by omega
theorem errName_out {n : Int} (h : n < 1 ∨ 8 < n) : errName n = ⟨#[63]⟩ := by
  unfold errName
  rw [if_neg (by omega), if_neg (by omega), if_neg (by omega), if_neg (by omega), if_neg (by omega), if_neg (by omega), if_neg (by omega), if_neg (by omega)]

set_option maxHeartbeats 2000000 in
theorem specErrorName (n : Int) (w : World) : Calls Tryd.prog 17 #[.int .i64 n] w fun e w' => e = .returned (.string (errName n)) ∧ Later w w' := by
  rcases err_ways n with h | rfl | rfl | rfl | rfl | rfl | rfl | rfl | rfl | h
  case inl =>
    rw [errName_out (.inl h)]
    go_enter Tryd.func17, Tryd.ntmps17
    go_wp2
    go_ret
    exact ⟨rfl, Later.rfl' _⟩
  case inr.inr.inr.inr.inr.inr.inr.inr.inr =>
    rw [errName_out (.inr h)]
    have hd : decide (n ≤ 8) = false := by simp; omega
    go_enter Tryd.func17, Tryd.ntmps17
    go_wp2
    go_ret
    exact ⟨rfl, Later.rfl' _⟩
  all_goals
    go_enter Tryd.func17, Tryd.ntmps17
    go_wp2
    go_ret
    exact ⟨rfl, (Later.rfl' _).alloc _⟩

set_option maxHeartbeats 2000000 in
theorem implErrorName (n : Int) (w : World) (he : ErrAt w) : Calls Tryd.prog 16 #[.int .i64 n] w fun e w' => e = .returned (.string (errName n)) ∧ Later w w' := by
  obtain ⟨v, hc, _, A, c, rfl, hlc, hcm, hcells⟩ := he
  obtain ⟨b, off, rfl, hb, hcell⟩ := hcells (by simp [errList])
  rcases err_ways n with h | rfl | rfl | rfl | rfl | rfl | rfl | rfl | rfl | h
  case inl =>
    clear hcell
    rw [errName_out (.inl h)]
    go_enter Tryd.func16, Tryd.ntmps16
    go_wp2
    go_ret
    exact ⟨rfl, Later.rfl' _⟩
  case inr.inr.inr.inr.inr.inr.inr.inr.inr =>
    clear hcell
    rw [errName_out (.inr h)]
    have hd : decide (n ≤ 8) = false := by simp; omega
    go_enter Tryd.func16, Tryd.ntmps16
    go_wp2
    go_ret
    exact ⟨rfl, Later.rfl' _⟩
  · have h0 := hcell 0 _ rfl
    clear hcell
    try simp only [Nat.add_zero] at h0
    go_enter Tryd.func16, Tryd.ntmps16
    go_wp2
    go_ret
    exact ⟨rfl, Later.rfl' _⟩
  · have h0 := hcell 1 _ rfl
    clear hcell
    try simp only [Nat.add_zero] at h0
    go_enter Tryd.func16, Tryd.ntmps16
    go_wp2
    go_ret
    exact ⟨rfl, Later.rfl' _⟩
  · have h0 := hcell 2 _ rfl
    clear hcell
    try simp only [Nat.add_zero] at h0
    go_enter Tryd.func16, Tryd.ntmps16
    go_wp2
    go_ret
    exact ⟨rfl, Later.rfl' _⟩
  · have h0 := hcell 3 _ rfl
    clear hcell
    try simp only [Nat.add_zero] at h0
    go_enter Tryd.func16, Tryd.ntmps16
    go_wp2
    go_ret
    exact ⟨rfl, Later.rfl' _⟩
  · have h0 := hcell 4 _ rfl
    clear hcell
    try simp only [Nat.add_zero] at h0
    go_enter Tryd.func16, Tryd.ntmps16
    go_wp2
    go_ret
    exact ⟨rfl, Later.rfl' _⟩
  · have h0 := hcell 5 _ rfl
    clear hcell
    try simp only [Nat.add_zero] at h0
    go_enter Tryd.func16, Tryd.ntmps16
    go_wp2
    go_ret
    exact ⟨rfl, Later.rfl' _⟩
  · have h0 := hcell 6 _ rfl
    clear hcell
    try simp only [Nat.add_zero] at h0
    go_enter Tryd.func16, Tryd.ntmps16
    go_wp2
    go_ret
    exact ⟨rfl, Later.rfl' _⟩
  · have h0 := hcell 7 _ rfl
    clear hcell
    try simp only [Nat.add_zero] at h0
    go_enter Tryd.func16, Tryd.ntmps16
    go_wp2
    go_ret
    exact ⟨rfl, Later.rfl' _⟩

def errCode (s : ByteArray) : Int := indexB errList s + 1
def errList9 : List ByteArray := ⟨#[]⟩ :: errList
theorem index_cons {x s : ByteArray} {xs : List ByteArray} (h : (x.toList == s.toList) = false) : indexB (x :: xs) s = if indexB xs s < 0 then -1 else indexB xs s + 1 := by
  unfold indexB
  rw [List.findIdx?_cons, h]
  cases e : xs.findIdx? (fun x => x.toList == s.toList) with
  | none => simp
  | some i =>
    simp
    intro hh
    omega

theorem specl4Errors (w : World) : Calls Tryd.prog 44 #[] w fun e w' => RetStrs' w' errList9 e ∧ Later w w' := by
  go_enter Tryd.func44, Tryd.ntmps44
  go_wp2
  go_ret
  refine ⟨⟨_, rfl, Strs.of_own (e := 9) (base := 0) (by decide) ?_⟩, (Later.rfl' _).alloc _⟩
  exact World.ownsRow_lit w _ 9 (Nat.zero_le _) (by simp [maxLen]) rfl

theorem implErrorCode (s : ByteArray) (w : World) (he : ErrAt w) : Calls Tryd.prog 18 #[.string s] w fun e w' => e = .returned (.int .i64 (errCode s)) ∧ Later w w' := by
  obtain ⟨v, hc, hs⟩ := he
  have C := implIndexOf v errList s w hs
  have hr := index_range errList s
  have h9 : errList.length = 8 := rfl
  rw [h9] at hr
  have HV : Hid (errCode s = indexB errList s + 1) := rfl
  obtain ⟨q, hq'⟩ : ∃ q, q = indexB errList s := ⟨_, rfl⟩
  rw [← hq'] at C HV hr
  obtain ⟨hr1, hr2⟩ := hr
  have hr3 : q < 8 := by omega
  clear hq' hr2 h9
  obtain ⟨_, A, c, rfl, _⟩ := hs
  go_enter Tryd.func18, Tryd.ntmps18
  go_wp2_with (first | (go_at_call 45; refine C.mono ?_; rintro e w2 ⟨rfl, hb2⟩))
  go_ret
  exact ⟨ret_int HV.out.symm, hb2.later⟩
end Go.Proofs.YtnfhbppmbpgfaaaDoor
