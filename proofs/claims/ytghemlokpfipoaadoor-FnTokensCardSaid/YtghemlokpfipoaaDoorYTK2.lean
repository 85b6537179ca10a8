/-
  Tokens: the tests on bytes, IsValidText with the world as it was, l9Symbol, l9Next: the walks.
-/
import Derived.Test.YtghemlokpfipoaaDoorYTK0
import Derived.Test.YtghemlokpfipoaaDoorYPR3
import Derived.Test.YtghemlokpfipoaaDoorYTA
namespace Go.Proofs.YtghemlokpfipoaaDoor
open Go.ChangeShapes Go.WideShapes Go.ChangeAt Go.RowKit
set_option linter.unusedVariables false
set_option linter.unusedSimpArgs false
set_option maxRecDepth 100000

theorem lowB_yes {b : UInt8} (h : lowB b = true) : (97 : Int) ≤ ((b.toNat : Nat) : Int) ∧ ((b.toNat : Nat) : Int) ≤ 122 := by
  simp only [lowB, Bool.and_eq_true, decide_eq_true_eq] at h
  omega
theorem lowB_no {b : UInt8} (h : lowB b = false) : ((b.toNat : Nat) : Int) < 97 ∨ ((97 : Int) ≤ ((b.toNat : Nat) : Int) ∧ (122 : Int) < ((b.toNat : Nat) : Int)) := by
  simp only [lowB, Bool.and_eq_false_iff, decide_eq_false_iff_not] at h
  omega
theorem letterT (b : UInt8) (hb : lowB b = true) (w : World) : Calls Tryd.prog 24 #[.int .u8 ((b.toNat : Nat) : Int)] w fun e w' => e = .returned (.bool true) ∧ w = w' := by
  obtain ⟨h1, h2⟩ := lowB_yes hb
  clear hb
  go_enter Tryd.func24, Tryd.ntmps24
  go_wp2
  go_ret
  exact ⟨rfl, rfl⟩
theorem letterF (b : UInt8) (hb : lowB b = false) (w : World) : Calls Tryd.prog 24 #[.int .u8 ((b.toNat : Nat) : Int)] w fun e w' => e = .returned (.bool false) ∧ w = w' := by
  rcases lowB_no hb with h1 | ⟨h1, h2⟩
  all_goals
    clear hb
    go_enter Tryd.func24, Tryd.ntmps24
    go_wp2
    go_ret
    exact ⟨by first | rfl | exact ret_bool (a := decide (((b.toNat : Nat) : Int) ≤ 122)) (b := false) (by simp; omega), rfl⟩

theorem dgB_yes {b : UInt8} (h : dgB b = true) : (48 : Int) ≤ ((b.toNat : Nat) : Int) ∧ ((b.toNat : Nat) : Int) ≤ 57 := by
  simp only [dgB, Bool.and_eq_true, decide_eq_true_eq] at h
  omega
theorem dgB_no {b : UInt8} (h : dgB b = false) : ((b.toNat : Nat) : Int) < 48 ∨ ((48 : Int) ≤ ((b.toNat : Nat) : Int) ∧ (57 : Int) < ((b.toNat : Nat) : Int)) := by
  simp only [dgB, Bool.and_eq_false_iff, decide_eq_false_iff_not] at h
  omega
theorem digitT (b : UInt8) (hb : dgB b = true) (w : World) : Calls Tryd.prog 25 #[.int .u8 ((b.toNat : Nat) : Int)] w fun e w' => e = .returned (.bool true) ∧ w = w' := by
  obtain ⟨h1, h2⟩ := dgB_yes hb
  clear hb
  go_enter Tryd.func25, Tryd.ntmps25
  go_wp2
  go_ret
  exact ⟨rfl, rfl⟩
theorem digitF (b : UInt8) (hb : dgB b = false) (w : World) : Calls Tryd.prog 25 #[.int .u8 ((b.toNat : Nat) : Int)] w fun e w' => e = .returned (.bool false) ∧ w = w' := by
  rcases dgB_no hb with h1 | ⟨h1, h2⟩
  all_goals
    clear hb
    go_enter Tryd.func25, Tryd.ntmps25
    go_wp2
    go_ret
    exact ⟨by first | rfl | exact ret_bool (a := decide (((b.toNat : Nat) : Int) ≤ 57)) (b := false) (by simp; omega), rfl⟩

theorem specValidTextE (s : ByteArray) (w : World) (hs : s.size ≤ maxLen) : Calls Tryd.prog 27 #[.string s] w fun e w' => e = .returned (.bool (validText s)) ∧ w = w' := by
  unfold maxLen at hs
  go_enter Tryd.func27, Tryd.ntmps27
  go_wp2
  go_loop [3] (fun i => ∃ k : Nat, k ≤ s.size ∧ i = .int .i64 k ∧ ∀ j, (hj : j < s.size) → j < k → okByte (s[j]'hj) = true) (fun i => s.size - (intOf i).toNat)
  case atStart => exact ⟨0, Nat.zero_le _, rfl, fun j _ h => absurd h (by omega)⟩
  case round =>
    obtain ⟨k, hk, rfl, hall⟩ := hrel
    have HA : Hid (∀ j, (hj : j < s.size) → j < k → okByte (s[j]'hj) = true) := hall
    clear hall
    by_cases hlt : k < s.size
    · cases hb : okByte (s[k]'hlt) with
      | true =>
        have hb' := hb
        have HB : Hid (okByte (s[k]'hlt) = true) := hb
        simp only [okByte, Bool.and_eq_true, decide_eq_true_eq, Bool.not_eq_true', decide_eq_false_iff_not] at hb'
        have h1 : (32 : Int) ≤ ((s[k]'hlt).toNat : Int) := by omega
        have h2 : ((s[k]'hlt).toNat : Int) ≤ 126 := by omega
        have h3 : (((s[k]'hlt).toNat : Int) == 34) = false := by simp; omega
        clear hb hb'
        go_wp2
        go_round
        case rel => exact ⟨k + 1, by omega, by go_num, fun j hj hjk => if e : j = k then by subst e; exact HB.out else HA.out j hj (by omega)⟩
        case measure => simp [intOf]; omega
      | false =>
        have hv : validText s = false := by simp [validText, all_not hlt hb]
        have HV : Hid (validText s = false) := hv
        simp only [okByte, Bool.and_eq_false_iff, decide_eq_false_iff_not, Bool.not_eq_false', decide_eq_true_eq] at hb
        clear hv
        have h4 : (s[k]'hlt).toNat < 32 ∨ (32 ≤ (s[k]'hlt).toNat ∧ 126 < (s[k]'hlt).toNat) ∨ (s[k]'hlt).toNat = 34 := by omega
        clear hb
        rcases h4 with h4 | ⟨h4, h5⟩ | h4
        · have h1 : ((s[k]'hlt).toNat : Int) < 32 := by omega
          clear h4
          go_wp2
          go_ret
          exact ⟨ret_bool HV.out.symm, rfl⟩
        · have h1 : (32 : Int) ≤ ((s[k]'hlt).toNat : Int) := by omega
          have h2 : (126 : Int) < ((s[k]'hlt).toNat : Int) := by omega
          clear h4 h5
          go_wp2
          go_ret
          exact ⟨ret_bool HV.out.symm, rfl⟩
        · have h1 : (32 : Int) ≤ ((s[k]'hlt).toNat : Int) := by omega
          have h2 : ((s[k]'hlt).toNat : Int) ≤ 126 := by omega
          have h3 : (((s[k]'hlt).toNat : Int) == 34) = true := by simp; omega
          clear h4
          go_wp2
          go_ret
          exact ⟨ret_bool HV.out.symm, rfl⟩
    · go_wp2
      go_ret
      have hv : validText s = decide (s.size ≤ 20) := by
        unfold validText
        rw [all_get (fun j hj => HA.out j hj (by omega))]
        rfl
      exact ⟨ret_bool (by rw [hv]; exact decide_eq_decide.2 (by omega)), rfl⟩

theorem implValidTextE (s : ByteArray) (w : World) (hs : s.size ≤ maxLen) : Calls Tryd.prog 31 #[.string s] w fun e w' => e = .returned (.bool (validText s)) ∧ w = w' := by
  unfold maxLen at hs
  go_enter Tryd.func31, Tryd.ntmps31
  go_wp2
  go_loop [3] (fun i => ∃ k : Nat, k ≤ s.size ∧ i = .int .i64 k ∧ ∀ j, (hj : j < s.size) → j < k → okByte (s[j]'hj) = true) (fun i => s.size - (intOf i).toNat)
  case atStart => exact ⟨0, Nat.zero_le _, rfl, fun j _ h => absurd h (by omega)⟩
  case round =>
    obtain ⟨k, hk, rfl, hall⟩ := hrel
    have HA : Hid (∀ j, (hj : j < s.size) → j < k → okByte (s[j]'hj) = true) := hall
    clear hall
    by_cases hlt : k < s.size
    · cases hb : okByte (s[k]'hlt) with
      | true =>
        have hb' := hb
        have HB : Hid (okByte (s[k]'hlt) = true) := hb
        simp only [okByte, Bool.and_eq_true, decide_eq_true_eq, Bool.not_eq_true', decide_eq_false_iff_not] at hb'
        have h1 : (32 : Int) ≤ ((s[k]'hlt).toNat : Int) := by omega
        have h2 : ((s[k]'hlt).toNat : Int) ≤ 126 := by omega
        have h3 : (((s[k]'hlt).toNat : Int) == 34) = false := by simp; omega
        clear hb hb'
        go_wp2
        go_round
        case rel => exact ⟨k + 1, by omega, by go_num, fun j hj hjk => if e : j = k then by subst e; exact HB.out else HA.out j hj (by omega)⟩
        case measure => simp [intOf]; omega
      | false =>
        have hv : validText s = false := by simp [validText, all_not hlt hb]
        have HV : Hid (validText s = false) := hv
        simp only [okByte, Bool.and_eq_false_iff, decide_eq_false_iff_not, Bool.not_eq_false', decide_eq_true_eq] at hb
        clear hv
        have h4 : (s[k]'hlt).toNat < 32 ∨ (32 ≤ (s[k]'hlt).toNat ∧ 126 < (s[k]'hlt).toNat) ∨ (s[k]'hlt).toNat = 34 := by omega
        clear hb
        rcases h4 with h4 | ⟨h4, h5⟩ | h4
        · have h1 : ((s[k]'hlt).toNat : Int) < 32 := by omega
          clear h4
          go_wp2
          go_ret
          exact ⟨ret_bool HV.out.symm, rfl⟩
        · have h1 : (32 : Int) ≤ ((s[k]'hlt).toNat : Int) := by omega
          have h2 : (126 : Int) < ((s[k]'hlt).toNat : Int) := by omega
          clear h4 h5
          go_wp2
          go_ret
          exact ⟨ret_bool HV.out.symm, rfl⟩
        · have h1 : (32 : Int) ≤ ((s[k]'hlt).toNat : Int) := by omega
          have h2 : ((s[k]'hlt).toNat : Int) ≤ 126 := by omega
          have h3 : (((s[k]'hlt).toNat : Int) == 34) = true := by simp; omega
          clear h4
          go_wp2
          go_ret
          exact ⟨ret_bool HV.out.symm, rfl⟩
    · go_wp2
      go_ret
      have hv : validText s = decide (s.size ≤ 20) := by
        unfold validText
        rw [all_get (fun j hj => HA.out j hj (by omega))]
        rfl
      exact ⟨ret_bool (by rw [hv]; exact decide_eq_decide.2 (by omega)), rfl⟩


theorem lowB_lt {b : UInt8} (h : lowB b = true) : dgB b = false := by
  simp only [lowB, dgB, Bool.and_eq_true, Bool.and_eq_false_iff, decide_eq_true_eq, decide_eq_false_iff_not] at *
  omega
/-- The length of the symbol at a place. -/
def symL (s : ByteArray) (a : Nat) (h : a < s.size) : Nat := if s[a].toNat = 61 ∧ (∃ h : a + 1 < s.size, s[a + 1].toNat = 61) then 2 else if symB s[a] = true then 1 else 0
theorem symL_le (s : ByteArray) (a : Nat) (h : a < s.size) : symL s a h ≤ 2 ∧ a + symL s a h ≤ s.size := by
  unfold symL
  split
  · rename_i hc
    obtain ⟨_, h2, _⟩ := hc
    omega
  · split <;> omega
theorem nextT_sym {s : ByteArray} {a : Nat} {h : a < s.size} (h1 : lowB s[a] = false) (h2 : dgB s[a] = false) (h3 : s[a].toNat ≠ 34) : nextT s a h = if symL s a h = 0 then none else some (⟨4, 0, a, s.extract a (a + symL s a h)⟩, a + symL s a h) := by
  unfold nextT symL
  rw [if_neg (by rw [h1]; decide), if_neg (by rw [h2]; decide), if_neg h3]
  split
  · rw [if_neg (by decide)]
  · split
    · rw [if_neg (by decide)]
    · rw [if_pos rfl]


theorem specSymbol (s : ByteArray) (a : Nat) (h : a < s.size) (hs : s.size ≤ 1048576) (w : World) : Calls Tryd.prog 28 #[.string s, .int .i64 (a : Int)] w fun e w' => e = .returned (.int .i64 ((symL s a h : Nat) : Int)) ∧ w = w' := by
  have hki : (a : Int) < (s.size : Int) := by omega
  by_cases h61 : s[a].toNat = 61
  · have e61 : (((s[a]'h).toNat : Nat) : Int) = 61 := by omega
    by_cases hn : a + 1 < s.size
    · have hkn : (a : Int) + 1 < (s.size : Int) := by omega
      by_cases hn61 : (s[a + 1]'hn).toNat = 61
      · have HV : Hid (symL s a h = 2) := by unfold Hid symL; rw [if_pos ⟨h61, hn, hn61⟩]
        have e62 : (((s[a + 1]'hn).toNat : Nat) : Int) = 61 := by omega
        clear hn61 h61
        go_enter Tryd.func28, Tryd.ntmps28
        go_wp2
        go_ret
        exact ⟨by rw [HV.out]; rfl, rfl⟩
      · have HV : Hid (symL s a h = 1) := by unfold Hid symL; rw [if_neg (fun hc => hn61 hc.2.2), if_pos (by unfold symB; rw [h61]; decide)]
        have e62 : ((((s[a + 1]'hn).toNat : Nat) : Int) == 61) = false := by simp; omega
        clear hn61 h61
        go_enter Tryd.func28, Tryd.ntmps28
        go_wp2
        go_ret
        exact ⟨by rw [HV.out]; rfl, rfl⟩
    · have HV : Hid (symL s a h = 1) := by unfold Hid symL; rw [if_neg (fun hc => hn hc.2.1), if_pos (by unfold symB; rw [h61]; decide)]
      have hkn : ¬ (a : Int) + 1 < (s.size : Int) := by omega
      clear h61
      go_enter Tryd.func28, Tryd.ntmps28
      go_wp2
      go_ret
      exact ⟨by rw [HV.out]; rfl, rfl⟩
  · cases hb : symB s[a] with
    | true =>
      have HV : Hid (symL s a h = 1) := by unfold Hid symL; rw [if_neg (fun hc => h61 hc.1), if_pos hb]
      unfold symB at hb
      simp only [List.contains_cons, List.contains_nil, Bool.or_false, Bool.or_eq_true, beq_iff_eq] at hb
      rcases hb with h40 | h41 | h91 | h93 | h44 | h43 | h45 | h42 | h60 | h61'
      · have e61 : (((s[a]'h).toNat : Nat) : Int) = 40 := by omega
        clear h61 h40
        go_enter Tryd.func28, Tryd.ntmps28
        go_wp2
        go_ret
        exact ⟨by rw [HV.out]; rfl, rfl⟩
      · have e61 : (((s[a]'h).toNat : Nat) : Int) = 41 := by omega
        clear h61 h41
        go_enter Tryd.func28, Tryd.ntmps28
        go_wp2
        go_ret
        exact ⟨by rw [HV.out]; rfl, rfl⟩
      · have e61 : (((s[a]'h).toNat : Nat) : Int) = 91 := by omega
        clear h61 h91
        go_enter Tryd.func28, Tryd.ntmps28
        go_wp2
        go_ret
        exact ⟨by rw [HV.out]; rfl, rfl⟩
      · have e61 : (((s[a]'h).toNat : Nat) : Int) = 93 := by omega
        clear h61 h93
        go_enter Tryd.func28, Tryd.ntmps28
        go_wp2
        go_ret
        exact ⟨by rw [HV.out]; rfl, rfl⟩
      · have e61 : (((s[a]'h).toNat : Nat) : Int) = 44 := by omega
        clear h61 h44
        go_enter Tryd.func28, Tryd.ntmps28
        go_wp2
        go_ret
        exact ⟨by rw [HV.out]; rfl, rfl⟩
      · have e61 : (((s[a]'h).toNat : Nat) : Int) = 43 := by omega
        clear h61 h43
        go_enter Tryd.func28, Tryd.ntmps28
        go_wp2
        go_ret
        exact ⟨by rw [HV.out]; rfl, rfl⟩
      · have e61 : (((s[a]'h).toNat : Nat) : Int) = 45 := by omega
        clear h61 h45
        go_enter Tryd.func28, Tryd.ntmps28
        go_wp2
        go_ret
        exact ⟨by rw [HV.out]; rfl, rfl⟩
      · have e61 : (((s[a]'h).toNat : Nat) : Int) = 42 := by omega
        clear h61 h42
        go_enter Tryd.func28, Tryd.ntmps28
        go_wp2
        go_ret
        exact ⟨by rw [HV.out]; rfl, rfl⟩
      · have e61 : (((s[a]'h).toNat : Nat) : Int) = 60 := by omega
        clear h61 h60
        go_enter Tryd.func28, Tryd.ntmps28
        go_wp2
        go_ret
        exact ⟨by rw [HV.out]; rfl, rfl⟩
      · exact absurd h61' h61
    | false =>
      have HV : Hid (symL s a h = 0) := by unfold Hid symL; rw [if_neg (fun hc => h61 hc.1), if_neg (by rw [hb]; decide)]
      unfold symB at hb
      simp only [List.contains_cons, List.contains_nil, Bool.or_false, Bool.or_eq_false_iff, beq_eq_false_iff_ne, ne_eq] at hb
      obtain ⟨g40, g41, g91, g93, g44, g43, g45, g42, g60, g61⟩ := hb
      have e40 : ((((s[a]'h).toNat : Nat) : Int) == 40) = false := by simp; omega
      have e41 : ((((s[a]'h).toNat : Nat) : Int) == 41) = false := by simp; omega
      have e91 : ((((s[a]'h).toNat : Nat) : Int) == 91) = false := by simp; omega
      have e93 : ((((s[a]'h).toNat : Nat) : Int) == 93) = false := by simp; omega
      have e44 : ((((s[a]'h).toNat : Nat) : Int) == 44) = false := by simp; omega
      have e43 : ((((s[a]'h).toNat : Nat) : Int) == 43) = false := by simp; omega
      have e45 : ((((s[a]'h).toNat : Nat) : Int) == 45) = false := by simp; omega
      have e42 : ((((s[a]'h).toNat : Nat) : Int) == 42) = false := by simp; omega
      have e60 : ((((s[a]'h).toNat : Nat) : Int) == 60) = false := by simp; omega
      have e61 : ((((s[a]'h).toNat : Nat) : Int) == 61) = false := by simp; omega
      clear h61 g40 g41 g91 g93 g44 g43 g45 g42 g60 g61
      go_enter Tryd.func28, Tryd.ntmps28
      go_wp2
      go_ret
      exact ⟨by rw [HV.out]; rfl, rfl⟩


/-- What l9Next returns. -/
def NextS (s : ByteArray) (a : Nat) (h : a < s.size) (r : Ending) : Prop := ∃ k n p t L, r = .returned (.tuple #[.agg #[.int .i64 k, .int .i64 n, .int .i64 p, .string t], .int .i64 L]) ∧ ((nextT s a h = none ∧ L = 0) ∨ ∃ e, nextT s a h = some (⟨k, n, p, t⟩, e) ∧ L = (e : Int) - (a : Int))
theorem later4 {W w : World} {g : Nat} (hl : Later W w) (hg : W.heap.size ≤ g) (a0 a1 a2 a3 : Value) : Later W ((((w.setCell ⟨g, 0, none⟩ a0).setCell ⟨g, 1, none⟩ a1).setCell ⟨g, 2, none⟩ a2).setCell ⟨g, 3, none⟩ a3) :=
  (((hl.set hg 0 _).set hg 1 _).set hg 2 _).set hg 3 _


set_option maxHeartbeats 4000000 in
theorem specNext1 (s : ByteArray) (a : Nat) (h : a < s.size) (hs : s.size ≤ 1048576) (W : World) (hc : lowB s[a] = true) : Calls Tryd.prog 16 #[.string s, .int .i64 (a : Int)] W fun r w' => NextS s a h r ∧ Later W w' := by
  have hki : (a : Int) < (s.size : Int) := by omega
  obtain ⟨E, hE⟩ : ∃ E, E = runEnd wordB s a := ⟨_, rfl⟩
  have hge := runEnd_ge wordB s a
  have hle := runEnd_le (p := wordB) (show a ≤ s.size by omega)
  rw [← hE] at hge hle
  have HE : Hid (runEnd wordB s a = E) := hE.symm
  by_cases h8 : E - a ≤ 8
  · have HV : Hid (nextT s a h = some (⟨1, 0, a, s.extract a E⟩, E)) := by unfold Hid nextT; rw [if_pos hc, ← hE, if_pos h8]
    clear hE
    go_enter Tryd.func16, Tryd.ntmps16
    go_wp2_with fail
    refine (letterT _ hc _).mono ?_; rintro e w1 ⟨rfl, rfl⟩
    go_wp2_with fail
    go_loop [7] (fun i => ∃ k : Nat, a ≤ k ∧ k ≤ s.size ∧ i = .int .i64 (k : Int) ∧ Hid (runEnd wordB s k = E)) (fun i => s.size - (intOf i).toNat)
    case atStart => exact ⟨a, Nat.le_refl _, by omega, rfl, HE⟩
    case round =>
      obtain ⟨k, hak, hk, rfl, hr⟩ := hrel
      by_cases hlt : k < s.size
      · have hki2 : (k : Int) < (s.size : Int) := by omega
        cases hl : lowB s[k] with
        | true =>
          have HN : Hid (runEnd wordB s (k + 1) = E) := by unfold Hid; rw [← runEnd_here hlt (by unfold wordB; rw [hl]; rfl)]; exact hr.out
          go_wp2_with fail
          refine (letterT _ hl _).mono ?_; rintro e w1 ⟨rfl, rfl⟩
          go_wp2_with fail
          go_round
          case rel => exact ⟨k + 1, by omega, by omega, by go_num, HN⟩
          case measure => simp [intOf]; omega
        | false =>
          cases hd : dgB s[k] with
          | true =>
            have HN : Hid (runEnd wordB s (k + 1) = E) := by unfold Hid; rw [← runEnd_here hlt (by unfold wordB; rw [hl, hd]; rfl)]; exact hr.out
            go_wp2_with fail
            refine (letterF _ hl _).mono ?_; rintro e w1 ⟨rfl, rfl⟩
            go_wp2_with fail
            refine (digitT _ hd _).mono ?_; rintro e w1 ⟨rfl, rfl⟩
            go_wp2_with fail
            go_round
            case rel => exact ⟨k + 1, by omega, by omega, by go_num, HN⟩
            case measure => simp [intOf]; omega
          | false =>
            have hkE : k = E := by have := hr.out; rw [runEnd_stop hlt (by unfold wordB; rw [hl, hd]; rfl)] at this; exact this
            subst hkE
            clear hr HE
            go_wp2_with fail
            refine (letterF _ hl _).mono ?_; rintro e w1 ⟨rfl, rfl⟩
            go_wp2_with fail
            refine (digitF _ hd _).mono ?_; rintro e w1 ⟨rfl, rfl⟩
            go_wp2_with fail
            exact bodyPost_ret (v := .tuple #[.agg #[.int .i64 1, .int .i64 0, .int .i64 (a : Int), .string (s.extract a k)], .int .i64 ((k : Int) - (a : Int))]) (by simp [results, Tryd.results16, go_sem]) rfl ⟨⟨1, 0, a, _, _, rfl, .inr ⟨k, HV.out, rfl⟩⟩, ((Later.rfl' _).alloc _).alloc _⟩
      · have hkE : k = E := by have := hr.out; rw [runEnd_out (by omega)] at this; exact this
        subst hkE
        clear hr HE
        go_wp2_with fail
        exact bodyPost_ret (v := .tuple #[.agg #[.int .i64 1, .int .i64 0, .int .i64 (a : Int), .string (s.extract a k)], .int .i64 ((k : Int) - (a : Int))]) (by simp [results, Tryd.results16, go_sem]) rfl ⟨⟨1, 0, a, _, _, rfl, .inr ⟨k, HV.out, rfl⟩⟩, ((Later.rfl' _).alloc _).alloc _⟩
  · have HV : Hid (nextT s a h = none) := by unfold Hid nextT; rw [if_pos hc, ← hE, if_neg h8]
    clear hE
    go_enter Tryd.func16, Tryd.ntmps16
    go_wp2_with fail
    refine (letterT _ hc _).mono ?_; rintro e w1 ⟨rfl, rfl⟩
    go_wp2_with fail
    go_loop [7] (fun i => ∃ k : Nat, a ≤ k ∧ k ≤ s.size ∧ i = .int .i64 (k : Int) ∧ Hid (runEnd wordB s k = E)) (fun i => s.size - (intOf i).toNat)
    case atStart => exact ⟨a, Nat.le_refl _, by omega, rfl, HE⟩
    case round =>
      obtain ⟨k, hak, hk, rfl, hr⟩ := hrel
      by_cases hlt : k < s.size
      · have hki2 : (k : Int) < (s.size : Int) := by omega
        cases hl : lowB s[k] with
        | true =>
          have HN : Hid (runEnd wordB s (k + 1) = E) := by unfold Hid; rw [← runEnd_here hlt (by unfold wordB; rw [hl]; rfl)]; exact hr.out
          go_wp2_with fail
          refine (letterT _ hl _).mono ?_; rintro e w1 ⟨rfl, rfl⟩
          go_wp2_with fail
          go_round
          case rel => exact ⟨k + 1, by omega, by omega, by go_num, HN⟩
          case measure => simp [intOf]; omega
        | false =>
          cases hd : dgB s[k] with
          | true =>
            have HN : Hid (runEnd wordB s (k + 1) = E) := by unfold Hid; rw [← runEnd_here hlt (by unfold wordB; rw [hl, hd]; rfl)]; exact hr.out
            go_wp2_with fail
            refine (letterF _ hl _).mono ?_; rintro e w1 ⟨rfl, rfl⟩
            go_wp2_with fail
            refine (digitT _ hd _).mono ?_; rintro e w1 ⟨rfl, rfl⟩
            go_wp2_with fail
            go_round
            case rel => exact ⟨k + 1, by omega, by omega, by go_num, HN⟩
            case measure => simp [intOf]; omega
          | false =>
            have hkE : k = E := by have := hr.out; rw [runEnd_stop hlt (by unfold wordB; rw [hl, hd]; rfl)] at this; exact this
            subst hkE
            clear hr HE
            go_wp2_with fail
            refine (letterF _ hl _).mono ?_; rintro e w1 ⟨rfl, rfl⟩
            go_wp2_with fail
            refine (digitF _ hd _).mono ?_; rintro e w1 ⟨rfl, rfl⟩
            go_wp2_with fail
            exact bodyPost_ret (v := .tuple #[.agg #[.int .i64 1, .int .i64 0, .int .i64 (a : Int), .string (s.extract a k)], .int .i64 0]) (by simp [results, Tryd.results16, go_sem]) rfl ⟨⟨1, 0, a, _, _, rfl, .inl ⟨HV.out, rfl⟩⟩, ((Later.rfl' _).alloc _).alloc _⟩
      · have hkE : k = E := by have := hr.out; rw [runEnd_out (by omega)] at this; exact this
        subst hkE
        clear hr HE
        go_wp2_with fail
        exact bodyPost_ret (v := .tuple #[.agg #[.int .i64 1, .int .i64 0, .int .i64 (a : Int), .string (s.extract a k)], .int .i64 0]) (by simp [results, Tryd.results16, go_sem]) rfl ⟨⟨1, 0, a, _, _, rfl, .inl ⟨HV.out, rfl⟩⟩, ((Later.rfl' _).alloc _).alloc _⟩


set_option maxHeartbeats 8000000 in
theorem specNext2 (s : ByteArray) (a : Nat) (h : a < s.size) (hs : s.size ≤ 1048576) (W : World) (hl0 : lowB s[a] = false) (hc : dgB s[a] = true) : Calls Tryd.prog 16 #[.string s, .int .i64 (a : Int)] W fun r w' => NextS s a h r ∧ Later W w' := by
  have hki : (a : Int) < (s.size : Int) := by omega
  obtain ⟨E, hE⟩ : ∃ E, E = runEnd dgB s a := ⟨_, rfl⟩
  have hge := runEnd_ge dgB s a
  have hgt := runEnd_ge dgB s (a + 1)
  rw [← runEnd_here h hc] at hgt
  have hle := runEnd_le (p := dgB) (show a ≤ s.size by omega)
  rw [← hE] at hge hle hgt
  have HE : Hid (runEnd dgB s a = E) := hE.symm
  have hsz : (s.extract a E).size ≤ 1048576 := by rw [ByteArray.size_extract]; omega
  have C := fun w => specParseInt (s.extract a E) hsz w
  have hnx : nextT s a h = match readB 12 (s.extract a E) with | some n => if n ≤ 1000000000 then some (⟨2, n, a, ⟨#[]⟩⟩, E) else none | none => none := by
    unfold nextT
    rw [if_neg (by rw [hl0]; decide), if_pos hc, ← hE, digits_parse (by omega) hle hc]
    cases readB 12 (s.extract a E) with
    | none => rfl
    | some n =>
      simp only
      by_cases hn : n ≤ 1000000000
      · rw [if_pos hn, if_pos hn]
      · rw [if_neg hn, if_neg hn]
  clear hgt hsz
  cases hr12 : readB 12 (s.extract a E) with
  | none =>
    simp only [hr12, optR] at C hnx
    have HV := Lib.hid hnx; have HC := Lib.hid C
    clear hE hnx C hr12
    go_enter Tryd.func16, Tryd.ntmps16
    go_wp2_with fail
    refine (letterF _ hl0 _).mono ?_; rintro e w1 ⟨rfl, rfl⟩
    go_wp2_with fail
    refine (digitT _ hc _).mono ?_; rintro e w1 ⟨rfl, rfl⟩
    go_wp2_with fail
    go_loop [7] (fun i => ∃ k : Nat, a ≤ k ∧ k ≤ s.size ∧ i = .int .i64 (k : Int) ∧ Hid (runEnd dgB s k = E)) (fun i => s.size - (intOf i).toNat)
    case atStart => exact ⟨a, Nat.le_refl _, by omega, rfl, HE⟩
    case round =>
      obtain ⟨k, hak, hk, rfl, hr⟩ := hrel
      by_cases hlt : k < s.size
      · have hki2 : (k : Int) < (s.size : Int) := by omega
        cases hd : dgB s[k] with
        | true =>
          have HN : Hid (runEnd dgB s (k + 1) = E) := by unfold Hid; rw [← runEnd_here hlt hd]; exact hr.out
          go_wp2_with fail
          refine (digitT _ hd _).mono ?_; rintro e w1 ⟨rfl, rfl⟩
          go_wp2_with fail
          go_round
          case rel => exact ⟨k + 1, by omega, by omega, by go_num, HN⟩
          case measure => simp [intOf]; omega
        | false =>
          have hkE : k = E := by have := hr.out; rw [runEnd_stop hlt hd] at this; exact this
          subst hkE
          clear hr HE
          go_wp2_with fail
          refine (digitF _ hd _).mono ?_; rintro e w1 ⟨rfl, rfl⟩
          go_wp2_with fail
          refine (HC.out _).mono ?_; rintro e w1 ⟨rfl, hb⟩
          obtain ⟨P, Q, hsz, HL0⟩ := box2 hb
          have HL := Lib.hid HL0
          have q0 := Q.cell (j := 0) rfl
          have qf0 := Q.free 0
          have p0 := P.cell (j := 0) rfl
          have pf0 := P.free 0
          have q1 := Q.cell (j := 1) rfl
          have qf1 := Q.free 1
          have p1 := P.cell (j := 1) rfl
          have pf1 := P.free 1
          have q2 := Q.cell (j := 2) rfl
          have qf2 := Q.free 2
          have p2 := P.cell (j := 2) rfl
          have pf2 := P.free 2
          have q3 := Q.cell (j := 3) rfl
          have qf3 := Q.free 3
          have p3 := P.cell (j := 3) rfl
          have pf3 := P.free 3
          have hq1 := Q.lt
          have hp1 := P.lt
          clear P Q hb HL0
          go_wp2_with fail
          exact bodyPost_ret (v := .tuple #[.agg #[.int .i64 2, .int .i64 0, .int .i64 (a : Int), .string ⟨#[]⟩], .int .i64 0]) (by simp [results, Tryd.results16, go_sem, p0, p1, p2, p3]) rfl ⟨⟨2, 0, a, _, _, rfl, .inl ⟨HV.out, rfl⟩⟩, later4 ((HL.out.set (Nat.le_succ _) _ _).set (Nat.le_succ _) _ _) (Nat.le_refl _) _ _ _ _⟩
      · have hkE : k = E := by have := hr.out; rw [runEnd_out (by omega)] at this; exact this
        subst hkE
        clear hr HE
        go_wp2_with fail
        refine (HC.out _).mono ?_; rintro e w1 ⟨rfl, hb⟩
        obtain ⟨P, Q, hsz, HL0⟩ := box2 hb
        have HL := Lib.hid HL0
        have q0 := Q.cell (j := 0) rfl
        have qf0 := Q.free 0
        have p0 := P.cell (j := 0) rfl
        have pf0 := P.free 0
        have q1 := Q.cell (j := 1) rfl
        have qf1 := Q.free 1
        have p1 := P.cell (j := 1) rfl
        have pf1 := P.free 1
        have q2 := Q.cell (j := 2) rfl
        have qf2 := Q.free 2
        have p2 := P.cell (j := 2) rfl
        have pf2 := P.free 2
        have q3 := Q.cell (j := 3) rfl
        have qf3 := Q.free 3
        have p3 := P.cell (j := 3) rfl
        have pf3 := P.free 3
        have hq1 := Q.lt
        have hp1 := P.lt
        clear P Q hb HL0
        go_wp2_with fail
        exact bodyPost_ret (v := .tuple #[.agg #[.int .i64 2, .int .i64 0, .int .i64 (a : Int), .string ⟨#[]⟩], .int .i64 0]) (by simp [results, Tryd.results16, go_sem, p0, p1, p2, p3]) rfl ⟨⟨2, 0, a, _, _, rfl, .inl ⟨HV.out, rfl⟩⟩, later4 ((HL.out.set (Nat.le_succ _) _ _).set (Nat.le_succ _) _ _) (Nat.le_refl _) _ _ _ _⟩
  | some n =>
    have hb := ((readB_iff (by omega)).1 hr12).2
    rw [show (10 : Nat) ^ 12 = 1000000000000 from rfl] at hb
    simp only [hr12, optR] at C hnx
    have HC := Lib.hid C
    by_cases hn : n ≤ 1000000000
    · rw [if_pos hn] at hnx
      have HV := Lib.hid hnx
      clear hE hnx C hr12
      go_enter Tryd.func16, Tryd.ntmps16
      go_wp2_with fail
      refine (letterF _ hl0 _).mono ?_; rintro e w1 ⟨rfl, rfl⟩
      go_wp2_with fail
      refine (digitT _ hc _).mono ?_; rintro e w1 ⟨rfl, rfl⟩
      go_wp2_with fail
      go_loop [7] (fun i => ∃ k : Nat, a ≤ k ∧ k ≤ s.size ∧ i = .int .i64 (k : Int) ∧ Hid (runEnd dgB s k = E)) (fun i => s.size - (intOf i).toNat)
      case atStart => exact ⟨a, Nat.le_refl _, by omega, rfl, HE⟩
      case round =>
        obtain ⟨k, hak, hk, rfl, hr⟩ := hrel
        by_cases hlt : k < s.size
        · have hki2 : (k : Int) < (s.size : Int) := by omega
          cases hd : dgB s[k] with
          | true =>
            have HN : Hid (runEnd dgB s (k + 1) = E) := by unfold Hid; rw [← runEnd_here hlt hd]; exact hr.out
            go_wp2_with fail
            refine (digitT _ hd _).mono ?_; rintro e w1 ⟨rfl, rfl⟩
            go_wp2_with fail
            go_round
            case rel => exact ⟨k + 1, by omega, by omega, by go_num, HN⟩
            case measure => simp [intOf]; omega
          | false =>
            have hkE : k = E := by have := hr.out; rw [runEnd_stop hlt hd] at this; exact this
            subst hkE
            clear hr HE
            go_wp2_with fail
            refine (digitF _ hd _).mono ?_; rintro e w1 ⟨rfl, rfl⟩
            go_wp2_with fail
            refine (HC.out _).mono ?_; rintro e w1 ⟨rfl, hb⟩
            obtain ⟨P, Q, hsz, HL0⟩ := box2 hb
            have HL := Lib.hid HL0
            have q0 := Q.cell (j := 0) rfl
            have qf0 := Q.free 0
            have p0 := P.cell (j := 0) rfl
            have pf0 := P.free 0
            have q1 := Q.cell (j := 1) rfl
            have qf1 := Q.free 1
            have p1 := P.cell (j := 1) rfl
            have pf1 := P.free 1
            have q2 := Q.cell (j := 2) rfl
            have qf2 := Q.free 2
            have p2 := P.cell (j := 2) rfl
            have pf2 := P.free 2
            have q3 := Q.cell (j := 3) rfl
            have qf3 := Q.free 3
            have p3 := P.cell (j := 3) rfl
            have pf3 := P.free 3
            have hq1 := Q.lt
            have hp1 := P.lt
            clear P Q hb HL0
            go_wp2_with fail
            exact bodyPost_ret (v := .tuple #[.agg #[.int .i64 2, .int .i64 n, .int .i64 (a : Int), .string ⟨#[]⟩], .int .i64 ((k : Int) - (a : Int))]) (by simp [results, Tryd.results16, go_sem, p0, p1, p2, p3]) rfl ⟨⟨2, n, a, _, _, rfl, .inr ⟨k, HV.out, rfl⟩⟩, later4 ((HL.out.set (Nat.le_succ _) _ _).set (Nat.le_succ _) _ _) (Nat.le_refl _) _ _ _ _⟩
        · have hkE : k = E := by have := hr.out; rw [runEnd_out (by omega)] at this; exact this
          subst hkE
          clear hr HE
          go_wp2_with fail
          refine (HC.out _).mono ?_; rintro e w1 ⟨rfl, hb⟩
          obtain ⟨P, Q, hsz, HL0⟩ := box2 hb
          have HL := Lib.hid HL0
          have q0 := Q.cell (j := 0) rfl
          have qf0 := Q.free 0
          have p0 := P.cell (j := 0) rfl
          have pf0 := P.free 0
          have q1 := Q.cell (j := 1) rfl
          have qf1 := Q.free 1
          have p1 := P.cell (j := 1) rfl
          have pf1 := P.free 1
          have q2 := Q.cell (j := 2) rfl
          have qf2 := Q.free 2
          have p2 := P.cell (j := 2) rfl
          have pf2 := P.free 2
          have q3 := Q.cell (j := 3) rfl
          have qf3 := Q.free 3
          have p3 := P.cell (j := 3) rfl
          have pf3 := P.free 3
          have hq1 := Q.lt
          have hp1 := P.lt
          clear P Q hb HL0
          go_wp2_with fail
          exact bodyPost_ret (v := .tuple #[.agg #[.int .i64 2, .int .i64 n, .int .i64 (a : Int), .string ⟨#[]⟩], .int .i64 ((k : Int) - (a : Int))]) (by simp [results, Tryd.results16, go_sem, p0, p1, p2, p3]) rfl ⟨⟨2, n, a, _, _, rfl, .inr ⟨k, HV.out, rfl⟩⟩, later4 ((HL.out.set (Nat.le_succ _) _ _).set (Nat.le_succ _) _ _) (Nat.le_refl _) _ _ _ _⟩
    · rw [if_neg hn] at hnx
      have HV := Lib.hid hnx
      have hn2 : 1000000000 < n := by omega
      clear hE hnx C hr12 hn
      go_enter Tryd.func16, Tryd.ntmps16
      go_wp2_with fail
      refine (letterF _ hl0 _).mono ?_; rintro e w1 ⟨rfl, rfl⟩
      go_wp2_with fail
      refine (digitT _ hc _).mono ?_; rintro e w1 ⟨rfl, rfl⟩
      go_wp2_with fail
      go_loop [7] (fun i => ∃ k : Nat, a ≤ k ∧ k ≤ s.size ∧ i = .int .i64 (k : Int) ∧ Hid (runEnd dgB s k = E)) (fun i => s.size - (intOf i).toNat)
      case atStart => exact ⟨a, Nat.le_refl _, by omega, rfl, HE⟩
      case round =>
        obtain ⟨k, hak, hk, rfl, hr⟩ := hrel
        by_cases hlt : k < s.size
        · have hki2 : (k : Int) < (s.size : Int) := by omega
          cases hd : dgB s[k] with
          | true =>
            have HN : Hid (runEnd dgB s (k + 1) = E) := by unfold Hid; rw [← runEnd_here hlt hd]; exact hr.out
            go_wp2_with fail
            refine (digitT _ hd _).mono ?_; rintro e w1 ⟨rfl, rfl⟩
            go_wp2_with fail
            go_round
            case rel => exact ⟨k + 1, by omega, by omega, by go_num, HN⟩
            case measure => simp [intOf]; omega
          | false =>
            have hkE : k = E := by have := hr.out; rw [runEnd_stop hlt hd] at this; exact this
            subst hkE
            clear hr HE
            go_wp2_with fail
            refine (digitF _ hd _).mono ?_; rintro e w1 ⟨rfl, rfl⟩
            go_wp2_with fail
            refine (HC.out _).mono ?_; rintro e w1 ⟨rfl, hb⟩
            obtain ⟨P, Q, hsz, HL0⟩ := box2 hb
            have HL := Lib.hid HL0
            have q0 := Q.cell (j := 0) rfl
            have qf0 := Q.free 0
            have p0 := P.cell (j := 0) rfl
            have pf0 := P.free 0
            have q1 := Q.cell (j := 1) rfl
            have qf1 := Q.free 1
            have p1 := P.cell (j := 1) rfl
            have pf1 := P.free 1
            have q2 := Q.cell (j := 2) rfl
            have qf2 := Q.free 2
            have p2 := P.cell (j := 2) rfl
            have pf2 := P.free 2
            have q3 := Q.cell (j := 3) rfl
            have qf3 := Q.free 3
            have p3 := P.cell (j := 3) rfl
            have pf3 := P.free 3
            have hq1 := Q.lt
            have hp1 := P.lt
            clear P Q hb HL0
            go_wp2_with fail
            exact bodyPost_ret (v := .tuple #[.agg #[.int .i64 2, .int .i64 n, .int .i64 (a : Int), .string ⟨#[]⟩], .int .i64 0]) (by simp [results, Tryd.results16, go_sem, p0, p1, p2, p3]) rfl ⟨⟨2, n, a, _, _, rfl, .inl ⟨HV.out, rfl⟩⟩, later4 ((HL.out.set (Nat.le_succ _) _ _).set (Nat.le_succ _) _ _) (Nat.le_refl _) _ _ _ _⟩
        · have hkE : k = E := by have := hr.out; rw [runEnd_out (by omega)] at this; exact this
          subst hkE
          clear hr HE
          go_wp2_with fail
          refine (HC.out _).mono ?_; rintro e w1 ⟨rfl, hb⟩
          obtain ⟨P, Q, hsz, HL0⟩ := box2 hb
          have HL := Lib.hid HL0
          have q0 := Q.cell (j := 0) rfl
          have qf0 := Q.free 0
          have p0 := P.cell (j := 0) rfl
          have pf0 := P.free 0
          have q1 := Q.cell (j := 1) rfl
          have qf1 := Q.free 1
          have p1 := P.cell (j := 1) rfl
          have pf1 := P.free 1
          have q2 := Q.cell (j := 2) rfl
          have qf2 := Q.free 2
          have p2 := P.cell (j := 2) rfl
          have pf2 := P.free 2
          have q3 := Q.cell (j := 3) rfl
          have qf3 := Q.free 3
          have p3 := P.cell (j := 3) rfl
          have pf3 := P.free 3
          have hq1 := Q.lt
          have hp1 := P.lt
          clear P Q hb HL0
          go_wp2_with fail
          exact bodyPost_ret (v := .tuple #[.agg #[.int .i64 2, .int .i64 n, .int .i64 (a : Int), .string ⟨#[]⟩], .int .i64 0]) (by simp [results, Tryd.results16, go_sem, p0, p1, p2, p3]) rfl ⟨⟨2, n, a, _, _, rfl, .inl ⟨HV.out, rfl⟩⟩, later4 ((HL.out.set (Nat.le_succ _) _ _).set (Nat.le_succ _) _ _) (Nat.le_refl _) _ _ _ _⟩


set_option maxHeartbeats 8000000 in
theorem specNext3 (s : ByteArray) (a : Nat) (h : a < s.size) (hs : s.size ≤ 1048576) (W : World) (hl0 : lowB s[a] = false) (hd0 : dgB s[a] = false) (hc : s[a].toNat = 34) : Calls Tryd.prog 16 #[.string s, .int .i64 (a : Int)] W fun r w' => NextS s a h r ∧ Later W w' := by
  have hki : (a : Int) < (s.size : Int) := by omega
  obtain ⟨E, hE⟩ : ∃ E, E = runEnd quotB s (a + 1) := ⟨_, rfl⟩
  have hge := runEnd_ge quotB s (a + 1)
  have hle := runEnd_le (p := quotB) (show a + 1 ≤ s.size by omega)
  rw [← hE] at hge hle
  have HE : Hid (runEnd quotB s (a + 1) = E) := hE.symm
  have C := fun w => specValidTextE (s.extract (a + 1) E) w (by rw [ByteArray.size_extract]; unfold maxLen; omega)
  have hnx : nextT s a h = if E < s.size ∧ validText (s.extract (a + 1) E) = true then some (⟨3, 0, a, s.extract (a + 1) E⟩, E + 1) else none := by
    unfold nextT
    rw [if_neg (by rw [hl0]; decide), if_neg (by rw [hd0]; decide), if_pos hc, ← hE]
  have e34 : ((((s[a]'h).toNat : Nat) : Int) == 34) = true := by simp; omega
  by_cases hE1 : E < s.size
  · cases hv : validText (s.extract (a + 1) E) with
    | true =>
      rw [if_pos ⟨hE1, hv⟩] at hnx
      rw [hv] at C
      have HV := Lib.hid hnx; have HC := Lib.hid C
      clear hE hnx C hv hc
      go_enter Tryd.func16, Tryd.ntmps16
      go_wp2_with fail
      refine (letterF _ hl0 _).mono ?_; rintro e w1 ⟨rfl, rfl⟩
      go_wp2_with fail
      refine (digitF _ hd0 _).mono ?_; rintro e w1 ⟨rfl, rfl⟩
      go_wp2_with fail
      go_loop [7] (fun i => ∃ k : Nat, a + 1 ≤ k ∧ k ≤ s.size ∧ i = .int .i64 (k : Int) ∧ Hid (runEnd quotB s k = E)) (fun i => s.size - (intOf i).toNat)
      case atStart => exact ⟨a + 1, Nat.le_refl _, by omega, by go_num, HE⟩
      case round =>
        obtain ⟨k, hak, hk, rfl, hr⟩ := hrel
        by_cases hlt : k < s.size
        · have hki2 : (k : Int) < (s.size : Int) := by omega
          cases hd : quotB s[k] with
          | true =>
            have HN : Hid (runEnd quotB s (k + 1) = E) := by unfold Hid; rw [← runEnd_here hlt hd]; exact hr.out
            have hne : (s[k]'hlt).toNat ≠ 34 := by simpa [quotB] using hd
            have e1 : ((((s[k]'hlt).toNat : Nat) : Int) != 34) = true := by simp; omega
            have e2 : ((((s[k]'hlt).toNat : Nat) : Int) == 34) = false := by simp; omega
            clear hd hne
            go_wp2_with fail
            go_round
            case rel => exact ⟨k + 1, by omega, by omega, by go_num, HN⟩
            case measure => simp [intOf]; omega
          | false =>
            have hkE : k = E := by have := hr.out; rw [runEnd_stop hlt hd] at this; exact this
            subst hkE
            have hne : (s[k]'hlt).toNat = 34 := by simpa [quotB] using hd
            have e1 : (((s[k]'hlt).toNat : Nat) : Int) = 34 := by omega
            clear hd hne hr HE
            have hks : ((k : Int) == (s.size : Int)) = false := by simp; omega
            go_wp2_with fail
            refine (HC.out _).mono ?_; rintro e w1 ⟨rfl, rfl⟩
            go_wp2_with fail
            exact bodyPost_ret (v := .tuple #[.agg #[.int .i64 3, .int .i64 0, .int .i64 (a : Int), .string (s.extract (a + 1) k)], .int .i64 ((k : Int) + 1 - (a : Int))]) (by simp [results, Tryd.results16, go_sem]) rfl ⟨⟨3, 0, a, _, _, rfl, .inr ⟨k + 1, HV.out, by omega⟩⟩, ((Later.rfl' _).alloc _).alloc _⟩
        · have hkE : k = E := by have := hr.out; rw [runEnd_out (by omega)] at this; exact this
          subst hkE
          clear hr HE
          exact absurd hE1 hlt
    | false =>
      rw [if_neg (fun hc => by rw [hv] at hc; exact absurd hc.2 (by decide))] at hnx
      rw [hv] at C
      have HV := Lib.hid hnx; have HC := Lib.hid C
      clear hE hnx C hv hc
      go_enter Tryd.func16, Tryd.ntmps16
      go_wp2_with fail
      refine (letterF _ hl0 _).mono ?_; rintro e w1 ⟨rfl, rfl⟩
      go_wp2_with fail
      refine (digitF _ hd0 _).mono ?_; rintro e w1 ⟨rfl, rfl⟩
      go_wp2_with fail
      go_loop [7] (fun i => ∃ k : Nat, a + 1 ≤ k ∧ k ≤ s.size ∧ i = .int .i64 (k : Int) ∧ Hid (runEnd quotB s k = E)) (fun i => s.size - (intOf i).toNat)
      case atStart => exact ⟨a + 1, Nat.le_refl _, by omega, by go_num, HE⟩
      case round =>
        obtain ⟨k, hak, hk, rfl, hr⟩ := hrel
        by_cases hlt : k < s.size
        · have hki2 : (k : Int) < (s.size : Int) := by omega
          cases hd : quotB s[k] with
          | true =>
            have HN : Hid (runEnd quotB s (k + 1) = E) := by unfold Hid; rw [← runEnd_here hlt hd]; exact hr.out
            have hne : (s[k]'hlt).toNat ≠ 34 := by simpa [quotB] using hd
            have e1 : ((((s[k]'hlt).toNat : Nat) : Int) != 34) = true := by simp; omega
            have e2 : ((((s[k]'hlt).toNat : Nat) : Int) == 34) = false := by simp; omega
            clear hd hne
            go_wp2_with fail
            go_round
            case rel => exact ⟨k + 1, by omega, by omega, by go_num, HN⟩
            case measure => simp [intOf]; omega
          | false =>
            have hkE : k = E := by have := hr.out; rw [runEnd_stop hlt hd] at this; exact this
            subst hkE
            have hne : (s[k]'hlt).toNat = 34 := by simpa [quotB] using hd
            have e1 : (((s[k]'hlt).toNat : Nat) : Int) = 34 := by omega
            clear hd hne hr HE
            have hks : ((k : Int) == (s.size : Int)) = false := by simp; omega
            go_wp2_with fail
            refine (HC.out _).mono ?_; rintro e w1 ⟨rfl, rfl⟩
            go_wp2_with fail
            exact bodyPost_ret (v := .tuple #[.agg #[.int .i64 3, .int .i64 0, .int .i64 (a : Int), .string (s.extract (a + 1) k)], .int .i64 0]) (by simp [results, Tryd.results16, go_sem]) rfl ⟨⟨3, 0, a, _, _, rfl, .inl ⟨HV.out, rfl⟩⟩, ((Later.rfl' _).alloc _).alloc _⟩
        · have hkE : k = E := by have := hr.out; rw [runEnd_out (by omega)] at this; exact this
          subst hkE
          clear hr HE
          exact absurd hE1 hlt
  · rw [if_neg (fun hc => hE1 hc.1)] at hnx
    have HV := Lib.hid hnx
    clear hE hnx C hc
    go_enter Tryd.func16, Tryd.ntmps16
    go_wp2_with fail
    refine (letterF _ hl0 _).mono ?_; rintro e w1 ⟨rfl, rfl⟩
    go_wp2_with fail
    refine (digitF _ hd0 _).mono ?_; rintro e w1 ⟨rfl, rfl⟩
    go_wp2_with fail
    go_loop [7] (fun i => ∃ k : Nat, a + 1 ≤ k ∧ k ≤ s.size ∧ i = .int .i64 (k : Int) ∧ Hid (runEnd quotB s k = E)) (fun i => s.size - (intOf i).toNat)
    case atStart => exact ⟨a + 1, Nat.le_refl _, by omega, by go_num, HE⟩
    case round =>
      obtain ⟨k, hak, hk, rfl, hr⟩ := hrel
      by_cases hlt : k < s.size
      · have hki2 : (k : Int) < (s.size : Int) := by omega
        cases hd : quotB s[k] with
        | true =>
          have HN : Hid (runEnd quotB s (k + 1) = E) := by unfold Hid; rw [← runEnd_here hlt hd]; exact hr.out
          have hne : (s[k]'hlt).toNat ≠ 34 := by simpa [quotB] using hd
          have e1 : ((((s[k]'hlt).toNat : Nat) : Int) != 34) = true := by simp; omega
          have e2 : ((((s[k]'hlt).toNat : Nat) : Int) == 34) = false := by simp; omega
          clear hd hne
          go_wp2_with fail
          go_round
          case rel => exact ⟨k + 1, by omega, by omega, by go_num, HN⟩
          case measure => simp [intOf]; omega
        | false =>
          have hkE : k = E := by have := hr.out; rw [runEnd_stop hlt hd] at this; exact this
          subst hkE
          have hne : (s[k]'hlt).toNat = 34 := by simpa [quotB] using hd
          have e1 : (((s[k]'hlt).toNat : Nat) : Int) = 34 := by omega
          clear hd hne hr HE
          exact absurd hlt hE1
      · have hkE : k = E := by have := hr.out; rw [runEnd_out (by omega)] at this; exact this
        subst hkE
        clear hr HE
        have hks : k = s.size := by omega
        have hks2 : ((k : Int) == (s.size : Int)) = true := by simp; omega
        clear hks
        go_wp2_with fail
        exact bodyPost_ret (v := .tuple #[.agg #[.int .i64 3, .int .i64 0, .int .i64 (a : Int), .string (s.extract (a + 1) k)], .int .i64 0]) (by simp [results, Tryd.results16, go_sem]) rfl ⟨⟨3, 0, a, _, _, rfl, .inl ⟨HV.out, rfl⟩⟩, ((Later.rfl' _).alloc _).alloc _⟩


set_option maxHeartbeats 4000000 in
theorem specNext4 (s : ByteArray) (a : Nat) (h : a < s.size) (hs : s.size ≤ 1048576) (W : World) (hl0 : lowB s[a] = false) (hd0 : dgB s[a] = false) (hc : s[a].toNat ≠ 34) : Calls Tryd.prog 16 #[.string s, .int .i64 (a : Int)] W fun r w' => NextS s a h r ∧ Later W w' := by
  have hki : (a : Int) < (s.size : Int) := by omega
  have hnx := nextT_sym hl0 hd0 hc
  have e34 : ((((s[a]'h).toNat : Nat) : Int) == 34) = false := by simp; omega
  obtain ⟨hm1, hm2⟩ := symL_le s a h
  have C := fun w => specSymbol s a h hs w
  obtain ⟨m, hm⟩ : ∃ m, m = symL s a h := ⟨_, rfl⟩
  rw [← hm] at hnx hm1 hm2
  simp only [← hm] at C
  have HV := Lib.hid hnx; have HC := Lib.hid C
  clear hnx C hm hc
  go_enter Tryd.func16, Tryd.ntmps16
  go_wp2_with fail
  refine (letterF _ hl0 _).mono ?_; rintro e w1 ⟨rfl, rfl⟩
  go_wp2_with fail
  refine (digitF _ hd0 _).mono ?_; rintro e w1 ⟨rfl, rfl⟩
  go_wp2_with fail
  refine (HC.out _).mono ?_; rintro e w1 ⟨rfl, rfl⟩
  go_wp2_with fail
  exact bodyPost_ret (v := .tuple #[.agg #[.int .i64 4, .int .i64 0, .int .i64 (a : Int), .string (s.extract a (a + m))], .int .i64 ((a : Int) + (m : Int) - (a : Int))]) (by simp [results, Tryd.results16, go_sem]) rfl ⟨⟨4, 0, a, _, _, rfl, by
    have := HV.out
    by_cases h0 : m = 0
    · rw [if_pos h0] at this
      exact .inl ⟨this, by omega⟩
    · rw [if_neg h0] at this
      exact .inr ⟨a + m, this, by omega⟩⟩, ((Later.rfl' _).alloc _).alloc _⟩

theorem specNext (s : ByteArray) (a : Nat) (h : a < s.size) (hs : s.size ≤ 1048576) (W : World) : Calls Tryd.prog 16 #[.string s, .int .i64 (a : Int)] W fun r w' => NextS s a h r ∧ Later W w' := by
  cases hl : lowB s[a] with
  | true => exact specNext1 s a h hs W hl
  | false =>
    cases hd : dgB s[a] with
    | true => exact specNext2 s a h hs W hl hd
    | false =>
      by_cases hc : s[a].toNat = 34
      · exact specNext3 s a h hs W hl hd hc
      · exact specNext4 s a h hs W hl hd hc
end Go.Proofs.YtghemlokpfipoaaDoor
