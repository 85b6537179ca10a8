/-
  FnExactIsValidText, FnExactArgumentCount, FnExactIsReserved: the walks of the laws and of what they call.
-/
import Derived.Test.YtbpalgildbodkaaFrame
import Derived.Test.YtbpalgildbodkaaWords
namespace Go.Proofs.Ytbpalgildbodkaa
open Go.ChangeShapes Go.WideShapes Go.ChangeAt Go.RowKit
open Go.ChangeMaps (open_string shut_string)
set_option linter.unusedVariables false
set_option linter.unusedSimpArgs false

def okByte (c : UInt8) : Bool := decide (32 ≤ c.toNat) && decide (c.toNat ≤ 126) && !decide (c.toNat = 34)
def validText (s : ByteArray) : Bool := s.data.toList.all okByte && decide (s.size ≤ 20)

theorem all_get {p : UInt8 → Bool} {s : ByteArray} (h : ∀ j, (hj : j < s.size) → p (s[j]'hj) = true) : s.data.toList.all p = true := by
  rw [List.all_eq_true]
  intro x hx
  obtain ⟨j, hj, rfl⟩ := List.getElem_of_mem hx
  exact h j (by simpa using hj)
theorem all_not {p : UInt8 → Bool} {s : ByteArray} {j : Nat} (hj : j < s.size) (h : p (s[j]'hj) = false) : s.data.toList.all p = false := by
  rw [List.all_eq_false]
  exact ⟨s[j], by simp only [ByteArray.getElem_eq_getElem_data]; exact Array.getElem_mem_toList _, by simp [h]⟩

theorem specIsValidText (s : ByteArray) (w : World) (hs : s.size ≤ maxLen) : Calls Try.prog 15 #[.string s] w fun e w' => e = .returned (.bool (validText s)) ∧ Later w w' := by
  unfold maxLen at hs
  go_enter Try.func15, Try.ntmps15
  go_wp2
  go_loop [3] (fun i => ∃ k : Nat, k ≤ s.size ∧ i = .int .i64 k ∧ ∀ j, (hj : j < s.size) → j < k → okByte (s[j]'hj) = true) (fun i => s.size - (intOf i).toNat)
  case atStart => exact ⟨0, Nat.zero_le _, rfl, fun j _ h => absurd h (by omega)⟩
  case round =>
    obtain ⟨k, hk, rfl, hall⟩ := hrel
    have HA : Hid (∀ j, (hj : j < s.size) → j < k → okByte (s[j]'hj) = true) := hall
    clear hall
    by_cases hlt : k < s.size
    · cases hb : okByte (s[k]'hlt) with
      | true =>
        have hb' := hb
        have HB : Hid (okByte (s[k]'hlt) = true) := hb
        simp only [okByte, Bool.and_eq_true, decide_eq_true_eq, Bool.not_eq_true', decide_eq_false_iff_not] at hb'
        have h1 : (32 : Int) ≤ ((s[k]'hlt).toNat : Int) := by omega
        have h2 : ((s[k]'hlt).toNat : Int) ≤ 126 := by omega
        have h3 : (((s[k]'hlt).toNat : Int) == 34) = false := by simp; omega
        clear hb hb'
        go_wp2
        go_round
        case rel => exact ⟨k + 1, by omega, by go_num, fun j hj hjk => if e : j = k then by subst e; exact HB.out else HA.out j hj (by omega)⟩
        case measure => simp [intOf]; omega
      | false =>
        have hv : validText s = false := by simp [validText, all_not hlt hb]
        have HV : Hid (validText s = false) := hv
        simp only [okByte, Bool.and_eq_false_iff, decide_eq_false_iff_not, Bool.not_eq_false', decide_eq_true_eq] at hb
        clear hv
        have h4 : (s[k]'hlt).toNat < 32 ∨ (32 ≤ (s[k]'hlt).toNat ∧ 126 < (s[k]'hlt).toNat) ∨ (s[k]'hlt).toNat = 34 := by omega
        clear hb
        rcases h4 with h4 | ⟨h4, h5⟩ | h4
        · have h1 : ((s[k]'hlt).toNat : Int) < 32 := by omega
          clear h4
          go_wp2
          go_ret
          exact ⟨ret_bool HV.out.symm, Later.rfl' _⟩
        · have h1 : (32 : Int) ≤ ((s[k]'hlt).toNat : Int) := by omega
          have h2 : (126 : Int) < ((s[k]'hlt).toNat : Int) := by omega
          clear h4 h5
          go_wp2
          go_ret
          exact ⟨ret_bool HV.out.symm, Later.rfl' _⟩
        · have h1 : (32 : Int) ≤ ((s[k]'hlt).toNat : Int) := by omega
          have h2 : ((s[k]'hlt).toNat : Int) ≤ 126 := by omega
          have h3 : (((s[k]'hlt).toNat : Int) == 34) = true := by simp; omega
          clear h4
          go_wp2
          go_ret
          exact ⟨ret_bool HV.out.symm, Later.rfl' _⟩
    · go_wp2
      go_ret
      have hv : validText s = decide (s.size ≤ 20) := by
        unfold validText
        rw [all_get (fun j hj => HA.out j hj (by omega))]
        rfl
      exact ⟨ret_bool (by rw [hv]; exact decide_eq_decide.2 (by omega)), Later.rfl' _⟩

theorem implIsValidText (s : ByteArray) (w : World) (hs : s.size ≤ maxLen) : Calls Try.prog 16 #[.string s] w fun e w' => e = .returned (.bool (validText s)) ∧ Later w w' := by
  unfold maxLen at hs
  go_enter Try.func16, Try.ntmps16
  go_wp2
  go_loop [3] (fun i => ∃ k : Nat, k ≤ s.size ∧ i = .int .i64 k ∧ ∀ j, (hj : j < s.size) → j < k → okByte (s[j]'hj) = true) (fun i => s.size - (intOf i).toNat)
  case atStart => exact ⟨0, Nat.zero_le _, rfl, fun j _ h => absurd h (by omega)⟩
  case round =>
    obtain ⟨k, hk, rfl, hall⟩ := hrel
    have HA : Hid (∀ j, (hj : j < s.size) → j < k → okByte (s[j]'hj) = true) := hall
    clear hall
    by_cases hlt : k < s.size
    · cases hb : okByte (s[k]'hlt) with
      | true =>
        have hb' := hb
        have HB : Hid (okByte (s[k]'hlt) = true) := hb
        simp only [okByte, Bool.and_eq_true, decide_eq_true_eq, Bool.not_eq_true', decide_eq_false_iff_not] at hb'
        have h1 : (32 : Int) ≤ ((s[k]'hlt).toNat : Int) := by omega
        have h2 : ((s[k]'hlt).toNat : Int) ≤ 126 := by omega
        have h3 : (((s[k]'hlt).toNat : Int) == 34) = false := by simp; omega
        clear hb hb'
        go_wp2
        go_round
        case rel => exact ⟨k + 1, by omega, by go_num, fun j hj hjk => if e : j = k then by subst e; exact HB.out else HA.out j hj (by omega)⟩
        case measure => simp [intOf]; omega
      | false =>
        have hv : validText s = false := by simp [validText, all_not hlt hb]
        have HV : Hid (validText s = false) := hv
        simp only [okByte, Bool.and_eq_false_iff, decide_eq_false_iff_not, Bool.not_eq_false', decide_eq_true_eq] at hb
        clear hv
        have h4 : (s[k]'hlt).toNat < 32 ∨ (32 ≤ (s[k]'hlt).toNat ∧ 126 < (s[k]'hlt).toNat) ∨ (s[k]'hlt).toNat = 34 := by omega
        clear hb
        rcases h4 with h4 | ⟨h4, h5⟩ | h4
        · have h1 : ((s[k]'hlt).toNat : Int) < 32 := by omega
          clear h4
          go_wp2
          go_ret
          exact ⟨ret_bool HV.out.symm, Later.rfl' _⟩
        · have h1 : (32 : Int) ≤ ((s[k]'hlt).toNat : Int) := by omega
          have h2 : (126 : Int) < ((s[k]'hlt).toNat : Int) := by omega
          clear h4 h5
          go_wp2
          go_ret
          exact ⟨ret_bool HV.out.symm, Later.rfl' _⟩
        · have h1 : (32 : Int) ≤ ((s[k]'hlt).toNat : Int) := by omega
          have h2 : ((s[k]'hlt).toNat : Int) ≤ 126 := by omega
          have h3 : (((s[k]'hlt).toNat : Int) == 34) = true := by simp; omega
          clear h4
          go_wp2
          go_ret
          exact ⟨ret_bool HV.out.symm, Later.rfl' _⟩
    · go_wp2
      go_ret
      have hv : validText s = decide (s.size ≤ 20) := by
        unfold validText
        rw [all_get (fun j hj => HA.out j hj (by omega))]
        rfl
      exact ⟨ret_bool (by rw [hv]; exact decide_eq_decide.2 (by omega)), Later.rfl' _⟩


theorem specArgumentCount (s : ByteArray) (w : World) (hs : s.size ≤ maxLen) : Calls Try.prog 23 #[.string s] w fun e w' => e = .returned (.int .i64 (argCount s)) ∧ Later w w' := by
  rcases arg_ways s with ⟨h0, hr⟩ | ⟨h0, h1, hr⟩ | ⟨h0, h1, h2, hr⟩ | ⟨h0, h1, h2, h3, hr⟩ | ⟨h0, h1, h2, h3, h4, hr⟩ | ⟨h0, h1, h2, h3, h4, h5, hr⟩ | ⟨h0, h1, h2, h3, h4, h5, h6, hr⟩ | ⟨h0, h1, h2, h3, h4, h5, h6, h7, hr⟩ | ⟨h0, h1, h2, h3, h4, h5, h6, h7, h8, hr⟩ | ⟨h0, h1, h2, h3, h4, h5, h6, h7, h8, h9, hr⟩ | ⟨h0, h1, h2, h3, h4, h5, h6, h7, h8, h9, h10, hr⟩ | ⟨h0, h1, h2, h3, h4, h5, h6, h7, h8, h9, h10, h11, hr⟩ | ⟨h0, h1, h2, h3, h4, h5, h6, h7, h8, h9, h10, h11, h12, hr⟩ | ⟨h0, h1, h2, h3, h4, h5, h6, h7, h8, h9, h10, h11, h12, h13, hr⟩ | ⟨h0, h1, h2, h3, h4, h5, h6, h7, h8, h9, h10, h11, h12, h13, h14, hr⟩ | ⟨h0, h1, h2, h3, h4, h5, h6, h7, h8, h9, h10, h11, h12, h13, h14, h15, hr⟩ | ⟨h0, h1, h2, h3, h4, h5, h6, h7, h8, h9, h10, h11, h12, h13, h14, h15, h16, hr⟩ | ⟨h0, h1, h2, h3, h4, h5, h6, h7, h8, h9, h10, h11, h12, h13, h14, h15, h16, hr⟩
  all_goals
    go_enter Try.func23, Try.ntmps23
    go_wp2
    go_ret
    exact ⟨ret_int hr.out.symm, Later.rfl' _⟩

theorem implArgumentCount (s : ByteArray) (w : World) (hs : s.size ≤ maxLen) : Calls Try.prog 24 #[.string s] w fun e w' => e = .returned (.int .i64 (argCount s)) ∧ Later w w' := by
  rcases arg_ways s with ⟨h0, hr⟩ | ⟨h0, h1, hr⟩ | ⟨h0, h1, h2, hr⟩ | ⟨h0, h1, h2, h3, hr⟩ | ⟨h0, h1, h2, h3, h4, hr⟩ | ⟨h0, h1, h2, h3, h4, h5, hr⟩ | ⟨h0, h1, h2, h3, h4, h5, h6, hr⟩ | ⟨h0, h1, h2, h3, h4, h5, h6, h7, hr⟩ | ⟨h0, h1, h2, h3, h4, h5, h6, h7, h8, hr⟩ | ⟨h0, h1, h2, h3, h4, h5, h6, h7, h8, h9, hr⟩ | ⟨h0, h1, h2, h3, h4, h5, h6, h7, h8, h9, h10, hr⟩ | ⟨h0, h1, h2, h3, h4, h5, h6, h7, h8, h9, h10, h11, hr⟩ | ⟨h0, h1, h2, h3, h4, h5, h6, h7, h8, h9, h10, h11, h12, hr⟩ | ⟨h0, h1, h2, h3, h4, h5, h6, h7, h8, h9, h10, h11, h12, h13, hr⟩ | ⟨h0, h1, h2, h3, h4, h5, h6, h7, h8, h9, h10, h11, h12, h13, h14, hr⟩ | ⟨h0, h1, h2, h3, h4, h5, h6, h7, h8, h9, h10, h11, h12, h13, h14, h15, hr⟩ | ⟨h0, h1, h2, h3, h4, h5, h6, h7, h8, h9, h10, h11, h12, h13, h14, h15, h16, hr⟩ | ⟨h0, h1, h2, h3, h4, h5, h6, h7, h8, h9, h10, h11, h12, h13, h14, h15, h16, hr⟩
  all_goals
    go_enter Try.func24, Try.ntmps24
    go_wp2
    go_ret
    exact ⟨ret_int hr.out.symm, Later.rfl' _⟩

theorem implIsReserved (s : ByteArray) (w : World) (hs : s.size ≤ maxLen) : Calls Try.prog 26 #[.string s] w fun e w' => e = .returned (.bool (isReserved s)) ∧ Later w w' := by
  rcases kw_ways s with ⟨h0, hr⟩ | ⟨h0, h1, hr⟩ | ⟨h0, h1, h2, hr⟩ | ⟨h0, h1, h2, h3, hr⟩ | ⟨h0, h1, h2, h3, h4, hr⟩ | ⟨h0, h1, h2, h3, h4, h5, hr⟩ | ⟨h0, h1, h2, h3, h4, h5, h6, hr⟩ | ⟨h0, h1, h2, h3, h4, h5, h6, hr⟩
  case inr.inr.inr.inr.inr.inr.inr =>
    go_enter Try.func26, Try.ntmps26
    go_wp2_with (first | (go_at_call 24; refine (implArgumentCount _ _ hs).mono ?_; rintro e w1 ⟨rfl, hb1⟩))
    go_ret
    exact ⟨ret_bool hr.out.symm, hb1⟩
  all_goals
    go_enter Try.func26, Try.ntmps26
    go_wp2
    go_ret
    exact ⟨ret_bool hr.out.symm, Later.rfl' _⟩

theorem walk_FnExactIsValidText (s : ByteArray) (w : World) (hs : s.size ≤ maxLen) : Calls Try.prog 5 #[.string s] w fun e w' => e = .returned (.bool true) ∧ Later w w' := by
  by_cases h : 1048576 < s.size
  · go_enter Try.func5, Try.ntmps5
    go_wp2_with fail
    go_ret
    exact ⟨rfl, Later.rfl' _⟩
  · go_enter Try.func5, Try.ntmps5
    go_wp2_with (first | (go_at_call 15; refine (specIsValidText _ _ hs).mono ?_; rintro e w1 ⟨rfl, hb1⟩) | (go_at_call 16; refine (implIsValidText _ _ hs).mono ?_; rintro e w2 ⟨rfl, hb2⟩))
    go_ret
    exact ⟨rfl, hb1.trans hb2⟩

set_option maxRecDepth 100000 in
theorem lifted_FnExactIsValidText (os : Os) (started : os.Started) (H : Type) (enc : TypeId × Value → H) :
    ReturnsInHanded {} Try.checked os 5 .any (Rows.fnExactIsValidTextSpec.pre6 enc Try.prog Try.f5 Rows.fnExactIsValidTextRow.domain false) (Rows.fnExactIsValidTextSpec.post enc Try.prog Try.f5 false true false false) := by
  refine returnsInHanded_of_change (C := Try.checked) ownKnob_ started (by kernel_rfl) Try.func5
    (ChangeSpec.witness6 (enc := enc) (C := Try.checked) false ⟨#[], #[.string ByteArray.empty], []⟩ 8 (by kernel_rfl) (by kernel_rfl) (by kernel_rfl) (by kernel_rfl)) ?_
  intro W base args ds gs before hval0 hW hcnd _
  have hval : ∀ (j : Nat) t v, Try.f5.params[j]? = some t → args[j]? = some v → Value.okWide Try.prog W .any base t v := hval0
  have hW' := hW
  obtain ⟨p, q, hA0, hV, rfl, hfz, hnd⟩ := hW
  have hA : DataW.TrodAll enc Try.prog W 0 (fun _ => true) true Try.f5.params.toList args.toList ds p := hA0
  rw [Try.params5] at hA hval
  obtain ⟨v0, vs0, d0, ds0, p0, q0, hargs, rfl, rfl, h0, r0⟩ := trodAll_cons hA
  obtain ⟨rfl, rfl, rfl⟩ := trodAll_nil r0
  obtain rfl : args = #[v0] := by cases args; simp_all
  obtain ⟨rfl, rfl⟩ := trodVars_none hV
  have k0 := h0
  have lt0 : ∀ x ∈ p0, x.block < W.heap.size := by obtain ⟨m, hm⟩ := k0; exact DataW.trod_lt m _ _ _ hm
  obtain ⟨a0, rfl, rfl, rfl, w0⟩ := open_string Try.underlying9 (hval 0 9 v0 rfl rfl) h0
  clear hA0 hval0
  refine (walk_FnExactIsValidText a0 W w0).mono fun e W' ⟨he, bel⟩ => ?_
  subst he
  exact ⟨_, rfl, _, _, _, [], _, [], hW', trodAll_mk1 (shut_bool Try.underlying4 _), (trodAll_cons_mk (Below.trod laidOut_ (by kernel_rfl) (of_decide_eq_true (by kernel_rfl)) k0 bel lt0) trodAll_mk0), rfl, bel.frame _, fun h => by cases h⟩

theorem over_FnExactIsValidText : Rows.fnExactIsValidTextRow.holds Try.pinned (OpenSpec.ofChange Rows.fnExactIsValidTextSpec) :=
  OpenClaim.holds_of_wide 5 Try.f5 rfl rfl rfl rfl rfl rfl rfl ⟨rfl, rfl, rfl, rfl, rfl⟩ rfl rfl rfl rfl rfl (by kernel_rfl) Try.func5 (by kernel_rfl)
    (of_decide_eq_true (by kernel_rfl)) (by unfold Func.isWrapper; first | (rw [if_pos (by decide +kernel)]; kernel_rfl) | (rw [if_neg (by decide +kernel)]; exact ⟨rfl, rfl⟩))
    (fun os started H enc _ => lifted_FnExactIsValidText os started H enc)

theorem proved_FnExactIsValidText : Rows.FnExactIsValidTextSaid := over_FnExactIsValidText
#print axioms proved_FnExactIsValidText

theorem walk_FnExactArgumentCount (s : ByteArray) (w : World) (hs : s.size ≤ maxLen) : Calls Try.prog 8 #[.string s] w fun e w' => e = .returned (.bool true) ∧ Later w w' := by
  by_cases h : 1048576 < s.size
  · go_enter Try.func8, Try.ntmps8
    go_wp2_with fail
    go_ret
    exact ⟨rfl, Later.rfl' _⟩
  · go_enter Try.func8, Try.ntmps8
    go_wp2_with (first | (go_at_call 23; refine (specArgumentCount _ _ hs).mono ?_; rintro e w1 ⟨rfl, hb1⟩) | (go_at_call 24; refine (implArgumentCount _ _ hs).mono ?_; rintro e w2 ⟨rfl, hb2⟩))
    go_ret
    exact ⟨rfl, hb1.trans hb2⟩

set_option maxRecDepth 100000 in
theorem lifted_FnExactArgumentCount (os : Os) (started : os.Started) (H : Type) (enc : TypeId × Value → H) :
    ReturnsInHanded {} Try.checked os 8 .any (Rows.fnExactArgumentCountSpec.pre6 enc Try.prog Try.f8 Rows.fnExactArgumentCountRow.domain false) (Rows.fnExactArgumentCountSpec.post enc Try.prog Try.f8 false true false false) := by
  refine returnsInHanded_of_change (C := Try.checked) ownKnob_ started (by kernel_rfl) Try.func8
    (ChangeSpec.witness6 (enc := enc) (C := Try.checked) false ⟨#[], #[.string ByteArray.empty], []⟩ 8 (by kernel_rfl) (by kernel_rfl) (by kernel_rfl) (by kernel_rfl)) ?_
  intro W base args ds gs before hval0 hW hcnd _
  have hval : ∀ (j : Nat) t v, Try.f8.params[j]? = some t → args[j]? = some v → Value.okWide Try.prog W .any base t v := hval0
  have hW' := hW
  obtain ⟨p, q, hA0, hV, rfl, hfz, hnd⟩ := hW
  have hA : DataW.TrodAll enc Try.prog W 0 (fun _ => true) true Try.f8.params.toList args.toList ds p := hA0
  rw [Try.params8] at hA hval
  obtain ⟨v0, vs0, d0, ds0, p0, q0, hargs, rfl, rfl, h0, r0⟩ := trodAll_cons hA
  obtain ⟨rfl, rfl, rfl⟩ := trodAll_nil r0
  obtain rfl : args = #[v0] := by cases args; simp_all
  obtain ⟨rfl, rfl⟩ := trodVars_none hV
  have k0 := h0
  have lt0 : ∀ x ∈ p0, x.block < W.heap.size := by obtain ⟨m, hm⟩ := k0; exact DataW.trod_lt m _ _ _ hm
  obtain ⟨a0, rfl, rfl, rfl, w0⟩ := open_string Try.underlying9 (hval 0 9 v0 rfl rfl) h0
  clear hA0 hval0
  refine (walk_FnExactArgumentCount a0 W w0).mono fun e W' ⟨he, bel⟩ => ?_
  subst he
  exact ⟨_, rfl, _, _, _, [], _, [], hW', trodAll_mk1 (shut_bool Try.underlying4 _), (trodAll_cons_mk (Below.trod laidOut_ (by kernel_rfl) (of_decide_eq_true (by kernel_rfl)) k0 bel lt0) trodAll_mk0), rfl, bel.frame _, fun h => by cases h⟩

theorem over_FnExactArgumentCount : Rows.fnExactArgumentCountRow.holds Try.pinned (OpenSpec.ofChange Rows.fnExactArgumentCountSpec) :=
  OpenClaim.holds_of_wide 8 Try.f8 rfl rfl rfl rfl rfl rfl rfl ⟨rfl, rfl, rfl, rfl, rfl⟩ rfl rfl rfl rfl rfl (by kernel_rfl) Try.func8 (by kernel_rfl)
    (of_decide_eq_true (by kernel_rfl)) (by unfold Func.isWrapper; first | (rw [if_pos (by decide +kernel)]; kernel_rfl) | (rw [if_neg (by decide +kernel)]; exact ⟨rfl, rfl⟩))
    (fun os started H enc _ => lifted_FnExactArgumentCount os started H enc)

theorem proved_FnExactArgumentCount : Rows.FnExactArgumentCountSaid := over_FnExactArgumentCount
#print axioms proved_FnExactArgumentCount

end Go.Proofs.Ytbpalgildbodkaa
