/-
  Tokens: tokenAt: the walk.
-/
import Derived.Test.YtghemlokpfipoaaDoorYTK2
import Derived.Test.YtghemlokpfipoaaDoorYS6
import Derived.Test.YtghemlokpfipoaaDoorYS7
import Derived.StillTailTactics
import Derived.IntWalk
import Derived.Deep.RegionLaw
namespace Go.Proofs.YtghemlokpfipoaaDoor
open Go.ChangeShapes Go.WideShapes Go.ChangeAt Go.RowKit
set_option linter.unusedVariables false
set_option linter.unusedSimpArgs false
set_option maxRecDepth 100000

theorem index_quot : ∀ l : List UInt8, Lib.indexByte l 34 = if (l.takeWhile quotB).length < l.length then ((l.takeWhile quotB).length : Int) else -1
  | [] => rfl
  | b :: l => by
    have ih := index_quot l
    rw [Lib.indexByte]
    by_cases h : b = 34
    · subst h
      rfl
    · have h1 : (b == 34) = false := by simpa using h
      have h2 : quotB b = true := by
        unfold quotB
        simp only [Bool.not_eq_true', decide_eq_false_iff_not]
        exact fun e => h (UInt8.toNat_inj.1 e)
      rw [h1, List.takeWhile_cons, if_pos h2, ih]
      simp only [Bool.false_eq_true, if_false, List.length_cons]
      clear ih
      by_cases hl : (l.takeWhile quotB).length < l.length
      · have e1 : (((l.takeWhile quotB).length : Int) == -1) = false := by rw [beq_eq_false_iff_ne]; omega
        rw [if_pos hl, e1, if_neg Bool.false_ne_true, if_pos (by omega)]
        rfl
      · have e : ((-1 : Int) == -1) = true := rfl
        rw [if_neg hl, e, if_pos rfl, if_neg (by omega)]
theorem index_text {s : ByteArray} {a : Nat} (h : a + 1 ≤ s.size) : Lib.indexByte (s.extract (a + 1) s.size).data.toList 34 = if runEnd quotB s (a + 1) < s.size then ((runEnd quotB s (a + 1) - (a + 1) : Nat) : Int) else -1 := by
  have e : (s.extract (a + 1) s.size).data.toList = s.data.toList.drop (a + 1) := by
    rw [ext_data, List.take_of_length_le (by rw [List.length_drop, size_data]; omega)]
  rw [e, index_quot]
  unfold runEnd
  rw [List.length_drop, size_data]
  by_cases hl : ((s.data.toList.drop (a + 1)).takeWhile quotB).length < s.size - (a + 1)
  · rw [if_pos hl, if_pos (by omega)]
    congr 1
    omega
  · rw [if_neg hl, if_neg (by omega)]
theorem index_mem_iff : ∀ (l : List UInt8) (c : UInt8), (0 ≤ Lib.indexByte l c) ↔ c ∈ l
  | [], c => by simp [Lib.indexByte]
  | b :: l, c => by
    have ih := index_mem_iff l c
    have hg := Lib.indexByte_ge l c
    rw [Lib.indexByte, List.mem_cons]
    by_cases h : b = c
    · subst h
      simp
    · have h1 : (b == c) = false := by simpa using h
      rw [h1]
      simp only [Bool.false_eq_true, if_false]
      by_cases hm : Lib.indexByte l c = -1
      · have : (Lib.indexByte l c == -1) = true := by simp [hm]
        rw [this, if_pos rfl]
        constructor
        · intro h'; omega
        · rintro (h' | h')
          · exact absurd h'.symm h
          · have := ih.2 h'; omega
      · have : (Lib.indexByte l c == -1) = false := by simpa using hm
        rw [this]
        simp only [Bool.false_eq_true, if_false]
        constructor
        · intro h'; exact .inr (ih.1 (by omega))
        · intro _; omega
theorem index_sym (c : UInt8) : decide (0 ≤ Lib.indexByte [40, 41, 91, 93, 44, 43, 45, 42, 60, 61] c) = symB c := by
  rw [Bool.eq_iff_iff, decide_eq_true_eq, index_mem_iff]
  unfold symB
  simp only [List.contains_iff_mem, List.mem_cons, List.not_mem_nil, or_false]
  simp only [← UInt8.toNat_inj]
  rfl
theorem prefix_eq {s : ByteArray} {a : Nat} (h : a < s.size) : Lib.hasPrefix (s.extract a s.size).data.toList [61, 61] = decide (s[a].toNat = 61 ∧ ∃ h : a + 1 < s.size, s[a + 1].toNat = 61) := by
  have e : (s.extract a s.size).data.toList = s.data.toList.drop a := by
    rw [ext_data, List.take_of_length_le (by rw [List.length_drop, size_data]; omega)]
  rw [e, drop_cons h, Bool.eq_iff_iff, decide_eq_true_eq]
  unfold Lib.hasPrefix
  by_cases hn : a + 1 < s.size
  · rw [drop_cons hn]
    simp only [List.isPrefixOf, Bool.and_eq_true, beq_iff_eq, and_true]
    constructor
    · rintro ⟨h1, h2⟩
      exact ⟨by rw [← h1]; rfl, hn, by rw [← h2]; rfl⟩
    · rintro ⟨h1, _, h2⟩
      exact ⟨(UInt8.toNat_inj.1 h1).symm, (UInt8.toNat_inj.1 h2).symm⟩
  · have : s.data.toList.drop (a + 1) = [] := List.drop_of_length_le (by rw [size_data]; omega)
    rw [this]
    simp only [List.isPrefixOf, Bool.and_false, Bool.false_eq_true, false_iff]
    rintro ⟨_, h2, _⟩
    exact hn h2
theorem two_eq {s : ByteArray} {a : Nat} (h : a < s.size) (h1 : s[a].toNat = 61) (h2 : a + 1 < s.size) (h3 : (s[a + 1]'h2).toNat = 61) : s.extract a (a + 2) = ⟨#[61, 61]⟩ := by
  apply bytes_eq
  rw [ext_data, drop_cons h, drop_cons h2, show a + 2 - a = 0 + 1 + 1 by omega, List.take_succ_cons, List.take_succ_cons, List.take_zero]
  rw [UInt8.toNat_inj.1 (show s[a].toNat = (61 : UInt8).toNat from h1), UInt8.toNat_inj.1 (show (s[a + 1]'h2).toNat = (61 : UInt8).toNat from h3)]
theorem word_no {b : UInt8} (h : lowB b = false) (k : dgB b = false) : ((b.toNat : Nat) : Int) < 48 ∨ ((57 : Int) < ((b.toNat : Nat) : Int) ∧ ((b.toNat : Nat) : Int) < 97) ∨ ((122 : Int) < ((b.toNat : Nat) : Int)) := by
  rcases lowB_no h with h | h <;> rcases dgB_no k with k | k <;> omega

/-- What tokenAt returns. -/
def NextI (s : ByteArray) (a : Nat) (h : a < s.size) (r : Ending) : Prop := ∃ k n p t E ok, r = .returned (.tuple #[.agg #[.int .i64 k, .int .i64 n, .int .i64 p, .string t], .int .i64 E, .bool ok]) ∧ ((nextT s a h = none ∧ ok = false) ∨ ∃ e : Nat, nextT s a h = some (⟨k, n, p, t⟩, e) ∧ E = (e : Int) ∧ ok = true)


set_option maxHeartbeats 8000000 in
theorem implNext1 (s : ByteArray) (a : Nat) (h : a < s.size) (hs : s.size ≤ 1048576) (W : World) (hc : lowB s[a] = true) : Calls Tryd.prog 17 #[.string s, .int .i64 (a : Int)] W fun r w' => NextI s a h r ∧ Later W w' := by
  have hki : (a : Int) < (s.size : Int) := by omega
  obtain ⟨E, hE⟩ : ∃ E, E = runEnd wordB s a := ⟨_, rfl⟩
  have hge := runEnd_ge wordB s a
  have hle := runEnd_le (p := wordB) (show a ≤ s.size by omega)
  rw [← hE] at hge hle
  have HE : Hid (runEnd wordB s a = E) := hE.symm
  obtain ⟨c1, c2⟩ := lowB_yes hc
  by_cases h8 : E - a ≤ 8
  · have HV : Hid (nextT s a h = some (⟨1, 0, a, s.extract a E⟩, E)) := by unfold Hid nextT; rw [if_pos hc, ← hE, if_pos h8]
    clear hE hc
    go_enter Tryd.func17, Tryd.ntmps17
    go_wp2_with fail
    go_loop [7] (fun i => ∃ k : Nat, a ≤ k ∧ k ≤ s.size ∧ i = .int .i64 (k : Int) ∧ Hid (runEnd wordB s k = E)) (fun i => s.size - (intOf i).toNat)
    case atStart => exact ⟨a, Nat.le_refl _, by omega, rfl, HE⟩
    case round =>
      obtain ⟨k, hak, hk, rfl, hr⟩ := hrel
      by_cases hlt : k < s.size
      · have hki2 : (k : Int) < (s.size : Int) := by omega
        cases hl : lowB s[k] with
        | true =>
          have HN : Hid (runEnd wordB s (k + 1) = E) := by unfold Hid; rw [← runEnd_here hlt (by unfold wordB; rw [hl]; rfl)]; exact hr.out
          obtain ⟨b1, b2⟩ := lowB_yes hl
          clear hl
          go_wp2_with fail
          go_round
          case rel => exact ⟨k + 1, by omega, by omega, by go_num, HN⟩
          case measure => simp [intOf]; omega
        | false =>
          cases hd : dgB s[k] with
          | true =>
            have HN : Hid (runEnd wordB s (k + 1) = E) := by unfold Hid; rw [← runEnd_here hlt (by unfold wordB; rw [hl, hd]; rfl)]; exact hr.out
            obtain ⟨b1, b2⟩ := dgB_yes hd
            have b3 : (((s[k]'hlt).toNat : Nat) : Int) < 97 := by omega
            clear hl hd
            go_wp2_with fail
            go_round
            case rel => exact ⟨k + 1, by omega, by omega, by go_num, HN⟩
            case measure => simp [intOf]; omega
          | false =>
            have hkE : k = E := by have := hr.out; rw [runEnd_stop hlt (by unfold wordB; rw [hl, hd]; rfl)] at this; exact this
            subst hkE
            clear hr HE
            rcases word_no hl hd with b1 | ⟨b1, b2⟩ | b1
            · have b3 : (((s[k]'hlt).toNat : Nat) : Int) < 97 := by omega
              clear hl hd
              have hd8 : decide ((k : Int) - (a : Int) ≤ 8) = true := by simp; omega
              go_wp2_with fail
              exact bodyPost_ret (v := .tuple #[.agg #[.int .i64 1, .int .i64 0, .int .i64 (a : Int), .string (s.extract a k)], .int .i64 (k : Int), .bool true]) (by simp [results, Tryd.results17, go_sem]) rfl ⟨⟨1, 0, a, _, _, _, rfl, .inr ⟨k, HV.out, rfl, rfl⟩⟩, (Later.rfl' _).alloc _⟩
            · have b3 : (48 : Int) ≤ (((s[k]'hlt).toNat : Nat) : Int) := by omega
              clear hl hd
              have hd8 : decide ((k : Int) - (a : Int) ≤ 8) = true := by simp; omega
              go_wp2_with fail
              exact bodyPost_ret (v := .tuple #[.agg #[.int .i64 1, .int .i64 0, .int .i64 (a : Int), .string (s.extract a k)], .int .i64 (k : Int), .bool true]) (by simp [results, Tryd.results17, go_sem]) rfl ⟨⟨1, 0, a, _, _, _, rfl, .inr ⟨k, HV.out, rfl, rfl⟩⟩, (Later.rfl' _).alloc _⟩
            · have b3 : (48 : Int) ≤ (((s[k]'hlt).toNat : Nat) : Int) := by omega
              have b4 : (57 : Int) < (((s[k]'hlt).toNat : Nat) : Int) := by omega
              have b5 : (97 : Int) ≤ (((s[k]'hlt).toNat : Nat) : Int) := by omega
              clear hl hd
              have hd8 : decide ((k : Int) - (a : Int) ≤ 8) = true := by simp; omega
              go_wp2_with fail
              exact bodyPost_ret (v := .tuple #[.agg #[.int .i64 1, .int .i64 0, .int .i64 (a : Int), .string (s.extract a k)], .int .i64 (k : Int), .bool true]) (by simp [results, Tryd.results17, go_sem]) rfl ⟨⟨1, 0, a, _, _, _, rfl, .inr ⟨k, HV.out, rfl, rfl⟩⟩, (Later.rfl' _).alloc _⟩
      · have hkE : k = E := by have := hr.out; rw [runEnd_out (by omega)] at this; exact this
        subst hkE
        clear hr HE
        have hd8 : decide ((k : Int) - (a : Int) ≤ 8) = true := by simp; omega
        go_wp2_with fail
        exact bodyPost_ret (v := .tuple #[.agg #[.int .i64 1, .int .i64 0, .int .i64 (a : Int), .string (s.extract a k)], .int .i64 (k : Int), .bool true]) (by simp [results, Tryd.results17, go_sem]) rfl ⟨⟨1, 0, a, _, _, _, rfl, .inr ⟨k, HV.out, rfl, rfl⟩⟩, (Later.rfl' _).alloc _⟩
  · have HV : Hid (nextT s a h = none) := by unfold Hid nextT; rw [if_pos hc, ← hE, if_neg h8]
    clear hE hc
    go_enter Tryd.func17, Tryd.ntmps17
    go_wp2_with fail
    go_loop [7] (fun i => ∃ k : Nat, a ≤ k ∧ k ≤ s.size ∧ i = .int .i64 (k : Int) ∧ Hid (runEnd wordB s k = E)) (fun i => s.size - (intOf i).toNat)
    case atStart => exact ⟨a, Nat.le_refl _, by omega, rfl, HE⟩
    case round =>
      obtain ⟨k, hak, hk, rfl, hr⟩ := hrel
      by_cases hlt : k < s.size
      · have hki2 : (k : Int) < (s.size : Int) := by omega
        cases hl : lowB s[k] with
        | true =>
          have HN : Hid (runEnd wordB s (k + 1) = E) := by unfold Hid; rw [← runEnd_here hlt (by unfold wordB; rw [hl]; rfl)]; exact hr.out
          obtain ⟨b1, b2⟩ := lowB_yes hl
          clear hl
          go_wp2_with fail
          go_round
          case rel => exact ⟨k + 1, by omega, by omega, by go_num, HN⟩
          case measure => simp [intOf]; omega
        | false =>
          cases hd : dgB s[k] with
          | true =>
            have HN : Hid (runEnd wordB s (k + 1) = E) := by unfold Hid; rw [← runEnd_here hlt (by unfold wordB; rw [hl, hd]; rfl)]; exact hr.out
            obtain ⟨b1, b2⟩ := dgB_yes hd
            have b3 : (((s[k]'hlt).toNat : Nat) : Int) < 97 := by omega
            clear hl hd
            go_wp2_with fail
            go_round
            case rel => exact ⟨k + 1, by omega, by omega, by go_num, HN⟩
            case measure => simp [intOf]; omega
          | false =>
            have hkE : k = E := by have := hr.out; rw [runEnd_stop hlt (by unfold wordB; rw [hl, hd]; rfl)] at this; exact this
            subst hkE
            clear hr HE
            rcases word_no hl hd with b1 | ⟨b1, b2⟩ | b1
            · have b3 : (((s[k]'hlt).toNat : Nat) : Int) < 97 := by omega
              clear hl hd
              have hd8 : decide ((k : Int) - (a : Int) ≤ 8) = false := by simp; omega
              go_wp2_with fail
              exact bodyPost_ret (v := .tuple #[.agg #[.int .i64 1, .int .i64 0, .int .i64 (a : Int), .string (s.extract a k)], .int .i64 (k : Int), .bool false]) (by simp [results, Tryd.results17, go_sem]) rfl ⟨⟨1, 0, a, _, _, _, rfl, .inl ⟨HV.out, rfl⟩⟩, (Later.rfl' _).alloc _⟩
            · have b3 : (48 : Int) ≤ (((s[k]'hlt).toNat : Nat) : Int) := by omega
              clear hl hd
              have hd8 : decide ((k : Int) - (a : Int) ≤ 8) = false := by simp; omega
              go_wp2_with fail
              exact bodyPost_ret (v := .tuple #[.agg #[.int .i64 1, .int .i64 0, .int .i64 (a : Int), .string (s.extract a k)], .int .i64 (k : Int), .bool false]) (by simp [results, Tryd.results17, go_sem]) rfl ⟨⟨1, 0, a, _, _, _, rfl, .inl ⟨HV.out, rfl⟩⟩, (Later.rfl' _).alloc _⟩
            · have b3 : (48 : Int) ≤ (((s[k]'hlt).toNat : Nat) : Int) := by omega
              have b4 : (57 : Int) < (((s[k]'hlt).toNat : Nat) : Int) := by omega
              have b5 : (97 : Int) ≤ (((s[k]'hlt).toNat : Nat) : Int) := by omega
              clear hl hd
              have hd8 : decide ((k : Int) - (a : Int) ≤ 8) = false := by simp; omega
              go_wp2_with fail
              exact bodyPost_ret (v := .tuple #[.agg #[.int .i64 1, .int .i64 0, .int .i64 (a : Int), .string (s.extract a k)], .int .i64 (k : Int), .bool false]) (by simp [results, Tryd.results17, go_sem]) rfl ⟨⟨1, 0, a, _, _, _, rfl, .inl ⟨HV.out, rfl⟩⟩, (Later.rfl' _).alloc _⟩
      · have hkE : k = E := by have := hr.out; rw [runEnd_out (by omega)] at this; exact this
        subst hkE
        clear hr HE
        have hd8 : decide ((k : Int) - (a : Int) ≤ 8) = false := by simp; omega
        go_wp2_with fail
        exact bodyPost_ret (v := .tuple #[.agg #[.int .i64 1, .int .i64 0, .int .i64 (a : Int), .string (s.extract a k)], .int .i64 (k : Int), .bool false]) (by simp [results, Tryd.results17, go_sem]) rfl ⟨⟨1, 0, a, _, _, _, rfl, .inl ⟨HV.out, rfl⟩⟩, (Later.rfl' _).alloc _⟩


set_option maxHeartbeats 8000000 in
theorem implNext2 (s : ByteArray) (a : Nat) (h : a < s.size) (hs : s.size ≤ 1048576) (W : World) (hp : ParseAt W) (hl0 : lowB s[a] = false) (hc : dgB s[a] = true) : Calls Tryd.prog 17 #[.string s, .int .i64 (a : Int)] W fun r w' => NextI s a h r ∧ Later W w' := by
  have hki : (a : Int) < (s.size : Int) := by omega
  obtain ⟨E, hE⟩ : ∃ E, E = runEnd dgB s a := ⟨_, rfl⟩
  have hge := runEnd_ge dgB s a
  have hle := runEnd_le (p := dgB) (show a ≤ s.size by omega)
  rw [← hE] at hge hle
  have HE : Hid (runEnd dgB s a = E) := hE.symm
  obtain ⟨c1, c2⟩ := dgB_yes hc
  have c3 : (((s[a]'h).toNat : Nat) : Int) < 97 := by omega
  have C := fun W' (hW' : Later W W') => implParse (s.extract a E) 0 1000000000 (by rw [ByteArray.size_extract]; omega) W' (hp.later hW')
  have hnx : nextT s a h = match parseB 0 1000000000 (s.extract a E) with | some n => some (⟨2, n, a, ⟨#[]⟩⟩, E) | none => none := by
    unfold nextT
    rw [if_neg (by rw [hl0]; decide), if_pos hc, ← hE]
    cases parseB 0 1000000000 (s.extract a E) <;> rfl
  cases hpb : parseB 0 1000000000 (s.extract a E) with
  | none =>
    simp only [hpb, optR] at C hnx
    have HV := Lib.hid hnx; have HC := Lib.hid C
    clear hE hnx C hpb hl0 hc hp
    go_enter Tryd.func17, Tryd.ntmps17
    go_wp2_with fail
    go_loop [7] (fun i => ∃ k : Nat, a ≤ k ∧ k ≤ s.size ∧ i = .int .i64 (k : Int) ∧ Hid (runEnd dgB s k = E)) (fun i => s.size - (intOf i).toNat)
    case atStart => exact ⟨a, Nat.le_refl _, by omega, rfl, HE⟩
    case round =>
      obtain ⟨k, hak, hk, rfl, hr⟩ := hrel
      by_cases hlt : k < s.size
      · have hki2 : (k : Int) < (s.size : Int) := by omega
        cases hd : dgB s[k] with
        | true =>
          have HN : Hid (runEnd dgB s (k + 1) = E) := by unfold Hid; rw [← runEnd_here hlt hd]; exact hr.out
          obtain ⟨b1, b2⟩ := dgB_yes hd
          clear hd
          go_wp2_with fail
          go_round
          case rel => exact ⟨k + 1, by omega, by omega, by go_num, HN⟩
          case measure => simp [intOf]; omega
        | false =>
          have hkE : k = E := by have := hr.out; rw [runEnd_stop hlt hd] at this; exact this
          subst hkE
          clear hr HE
          rcases dgB_no hd with b1 | ⟨b1, b2⟩
          all_goals
            clear hd
            go_wp2_with fail
            refine (HC.out _ ((Later.rfl' _).alloc _)).mono ?_; rintro e w1 ⟨rfl, hb⟩
            have P := (box_alloc W #[.int .i64 0, .int .i64 0, .int .i64 0, .string ⟨#[]⟩] 33).later hb
            have HL := Lib.hid (((Later.rfl' W).alloc _).trans hb)
            have p0 := P.cell (j := 0) rfl
            have pf0 := P.free 0
            have p1 := P.cell (j := 1) rfl
            have pf1 := P.free 1
            have p2 := P.cell (j := 2) rfl
            have pf2 := P.free 2
            have p3 := P.cell (j := 3) rfl
            have pf3 := P.free 3
            have hp1 := P.lt
            clear P hb
            go_wp2_with fail
            exact bodyPost_ret (v := .tuple #[.agg #[.int .i64 2, .int .i64 0, .int .i64 (a : Int), .string ⟨#[]⟩], .int .i64 (k : Int), .bool false]) (by simp [results, Tryd.results17, go_sem, p0, p1, p2, p3]) rfl ⟨⟨2, 0, a, _, _, _, rfl, .inl ⟨HV.out, rfl⟩⟩, later4 HL.out (Nat.le_refl _) _ _ _ _⟩
      · have hkE : k = E := by have := hr.out; rw [runEnd_out (by omega)] at this; exact this
        subst hkE
        clear hr HE
        go_wp2_with fail
        refine (HC.out _ ((Later.rfl' _).alloc _)).mono ?_; rintro e w1 ⟨rfl, hb⟩
        have P := (box_alloc W #[.int .i64 0, .int .i64 0, .int .i64 0, .string ⟨#[]⟩] 33).later hb
        have HL := Lib.hid (((Later.rfl' W).alloc _).trans hb)
        have p0 := P.cell (j := 0) rfl
        have pf0 := P.free 0
        have p1 := P.cell (j := 1) rfl
        have pf1 := P.free 1
        have p2 := P.cell (j := 2) rfl
        have pf2 := P.free 2
        have p3 := P.cell (j := 3) rfl
        have pf3 := P.free 3
        have hp1 := P.lt
        clear P hb
        go_wp2_with fail
        exact bodyPost_ret (v := .tuple #[.agg #[.int .i64 2, .int .i64 0, .int .i64 (a : Int), .string ⟨#[]⟩], .int .i64 (k : Int), .bool false]) (by simp [results, Tryd.results17, go_sem, p0, p1, p2, p3]) rfl ⟨⟨2, 0, a, _, _, _, rfl, .inl ⟨HV.out, rfl⟩⟩, later4 HL.out (Nat.le_refl _) _ _ _ _⟩
  | some n =>
    simp only [hpb, optR] at C hnx
    have HV := Lib.hid hnx; have HC := Lib.hid C
    clear hE hnx C hpb hl0 hc hp
    go_enter Tryd.func17, Tryd.ntmps17
    go_wp2_with fail
    go_loop [7] (fun i => ∃ k : Nat, a ≤ k ∧ k ≤ s.size ∧ i = .int .i64 (k : Int) ∧ Hid (runEnd dgB s k = E)) (fun i => s.size - (intOf i).toNat)
    case atStart => exact ⟨a, Nat.le_refl _, by omega, rfl, HE⟩
    case round =>
      obtain ⟨k, hak, hk, rfl, hr⟩ := hrel
      by_cases hlt : k < s.size
      · have hki2 : (k : Int) < (s.size : Int) := by omega
        cases hd : dgB s[k] with
        | true =>
          have HN : Hid (runEnd dgB s (k + 1) = E) := by unfold Hid; rw [← runEnd_here hlt hd]; exact hr.out
          obtain ⟨b1, b2⟩ := dgB_yes hd
          clear hd
          go_wp2_with fail
          go_round
          case rel => exact ⟨k + 1, by omega, by omega, by go_num, HN⟩
          case measure => simp [intOf]; omega
        | false =>
          have hkE : k = E := by have := hr.out; rw [runEnd_stop hlt hd] at this; exact this
          subst hkE
          clear hr HE
          rcases dgB_no hd with b1 | ⟨b1, b2⟩
          all_goals
            clear hd
            go_wp2_with fail
            refine (HC.out _ ((Later.rfl' _).alloc _)).mono ?_; rintro e w1 ⟨rfl, hb⟩
            have P := (box_alloc W #[.int .i64 0, .int .i64 0, .int .i64 0, .string ⟨#[]⟩] 33).later hb
            have HL := Lib.hid (((Later.rfl' W).alloc _).trans hb)
            have p0 := P.cell (j := 0) rfl
            have pf0 := P.free 0
            have p1 := P.cell (j := 1) rfl
            have pf1 := P.free 1
            have p2 := P.cell (j := 2) rfl
            have pf2 := P.free 2
            have p3 := P.cell (j := 3) rfl
            have pf3 := P.free 3
            have hp1 := P.lt
            clear P hb
            go_wp2_with fail
            exact bodyPost_ret (v := .tuple #[.agg #[.int .i64 2, .int .i64 n, .int .i64 (a : Int), .string ⟨#[]⟩], .int .i64 (k : Int), .bool true]) (by simp [results, Tryd.results17, go_sem, p0, p1, p2, p3]) rfl ⟨⟨2, n, a, _, _, _, rfl, .inr ⟨k, HV.out, rfl, rfl⟩⟩, later4 HL.out (Nat.le_refl _) _ _ _ _⟩
      · have hkE : k = E := by have := hr.out; rw [runEnd_out (by omega)] at this; exact this
        subst hkE
        clear hr HE
        go_wp2_with fail
        refine (HC.out _ ((Later.rfl' _).alloc _)).mono ?_; rintro e w1 ⟨rfl, hb⟩
        have P := (box_alloc W #[.int .i64 0, .int .i64 0, .int .i64 0, .string ⟨#[]⟩] 33).later hb
        have HL := Lib.hid (((Later.rfl' W).alloc _).trans hb)
        have p0 := P.cell (j := 0) rfl
        have pf0 := P.free 0
        have p1 := P.cell (j := 1) rfl
        have pf1 := P.free 1
        have p2 := P.cell (j := 2) rfl
        have pf2 := P.free 2
        have p3 := P.cell (j := 3) rfl
        have pf3 := P.free 3
        have hp1 := P.lt
        clear P hb
        go_wp2_with fail
        exact bodyPost_ret (v := .tuple #[.agg #[.int .i64 2, .int .i64 n, .int .i64 (a : Int), .string ⟨#[]⟩], .int .i64 (k : Int), .bool true]) (by simp [results, Tryd.results17, go_sem, p0, p1, p2, p3]) rfl ⟨⟨2, n, a, _, _, _, rfl, .inr ⟨k, HV.out, rfl, rfl⟩⟩, later4 HL.out (Nat.le_refl _) _ _ _ _⟩


set_option maxHeartbeats 8000000 in
theorem implNext3 (s : ByteArray) (a : Nat) (h : a < s.size) (hs : s.size ≤ 1048576) (W : World) (hl0 : lowB s[a] = false) (hd0 : dgB s[a] = false) (hc : s[a].toNat = 34) : Calls Tryd.prog 17 #[.string s, .int .i64 (a : Int)] W fun r w' => NextI s a h r ∧ Later W w' := by
  have hki : (a : Int) < (s.size : Int) := by omega
  have hki1 : (a : Int) + 1 ≤ (s.size : Int) := by omega
  have hki2 : a + 1 ≤ s.size := by omega
  obtain ⟨E, hE⟩ : ∃ E, E = runEnd quotB s (a + 1) := ⟨_, rfl⟩
  have hge := runEnd_ge quotB s (a + 1)
  have hle := runEnd_le (p := quotB) hki2
  have hidx := index_text hki2
  rw [← hE] at hge hle hidx
  have I := fun w => Tryd.strings_IndexByte (s.extract (a + 1) s.size) 34 w
  rw [show (34 : Int).toNat.toUInt8 = 34 from rfl, hidx] at I
  have hnx : nextT s a h = if E < s.size ∧ validText (s.extract (a + 1) E) = true then some (⟨3, 0, a, s.extract (a + 1) E⟩, E + 1) else none := by
    unfold nextT
    rw [if_neg (by rw [hl0]; decide), if_neg (by rw [hd0]; decide), if_pos hc, ← hE]
  have e34 : ((((s[a]'h).toNat : Nat) : Int) == 34) = true := by simp; omega
  have e48 : (((s[a]'h).toNat : Nat) : Int) < 48 := by omega
  have e97 : (((s[a]'h).toNat : Nat) : Int) < 97 := by omega
  obtain ⟨k, rfl⟩ : ∃ k, E = a + 1 + k := ⟨E - (a + 1), by omega⟩
  rw [show a + 1 + k - (a + 1) = k by omega] at I
  have C := fun w => implValidTextE (s.extract (a + 1) (a + 1 + k)) w (by rw [ByteArray.size_extract]; unfold maxLen; omega)
  by_cases hE1 : a + 1 + k < s.size
  · rw [if_pos hE1] at I
    have hks : (a : Int) + 1 + (k : Int) ≤ (s.size : Int) := by omega
    cases hv : validText (s.extract (a + 1) (a + 1 + k)) with
    | true =>
      rw [if_pos ⟨hE1, hv⟩] at hnx
      rw [hv] at C
      have HV := Lib.hid hnx; have HC := Lib.hid C; have HI := Lib.hid I
      clear hE hnx C hv hc I hidx hl0 hd0
      go_enter Tryd.func17, Tryd.ntmps17
      go_wp2_with fail
      refine (HI.out _).mono ?_; rintro e w1 ⟨rfl, rfl⟩
      go_wp2_with fail
      refine (HC.out _).mono ?_; rintro e w1 ⟨rfl, rfl⟩
      go_wp2_with fail
      exact bodyPost_ret (v := .tuple #[.agg #[.int .i64 3, .int .i64 0, .int .i64 (a : Int), .string (s.extract (a + 1) (a + 1 + k))], .int .i64 ((a : Int) + (k : Int) + 2), .bool true]) (by simp [results, Tryd.results17, go_sem]) rfl ⟨⟨3, 0, a, _, _, _, rfl, .inr ⟨a + 1 + k + 1, HV.out, by omega, rfl⟩⟩, (Later.rfl' _).alloc _⟩
    | false =>
      rw [if_neg (fun hc => by rw [hv] at hc; exact absurd hc.2 (by decide))] at hnx
      rw [hv] at C
      have HV := Lib.hid hnx; have HC := Lib.hid C; have HI := Lib.hid I
      clear hE hnx C hv hc I hidx hl0 hd0
      go_enter Tryd.func17, Tryd.ntmps17
      go_wp2_with fail
      refine (HI.out _).mono ?_; rintro e w1 ⟨rfl, rfl⟩
      go_wp2_with fail
      refine (HC.out _).mono ?_; rintro e w1 ⟨rfl, rfl⟩
      go_wp2_with fail
      exact bodyPost_ret (v := .tuple #[.agg #[.int .i64 3, .int .i64 0, .int .i64 (a : Int), .string (s.extract (a + 1) (a + 1 + k))], .int .i64 ((a : Int) + (k : Int) + 2), .bool false]) (by simp [results, Tryd.results17, go_sem]) rfl ⟨⟨3, 0, a, _, _, _, rfl, .inl ⟨HV.out, rfl⟩⟩, (Later.rfl' _).alloc _⟩
  · rw [if_neg hE1] at I
    rw [if_neg (fun hc => hE1 hc.1)] at hnx
    have HV := Lib.hid hnx; have HI := Lib.hid I
    clear hE hnx C hc I hidx hl0 hd0
    go_enter Tryd.func17, Tryd.ntmps17
    go_wp2_with fail
    refine (HI.out _).mono ?_; rintro e w1 ⟨rfl, rfl⟩
    go_wp2_with fail
    exact bodyPost_ret (v := .tuple #[.agg #[.int .i64 0, .int .i64 0, .int .i64 0, .string ⟨#[]⟩], .int .i64 0, .bool false]) (by simp [results, Tryd.results17, go_sem]) rfl ⟨⟨0, 0, 0, _, _, _, rfl, .inl ⟨HV.out, rfl⟩⟩, (Later.rfl' _).alloc _⟩


set_option maxHeartbeats 8000000 in
theorem implNext4 (s : ByteArray) (a : Nat) (h : a < s.size) (hs : s.size ≤ 1048576) (W : World) (hl0 : lowB s[a] = false) (hd0 : dgB s[a] = false) (hc : s[a].toNat ≠ 34) : Calls Tryd.prog 17 #[.string s, .int .i64 (a : Int)] W fun r w' => NextI s a h r ∧ Later W w' := by
  have hki : (a : Int) < (s.size : Int) := by omega
  have hki1 : (a : Int) + 1 ≤ (s.size : Int) := by omega
  have hki2 : a + 1 ≤ s.size := by omega
  have e34 : ((((s[a]'h).toNat : Nat) : Int) == 34) = false := by simp; omega
  have hnx := nextT_sym hl0 hd0 hc
  have I := fun w => Tryd.strings_HasPrefix (s.extract a s.size) ⟨#[61, 61]⟩ w
  rw [show (⟨#[61, 61]⟩ : ByteArray).data.toList = [61, 61] from rfl, prefix_eq h] at I
  by_cases h2 : s[a].toNat = 61 ∧ ∃ h : a + 1 < s.size, s[a + 1].toNat = 61
  · have e61 : (((s[a]'h).toNat : Nat) : Int) = 61 := by have := h2.1; omega
    rw [decide_eq_true h2] at I
    have hL : symL s a h = 2 := by unfold symL; rw [if_pos h2]
    rw [hL, if_neg (by decide), two_eq h h2.1 h2.2.1 h2.2.2] at hnx
    have HV := Lib.hid hnx; have HI := Lib.hid I
    clear hnx I h2 hl0 hd0 hc hL
    go_enter Tryd.func17, Tryd.ntmps17
    go_wp2_with fail
    refine (HI.out _).mono ?_; rintro e w1 ⟨rfl, rfl⟩
    go_wp2_with fail
    exact bodyPost_ret (v := .tuple #[.agg #[.int .i64 4, .int .i64 0, .int .i64 (a : Int), .string ⟨#[61, 61]⟩], .int .i64 ((a : Int) + 2), .bool true]) (by simp [results, Tryd.results17, go_sem]) rfl ⟨⟨4, 0, a, _, _, _, rfl, .inr ⟨a + 2, HV.out, by omega, rfl⟩⟩, (Later.rfl' _).alloc _⟩
  · rw [decide_eq_false h2] at I
    have X := fun w => Tryd.strings_IndexByte ⟨#[40, 41, 91, 93, 44, 43, 45, 42, 60, 61]⟩ ((s[a]'h).toNat : Int) w
    have ec : (((s[a]'h).toNat : Nat) : Int).toNat.toUInt8 = s[a] := by
      rw [Int.toNat_natCast]
      exact UInt8.ofNat_toNat
    rw [ec] at X
    have hx := index_sym s[a]
    rw [show (⟨#[40, 41, 91, 93, 44, 43, 45, 42, 60, 61]⟩ : ByteArray).data.toList = [40, 41, 91, 93, 44, 43, 45, 42, 60, 61] from rfl] at X
    obtain ⟨J, hJ⟩ : ∃ J, J = Lib.indexByte [40, 41, 91, 93, 44, 43, 45, 42, 60, 61] s[a] := ⟨_, rfl⟩
    simp only [← hJ] at X hx
    cases hb : symB s[a] with
    | true =>
      rw [hb] at hx
      have hL : symL s a h = 1 := by unfold symL; rw [if_neg h2, if_pos hb]
      rw [hL, if_neg (by decide)] at hnx
      have HV := Lib.hid hnx; have HI := Lib.hid I; have HX := Lib.hid X
      clear hnx I h2 hc hL X ec hJ hb
      rcases word_no hl0 hd0 with b1 | ⟨b1, b2⟩ | b1
      · have b3 : (((s[a]'h).toNat : Nat) : Int) < 97 := by omega
        clear hl0 hd0
        go_enter Tryd.func17, Tryd.ntmps17
        go_wp2_with fail
        refine (HI.out _).mono ?_; rintro e w1 ⟨rfl, rfl⟩
        go_wp2_with fail
        have hw1 : IntKind.i64.wrap ((a : Int) + 1) = (a : Int) + 1 := IntWalk.i64_in _ (by omega)
        have hw2 : 0 ≤ (a : Int) + 1 := by omega
        have hw4 : (a : Int) ≤ (a : Int) + 1 := by omega
        have hw3 : ((a : Int) + 1).toNat = a + 1 := by omega
        go_region_law (first | (go_simp; go_at_call 30; refine (HX.out _).mono ?_; rintro e w1 ⟨rfl, rfl⟩))
        all_goals
          (clear hw1 hw2 hw3 hw4
           go_wp2_with fail
           exact bodyPost_ret (v := .tuple #[.agg #[.int .i64 4, .int .i64 0, .int .i64 (a : Int), .string (s.extract a (a + 1))], .int .i64 ((a : Int) + 1), .bool true]) (by simp [results, Tryd.results17, go_sem]) rfl ⟨⟨4, 0, a, _, _, _, rfl, .inr ⟨a + 1, HV.out, by omega, rfl⟩⟩, by first | exact ((Later.rfl' _).alloc _).drew | exact (Later.rfl' _).drew.alloc _ | exact (Later.rfl' _).alloc _⟩)
      · have b3 : (48 : Int) ≤ (((s[a]'h).toNat : Nat) : Int) := by omega
        clear hl0 hd0
        go_enter Tryd.func17, Tryd.ntmps17
        go_wp2_with fail
        refine (HI.out _).mono ?_; rintro e w1 ⟨rfl, rfl⟩
        go_wp2_with fail
        have hw1 : IntKind.i64.wrap ((a : Int) + 1) = (a : Int) + 1 := IntWalk.i64_in _ (by omega)
        have hw2 : 0 ≤ (a : Int) + 1 := by omega
        have hw4 : (a : Int) ≤ (a : Int) + 1 := by omega
        have hw3 : ((a : Int) + 1).toNat = a + 1 := by omega
        go_region_law (first | (go_simp; go_at_call 30; refine (HX.out _).mono ?_; rintro e w1 ⟨rfl, rfl⟩))
        all_goals
          (clear hw1 hw2 hw3 hw4
           go_wp2_with fail
           exact bodyPost_ret (v := .tuple #[.agg #[.int .i64 4, .int .i64 0, .int .i64 (a : Int), .string (s.extract a (a + 1))], .int .i64 ((a : Int) + 1), .bool true]) (by simp [results, Tryd.results17, go_sem]) rfl ⟨⟨4, 0, a, _, _, _, rfl, .inr ⟨a + 1, HV.out, by omega, rfl⟩⟩, by first | exact ((Later.rfl' _).alloc _).drew | exact (Later.rfl' _).drew.alloc _ | exact (Later.rfl' _).alloc _⟩)
      · have b3 : (48 : Int) ≤ (((s[a]'h).toNat : Nat) : Int) := by omega
        have b4 : (57 : Int) < (((s[a]'h).toNat : Nat) : Int) := by omega
        have b5 : (97 : Int) ≤ (((s[a]'h).toNat : Nat) : Int) := by omega
        clear hl0 hd0
        go_enter Tryd.func17, Tryd.ntmps17
        go_wp2_with fail
        refine (HI.out _).mono ?_; rintro e w1 ⟨rfl, rfl⟩
        go_wp2_with fail
        have hw1 : IntKind.i64.wrap ((a : Int) + 1) = (a : Int) + 1 := IntWalk.i64_in _ (by omega)
        have hw2 : 0 ≤ (a : Int) + 1 := by omega
        have hw4 : (a : Int) ≤ (a : Int) + 1 := by omega
        have hw3 : ((a : Int) + 1).toNat = a + 1 := by omega
        go_region_law (first | (go_simp; go_at_call 30; refine (HX.out _).mono ?_; rintro e w1 ⟨rfl, rfl⟩))
        all_goals
          (clear hw1 hw2 hw3 hw4
           go_wp2_with fail
           exact bodyPost_ret (v := .tuple #[.agg #[.int .i64 4, .int .i64 0, .int .i64 (a : Int), .string (s.extract a (a + 1))], .int .i64 ((a : Int) + 1), .bool true]) (by simp [results, Tryd.results17, go_sem]) rfl ⟨⟨4, 0, a, _, _, _, rfl, .inr ⟨a + 1, HV.out, by omega, rfl⟩⟩, by first | exact ((Later.rfl' _).alloc _).drew | exact (Later.rfl' _).drew.alloc _ | exact (Later.rfl' _).alloc _⟩)
    | false =>
      rw [hb] at hx
      have hL : symL s a h = 0 := by unfold symL; rw [if_neg h2, if_neg (by rw [hb]; decide)]
      rw [hL, if_pos rfl] at hnx
      have HV := Lib.hid hnx; have HI := Lib.hid I; have HX := Lib.hid X
      clear hnx I h2 hc hL X ec hJ hb
      rcases word_no hl0 hd0 with b1 | ⟨b1, b2⟩ | b1
      · have b3 : (((s[a]'h).toNat : Nat) : Int) < 97 := by omega
        clear hl0 hd0
        go_enter Tryd.func17, Tryd.ntmps17
        go_wp2_with fail
        refine (HI.out _).mono ?_; rintro e w1 ⟨rfl, rfl⟩
        go_wp2_with fail
        have hw1 : IntKind.i64.wrap ((a : Int) + 1) = (a : Int) + 1 := IntWalk.i64_in _ (by omega)
        have hw2 : 0 ≤ (a : Int) + 1 := by omega
        have hw4 : (a : Int) ≤ (a : Int) + 1 := by omega
        have hw3 : ((a : Int) + 1).toNat = a + 1 := by omega
        go_region_law (first | (go_simp; go_at_call 30; refine (HX.out _).mono ?_; rintro e w1 ⟨rfl, rfl⟩))
        all_goals
          (clear hw1 hw2 hw3 hw4
           go_wp2_with fail
           exact bodyPost_ret (v := .tuple #[.agg #[.int .i64 4, .int .i64 0, .int .i64 (a : Int), .string (s.extract a (a + 1))], .int .i64 ((a : Int) + 1), .bool false]) (by simp [results, Tryd.results17, go_sem]) rfl ⟨⟨4, 0, a, _, _, _, rfl, .inl ⟨HV.out, rfl⟩⟩, by first | exact ((Later.rfl' _).alloc _).drew | exact (Later.rfl' _).drew.alloc _ | exact (Later.rfl' _).alloc _⟩)
      · have b3 : (48 : Int) ≤ (((s[a]'h).toNat : Nat) : Int) := by omega
        clear hl0 hd0
        go_enter Tryd.func17, Tryd.ntmps17
        go_wp2_with fail
        refine (HI.out _).mono ?_; rintro e w1 ⟨rfl, rfl⟩
        go_wp2_with fail
        have hw1 : IntKind.i64.wrap ((a : Int) + 1) = (a : Int) + 1 := IntWalk.i64_in _ (by omega)
        have hw2 : 0 ≤ (a : Int) + 1 := by omega
        have hw4 : (a : Int) ≤ (a : Int) + 1 := by omega
        have hw3 : ((a : Int) + 1).toNat = a + 1 := by omega
        go_region_law (first | (go_simp; go_at_call 30; refine (HX.out _).mono ?_; rintro e w1 ⟨rfl, rfl⟩))
        all_goals
          (clear hw1 hw2 hw3 hw4
           go_wp2_with fail
           exact bodyPost_ret (v := .tuple #[.agg #[.int .i64 4, .int .i64 0, .int .i64 (a : Int), .string (s.extract a (a + 1))], .int .i64 ((a : Int) + 1), .bool false]) (by simp [results, Tryd.results17, go_sem]) rfl ⟨⟨4, 0, a, _, _, _, rfl, .inl ⟨HV.out, rfl⟩⟩, by first | exact ((Later.rfl' _).alloc _).drew | exact (Later.rfl' _).drew.alloc _ | exact (Later.rfl' _).alloc _⟩)
      · have b3 : (48 : Int) ≤ (((s[a]'h).toNat : Nat) : Int) := by omega
        have b4 : (57 : Int) < (((s[a]'h).toNat : Nat) : Int) := by omega
        have b5 : (97 : Int) ≤ (((s[a]'h).toNat : Nat) : Int) := by omega
        clear hl0 hd0
        go_enter Tryd.func17, Tryd.ntmps17
        go_wp2_with fail
        refine (HI.out _).mono ?_; rintro e w1 ⟨rfl, rfl⟩
        go_wp2_with fail
        have hw1 : IntKind.i64.wrap ((a : Int) + 1) = (a : Int) + 1 := IntWalk.i64_in _ (by omega)
        have hw2 : 0 ≤ (a : Int) + 1 := by omega
        have hw4 : (a : Int) ≤ (a : Int) + 1 := by omega
        have hw3 : ((a : Int) + 1).toNat = a + 1 := by omega
        go_region_law (first | (go_simp; go_at_call 30; refine (HX.out _).mono ?_; rintro e w1 ⟨rfl, rfl⟩))
        all_goals
          (clear hw1 hw2 hw3 hw4
           go_wp2_with fail
           exact bodyPost_ret (v := .tuple #[.agg #[.int .i64 4, .int .i64 0, .int .i64 (a : Int), .string (s.extract a (a + 1))], .int .i64 ((a : Int) + 1), .bool false]) (by simp [results, Tryd.results17, go_sem]) rfl ⟨⟨4, 0, a, _, _, _, rfl, .inl ⟨HV.out, rfl⟩⟩, by first | exact ((Later.rfl' _).alloc _).drew | exact (Later.rfl' _).drew.alloc _ | exact (Later.rfl' _).alloc _⟩)

theorem implNext (s : ByteArray) (a : Nat) (h : a < s.size) (hs : s.size ≤ 1048576) (W : World) (hp : ParseAt W) : Calls Tryd.prog 17 #[.string s, .int .i64 (a : Int)] W fun r w' => NextI s a h r ∧ Later W w' := by
  cases hl : lowB s[a] with
  | true => exact implNext1 s a h hs W hl
  | false =>
    cases hd : dgB s[a] with
    | true => exact implNext2 s a h hs W hp hl hd
    | false =>
      by_cases hc : s[a].toNat = 34
      · exact implNext3 s a h hs W hl hd hc
      · exact implNext4 s a h hs W hl hd hc
end Go.Proofs.YtghemlokpfipoaaDoor
