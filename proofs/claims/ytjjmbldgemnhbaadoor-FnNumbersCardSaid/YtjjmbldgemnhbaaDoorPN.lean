/-
  Numerals: what parse answers for a text, what the reference's reading answers: both say: the text is the numeral of a number in a range (plain words).
-/
import Derived.Test.YtjjmbldgemnhbaaDoorG1
import Derived.Lib.AtoiTie
import Derived.Lib.AtoiAllCases
namespace Go.Proofs.YtjjmbldgemnhbaaDoor
open Go.RowKit
set_option linter.unusedVariables false
set_option linter.unusedSimpArgs false

theorem digitVal_ofNat {d : Nat} (h : d < 10) : Lib.digitVal (UInt8.ofNat (48 + d)) = some d := by
  unfold Lib.digitVal
  have e : (UInt8.ofNat (48 + d)).toNat = 48 + d := by rw [UInt8.toNat_ofNat']; omega
  rw [e, if_pos (by omega)]
  congr 1
  omega
theorem decFrom_snoc (b : UInt8) : ∀ (l : List UInt8) (acc : Nat), Lib.decFrom acc (l ++ [b]) = (Lib.decFrom acc l).bind fun n => (Lib.digitVal b).map fun d => n * 10 + d
  | [], acc => by
    simp only [List.nil_append, Lib.decFrom]
    cases Lib.digitVal b <;> rfl
  | a :: l, acc => by
    simp only [List.cons_append, Lib.decFrom]
    cases Lib.digitVal a with
    | none => rfl
    | some d => exact decFrom_snoc b l _
theorem dec_val (u : Nat) : Lib.decFrom 0 (Lib.decDigits u) = some u := by
  induction u using Nat.strongRecOn with
  | _ u ih =>
    rw [Lib.decDigits]
    by_cases h10 : u < 10
    · rw [dif_pos h10]
      simp only [Lib.decFrom, digitVal_ofNat h10]
      simp
    · rw [dif_neg h10, decFrom_snoc, ih (u / 10) (by omega)]
      simp only [Option.bind_some, digitVal_ofNat (show u % 10 < 10 by omega), Option.map_some]
      congr 1
      omega
theorem dec_ne (u : Nat) : Lib.decDigits u ≠ [] := by
  rw [Lib.decDigits]
  split <;> simp
theorem digit_range {b : UInt8} {d : Nat} (h : Lib.digitVal b = some d) : 48 ≤ b.toNat ∧ b.toNat ≤ 57 ∧ d = b.toNat - 48 := by
  unfold Lib.digitVal at h
  split at h
  · simp only [Option.some.injEq] at h
    omega
  · cases h
theorem dec_lt : ∀ (l : List UInt8) (acc n : Nat), Lib.decFrom acc l = some n → n < (acc + 1) * 10 ^ l.length
  | [], acc, n, h => by
    simp only [Lib.decFrom, Option.some.injEq] at h
    simp
    omega
  | b :: l, acc, n, h => by
    simp only [Lib.decFrom] at h
    cases hd : Lib.digitVal b with
    | none => rw [hd] at h; cases h
    | some d =>
      rw [hd] at h
      have h1 := dec_lt l _ n h
      have h2 := digit_range hd
      have h3 : (acc * 10 + d + 1) * 10 ^ l.length ≤ ((acc + 1) * 10) * 10 ^ l.length := Nat.mul_le_mul_right _ (by omega)
      rw [List.length_cons, Nat.pow_succ, Nat.mul_comm (10 ^ l.length) 10, ← Nat.mul_assoc]
      omega
theorem dec_len {m u : Nat} (hm : 0 < m) (h : u < 10 ^ m) : (Lib.decDigits u).length ≤ m := by
  rcases Nat.eq_zero_or_pos u with h0 | h0
  · subst h0
    rw [Lib.decDigits, dif_pos (by omega)]
    simp only [List.length_cons, List.length_nil]
    omega
  · have := size_digB_le m u h
    rw [digB_dec h0] at this
    simpa [ByteArray.size] using this
theorem dec_head (u : Nat) : ∃ b r, Lib.decDigits u = b :: r ∧ 48 ≤ b.toNat ∧ b.toNat ≤ 57 := by
  cases hd : Lib.decDigits u with
  | nil => exact absurd hd (dec_ne u)
  | cons b r =>
    obtain ⟨d, h⟩ := Lib.digit_of_decFrom _ 0 u (dec_val u) 0 b (by rw [hd]; rfl)
    have := digit_range h
    exact ⟨b, r, rfl, by omega, by omega⟩
theorem itoa_cases (n : Int) : (n < 0 ∧ Lib.itoa n = 45 :: Lib.decDigits n.natAbs) ∨ (0 ≤ n ∧ Lib.itoa n = Lib.decDigits n.natAbs) := by
  unfold Lib.itoa
  by_cases h : n < 0
  · exact .inl ⟨h, by rw [if_pos h]⟩
  · refine .inr ⟨by omega, ?_⟩
    rw [if_neg h]
    have : n.toNat = n.natAbs := by omega
    rw [this]
theorem atoi_itoa (n : Int) : Lib.atoi (Lib.itoa n) = some n := by
  have hd : Lib.decNat (Lib.decDigits n.natAbs) = some n.natAbs := by
    unfold Lib.decNat
    have : (Lib.decDigits n.natAbs).isEmpty = false := by
      cases h : Lib.decDigits n.natAbs with
      | nil => exact absurd h (dec_ne _)
      | cons _ _ => rfl
    rw [this]
    exact dec_val _
  rcases itoa_cases n with ⟨h, e⟩ | ⟨h, e⟩
  · rw [e]
    simp only [Lib.atoi]
    rw [if_pos (by decide), hd]
    simp only [Option.map_some]
    congr 1
    omega
  · rw [e]
    obtain ⟨b, r, hb, h1, h2⟩ := dec_head n.natAbs
    rw [hb] at hd ⊢
    have e1 : (b == 45) = false := by
      rw [beq_eq_false_iff_ne]
      rintro rfl
      exact absurd h1 (by decide)
    have e2 : (b == 43) = false := by
      rw [beq_eq_false_iff_ne]
      rintro rfl
      exact absurd h1 (by decide)
    simp only [Lib.atoi, e1, e2, hd]
    simp
    omega
theorem itoa_len {m : Nat} {n : Int} (hm : 0 < m) (h : n.natAbs < 10 ^ m) : (Lib.itoa n).length ≤ m + 1 := by
  have := dec_len hm h
  rcases itoa_cases n with ⟨_, e⟩ | ⟨_, e⟩
  · rw [e]; simp; omega
  · rw [e]; omega

/-- What parse answers: the number in the range whose numeral the text is. -/
def parseB (lo hi : Int) (s : ByteArray) : Option Int :=
  match Lib.atoiAll s.data.toList with
  | .ok v => if lo ≤ v ∧ v ≤ hi ∧ itoaB v = s then some v else none
  | _ => none
theorem itoaB_data {n : Int} {s : ByteArray} (h : itoaB n = s) : s.data.toList = Lib.itoa n := by
  rw [← h, itoaB_eq]
theorem parseB_iff {lo hi n : Int} {s : ByteArray} (hlo : -100000000000000000 < lo) (hhi : hi < 100000000000000000) : parseB lo hi s = some n ↔ itoaB n = s ∧ lo ≤ n ∧ n ≤ hi := by
  constructor
  · intro h
    unfold parseB at h
    split at h
    · split at h
      · simp only [Option.some.injEq] at h
        subst h
        rename_i hc
        exact ⟨hc.2.2, hc.1, hc.2.1⟩
      · cases h
    · cases h
  · rintro ⟨h1, h2, h3⟩
    have e := itoaB_data h1
    have hl : (Lib.itoa n).length ≤ 17 + 1 := itoa_len (by omega) (by omega)
    have ha : Lib.atoiAll s.data.toList = .ok n := by rw [e, Lib.atoiAll_short _ hl, atoi_itoa]; rfl
    unfold parseB
    rw [ha]
    exact if_pos ⟨h2, h3, h1⟩
/-- What the reference reads: a sign, then so many digits at most, the whole the numeral of what they spell. -/
def belowB (s : ByteArray) : Bool := s.data.toList.head? == some 45
def restB (s : ByteArray) : List UInt8 := if belowB s then s.data.toList.tail else s.data.toList
def signB (s : ByteArray) (m : Nat) : Int := if belowB s then -(m : Int) else (m : Int)
theorem signB_abs (s : ByteArray) (m : Nat) : (signB s m).natAbs = m := by unfold signB; split <;> omega
def readB (most : Nat) (s : ByteArray) : Option Int :=
  if (restB s).length < 1 ∨ most < (restB s).length then none else
  match Lib.decFrom 0 (restB s) with
  | none => none
  | some m => if itoaB (signB s m) = s then some (signB s m) else none
theorem readB_iff {most : Nat} {n : Int} {s : ByteArray} (hm : 0 < most) : readB most s = some n ↔ itoaB n = s ∧ n.natAbs < 10 ^ most := by
  constructor
  · intro h
    unfold readB at h
    split at h
    · cases h
    · rename_i hl
      split at h
      · cases h
      · rename_i m hd
        split at h
        · rename_i hi
          simp only [Option.some.injEq] at h
          subst h
          refine ⟨hi, ?_⟩
          have h1 := dec_lt _ _ _ hd
          have h2 : 10 ^ (restB s).length ≤ 10 ^ most := Nat.pow_le_pow_right (by omega) (by omega)
          rw [signB_abs]
          omega
        · cases h
  · rintro ⟨h1, h2⟩
    have e := itoaB_data h1
    have hlen := dec_len hm h2
    have hne := dec_ne n.natAbs
    have hpos : 0 < (Lib.decDigits n.natAbs).length := List.length_pos_iff.2 hne
    rcases itoa_cases n with ⟨h, ei⟩ | ⟨h, ei⟩
    · have hb : belowB s = true := by unfold belowB; rw [e, ei]; rfl
      have hr : restB s = Lib.decDigits n.natAbs := by unfold restB; rw [hb, e, ei]; rfl
      unfold readB
      rw [hr, if_neg (by omega), dec_val]
      have : signB s n.natAbs = n := by unfold signB; rw [hb, if_pos rfl]; omega
      simp only [this]
      exact if_pos h1
    · obtain ⟨b, r, hbr, g1, g2⟩ := dec_head n.natAbs
      have hb : belowB s = false := by
        unfold belowB
        rw [e, ei, hbr]
        simp only [List.head?_cons, beq_eq_false_iff_ne, ne_eq, Option.some.injEq]
        rintro rfl
        exact absurd g1 (by decide)
      have hr : restB s = Lib.decDigits n.natAbs := by unfold restB; rw [hb, e, ei]; rfl
      unfold readB
      rw [hr, if_neg (by omega), dec_val]
      have : signB s n.natAbs = n := by unfold signB; rw [hb, if_neg (by simp)]; omega
      simp only [this]
      exact if_pos h1
theorem read_parse (s : ByteArray) : readB 12 s = parseB (-999999999999) 999999999999 s := by
  apply Option.ext
  intro n
  rw [readB_iff (by omega), parseB_iff (by omega) (by omega)]
  have : (10 : Nat) ^ 12 = 1000000000000 := rfl
  rw [this]
  constructor
  · rintro ⟨h1, h2⟩; exact ⟨h1, by omega, by omega⟩
  · rintro ⟨h1, h2, h3⟩; exact ⟨h1, by omega⟩
/-- ParseNumber: no negative number. -/
def nonneg : Option Int → Option Int
  | some n => if n < 0 then none else some n
  | none => none
theorem read_number (s : ByteArray) : nonneg (readB 6 s) = parseB 0 999999 s := by
  apply Option.ext
  intro n
  rw [parseB_iff (by omega) (by omega)]
  have h6 : (10 : Nat) ^ 6 = 1000000 := rfl
  constructor
  · intro h
    cases hr : readB 6 s with
    | none => rw [hr] at h; cases h
    | some k =>
      rw [hr] at h
      simp only [nonneg] at h
      split at h
      · cases h
      · simp only [Option.some.injEq] at h
        subst h
        obtain ⟨h1, h2⟩ := (readB_iff (by omega)).1 hr
        rw [h6] at h2
        exact ⟨h1, by omega, by omega⟩
  · rintro ⟨h1, h2, h3⟩
    have hr : readB 6 s = some n := (readB_iff (by omega)).2 ⟨h1, by rw [h6]; omega⟩
    rw [hr]
    simp only [nonneg]
    rw [if_neg (by omega)]
end Go.Proofs.YtjjmbldgemnhbaaDoor
