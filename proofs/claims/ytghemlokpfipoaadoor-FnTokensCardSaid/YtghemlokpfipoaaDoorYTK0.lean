/-
  Tokens of a text (plain words): the token at a place, the tokens of the whole.
-/
import Derived.Test.YtghemlokpfipoaaDoorYPN
import Derived.Test.YtghemlokpfipoaaDoorYD2
import Derived.Test.YtghemlokpfipoaaDoorYMA
namespace Go.Proofs.YtghemlokpfipoaaDoor
open Go.RowKit
set_option linter.unusedVariables false
set_option linter.unusedSimpArgs false

def lowB (b : UInt8) : Bool := decide (97 ≤ b.toNat) && decide (b.toNat ≤ 122)
def dgB (b : UInt8) : Bool := decide (48 ≤ b.toNat) && decide (b.toNat ≤ 57)
def wordB (b : UInt8) : Bool := lowB b || dgB b
def quotB (b : UInt8) : Bool := !decide (b.toNat = 34)
/-- Where the run of bytes that meet p ends, from k on. -/
def runEnd (p : UInt8 → Bool) (s : ByteArray) (k : Nat) : Nat := k + ((s.data.toList.drop k).takeWhile p).length
theorem data_at {s : ByteArray} {k : Nat} (hk : k < s.size) : s.data.toList[k]'(by simpa using hk) = s[k] := rfl
theorem runEnd_here {p : UInt8 → Bool} {s : ByteArray} {k : Nat} (hk : k < s.size) (h : p s[k] = true) : runEnd p s k = runEnd p s (k + 1) := by
  unfold runEnd
  rw [List.drop_eq_getElem_cons (by simpa using hk), data_at hk, List.takeWhile_cons, if_pos h]
  simp only [List.length_cons]
  omega
theorem runEnd_stop {p : UInt8 → Bool} {s : ByteArray} {k : Nat} (hk : k < s.size) (h : p s[k] = false) : runEnd p s k = k := by
  unfold runEnd
  rw [List.drop_eq_getElem_cons (by simpa using hk), data_at hk, List.takeWhile_cons, if_neg (by rw [h]; decide)]
  rfl
theorem runEnd_out {p : UInt8 → Bool} {s : ByteArray} {k : Nat} (hk : s.size ≤ k) : runEnd p s k = k := by
  unfold runEnd
  rw [List.drop_eq_nil_of_le (by simpa using hk)]
  rfl
theorem runEnd_ge (p : UInt8 → Bool) (s : ByteArray) (k : Nat) : k ≤ runEnd p s k := Nat.le_add_right _ _
theorem runEnd_le {p : UInt8 → Bool} {s : ByteArray} {k : Nat} (hk : k ≤ s.size) : runEnd p s k ≤ s.size := by
  unfold runEnd
  have h := List.takeWhile_sublist p (l := s.data.toList.drop k) |>.length_le
  simp at h
  omega
def symB (b : UInt8) : Bool := [40, 41, 91, 93, 44, 43, 45, 42, 60, 61].contains b.toNat
/-- The token at a place, and where it ends. -/
def nextT (s : ByteArray) (a : Nat) (h : a < s.size) : Option (Tk × Nat) :=
  if lowB s[a] = true then (if runEnd wordB s a - a ≤ 8 then some (⟨1, 0, a, s.extract a (runEnd wordB s a)⟩, runEnd wordB s a) else none)
  else if dgB s[a] = true then (match parseB 0 1000000000 (s.extract a (runEnd dgB s a)) with | some n => some (⟨2, n, a, ⟨#[]⟩⟩, runEnd dgB s a) | none => none)
  else if s[a].toNat = 34 then (if runEnd quotB s (a + 1) < s.size ∧ validText (s.extract (a + 1) (runEnd quotB s (a + 1))) = true then some (⟨3, 0, a, s.extract (a + 1) (runEnd quotB s (a + 1))⟩, runEnd quotB s (a + 1) + 1) else none)
  else if s[a].toNat = 61 ∧ (∃ h : a + 1 < s.size, s[a + 1].toNat = 61) then some (⟨4, 0, a, s.extract a (a + 2)⟩, a + 2)
  else if symB s[a] = true then some (⟨4, 0, a, s.extract a (a + 1)⟩, a + 1) else none
theorem nextT_end {s : ByteArray} {a : Nat} {h : a < s.size} {t : Tk} {e : Nat} (hn : nextT s a h = some (t, e)) : a < e ∧ e ≤ s.size := by
  unfold nextT at hn
  split at hn
  · rename_i hl
    split at hn
    · simp only [Option.some.injEq, Prod.mk.injEq] at hn
      rw [← hn.2]
      refine ⟨?_, runEnd_le (by omega)⟩
      rw [runEnd_here h (by unfold wordB; rw [hl]; rfl)]
      exact runEnd_ge _ _ _
    · cases hn
  · split at hn
    · rename_i hd
      split at hn
      · simp only [Option.some.injEq, Prod.mk.injEq] at hn
        rw [← hn.2]
        refine ⟨?_, runEnd_le (by omega)⟩
        rw [runEnd_here h hd]
        exact runEnd_ge _ _ _
      · cases hn
    · split at hn
      · split at hn
        · rename_i hc
          simp only [Option.some.injEq, Prod.mk.injEq] at hn
          rw [← hn.2]
          have := runEnd_ge quotB s (a + 1)
          omega
        · cases hn
      · split at hn
        · rename_i hc
          obtain ⟨_, h2, _⟩ := hc
          simp only [Option.some.injEq, Prod.mk.injEq] at hn
          omega
        · split at hn
          · simp only [Option.some.injEq, Prod.mk.injEq] at hn
            omega
          · cases hn
theorem ext_data (s : ByteArray) (a e : Nat) : (s.extract a e).data.toList = (s.data.toList.drop a).take (e - a) := by
  rw [ByteArray.data_extract, Array.toList_extract, List.extract_eq_take_drop]
theorem bytes_eq {s t : ByteArray} (h : s.data.toList = t.data.toList) : s = t := ByteArray.ext (Array.toList_inj.1 h)
theorem size_data (s : ByteArray) : s.data.toList.length = s.size := by simp
theorem drop_cons {s : ByteArray} {a : Nat} (h : a < s.size) : s.data.toList.drop a = s[a] :: s.data.toList.drop (a + 1) := by
  rw [List.drop_eq_getElem_cons (by simpa using h), data_at h]
theorem extract_byte {s : ByteArray} {a e : Nat} (h1 : a < e) (h2 : e ≤ s.size) : (s.extract a e).data.toList.head? = some (s[a]'(by omega)) := by
  rw [ext_data, drop_cons (by omega), show e - a = (e - (a + 1)) + 1 by omega, List.take_succ_cons]
  rfl
/-- A text that begins with a digit: the reference's number and the code's. -/
theorem digits_parse {s : ByteArray} {a e : Nat} (h1 : a < e) (h2 : e ≤ s.size) (hd : dgB (s[a]'(by omega)) = true) :
    parseB 0 1000000000 (s.extract a e) = match readB 12 (s.extract a e) with | some n => if n ≤ 1000000000 then some n else none | none => none := by
  apply Option.ext
  intro n
  rw [parseB_iff (by omega) (by omega)]
  have h12 : (10 : Nat) ^ 12 = 1000000000000 := rfl
  have hpos : ∀ k, itoaB k = s.extract a e → 0 ≤ k := fun k hk => by
    have hdat := itoaB_data hk
    rcases itoa_cases k with ⟨h, ei⟩ | ⟨h, ei⟩
    · exfalso
      have hh := extract_byte h1 h2
      rw [hdat, ei] at hh
      simp only [List.head?_cons, Option.some.injEq] at hh
      rw [← hh] at hd
      exact absurd hd (by decide)
    · exact h
  constructor
  · rintro ⟨g1, g2, g3⟩
    have hr : readB 12 (s.extract a e) = some n := (readB_iff (by omega)).2 ⟨g1, by rw [h12]; omega⟩
    rw [hr]
    exact if_pos g3
  · intro h
    split at h
    · rename_i m hr
      split at h
      · simp only [Option.some.injEq] at h
        subst h
        obtain ⟨g1, g2⟩ := (readB_iff (by omega)).1 hr
        exact ⟨g1, hpos _ g1, by assumption⟩
      · cases h
    · cases h

/-- From a place on, with what has been read. -/
def tokF : Nat → ByteArray → Nat → List Tk → List Tk × Int
  | 0, _, a, _ => ([], a)
  | f + 1, s, a, l =>
    if h : a < s.size then
      if s[a].toNat = 32 then tokF f s (a + 1) l
      else match nextT s a h with
        | none => ([], a)
        | some (t, e) => if l.length = 60 then ([], a) else tokF f s e (l ++ [t])
    else (l, -1)
theorem tokF_more : ∀ (f f' : Nat) (s : ByteArray) (a : Nat) (l : List Tk), s.size - a < f → s.size - a < f' → tokF f s a l = tokF f' s a l
  | 0, _, _, _, _, h, _ => by omega
  | _ + 1, 0, _, _, _, _, h => by omega
  | f + 1, f' + 1, s, a, l, h1, h2 => by
    unfold tokF
    by_cases h : a < s.size
    · rw [dif_pos h, dif_pos h]
      split
      · exact tokF_more f f' s (a + 1) l (by omega) (by omega)
      · cases hn : nextT s a h with
        | none => rfl
        | some p =>
          obtain ⟨t, e⟩ := p
          have := nextT_end hn
          simp only
          split
          · rfl
          · exact tokF_more f f' s e _ (by omega) (by omega)
    · rw [dif_neg h, dif_neg h]
/-- The tokens from a place on, after those read. -/
def tokA (s : ByteArray) (a : Nat) (l : List Tk) : List Tk × Int := tokF (s.size - a + 1) s a l
theorem tokA_end {s : ByteArray} {a : Nat} {l : List Tk} (h : ¬ a < s.size) : tokA s a l = (l, -1) := by
  unfold tokA tokF
  rw [dif_neg h]
theorem tokA_space {s : ByteArray} {a : Nat} {l : List Tk} (h : a < s.size) (hs : s[a].toNat = 32) : tokA s a l = tokA s (a + 1) l := by
  have h1 : tokA s a l = tokF (s.size - a) s (a + 1) l := by
    conv => lhs; unfold tokA tokF
    rw [dif_pos h, if_pos hs]
  rw [h1]
  exact tokF_more _ _ _ _ _ (by omega) (by omega)
theorem tokA_none {s : ByteArray} {a : Nat} {l : List Tk} (h : a < s.size) (hs : ¬ s[a].toNat = 32) (hn : nextT s a h = none) : tokA s a l = ([], (a : Int)) := by
  unfold tokA tokF
  rw [dif_pos h, if_neg hs, hn]
theorem tokA_full {s : ByteArray} {a : Nat} {l : List Tk} (h : a < s.size) (hs : ¬ s[a].toNat = 32) (hl : l.length = 60) : tokA s a l = ([], (a : Int)) := by
  unfold tokA tokF
  rw [dif_pos h, if_neg hs]
  cases nextT s a h with
  | none => rfl
  | some p =>
    obtain ⟨t, e⟩ := p
    exact if_pos hl
theorem tokA_some {s : ByteArray} {a : Nat} {l : List Tk} {t : Tk} {e : Nat} (h : a < s.size) (hs : ¬ s[a].toNat = 32) (hn : nextT s a h = some (t, e)) (hl : ¬ l.length = 60) : tokA s a l = tokA s e (l ++ [t]) := by
  have h1 : tokA s a l = tokF (s.size - a) s e (l ++ [t]) := by
    conv => lhs; unfold tokA tokF
    rw [dif_pos h, if_neg hs, hn]
    exact if_neg hl
  rw [h1]
  have := nextT_end hn
  exact tokF_more _ _ _ _ _ (by omega) (by omega)
/-- What Tokenize answers. -/
def tokensB (s : ByteArray) : List Tk × Int := if 120 < s.size then ([], 120) else tokA s 0 []
end Go.Proofs.YtghemlokpfipoaaDoor
