/-
  Tokens parsed again from their formatted list (plain words).
-/
import Derived.Test.YtghemlokpfipoaaDoorYTK0
import Derived.Test.YtghemlokpfipoaaDoorYTB
namespace Go.Proofs.YtghemlokpfipoaaDoor
open Go.RowKit
set_option linter.unusedVariables false
set_option linter.unusedSimpArgs false

theorem tw_none {p : UInt8 → Bool} {R : List UInt8} (h32 : p 32 = false) (hR : R = [] ∨ ∃ R', R = 32 :: R') : R.takeWhile p = [] := by
  rcases hR with rfl | ⟨R', rfl⟩
  · rfl
  · rw [List.takeWhile_cons, if_neg (by rw [h32]; decide)]
theorem tw_stop {p : UInt8 → Bool} {R : List UInt8} (h32 : p 32 = false) (hR : R = [] ∨ ∃ R', R = 32 :: R') : ∀ L : List UInt8, (L.take (L.takeWhile p).length ++ R).takeWhile p = L.takeWhile p
  | [] => by simpa using tw_none h32 hR
  | x :: L => by
    cases h : p x with
    | true =>
      have ih := tw_stop h32 hR L
      simp only [List.takeWhile_cons, h, if_true, List.length_cons, List.take_succ_cons, List.cons_append]
      rw [ih]
    | false =>
      simp only [List.takeWhile_cons, h, Bool.false_eq_true, if_false, List.length_nil, List.take_zero, List.nil_append]
      exact tw_none h32 hR
theorem tw_quot {p : UInt8 → Bool} {R : List UInt8} : ∀ L : List UInt8, (L.takeWhile p).length < L.length → (L.take ((L.takeWhile p).length + 1) ++ R).takeWhile p = L.takeWhile p
  | [], h => by simp at h
  | x :: L, hl => by
    cases h : p x with
    | true =>
      simp only [List.takeWhile_cons, h, if_true, List.length_cons] at hl
      have ih := tw_quot (p := p) (R := R) L (by omega)
      simp only [List.takeWhile_cons, h, if_true, List.length_cons, List.take_succ_cons, List.cons_append]
      rw [ih]
    | false =>
      simp only [List.takeWhile_cons, h, Bool.false_eq_true, if_false, List.length_nil, Nat.zero_add, List.take_succ_cons, List.cons_append]
theorem tw_get {p : UInt8 → Bool} : ∀ (L : List UInt8) (h : (L.takeWhile p).length < L.length), p (L[(L.takeWhile p).length]'h) = false
  | [], h => by simp at h
  | x :: L, hl => by
    cases h : p x with
    | true =>
      have e : (x :: L).takeWhile p = x :: L.takeWhile p := by rw [List.takeWhile_cons, h]; rfl
      have hl' : (L.takeWhile p).length < L.length := by rw [e] at hl; simpa using hl
      have := tw_get L hl'
      simp only [e, List.length_cons, List.getElem_cons_succ]
      exact this
    | false =>
      have e : (x :: L).takeWhile p = [] := by rw [List.takeWhile_cons, h]; rfl
      simp only [e, List.length_nil, List.getElem_cons_zero]
      exact h
theorem runEnd_byte {p : UInt8 → Bool} {s : ByteArray} {j : Nat} (h : runEnd p s j < s.size) : p (s[runEnd p s j]'h) = false := by
  have hl : ((s.data.toList.drop j).takeWhile p).length < (s.data.toList.drop j).length := by
    rw [List.length_drop, size_data]
    unfold runEnd at h
    omega
  have := tw_get _ hl
  rw [List.getElem_drop] at this
  exact this
theorem nextT_space {s : ByteArray} {a : Nat} {h : a < s.size} (hs : s[a].toNat = 32) : nextT s a h = none := by
  have e : s[a] = 32 := UInt8.toNat_inj.1 hs
  unfold nextT
  rw [e]
  rw [if_neg (by decide), if_neg (by decide), if_neg (by decide), if_neg (fun h => absurd h.1 (by decide)), if_neg (by decide)]
theorem nextT_at {s : ByteArray} {a : Nat} {h : a < s.size} {t : Tk} {e : Nat} (hn : nextT s a h = some (t, e)) : t.at_ = a ∧ (t.n = 0 ∨ (0 ≤ t.n ∧ t.n ≤ 1000000000)) ∧ t.text.size ≤ s.size ∧ (t.kind = 1 ∨ t.kind = 2 ∨ t.kind = 3 ∨ t.kind = 4) := by
  have hsz : ∀ x y, (s.extract x y).size ≤ s.size := fun x y => by rw [ByteArray.size_extract]; omega
  have h0 : (ByteArray.mk #[]).size ≤ s.size := Nat.zero_le _
  unfold nextT at hn
  split at hn
  · split at hn
    · simp only [Option.some.injEq, Prod.mk.injEq] at hn
      rw [← hn.1]
      exact ⟨rfl, .inl rfl, hsz _ _, .inl rfl⟩
    · cases hn
  · split at hn
    · split at hn
      · rename_i hp
        simp only [Option.some.injEq, Prod.mk.injEq] at hn
        rw [← hn.1]
        obtain ⟨_, g1, g2⟩ := (parseB_iff (by omega) (by omega)).1 hp
        exact ⟨rfl, .inr ⟨g1, g2⟩, h0, .inr (.inl rfl)⟩
      · cases hn
    · split at hn
      · split at hn
        · simp only [Option.some.injEq, Prod.mk.injEq] at hn
          rw [← hn.1]
          exact ⟨rfl, .inl rfl, hsz _ _, .inr (.inr (.inl rfl))⟩
        · cases hn
      · split at hn
        · simp only [Option.some.injEq, Prod.mk.injEq] at hn
          rw [← hn.1]
          exact ⟨rfl, .inl rfl, hsz _ _, .inr (.inr (.inr rfl))⟩
        · split at hn
          · simp only [Option.some.injEq, Prod.mk.injEq] at hn
            rw [← hn.1]
            exact ⟨rfl, .inl rfl, hsz _ _, .inr (.inr (.inr rfl))⟩
          · cases hn
/-- A token's text is what was read. -/
theorem nextT_fmt {s : ByteArray} {a : Nat} {h : a < s.size} {t : Tk} {e : Nat} (hn : nextT s a h = some (t, e)) : tkB t = s.extract a e := by
  unfold nextT at hn
  split at hn
  · split at hn
    · simp only [Option.some.injEq, Prod.mk.injEq] at hn
      rw [← hn.1, ← hn.2]
      rfl
    · cases hn
  · split at hn
    · split at hn
      · rename_i hp
        simp only [Option.some.injEq, Prod.mk.injEq] at hn
        rw [← hn.1, ← hn.2]
        exact ((parseB_iff (by omega) (by omega)).1 hp).1
      · cases hn
    · split at hn
      · rename_i h34
        split at hn
        · rename_i hc
          simp only [Option.some.injEq, Prod.mk.injEq] at hn
          rw [← hn.1, ← hn.2]
          have hge := runEnd_ge quotB s (a + 1)
          have hb := runEnd_byte hc.1
          obtain ⟨k, hk⟩ : ∃ k, k = runEnd quotB s (a + 1) := ⟨_, rfl⟩
          have hkl : k < s.size := by rw [hk]; exact hc.1
          have hb' : s[k]'hkl = 34 := by
            have : quotB (s[k]'hkl) = false := by simp only [hk]; exact hb
            unfold quotB at this
            simp only [Bool.not_eq_false', decide_eq_true_eq] at this
            exact UInt8.toNat_inj.1 this
          have ha : s[a] = 34 := UInt8.toNat_inj.1 h34
          rw [← hk] at hge ⊢
          show ⟨#[34]⟩ ++ s.extract (a + 1) k ++ ⟨#[34]⟩ = _
          apply bytes_eq
          rw [ByteArray.data_append, ByteArray.data_append, Array.toList_append, Array.toList_append, ext_data, ext_data, drop_cons h, ha, show k + 1 - a = (k - a) + 1 by omega, List.take_succ_cons]
          have e1 : k - a = (k - (a + 1)) + 1 := by omega
          rw [e1, List.take_succ_eq_append_getElem (by rw [List.length_drop, size_data]; omega), List.getElem_drop]
          have e2 : s.data.toList[a + 1 + (k - (a + 1))]'(by rw [size_data]; omega) = 34 := by
            have : a + 1 + (k - (a + 1)) = k := by omega
            simp only [this]
            exact hb'
          rw [e2]
          simp
        · cases hn
      · split at hn
        · simp only [Option.some.injEq, Prod.mk.injEq] at hn
          rw [← hn.1, ← hn.2]
          rfl
        · split at hn
          · simp only [Option.some.injEq, Prod.mk.injEq] at hn
            rw [← hn.1, ← hn.2]
            rfl
          · cases hn
/-- The same bytes elsewhere, with a space or nothing behind them: the same token. -/
theorem nextT_local {s t : ByteArray} {a b : Nat} {h : a < s.size} {T : Tk} {e : Nat} (hn : nextT s a h = some (T, e)) {R : List UInt8} (hR : R = [] ∨ ∃ R', R = 32 :: R') (ht : t.data.toList.drop b = (s.extract a e).data.toList ++ R) :
    ∃ h' : b < t.size, nextT t b h' = some (⟨T.kind, T.n, b, T.text⟩, b + (e - a)) := by
  obtain ⟨h1, h2⟩ := nextT_end hn
  have hd := ht
  rw [ext_data] at hd
  have hlen : (s.data.toList.drop a).length = s.size - a := by rw [List.length_drop, size_data]
  have htl := congrArg List.length hd
  rw [List.length_drop, size_data, List.length_append, List.length_take, hlen] at htl
  have hb : b < t.size := by omega
  have hbe : b + (e - a) ≤ t.size := by omega
  have hd2 := hd
  rw [drop_cons hb, drop_cons h, show e - a = (e - (a + 1)) + 1 by omega, List.take_succ_cons, List.cons_append, List.cons.injEq] at hd2
  obtain ⟨hh, htail⟩ := hd2
  have hext : t.extract b (b + (e - a)) = s.extract a e := by
    apply bytes_eq
    rw [ext_data, ext_data, hd, show b + (e - a) - b = e - a by omega, List.take_append_of_le_length (by rw [List.length_take, hlen]; omega), List.take_take, Nat.min_self]
  refine ⟨hb, ?_⟩
  unfold nextT at hn ⊢
  rw [hh]
  have hrun : ∀ p : UInt8 → Bool, p 32 = false → e = runEnd p s a → runEnd p t b = b + (e - a) := fun p hp he => by
    have e1 : e - a = ((s.data.toList.drop a).takeWhile p).length := by rw [he]; unfold runEnd; omega
    unfold runEnd
    rw [hd, e1, tw_stop hp hR]
  by_cases c1 : lowB s[a] = true
  · rw [if_pos c1] at hn ⊢
    split at hn
    · rename_i hc
      simp only [Option.some.injEq, Prod.mk.injEq] at hn
      have hr := hrun wordB (by decide) hn.2.symm
      rw [← hn.1, hr, hext, if_pos (by rw [hn.2] at hc; omega), hn.2]
    · cases hn
  rw [if_neg c1] at hn ⊢
  by_cases c2 : dgB s[a] = true
  · rw [if_pos c2] at hn ⊢
    split at hn
    · rename_i hp
      simp only [Option.some.injEq, Prod.mk.injEq] at hn
      have hr := hrun dgB (by decide) hn.2.symm
      rw [hn.2] at hp
      rw [← hn.1, hr, hext, hp]
    · cases hn
  rw [if_neg c2] at hn ⊢
  by_cases c3 : s[a].toNat = 34
  · rw [if_pos c3] at hn ⊢
    split at hn
    · rename_i hc
      simp only [Option.some.injEq, Prod.mk.injEq] at hn
      have hge := runEnd_ge quotB s (a + 1)
      have e1 : e - (a + 1) = ((s.data.toList.drop (a + 1)).takeWhile quotB).length + 1 := by rw [← hn.2]; unfold runEnd; omega
      have hl : ((s.data.toList.drop (a + 1)).takeWhile quotB).length < (s.data.toList.drop (a + 1)).length := by
        rw [List.length_drop, size_data]
        have := hc.1
        unfold runEnd at this
        omega
      have hr : runEnd quotB t (b + 1) = b + (runEnd quotB s (a + 1) - a) := by
        conv => lhs; unfold runEnd
        rw [htail, e1, tw_quot _ hl]
        unfold runEnd
        omega
      have hx : t.extract (b + 1) (b + (runEnd quotB s (a + 1) - a)) = s.extract (a + 1) (runEnd quotB s (a + 1)) := by
        apply bytes_eq
        rw [ext_data, ext_data, htail, show b + (runEnd quotB s (a + 1) - a) - (b + 1) = runEnd quotB s (a + 1) - (a + 1) by omega,
          List.take_append_of_le_length (by rw [List.length_take, List.length_drop, size_data]; omega), List.take_take, Nat.min_eq_left (by omega)]
      have e5 : b + (runEnd quotB s (a + 1) - a) + 1 = b + (runEnd quotB s (a + 1) + 1 - a) := by omega
      rw [hr, hx, if_pos ⟨by omega, hc.2⟩, ← hn.1, ← hn.2, e5]
    · cases hn
  rw [if_neg c3] at hn ⊢
  by_cases c4 : s[a].toNat = 61 ∧ ∃ h : a + 1 < s.size, (s[a + 1]'h).toNat = 61
  · rw [if_pos c4] at hn
    simp only [Option.some.injEq, Prod.mk.injEq] at hn
    obtain ⟨g1, g2, g3⟩ := c4
    have hb1 : b + 1 < t.size := by omega
    have g4 : t[b + 1]'hb1 = s[a + 1]'g2 := by
      rw [drop_cons hb1, drop_cons g2, show e - (a + 1) = 0 + 1 by omega, List.take_succ_cons, List.cons_append, List.cons.injEq] at htail
      exact htail.1
    rw [if_pos ⟨g1, hb1, by rw [g4]; exact g3⟩, ← hn.1]
    have : b + (e - a) = b + 2 := by omega
    rw [this] at hext
    rw [hext, hn.2, this]
  rw [if_neg c4] at hn
  split at hn
  · rename_i hc
    simp only [Option.some.injEq, Prod.mk.injEq] at hn
    have hne : ¬ (s[a].toNat = 61 ∧ ∃ h : b + 1 < t.size, (t[b + 1]'h).toNat = 61) := by
      rintro ⟨_, g2, g3⟩
      rw [drop_cons g2, show e - (a + 1) = 0 by omega, List.take_zero, List.nil_append] at htail
      rcases hR with rfl | ⟨R', rfl⟩
      · cases htail
      · simp only [List.cons.injEq] at htail
        rw [htail.1] at g3
        exact absurd g3 (by decide)
    rw [if_neg hne, if_pos hc, ← hn.1]
    have : b + (e - a) = b + 1 := by omega
    rw [this] at hext
    rw [hext, hn.2, this]
  · cases hn

/-- A token that was read from a text. -/
def GoodT (s : ByteArray) (t : Tk) : Prop := ∃ a h e, nextT s a h = some (t, e)
theorem tokF_out : ∀ (f : Nat) (s : ByteArray) (a : Nat) (l : List Tk), (∀ t, t ∈ l → GoodT s t) → l.length ≤ 60 → (∀ t, t ∈ (tokF f s a l).1 → GoodT s t) ∧ (tokF f s a l).1.length ≤ 60 ∧ ((tokF f s a l).2 = -1 ∨ (0 ≤ (tokF f s a l).2 ∧ (tokF f s a l).1 = []))
  | 0, s, a, l, h, hl => ⟨fun t ht => by simp [tokF] at ht, by simp [tokF], .inr ⟨by simp [tokF], by simp [tokF]⟩⟩
  | f + 1, s, a, l, h, hl => by
    have stop : (∀ t, t ∈ (([], (a : Int)) : List Tk × Int).1 → GoodT s t) ∧ (([], (a : Int)) : List Tk × Int).1.length ≤ 60 ∧ ((([], (a : Int)) : List Tk × Int).2 = -1 ∨ (0 ≤ (([], (a : Int)) : List Tk × Int).2 ∧ (([], (a : Int)) : List Tk × Int).1 = [])) :=
      ⟨fun t ht => by simp at ht, by simp, .inr ⟨by simp, rfl⟩⟩
    unfold tokF
    split
    · rename_i ha
      split
      · exact tokF_out f s (a + 1) l h hl
      · split
        · exact stop
        · rename_i t e hn
          split
          · exact stop
          · refine tokF_out f s e (l ++ [t]) (fun u hu => ?_) (by rw [List.length_append]; simp; omega)
            rcases List.mem_append.1 hu with hu | hu
            · exact h u hu
            · rw [List.mem_singleton.1 hu]
              exact ⟨a, ha, e, hn⟩
    · exact ⟨h, hl, .inl rfl⟩
theorem tokens_out (s : ByteArray) : (∀ t, t ∈ (tokensB s).1 → GoodT s t) ∧ (tokensB s).1.length ≤ 60 ∧ ((tokensB s).2 = -1 ∨ (0 ≤ (tokensB s).2 ∧ (tokensB s).1 = [])) := by
  unfold tokensB
  split
  · exact ⟨fun t ht => by simp at ht, by simp, .inr ⟨by simp, rfl⟩⟩
  · exact tokF_out _ s 0 [] (fun t ht => by simp at ht) (by simp)
theorem good_place {s : ByteArray} {t : Tk} (h : GoodT s t) : ∃ a e : Nat, t.at_ = a ∧ a < e ∧ e ≤ s.size ∧ e = a + (tkB t).size ∧ s.extract a e = tkB t ∧ Between64 t.n ∧ t.text.size ≤ s.size := by
  obtain ⟨a, ha, e, hn⟩ := h
  obtain ⟨h1, h2⟩ := nextT_end hn
  obtain ⟨g1, g2, g3, _⟩ := nextT_at hn
  have hf := nextT_fmt hn
  exact ⟨a, e, g1, h1, h2, by rw [hf, ByteArray.size_extract]; omega, hf.symm, by unfold Between64; omega, g3⟩
def noAt (t : Tk) : Tk := ⟨t.kind, t.n, 0, t.text⟩
theorem tok_join {s : ByteArray} {f : ByteArray} : ∀ (l : List Tk) (acc : List Tk) (p : Nat), (∀ t, t ∈ l → GoodT s t) → f.data.toList.drop p = Lib.join (l.map fun t => (tkB t).data.toList) [32] → p ≤ f.size → acc.length + l.length ≤ 60 →
    ∃ l', tokA f p acc = (acc ++ l', -1) ∧ l'.map noAt = l.map noAt
  | [], acc, p, _, hd, hp, _ => by
    have : f.data.toList.length - p = 0 := by rw [← List.length_drop, hd]; rfl
    rw [size_data] at this
    exact ⟨[], by rw [tokA_end (by omega)]; simp, rfl⟩
  | t :: r, acc, p, hg, hd, hp, hl => by
    obtain ⟨a, ha, e, hn⟩ := hg t List.mem_cons_self
    have hf := nextT_fmt hn
    obtain ⟨h1, h2⟩ := nextT_end hn
    have hsz : (tkB t).size = e - a := by rw [hf, ByteArray.size_extract]; omega
    obtain ⟨R, hR, hdR, hrest⟩ : ∃ R : List UInt8, (R = [] ∨ ∃ R', R = 32 :: R') ∧ f.data.toList.drop p = (tkB t).data.toList ++ R ∧ ((r = [] ∧ R = []) ∨ R = 32 :: Lib.join (r.map fun t => (tkB t).data.toList) [32]) := by
      cases r with
      | nil => exact ⟨[], .inl rfl, by rw [hd]; simp [Lib.join_one], .inl ⟨rfl, rfl⟩⟩
      | cons u r' =>
        refine ⟨32 :: Lib.join ((u :: r').map fun t => (tkB t).data.toList) [32], .inr ⟨_, rfl⟩, ?_, .inr rfl⟩
        rw [hd]
        simp [Lib.join_cons, Lib.joinTail]
    rw [hf] at hdR
    obtain ⟨hb, hT⟩ := nextT_local hn hR hdR
    have hns : ¬ (f[p]'hb).toNat = 32 := fun h => by rw [nextT_space h] at hT; cases hT
    have hstep := tokA_some (l := acc) hb hns hT (by simp at hl; omega)
    have hpe : p + (e - a) ≤ f.size := (nextT_end hT).2
    have hdrop : f.data.toList.drop (p + (e - a)) = R := by
      rw [← List.drop_drop, hdR, List.drop_append_of_le_length (by rw [size_data, ← hf, hsz]; omega), List.drop_of_length_le (by rw [size_data, ← hf, hsz]; omega)]
      rfl
    rcases hrest with ⟨rfl, rfl⟩ | hrest
    · refine ⟨[⟨t.kind, t.n, p, t.text⟩], ?_, rfl⟩
      have : f.data.toList.length - (p + (e - a)) = 0 := by rw [← List.length_drop, hdrop]; rfl
      rw [size_data] at this
      rw [hstep, tokA_end (by omega)]
    · subst hrest
      have hlt : p + (e - a) < f.size := by
        have := congrArg List.length hdrop
        rw [List.length_drop, size_data, List.length_cons] at this
        omega
      have hsp := drop_cons hlt
      rw [hdrop, List.cons.injEq] at hsp
      have h32 : (f[p + (e - a)]'hlt).toNat = 32 := by rw [← hsp.1]; rfl
      obtain ⟨l', h3, h4⟩ := tok_join r (acc ++ [⟨t.kind, t.n, p, t.text⟩]) (p + (e - a) + 1) (fun u hu => hg u (List.mem_cons_of_mem _ hu)) hsp.2.symm (by omega) (by rw [List.length_append]; simp at hl ⊢; omega)
      refine ⟨⟨t.kind, t.n, p, t.text⟩ :: l', ?_, ?_⟩
      · rw [hstep, tokA_space hlt h32, h3]
        simp
      · rw [List.map_cons, List.map_cons, h4]
        rfl
/-- What Tokenize answers for the formatted tokens of a text. -/
theorem tokens_again (s : ByteArray) : (120 < (⟨(joinB ((tokensB s).1.map tkB) ⟨#[32]⟩).toArray⟩ : ByteArray).size ∧ tokensB ⟨(joinB ((tokensB s).1.map tkB) ⟨#[32]⟩).toArray⟩ = ([], 120)) ∨
    ((⟨(joinB ((tokensB s).1.map tkB) ⟨#[32]⟩).toArray⟩ : ByteArray).size ≤ 120 ∧ ∃ l', tokensB ⟨(joinB ((tokensB s).1.map tkB) ⟨#[32]⟩).toArray⟩ = (l', -1) ∧ l'.map noAt = (tokensB s).1.map noAt) := by
  obtain ⟨h1, h2, _⟩ := tokens_out s
  generalize (tokensB s).1 = l at h1 h2
  by_cases hc : 120 < (⟨(joinB (l.map tkB) ⟨#[32]⟩).toArray⟩ : ByteArray).size
  · exact .inl ⟨hc, by unfold tokensB; rw [if_pos hc]⟩
  · refine .inr ⟨by omega, ?_⟩
    obtain ⟨l', h3, h4⟩ := tok_join (s := s) (f := ⟨(joinB (l.map tkB) ⟨#[32]⟩).toArray⟩) l [] 0 h1 (by unfold joinB; rw [List.map_map]; rfl) (Nat.zero_le _) (by simpa using h2)
    refine ⟨l', ?_, h4⟩
    unfold tokensB
    rw [if_neg hc, h3]
    rfl
end Go.Proofs.YtghemlokpfipoaaDoor
