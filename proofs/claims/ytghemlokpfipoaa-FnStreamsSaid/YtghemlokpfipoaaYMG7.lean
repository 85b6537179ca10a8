/-
  The error of one or of two operands, as the callers take it.
-/
import Derived.Test.YtghemlokpfipoaaYQ1
import Derived.Test.YtghemlokpfipoaaYQ2
namespace Go.Proofs.Ytghemlokpfipoaa
open Go.ChangeShapes Go.WideShapes Go.ChangeAt Go.RowKit
set_option linter.unusedVariables false
set_option linter.unusedSimpArgs false
set_option maxRecDepth 100000

theorem two_sl {w : World} {S S' : Nat → Prop} {d d' : Vl} {cs cs' : List Value} {g : Nat} (h : Ats w S (encV d) cs) (h' : Ats w S' (encV d') cs') (B : Box w g (cs ++ cs')) : SlAt w anyB 7 encV [d, d'] (.slice (some ⟨g, 0, none⟩) 2 2) := by
  have e : [d, d'].flatMap encV = encV d ++ encV d' := by simp
  have hl := h.len
  refine At.make (by rw [flat_len encV_len]) (Nat.le_refl _) (by simp) fun _ => ⟨g, 0, rfl, B.lt, trivial, fun i dd hd => ?_⟩
  rw [e] at hd
  by_cases hi : i < (encV d).length
  · rw [List.getElem?_append_left hi] at hd
    obtain ⟨c, hc, ha⟩ := h.at_ hd
    exact ⟨c, by rw [Nat.zero_add]; exact B.cell (by rw [List.getElem?_append_left (by omega)]; exact hc), ha.any⟩
  · rw [List.getElem?_append_right (by omega)] at hd
    obtain ⟨c, hc, ha⟩ := h'.at_ hd
    exact ⟨c, by rw [Nat.zero_add]; exact B.cell (by rw [List.getElem?_append_right (by omega), hl]; exact hc), ha.any⟩
theorem cells_two {w : World} {cs cs' ys : List Value} {g j : Nat} (h7 : cs.length = 7) (h7' : cs'.length = 7) (B : Box w g (cs ++ cs')) (hj : j < 2) (h : CellsAt w (.slice (some ⟨g, 0, none⟩) 2 2) (j * 7) ys) : (j = 0 ∧ ys = cs) ∨ (j = 1 ∧ ys = cs') := by
  obtain ⟨b, off, m, c, e, hl, hc⟩ := h
  simp only [Value.slice.injEq, Option.some.injEq, Addr.mk.injEq, and_true] at e
  obtain ⟨⟨rfl, rfl⟩, _⟩ := e
  have hcase : j = 0 ∨ j = 1 := by omega
  rcases hcase with rfl | rfl
  · refine .inl ⟨rfl, List.ext_getElem? fun i => ?_⟩
    by_cases hi : i < 7
    · have h1 := hc i hi
      have h2 : cs[i]? = some (cs[i]'(by omega)) := List.getElem?_eq_getElem _
      have h3 := B.cell (j := i) (by rw [List.getElem?_append_left (by omega)]; exact h2)
      simp only [Nat.zero_mul, Nat.zero_add] at h1
      rw [← h1, h2]
      exact h3
    · rw [List.getElem?_eq_none (by omega), List.getElem?_eq_none (by omega)]
  · refine .inr ⟨rfl, List.ext_getElem? fun i => ?_⟩
    by_cases hi : i < 7
    · have h1 := hc i hi
      have h2 : cs'[i]? = some (cs'[i]'(by omega)) := List.getElem?_eq_getElem _
      have h3 := B.cell (j := 7 + i) (by rw [List.getElem?_append_right (by omega), h7, Nat.add_sub_cancel_left]; exact h2)
      simp only [Nat.one_mul, Nat.zero_add] at h1
      rw [← h1, h2]
      exact h3
    · rw [List.getElem?_eq_none (by omega), List.getElem?_eq_none (by omega)]
theorem err_between {d : Vl} {n : Int} (h : errOf d = some n) (hb : Between64 d.n) : Between64 n := by
  unfold errOf at h
  split at h
  · split at h
    · cases h; exact hb
    · cases h
  · cases h; unfold Between64; omega
theorem ats_n {w : World} {S : Nat → Prop} {d : Vl} {cs : List Value} (h : Ats w S (encV d) cs) : Between64 d.n := by
  obtain ⟨k, n, s, t, l, c, r, rfl⟩ := Vl.shape d
  obtain ⟨_, _, _, _, _, _, _, hb, _⟩ := h.val
  exact hb.2.1
theorem ats_seven {w : World} {S : Nat → Prop} {d : Vl} {cs : List Value} (h : Ats w S (encV d) cs) : ∃ z0 z1 z2 z3 E1 u1 m1 E2 u2 m2 E3 u3 m3, cs = [.int .i64 z0, .int .i64 z1, .int .i64 z2, .string z3, .slice E1 u1 m1, .slice E2 u2 m2, .slice E3 u3 m3] := by
  obtain ⟨k, n, s, t, l, c, r, rfl⟩ := Vl.shape d
  obtain ⟨A1, c1, A2, c2, A3, c3, e, _⟩ := h.val
  exact ⟨_, _, _, _, _, _, _, _, _, _, _, _, _, e⟩
/-- A value that lies wherever the world goes on from W. -/
def LeafOut (W : World) (K : Vl) (r : Ending) : Prop := ∃ z0 z1 z2 z3 E1 u1 m1 E2 u2 m2 E3 u3 m3, r = .returned (.agg #[.int .i64 z0, .int .i64 z1, .int .i64 z2, .string z3, .slice E1 u1 m1, .slice E2 u2 m2, .slice E3 u3 m3]) ∧
  ∀ w, Later W w → Ats w anyB (encV K) [.int .i64 z0, .int .i64 z1, .int .i64 z2, .string z3, .slice E1 u1 m1, .slice E2 u2 m2, .slice E3 u3 m3]
/-- What the search for an operand's error returns. -/
def ErrOut (W : World) (E : Option Int) (r : Ending) : Prop := ∃ z0 z1 z2 z3 E1 u1 m1 E2 u2 m2 E3 u3 m3, r = .returned (.tuple #[.agg #[.int .i64 z0, .int .i64 z1, .int .i64 z2, .string z3, .slice E1 u1 m1, .slice E2 u2 m2, .slice E3 u3 m3], .bool E.isSome]) ∧
  ∀ n, E = some n → Between64 n ∧ ∀ w, Later W w → Ats w anyB (encV (leafD 6 n 0 ⟨#[]⟩)) [.int .i64 z0, .int .i64 z1, .int .i64 z2, .string z3, .slice E1 u1 m1, .slice E2 u2 m2, .slice E3 u3 m3]
theorem leaf_ats (w : World) {k n s : Int} {t : ByteArray} (hk : Between64 k) (hn : Between64 n) (hs : Between64 s) (ht : t.size ≤ 9223372036854775807) : Ats w anyB (encV (leafD k n s t)) [.int .i64 k, .int .i64 n, .int .i64 s, .string t, .slice none 0 0, .slice none 0 0, .slice none 0 0] :=
  (owns_leafV w anyB hk hn hs ht).ats
theorem leaf_out (W : World) {K : Vl} {k n s : Int} {t : ByteArray} (hK : K = leafD k n s t) (hk : Between64 k) (hn : Between64 n) (hs : Between64 s) (ht : t.size ≤ 9223372036854775807) : LeafOut W K (.returned (leafA k n s t)) :=
  ⟨_, _, _, _, _, _, _, _, _, _, _, _, _, rfl, fun w _ => hK ▸ leaf_ats w hk hn hs ht⟩
theorem err_none (W : World) : ErrOut W none (.returned (.tuple #[leafA 0 0 0 ⟨#[]⟩, .bool false])) :=
  ⟨_, _, _, _, _, _, _, _, _, _, _, _, _, rfl, fun n h => by cases h⟩
theorem err_leaf (W : World) {n : Int} (hn : Between64 n) : ErrOut W (some n) (.returned (.tuple #[leafA 6 n 0 ⟨#[]⟩, .bool true])) :=
  ⟨_, _, _, _, _, _, _, _, _, _, _, _, _, rfl, fun m h => by cases h; exact ⟨hn, fun w _ => leaf_ats w (by unfold Between64; omega) hn (by unfold Between64; omega) (by decide)⟩⟩
theorem err_alias (W : World) {S : Nat → Prop} {d : Vl} {n : Int} {cs : List Value} (h : Ats W S (encV d) cs) (hd : d = leafD 6 n 0 ⟨#[]⟩) : ErrOut W (some n) (.returned (.tuple #[.agg cs.toArray, .bool true])) := by
  have hn : Between64 n := by have := ats_n h; rw [hd] at this; exact this
  obtain ⟨z0, z1, z2, z3, E1, u1, m1, E2, u2, m2, E3, u3, m3, rfl⟩ := ats_seven h
  exact ⟨_, _, _, _, _, _, _, _, _, _, _, _, _, rfl, fun m e => by cases e; exact ⟨hn, fun w hw => hd ▸ (h.later hw).any⟩⟩
theorem first_two (d d' : Vl) : firstE [d, d'] = match errOf d with | some n => some n | none => errOf d' := by
  unfold firstE
  rw [List.findSome?_cons]
  cases errOf d with
  | some n => rfl
  | none =>
    rw [List.findSome?_cons]
    cases errOf d' <;> rfl
theorem first_between {d d' : Vl} {n : Int} (h : firstE [d, d'] = some n) (hb : Between64 d.n) (hb' : Between64 d'.n) : Between64 n := by
  rw [first_two] at h
  cases he : errOf d with
  | some m =>
    rw [he] at h
    cases h
    exact err_between he hb
  | none =>
    rw [he] at h
    exact err_between h hb'
theorem specErr1 (d : Vl) (hcost : d.cost ≤ 1099511627776) (W : World) (S : Nat → Prop) (cs : List Value) (h : Ats W S (encV d) cs) (w : World) (g : Nat) (hB : Box w g cs) (hl : Later W w) : Calls Try.prog 74 #[.slice (some ⟨g, 0, none⟩) 1 1] w fun r w' => ErrOut W (errOf d) r ∧ Later w w' := by
  refine (specFirst [d] (fun x hx => by rw [List.mem_singleton.1 hx]; exact hcost) w anyB _ (one_sl (h.later hl) hB)).mono ?_
  rintro r w' ⟨rfl, hb⟩
  refine ⟨?_, hb⟩
  rw [first_one]
  cases hE : errOf d with
  | none => exact err_none W
  | some n => exact err_leaf W (err_between hE (ats_n h))
theorem implErr1 (d : Vl) (hcost : d.cost ≤ 1099511627776) (W : World) (S : Nat → Prop) (cs : List Value) (h : Ats W S (encV d) cs) (w : World) (g : Nat) (hB : Box w g cs) (hl : Later W w) : Calls Try.prog 72 #[.slice (some ⟨g, 0, none⟩) 1 1] w fun r w' => ErrOut W (errOf d) r ∧ Later w w' := by
  refine (implFirst [d] (fun x hx => by rw [List.mem_singleton.1 hx]; exact hcost) w anyB _ (one_sl (h.later hl) hB)).mono ?_
  rintro r w' ⟨⟨a, rfl, hres⟩, hb⟩
  refine ⟨?_, hb⟩
  rw [first_one] at hres ⊢
  cases hE : errOf d with
  | none =>
    rw [hE] at hres
    simp only [ErrRes] at hres
    subst hres
    exact err_none W
  | some n =>
    rw [hE] at hres
    simp only [ErrRes] at hres
    rcases hres with rfl | ⟨j, hj, ys, rfl, hlf, hcs⟩
    · exact err_leaf W (err_between hE (ats_n h))
    · have hj0 : j = 0 := by simpa using hj
      subst hj0
      have hys := cells_one (by rw [h.len, encV_len]) hB rfl hcs
      subst hys
      exact err_alias W h hlf
theorem specErr2 (d d' : Vl) (hcost : d.cost ≤ 1099511627776) (hcost' : d'.cost ≤ 1099511627776) (W : World) (S S' : Nat → Prop) (cs cs' : List Value) (h : Ats W S (encV d) cs) (h' : Ats W S' (encV d') cs') (w : World) (g : Nat) (hB : Box w g (cs ++ cs')) (hl : Later W w) : Calls Try.prog 74 #[.slice (some ⟨g, 0, none⟩) 2 2] w fun r w' => ErrOut W (firstE [d, d']) r ∧ Later w w' := by
  refine (specFirst [d, d'] (fun x hx => by
    rcases List.mem_cons.1 hx with rfl | hx
    · exact hcost
    · rw [List.mem_singleton.1 hx]; exact hcost') w anyB _ (two_sl (h.later hl) (h'.later hl) hB)).mono ?_
  rintro r w' ⟨rfl, hb⟩
  refine ⟨?_, hb⟩
  cases hE : firstE [d, d'] with
  | none => exact err_none W
  | some n => exact err_leaf W (first_between hE (ats_n h) (ats_n h'))
theorem implErr2 (d d' : Vl) (hcost : d.cost ≤ 1099511627776) (hcost' : d'.cost ≤ 1099511627776) (W : World) (S S' : Nat → Prop) (cs cs' : List Value) (h : Ats W S (encV d) cs) (h' : Ats W S' (encV d') cs') (w : World) (g : Nat) (hB : Box w g (cs ++ cs')) (hl : Later W w) : Calls Try.prog 72 #[.slice (some ⟨g, 0, none⟩) 2 2] w fun r w' => ErrOut W (firstE [d, d']) r ∧ Later w w' := by
  refine (implFirst [d, d'] (fun x hx => by
    rcases List.mem_cons.1 hx with rfl | hx
    · exact hcost
    · rw [List.mem_singleton.1 hx]; exact hcost') w anyB _ (two_sl (h.later hl) (h'.later hl) hB)).mono ?_
  rintro r w' ⟨⟨a, rfl, hres⟩, hb⟩
  refine ⟨?_, hb⟩
  cases hE : firstE [d, d'] with
  | none =>
    rw [hE] at hres
    simp only [ErrRes] at hres
    subst hres
    exact err_none W
  | some n =>
    rw [hE] at hres
    simp only [ErrRes] at hres
    rcases hres with rfl | ⟨j, hj, ys, rfl, hlf, hcs⟩
    · exact err_leaf W (first_between hE (ats_n h) (ats_n h'))
    · rcases cells_two (by rw [h.len, encV_len]) (by rw [h'.len, encV_len]) hB (by simpa using hj) hcs with ⟨rfl, rfl⟩ | ⟨rfl, rfl⟩
      · exact err_alias W h hlf
      · exact err_alias W h' hlf
end Go.Proofs.Ytghemlokpfipoaa
