/-
  Values: szValue; copies: toIntS, toOrigin, toOriginS, toRow, toRowS, toValue, toValueS.
-/
import Derived.Test.YtjjmbldgemnhbaaYD3
import Derived.Handy
namespace Go.Proofs.Ytjjmbldgemnhbaa
open Go.ChangeShapes Go.WideShapes Go.ChangeAt Go.RowKit
set_option linter.unusedVariables false
set_option linter.unusedSimpArgs false

theorem szValue : ∀ d, SzQ d := by
  refine Vl.ind fun k n s t l cl r ih left h0 h1 W S cs h => ?_
  obtain ⟨A1, c1, A2, c2, A3, c3, rfl, _, ⟨p1, q1⟩, ⟨p2, q2⟩, ⟨p3, q3⟩, g1, g2, g3⟩ := h.val
  rw [Vl.cost_mk]
  by_cases hl : left < (t.size : Int)
  · have HV : Hid (szR left (t.size + ((l.length + sumN Vl.cost l) + (costS cl + (r.length + sumN Rw.cost r)))) = -1) := szR_big (by omega)
    have hn : left - t.size < 0 := by omega
    clear hl g1 g2 g3 h ih
    go_enter Try.func12, Try.ntmps12
    go_wp2
    go_ret
    exact ⟨ret_int HV.out.symm, (Later.rfl' _).alloc _⟩
  · have hn : 0 ≤ left - t.size := by omega
    have C1 := fun W' (hW' : Later W W') => szValueS l ih (left - t.size) hn (by omega) W' S _ (g1.later hW')
    have C2 := fun q (a : 0 ≤ q) (b : q ≤ 1048576) W' (hW' : Later W W') => szStringS _ _ q W' (sl_strs (g2.later hW')) a b
    have C3 := fun q (a : 0 ≤ q) (b : q ≤ 1048576) W' (hW' : Later W W') => szRowS r (fun x _ => szRow x) q a b W' S _ (g3.later hW')
    obtain ⟨N1, hN1⟩ : ∃ N, N = l.length + sumN Vl.cost l := ⟨_, rfl⟩
    obtain ⟨N2, hN2⟩ : ∃ N, N = costS cl := ⟨_, rfl⟩
    obtain ⟨N3, hN3⟩ : ∃ N, N = r.length + sumN Rw.cost r := ⟨_, rfl⟩
    simp only [← hN1, ← hN2, ← hN3] at C1 C2 C3 ⊢
    have hr1 := szR_range (left - t.size) N1 hn (by omega)
    obtain ⟨x1, hx1⟩ : ∃ q, q = szR (left - t.size) N1 := ⟨_, rfl⟩
    simp only [← hx1] at C1 hr1
    have HR1 := Lib.hid hr1
    have H1 := Lib.hid C1; have H2 := Lib.hid C2; have H3 := Lib.hid C3
    clear C1 C2 C3 hl g1 g2 g3 h ih hN1 hN2 hN3 hx1 hr1
    go_enter Try.func12, Try.ntmps12
    go_wp2_with fail
    refine (H1.out _ ((Later.rfl' _).alloc _)).mono ?_; rintro r w1 ⟨rfl, hb1⟩
    have L1 := Lib.hid (((Later.rfl' _).alloc _).trans hb1)
    have b5 := boxN hb1 (j := 5) rfl
    have b6 := boxN hb1 (j := 6) rfl
    clear hb1
    rcases HR1.out with ⟨e1, e2⟩ | ⟨e1, e2⟩
    · have HV : Hid (szR left (t.size + (N1 + (N2 + N3))) = -1) := szR_big (by omega)
      have hneg : x1 < 0 := by omega
      clear e1 e2 HR1
      go_wp2_with fail
      go_ret
      exact ⟨ret_int HV.out.symm, L1.out⟩
    · have hx0 : 0 ≤ x1 := by omega
      have hx1 : x1 ≤ 1048576 := by omega
      have HE1 := Lib.hid e1
      clear e1 e2 HR1
      have C2 := H2.out x1 hx0 hx1
      have hr2 := szR_range x1 N2 hx0 hx1
      obtain ⟨x2, hx2⟩ : ∃ q, q = szR x1 N2 := ⟨_, rfl⟩
      simp only [← hx2] at C2 hr2
      have HR2 := Lib.hid hr2
      replace H2 := Lib.hid C2
      clear C2 hr2 hx2
      go_wp2_with fail
      refine (H2.out _ L1.out).mono ?_; rintro r w2 ⟨rfl, hd⟩
      have hb2 := hd.later
      have L2 := Lib.hid (L1.out.trans hb2)
      have b6' := kept_cell hb2 b6
      clear hb2 hd b5 b6
      rcases HR2.out with ⟨e1, e2⟩ | ⟨e1, e2⟩
      · have HV : Hid (szR left (t.size + (N1 + (N2 + N3))) = -1) := szR_big (by have := HE1.out; omega)
        have hneg : x2 < 0 := by omega
        clear e1 e2 HR2
        go_wp2_with fail
        go_ret
        exact ⟨ret_int HV.out.symm, L2.out⟩
      · have hy0 : 0 ≤ x2 := by omega
        have hy1 : x2 ≤ 1048576 := by omega
        have HE2 := Lib.hid e1
        clear e1 e2 HR2
        have C3 := H3.out x2 hy0 hy1
        have hr3 := szR_range x2 N3 hy0 hy1
        obtain ⟨x3, hx3⟩ : ∃ q, q = szR x2 N3 := ⟨_, rfl⟩
        simp only [← hx3] at C3 hr3
        have HR3 := Lib.hid hr3
        replace H3 := Lib.hid C3
        clear C3 hr3 hx3
        go_wp2_with fail
        refine (H3.out _ L2.out).mono ?_; rintro r w3 ⟨rfl, hb3⟩
        have L3 := Lib.hid (L2.out.trans hb3)
        clear hb3 b6'
        rcases HR3.out with ⟨e1, e2⟩ | ⟨e1, e2⟩
        · have HV : Hid (szR left (t.size + (N1 + (N2 + N3))) = -1) := szR_big (by have := HE1.out; have := HE2.out; omega)
          have hneg : x3 < 0 := by omega
          clear e1 e2 HR3
          go_wp2_with fail
          go_ret
          exact ⟨ret_int HV.out.symm, L3.out⟩
        · have HV : Hid (szR left (t.size + (N1 + (N2 + N3))) = x3) := by
            have := HE1.out
            have := HE2.out
            unfold Hid
            rw [szR_small (by omega)]
            omega
          have hneg : 0 ≤ x3 := by omega
          clear e1 e2 HR3
          go_wp2_with fail
          go_ret
          exact ⟨ret_int HV.out.symm, L3.out⟩

/-! Rows of the call's own that are filled element by element. -/
def Filling {α : Type} (W wr : World) (e s : Nat) (enc : α → List Dt) (l : List α) (j : Nat) : Prop :=
  ∃ (xs : List Value) (G : Nat → List Value) (B : Nat → Nat), wr.ownsRow W.heap.size e s (.slice (some ⟨W.heap.size, 0, none⟩) l.length l.length) l.length xs ∧ Filled s xs G j ∧ W.heap.size < B 0 ∧ (∀ i, B i ≤ B (i + 1)) ∧ (∀ i, j ≤ i → B i = B j) ∧ B j ≤ wr.heap.size ∧
    (∀ i (hi : i < l.length), i < j → Owns wr (fun b => B i ≤ b ∧ b < B (i + 1)) (enc l[i]) (G i)) ∧ Later W wr
theorem Filling.later_ {α : Type} {W wr : World} {e s : Nat} {enc : α → List Dt} {l : List α} {j : Nat} (h : Filling W wr e s enc l j) : Later W wr := by
  obtain ⟨xs, G, B, h1, h2, h3, h4, h5, h6, h7, h8⟩ := h
  exact h8
theorem Filling.start {α : Type} {W w1 : World} {e s : Nat} {enc : α → List Dt} {l : List α} {xs : List Value} (h : w1.ownsRow W.heap.size e s (.slice (some ⟨W.heap.size, 0, none⟩) l.length l.length) l.length xs) (hl : Later W w1) (hs : W.heap.size < w1.heap.size) : Filling W w1 e s enc l 0 :=
  ⟨xs, fun _ => [], fun _ => w1.heap.size, h, fun i hi => absurd hi (by omega), hs, fun _ => Nat.le_refl _, fun _ _ => rfl, Nat.le_refl _, fun i _ hi => absurd hi (by omega), hl⟩
theorem Filling.cell {α : Type} {W wr : World} {e s : Nat} {enc : α → List Dt} {l : List α} {j p : Nat} (h : Filling W wr e s enc l j) (hp : p < l.length * s) : ∃ u, wr.cell? ⟨W.heap.size, p, none⟩ = some u ∧ wr.frozen? ⟨W.heap.size, p, none⟩ = false := by
  obtain ⟨xs, G, B, h1, _⟩ := h
  exact own_cell h1 hp
theorem mono_le {B : Nat → Nat} (h : ∀ i, B i ≤ B (i + 1)) : ∀ {i j}, i ≤ j → B i ≤ B j := by
  intro i j hij
  induction hij with
  | refl => exact Nat.le_refl _
  | step _ ih => exact Nat.le_trans ih (h _)
theorem Filling.step {α : Type} {W wr w2 : World} {e s : Nat} {enc : α → List Dt} {l : List α} {j : Nat} (h : Filling W wr e s enc l j) (hj : j < l.length) (hb : Later wr w2) {vs : List Value} (hv : vs.length = s)
    (ho : Owns w2 (fun b => wr.heap.size ≤ b ∧ b < w2.heap.size) (enc l[j]) vs) : Filling W (setFrom w2 W.heap.size (j * s) vs) e s enc l (j + 1) := by
  obtain ⟨xs, G, B, h1, h2, h3, h4, h5, h6, h7, h8⟩ := h
  have g1 := own_later h1 hb
  have hW := (h1.lt W.heap.size rfl).2
  have hsz := hb.size
  have hB0 : ∀ i, W.heap.size < B i := fun i => Nat.lt_of_lt_of_le h3 (mono_le h4 (Nat.zero_le i))
  refine ⟨writeAt xs (j * s) vs, fun i => if i = j then vs else G i, fun i => if i ≤ j then B i else w2.heap.size, own_setFrom vs w2 xs (j * s) g1, h2.step h1.1 hj hv, by simpa using h3, fun i => ?_, fun i hi => ?_, ?_, fun i hi hij => ?_, later_setFrom (Nat.le_refl _) vs w2 (j * s) (h8.trans hb)⟩
  · by_cases a : i ≤ j
    · by_cases b : i + 1 ≤ j
      · simp only [if_pos a, if_pos b]; exact h4 i
      · simp only [if_pos a, if_neg b]
        have := mono_le h4 a
        omega
    · simp only [if_neg a, if_neg (show ¬ i + 1 ≤ j by omega)]; exact Nat.le_refl _
  · simp only [if_neg (show ¬ i ≤ j by omega), if_neg (show ¬ j + 1 ≤ j by omega)]
  · simp only [if_neg (show ¬ j + 1 ≤ j by omega)]
    rw [size_setFrom]
    exact Nat.le_refl _
  · have hchg : ∀ w0, Chg (fun b => b = W.heap.size) w0 (setFrom w0 W.heap.size (j * s) vs) := by
      have : ∀ (vs : List Value) (w0 : World) (o : Nat), Chg (fun b => b = W.heap.size) w0 (setFrom w0 W.heap.size o vs) := by
        intro vs
        induction vs with
        | nil => intro w0 o; exact Chg.rfl' _ _
        | cons u us ih => intro w0 o; exact (Chg.set (S := fun b => b = W.heap.size) (g := W.heap.size) (o := o) (u := u) (Chg.rfl' _ w0) rfl).trans (ih _ _)
      exact fun w0 => this vs w0 (j * s)
    by_cases e : i = j
    · subst e
      simp only [if_pos, if_pos (Nat.le_refl i), if_neg (show ¬ i + 1 ≤ i by omega)]
      refine (ho.chg (hchg w2) fun b h1 h2 => ?_).more fun b hb => ⟨by have := hb.1; omega, hb.2⟩
      subst h2
      omega
    · simp only [if_neg e, if_pos (show i ≤ j by omega), if_pos (show i + 1 ≤ j by omega)]
      refine ((h7 i hi (by omega)).later hb).chg (hchg w2) fun b h1 h2 => ?_
      subst h2
      have := hB0 i
      omega
theorem Filling.done {α : Type} {W wr : World} {e s : Nat} {enc : α → List Dt} (hs : ∀ a, (enc a).length = s) (h0 : 0 < s) {l : List α} (h : Filling W wr e s enc l l.length) :
    Own wr (fun b => W.heap.size ≤ b ∧ b < wr.heap.size) (.sl s l.length (l.flatMap enc)) (.slice (some ⟨W.heap.size, 0, none⟩) l.length l.length) := by
  obtain ⟨xs, G, B, h1, h2, h3, h4, h5, h6, h7, h8⟩ := h
  have hB0 : ∀ i, W.heap.size < B i := fun i => Nat.lt_of_lt_of_le h3 (mono_le h4 (Nat.zero_le i))
  have hW := h1.lt W.heap.size rfl
  have : ∀ i, ∃ T : Nat → Nat → Prop, ∀ hi : i < l.length, (∀ j b, T j b → B i ≤ b ∧ b < B (i + 1)) ∧ (∀ j j', j ≠ j' → ∀ b, T j b → T j' b → False) ∧ ∀ (j : Nat) d u, (enc l[i])[j]? = some d → (G i)[j]? = some u → Own wr (T j) d u := by
    intro i
    by_cases hi : i < l.length
    · obtain ⟨_, T, a, b, c⟩ := h7 i hi hi
      exact ⟨T, fun _ => ⟨a, b, c⟩⟩
    · exact ⟨noB, fun h => absurd h hi⟩
  obtain ⟨T, hT⟩ : ∃ T : Nat → Nat → Nat → Prop, ∀ i (hi : i < l.length), (∀ j b, T i j b → B i ≤ b ∧ b < B (i + 1)) ∧ (∀ j j', j ≠ j' → ∀ b, T i j b → T i j' b → False) ∧ ∀ (j : Nat) d u, (enc l[i])[j]? = some d → (G i)[j]? = some u → Own wr (T i j) d u :=
    ⟨fun i => (this i).choose, fun i hi => (this i).choose_spec hi⟩
  have hfl := flat_len hs l
  refine Own.of_row (fun p b => p < l.length * s ∧ T (p / s) (p % s) b) h1 hfl (fun g hg => ?_) (fun p b hb => ?_) (fun p p' hpp b hb hb' => ?_) (fun p d u hd hu => ?_)
  · simp only [Value.ownBlock, Option.some.injEq] at hg
    subst hg
    refine ⟨⟨Nat.le_refl _, hW.2⟩, fun p hp => ?_⟩
    have hi : p / s < l.length := (Nat.div_lt_iff_lt_mul h0).2 hp.1
    have := (hT _ hi).1 _ _ hp.2
    have := hB0 (p / s)
    omega
  · have hi : p / s < l.length := (Nat.div_lt_iff_lt_mul h0).2 hb.1
    have := (hT _ hi).1 _ _ hb.2
    have h9 := hB0 (p / s)
    have h10 : B (p / s + 1) ≤ B l.length := mono_le h4 hi
    omega
  · have hi : p / s < l.length := (Nat.div_lt_iff_lt_mul h0).2 hb.1
    have hi' : p' / s < l.length := (Nat.div_lt_iff_lt_mul h0).2 hb'.1
    have h9 := (hT _ hi).1 _ _ hb.2
    have h10 := (hT _ hi').1 _ _ hb'.2
    by_cases e : p / s = p' / s
    · have : p % s ≠ p' % s := by
        intro e2
        apply hpp
        rw [← Nat.div_add_mod' p s, ← Nat.div_add_mod' p' s, e, e2]
      have hb2 := hb'.2
      rw [← e] at hb2
      exact (hT _ hi).2.1 _ _ this b hb.2 hb2
    · rcases Nat.lt_or_gt_of_ne e with h | h
      · have := mono_le h4 (show p / s + 1 ≤ p' / s by omega)
        omega
      · have := mono_le h4 (show p' / s + 1 ≤ p / s by omega)
        omega
  · have hp : p < l.length * s := by rw [← hfl]; exact (List.getElem?_eq_some_iff.1 hd).1
    have hi : p / s < l.length := (Nat.div_lt_iff_lt_mul h0).2 hp
    have hj : p % s < s := Nat.mod_lt _ h0
    have hpe : p / s * s + p % s = p := Nat.div_add_mod' p s
    have hd2 := flat_get hs l hi hj
    rw [hpe, hd] at hd2
    obtain ⟨f1, f2⟩ := h2 (p / s) hi
    have hu2 : (G (p / s))[p % s]? = some ((G (p / s))[p % s]'(by rw [f1]; exact hj)) := List.getElem?_eq_getElem _
    have hu3 := f2 _ _ hu2
    rw [hpe, hu] at hu3
    have ho := (hT _ hi).2.2 (p % s) d u hd2.symm (by rw [hu2]; exact hu3.symm)
    exact ho.more fun b hb => ⟨hp, hb⟩

/-- The outcome of a copying function: a slice of the call's own. -/
def CopyS {α : Type} (W w' : World) (s : Nat) (enc : α → List Dt) (l : List α) (r : Ending) : Prop := ∃ v, r = .returned v ∧ Own w' (fun b => W.heap.size ≤ b ∧ b < w'.heap.size) (.sl s l.length (l.flatMap enc)) v
theorem owns_leaves {w : World} {S S' : Nat → Prop} {ds : List Dt} {cs : List Value} (h : Ats w S ds cs) (hl : ∀ d, d ∈ ds → (∃ n, d = .int n) ∨ ∃ s, d = .str s) : Owns w S' ds cs := by
  refine ⟨h.len, noB, fun _ _ h => False.elim h, fun _ _ _ _ h => False.elim h, fun i d u hd hu => ?_⟩
  obtain ⟨c, hc, ha⟩ := h.at_ hd
  rw [hu] at hc
  cases hc
  rcases hl d (List.mem_of_getElem? hd) with ⟨n, rfl⟩ | ⟨s, rfl⟩
  · obtain ⟨rfl, hb⟩ := ha.int_inv
    exact .int _ _ hb
  · obtain ⟨rfl, hb⟩ := ha.str_inv
    exact .str _ _ hb
theorem info_int : (Try.prog.info? 3).map (fun i => (i.zero, i.size, i.bytes)) = some (some (.int .i64 0), 1, 8) := by kernel_rfl
theorem info_orig : (Try.prog.info? 47).map (fun i => (i.zero, i.size, i.bytes)) = some (some (.agg #[.int .i64 0, .int .i64 0]), 2, 16) := by kernel_rfl
theorem info_row : (Try.prog.info? 59).map (fun i => (i.zero, i.size, i.bytes)) = some (some (.agg #[.slice none 0 0, .slice none 0 0]), 2, 48) := by kernel_rfl
theorem info_value : (Try.prog.info? 40).map (fun i => (i.zero, i.size, i.bytes)) = some (some (.agg #[.int .i64 0, .int .i64 0, .int .i64 0, .string ByteArray.empty, .slice none 0 0, .slice none 0 0, .slice none 0 0]), 7, 112) := by kernel_rfl

theorem toIntS (l : List Int) (W : World) (S : Nat → Prop) (v : Value) (h : SlAt W S 1 encI l v) (hn : l.length ≤ 1048576) : Calls Try.prog 67 #[v] W fun r w' => CopyS W w' 1 encI l r ∧ Later W w' := by
  obtain ⟨A, c, rfl, hlc, hcm⟩ := sl_parts h
  have HE := Lib.hid h; clear h
  obtain ⟨i0, hi, hz0, hz1, hz2⟩ := info_parts info_int
  go_enter Try.func67, Try.ntmps67
  go_wp2_with (at_make; refine wpList_make_full _ rfl _ _ _ rfl W.heap.size 3 i0 (.int .i64 0) 1 Try.underlying57 hi hz0 hz1 .i64 .i64 _ _ l.length rfl rfl rfl rfl (by rw [hz2]; omega) (by simp only [maxLen]; omega) (Nat.le_refl _) ?_; intro w1 hown hgrow)
  obtain ⟨xs, hxs, hl1, hs1⟩ := madeOwn hown hgrow
  have HF := Lib.hid (Filling.start (enc := encI) hxs hl1 hs1)
  clear hown hgrow hi hz0 hz1 hz2 hxs hl1 hs1
  go_loopw [4] (fun i wr => ∃ j : Nat, j ≤ l.length ∧ i = .int .i64 j ∧ Filling W wr 3 1 encI l j) (fun i _ => l.length - (intOf i).toNat)
  case atStart => exact ⟨0, Nat.zero_le _, rfl, HF.out⟩
  case round =>
    clear HF
    obtain ⟨j, hj, rfl, hf⟩ := hrel
    by_cases hlt : j < l.length
    · obtain ⟨b, off, rfl, hb, _, e0, hbt⟩ := (HE.out.later hf.later_).intAt hlt
      obtain ⟨u, k0, f0⟩ := hf.cell (p := j) (by omega)
      have hst := hf.step hlt (Later.rfl' _) (vs := [.int .i64 l[j]]) rfl (owns_leaves (S := anyB) (.cons (.int _ hbt) .nil) (by simp [encI]))
      rw [Nat.mul_one] at hst
      obtain ⟨X, hX⟩ : ∃ X, X = l[j] := ⟨_, rfl⟩
      rw [← hX] at e0 hst
      have HS := Lib.hid hst
      clear hst hX hbt hf
      go_wp2_with fail
      go_roundw
      case rel => exact ⟨j + 1, by omega, by go_num, HS.out⟩
      case measure => simp [intOf]; omega
    · have e : j = l.length := by omega
      subst e
      have HR := Lib.hid (hf.done encI_len (by omega))
      have HL := Lib.hid hf.later_
      clear hf
      go_wp2_with fail
      go_ret
      exact ⟨⟨_, rfl, HR.out⟩, HL.out⟩

theorem toOrigin (o : Org) (W : World) (S : Nat → Prop) (cs : List Value) (h : Ats W S (encO o) cs) : Calls Try.prog 19 #[.agg cs.toArray] W fun r w' => r = .returned (.agg #[.int .i64 o.1, .int .i64 o.2]) ∧ Later W w' := by
  obtain ⟨rfl, _, _⟩ := h.orig
  clear h
  go_enter Try.func19, Try.ntmps19
  go_wp2_with fail
  exact bodyPost_ret (v := .agg #[.int .i64 o.1, .int .i64 o.2]) (by simp [results, Try.results19, go_sem]) rfl ⟨rfl, (((Later.rfl' _).alloc _).alloc _).alloc _⟩

theorem toOriginS (l : List Org) (W : World) (S : Nat → Prop) (v : Value) (h : SlAt W S 2 encO l v) (hn : l.length ≤ 1048576) : Calls Try.prog 7 #[v] W fun r w' => CopyS W w' 2 encO l r ∧ Later W w' := by
  obtain ⟨A, c, rfl, hlc, hcm⟩ := sl_parts h
  have HE := Lib.hid h; clear h
  obtain ⟨i0, hi, hz0, hz1, hz2⟩ := info_parts info_orig
  go_enter Try.func7, Try.ntmps7
  go_wp2_with (at_make; refine wpList_make_full _ rfl _ _ _ rfl W.heap.size 47 i0 (.agg #[.int .i64 0, .int .i64 0]) 2 Try.underlying24 hi hz0 hz1 .i64 .i64 _ _ l.length rfl rfl rfl rfl (by rw [hz2]; omega) (by simp only [maxLen]; omega) (Nat.le_refl _) ?_; intro w1 hown hgrow)
  obtain ⟨xs, hxs, hl1, hs1⟩ := madeOwn hown hgrow
  have HF := Lib.hid (Filling.start (enc := encO) hxs hl1 hs1)
  clear hown hgrow hi hz0 hz1 hz2 hxs hl1 hs1
  go_loopw [4] (fun i wr => ∃ j : Nat, j ≤ l.length ∧ i = .int .i64 j ∧ Filling W wr 47 2 encO l j) (fun i _ => l.length - (intOf i).toNat)
  case atStart => exact ⟨0, Nat.zero_le _, rfl, HF.out⟩
  case round =>
    clear HF
    obtain ⟨j, hj, rfl, hf⟩ := hrel
    by_cases hlt : j < l.length
    · obtain ⟨b, off, rfl, hb, _, e0, e1, hb0, hb1⟩ := (HE.out.later hf.later_).origAt hlt
      have C := fun W' => toOrigin l[j] W' anyB [.int .i64 l[j].1, .int .i64 l[j].2] (.cons (.int _ hb0) (.cons (.int _ hb1) .nil))
      obtain ⟨X, hX⟩ : ∃ X, X = l[j] := ⟨_, rfl⟩
      rw [← hX] at e0 e1 C hb0 hb1
      have HX := Lib.hid hX
      have HC := Lib.hid C
      have HF := Lib.hid hf
      have HB := Lib.hid (And.intro hb0 hb1)
      clear C hX hf hb0 hb1
      go_wp2_with fail
      refine (HC.out _).mono ?_; rintro r w2 ⟨rfl, hl2⟩
      have hst := HF.out.step hlt hl2 (vs := [.int .i64 X.1, .int .i64 X.2]) rfl (by rw [← HX.out]; exact owns_leaves (S := anyB) (.cons (.int _ HB.out.1) (.cons (.int _ HB.out.2) .nil)) (by simp [encO]))
      obtain ⟨u0, k0, f0⟩ := HF.out.cell (p := j * 2) (by omega)
      obtain ⟨u1, k1, f1⟩ := HF.out.cell (p := j * 2 + 1) (by omega)
      have hW := World.block_lt_of_cell? _ _ k0
      have K0 := kept_cell hl2 k0
      have K1 := kept_cell hl2 k1
      have F0 := kept_free hl2 hW f0
      have F1 := kept_free hl2 hW f1
      have HS := Lib.hid hst
      clear hst hl2 k0 k1 f0 f1 e0 e1 hW
      go_wp2_with fail
      go_roundw
      case rel => exact ⟨j + 1, by omega, by go_num, HS.out⟩
      case measure => simp [intOf]; omega
    · have e : j = l.length := by omega
      subst e
      have HR := Lib.hid (hf.done encO_len (by omega))
      have HL := Lib.hid hf.later_
      clear hf
      go_wp2_with fail
      go_ret
      exact ⟨⟨_, rfl, HR.out⟩, HL.out⟩

end Go.Proofs.Ytjjmbldgemnhbaa
