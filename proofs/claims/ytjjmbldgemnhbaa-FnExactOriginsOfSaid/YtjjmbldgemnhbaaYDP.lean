/-
  Drawn values: three slices of the call's own, element by element; pushing onto one leaves the others.
-/
import Derived.Test.YtjjmbldgemnhbaaYKP
import Derived.Test.YtjjmbldgemnhbaaYPU2
import Derived.Test.YtjjmbldgemnhbaaYD6
namespace Go.Proofs.Ytjjmbldgemnhbaa
open Go.ChangeShapes Go.WideShapes Go.ChangeAt Go.RowKit
set_option linter.unusedVariables false
set_option linter.unusedSimpArgs false

/-- A drawn value: in memory of the call's own, of a bounded cost; the cursor's block alone has turned. -/
def DrawnV (M g : Nat) (W w' : World) (r : Ending) : Prop := (∃ d, CopyV W w' d r ∧ d.cost ≤ M) ∧ CurAt w' g ∧ Chg (onlyB g) W w'
theorem sum_le {α : Type} {f : α → Nat} {M : Nat} : ∀ {l : List α}, (∀ x ∈ l, f x ≤ M) → sumN f l ≤ l.length * M
  | [], _ => by simp [sumN]
  | x :: l, h => by
    have h1 := sum_le (f := f) (l := l) fun y hy => h y (List.mem_cons_of_mem _ hy)
    have h2 := h x List.mem_cons_self
    unfold sumN at h1 ⊢
    simp only [List.map_cons, List.sum_cons, List.length_cons]
    rw [Nat.succ_mul]
    omega
/-- A list's value, out of what was pushed. -/
def listD (l : List Vl) : Vl := .mk 3 0 0 ⟨#[]⟩ l [] []
theorem cost_list (l : List Vl) : (listD l).cost = l.length + sumN Vl.cost l := by
  unfold listD
  rw [Vl.cost_mk, show (⟨#[]⟩ : ByteArray).size = 0 from rfl]
  simp [sumN, costS]
theorem owns_list {w : World} {lo B : Nat} {l : List Vl} {v : Value} (h : Pushed lo w 40 7 encV l v) (hB : B ≤ lo) :
    Owns w (fun b => B ≤ b ∧ b < w.heap.size) (encV (listD l)) [.int .i64 3, .int .i64 0, .int .i64 0, .string ⟨#[]⟩, v, .slice none 0 0, .slice none 0 0] := by
  unfold listD
  rw [encV, encVs_eq]
  refine Owns.leaf' (.int _ _ (by unfold Between64; omega)) (Owns.leaf' (.int _ _ (by unfold Between64; omega)) (Owns.leaf' (.int _ _ (by unfold Between64; omega)) (Owns.leaf' (.str _ _ (by decide)) ?_)))
  exact Owns.cons (S := fun _ => False) (h.own encV_len) (Owns.leaf' (own_nil _ _ 1) (Owns.leaf' (own_nil _ _ 2) (owns_nil _ _))) (fun b hb => ⟨by omega, hb.2⟩) (fun _ h => False.elim h) (fun _ _ h => h)
theorem pushed_shape {α : Type} {lo : Nat} {w : World} {e s : Nat} {enc : α → List Dt} {l : List α} {v : Value} (h : Pushed lo w e s enc l v) : ∃ A c, v = .slice A l.length c := by
  obtain ⟨xs, T, h1, _⟩ := h
  obtain ⟨A, c, e, _⟩ := row_shape h1
  exact ⟨A, c, e⟩

theorem fill_done {W wr w3 wf : World} {g : Nat} {zr : List Value} (hlt : g < W.heap.size) (HR : Box wr W.heap.size zr) (HH : Chg (freshB g W.heap.size) W wr) (c3 : Chg (onlyB g) wr w3) (hcu : CurAt w3 g) (cf : Chg (fun b => W.heap.size + 1 ≤ b) w3 wf) :
    Box wf W.heap.size zr ∧ CurAt wf g ∧ Chg (freshB g W.heap.size) W wf ∧ wr.heap.size ≤ wf.heap.size :=
  ⟨(HR.chg c3 fun h => by unfold onlyB at h; omega).chg cf fun h => by omega, hcu.chg cf fun b hb h => by omega,
    (HH.trans (c3.more fun k hk => .inl hk)).trans (cf.more fun k hk => .inr (by omega)), Nat.le_trans c3.size cf.size⟩
theorem chg_only {W w : World} {g : Nat} (h : Chg (freshB g W.heap.size) W w) : Chg (onlyB g) W w := ⟨h.os, h.tape, h.output, h.size, fun k hk hne => h.block k hk fun e => by
  rcases e with e | e
  · exact hne e
  · omega⟩
theorem fill_end {W wr : World} {g M : Nat} {d : Vl} {k n s : Int} {t : ByteArray} {A1 A2 A3 : Option Addr} {n1 c1 n2 c2 n3 c3 : Nat} {r : Ending}
    (hr : r = .returned (.agg #[.int .i64 k, .int .i64 n, .int .i64 s, .string t, .slice A1 n1 c1, .slice A2 n2 c2, .slice A3 n3 c3]))
    (ho : Owns wr (fun b => W.heap.size + 1 ≤ b ∧ b < wr.heap.size) (encV d) [.int .i64 k, .int .i64 n, .int .i64 s, .string t, .slice A1 n1 c1, .slice A2 n2 c2, .slice A3 n3 c3])
    (hcu : CurAt wr g) (hch : Chg (freshB g W.heap.size) W wr) (hlt : g < W.heap.size) (hcost : d.cost ≤ M) (vs : List Value) : DrawnV M g W (setFrom wr W.heap.size 0 vs) r := by
  have c := chg_setFrom (g := W.heap.size) vs wr 0
  refine ⟨⟨d, ⟨_, _, _, _, _, _, _, _, _, _, _, _, _, hr, (ho.chg c fun b h1 h2 => by omega).more fun b hb => ⟨by omega, by rw [size_setFrom]; exact hb.2⟩⟩, hcost⟩, hcu.chg c fun b hb h => by omega, chg_only (hch.trans (c.more fun k hk => .inr (by omega)))⟩

/-- A slice of the call's own, its blocks in S. -/
def PushIn {α : Type} (S : Nat → Prop) (w : World) (e s : Nat) (enc : α → List Dt) (l : List α) (v : Value) : Prop :=
  ∃ (xs : List Value) (T : Nat → Nat → Prop), w.ownsRow 0 e s v l.length xs ∧ (∀ g, v.ownBlock = some g → S g) ∧ (∀ p b, T p b → S b ∧ v.ownBlock ≠ some b) ∧ (∀ p p', p ≠ p' → ∀ b, T p b → T p' b → False) ∧ ∀ (p : Nat) d u, (l.flatMap enc)[p]? = some d → xs[p]? = some u → Own w (T p) d u
theorem Pushed.in_ {α : Type} {lo : Nat} {w : World} {e s : Nat} {enc : α → List Dt} {l : List α} {v : Value} (h : Pushed lo w e s enc l v) : PushIn (fun b => lo ≤ b ∧ b < w.heap.size) w e s enc l v := by
  obtain ⟨xs, T, h1, h2, h3, h4⟩ := h
  exact ⟨xs, T, row_base h1, fun g hg => h1.lt g hg, fun p b hT => ⟨⟨(h2 p b hT).1, (h2 p b hT).2.1⟩, (h2 p b hT).2.2⟩, h3, h4⟩
theorem PushIn.own {α : Type} {S : Nat → Prop} {w : World} {e s : Nat} {enc : α → List Dt} {l : List α} {v : Value} (hs : ∀ a, (enc a).length = s) (h : PushIn S w e s enc l v) : Own w S (.sl s l.length (l.flatMap enc)) v := by
  obtain ⟨xs, T, h1, h2, h3, h4, h5⟩ := h
  exact Own.of_row T h1 (flat_len hs l) (fun g hg => ⟨h2 g hg, fun i hi => (h3 i g hi).2 hg⟩) (fun i b hb => (h3 i b hb).1) h4 h5
theorem PushIn.more {α : Type} {S S' : Nat → Prop} {w : World} {e s : Nat} {enc : α → List Dt} {l : List α} {v : Value} (h : PushIn S w e s enc l v) (hS : ∀ b, S b → S' b) : PushIn S' w e s enc l v := by
  obtain ⟨xs, T, h1, h2, h3, h4, h5⟩ := h
  exact ⟨xs, T, h1, fun g hg => hS g (h2 g hg), fun p b hT => ⟨hS b (h3 p b hT).1, (h3 p b hT).2⟩, h4, h5⟩
theorem PushIn.chg {α : Type} {S C : Nat → Prop} {w w' : World} {e s : Nat} {enc : α → List Dt} {l : List α} {v : Value} (h : PushIn S w e s enc l v) (c : Chg C w w') (hd : ∀ b, S b → C b → False) : PushIn S w' e s enc l v := by
  obtain ⟨xs, T, h1, h2, h3, h4, h5⟩ := h
  exact ⟨xs, T, row_block h1 fun g hg => c.block g (h1.lt g hg).2 (fun k => hd g (h2 g hg) k), h2, h3, h4, fun p d u hd' hu => (h5 p d u hd' hu).chg c fun b h6 h7 => hd b (h3 p b h6).1 h7⟩
theorem PushIn.later {α : Type} {S : Nat → Prop} {w w' : World} {e s : Nat} {enc : α → List Dt} {l : List α} {v : Value} (h : PushIn S w e s enc l v) (hb : Later w w') : PushIn S w' e s enc l v := h.chg (hb.chg (fun _ => False)) fun _ _ h => h
theorem PushIn.nil {α : Type} (S : Nat → Prop) (w : World) (e s : Nat) (enc : α → List Dt) : PushIn S w e s enc ([] : List α) (.slice none 0 0) :=
  ⟨[], noB, World.ownsRow_nil _ _ _ _, fun g hg => by simp [Value.ownBlock] at hg, fun _ _ h => False.elim h, fun _ _ _ _ h => False.elim h, fun p d u hd => by simp at hd⟩
theorem PushIn.shape {α : Type} {S : Nat → Prop} {w : World} {e s : Nat} {enc : α → List Dt} {l : List α} {v : Value} (h : PushIn S w e s enc l v) : ∃ A c, v = .slice A l.length c := by
  obtain ⟨xs, T, h1, _⟩ := h
  obtain ⟨A, c, e, _⟩ := row_shape h1
  exact ⟨A, c, e⟩
theorem PushIn.block {α : Type} {S : Nat → Prop} {w : World} {e s : Nat} {enc : α → List Dt} {l : List α} {v : Value} (h : PushIn S w e s enc l v) : ∀ b, v.ownBlock = some b → S b ∧ b < w.heap.size := by
  obtain ⟨xs, T, h1, h2, _⟩ := h
  exact fun b hb => ⟨h2 b hb, (h1.lt b hb).2⟩
/-- One more element, in memory that is new since w0. -/
theorem PushIn.push {α : Type} {S C : Nat → Prop} {w0 w1 : World} {e s : Nat} {enc : α → List Dt} (hs : ∀ a, (enc a).length = s) {l : List α} {v : Value} (h : PushIn S w0 e s enc l v) (hb : Chg C w0 w1) (hC : ∀ b, S b → C b → False) (hlt : ∀ b, S b → b < w0.heap.size) {x : α} {us : List Value}
    (ho : Owns w1 (fun b => w0.heap.size ≤ b ∧ b < w1.heap.size) (enc x) us) :
    ∃ xs, w1.ownsRow 0 e s v l.length xs ∧ us.length = 1 * s ∧ ∀ v' w2, w2.ownsRow 0 e s v' (l.length + 1) (xs ++ us) → w1.grownBy w2 v.ownBlock → (v'.ownBlock = v.ownBlock ∨ v'.ownBlock = some w1.heap.size) → PushIn (fun b => S b ∨ (w0.heap.size ≤ b ∧ b < w2.heap.size)) w2 e s enc (l ++ [x]) v' := by
  obtain ⟨xs, T, h1, h0, h2, h3, h4⟩ := h
  obtain ⟨hl, T2, k1, k2, k3⟩ := ho
  have hsz := hb.size
  have hus : us.length = 1 * s := by rw [hl, hs, Nat.one_mul]
  have hxl : xs.length = l.length * s := h1.1
  have hfl : (l.flatMap enc).length = l.length * s := flat_len hs l
  refine ⟨xs, row_block h1 fun g hg => hb.block g (h1.lt g hg).2 (fun k => hC g (h0 g hg) k), hus, fun v' w2 hr hg hat => ?_⟩
  refine ⟨xs ++ us, fun p b => (p < l.length * s ∧ T p b) ∨ (l.length * s ≤ p ∧ T2 (p - l.length * s) b), by rw [List.length_append]; exact hr, ?_, ?_, ?_, ?_⟩
  · intro g hg'
    rcases hat with h | h
    · exact .inl (h0 g (h ▸ hg'))
    · have := (hr.lt g hg').2
      rw [h] at hg'
      simp only [Option.some.injEq] at hg'
      exact .inr (by omega)
  · rintro p b (⟨hp, hT⟩ | ⟨hp, hT⟩)
    · obtain ⟨a1, a3⟩ := h2 p b hT
      refine ⟨.inl a1, fun e => ?_⟩
      rcases hat with h | h
      · exact a3 (h ▸ e)
      · rw [h] at e
        simp only [Option.some.injEq] at e
        have := hlt b a1
        omega
    · obtain ⟨a1, a2⟩ := k1 _ b hT
      refine ⟨.inr ⟨a1, by have := hg.size; omega⟩, fun e => ?_⟩
      rcases hat with h | h
      · rw [h] at e
        have := (h1.lt b e).2
        omega
      · rw [h] at e
        simp only [Option.some.injEq] at e
        omega
  · rintro p p' hne b (⟨hp, hT⟩ | ⟨hp, hT⟩) (⟨hp', hT'⟩ | ⟨hp', hT'⟩)
    · exact h3 p p' hne b hT hT'
    · have := hlt b (h2 p b hT).1
      have := (k1 _ b hT').1
      omega
    · have := hlt b (h2 p' b hT').1
      have := (k1 _ b hT).1
      omega
    · exact k2 _ _ (by omega) b hT hT'
  · intro p d u hd hu
    rw [List.flatMap_append] at hd
    by_cases hp : p < l.length * s
    · rw [List.getElem?_append_left (by omega)] at hd hu
      refine ((h4 p d u hd hu).chg hb fun b hT hs' => hC b (h2 p b hT).1 hs').keep fun b hT hlt => ⟨.inl ⟨hp, hT⟩, hg.block b hlt fun e => (h2 p b hT).2 e.symm⟩
    · rw [List.getElem?_append_right (by omega), hfl] at hd
      rw [List.getElem?_append_right (by omega), hxl] at hu
      have hd' : (enc x)[p - l.length * s]? = some d := by simpa using hd
      refine (k3 _ d u hd' hu).keep fun b hT hlt => ⟨.inr ⟨by omega, hT⟩, hg.block b hlt fun e => ?_⟩
      have := (h1.lt b e.symm).2
      have := (k1 _ b hT).1
      omega
/-- 'v.f = append(v.f, x)', v a variable of the call's own (block gB): what the append asks for, what it leaves, what the store leaves. -/
theorem push_in {α : Type} {S C : Nat → Prop} {gB p : Nat} {wr w3 : World} {e s : Nat} {enc : α → List Dt} (hs : ∀ a, (enc a).length = s) {l : List α} {lv : Value} {cells : List Value} {x : α} {us : List Value} (tt : TypeId)
    (B : Box wr gB cells) (hp : PushIn S wr e s enc l lv) (hS : ∀ b, S b → b < wr.heap.size ∧ b ≠ gB) (c : Chg C wr w3) (hC : ∀ b, S b → C b → False) (hCB : ¬ C gB) (ho : Owns w3 (fun b => wr.heap.size ≤ b ∧ b < w3.heap.size) (enc x) us) :
    Box w3 gB cells ∧ ∃ xs, (w3.alloc (.cells us.toArray tt)).ownsRow 0 e s lv l.length xs ∧ us.length = 1 * s ∧ (∀ u ∈ us, u.oneCell' = true) ∧ (∀ j u, us[j]? = some u → (w3.alloc (.cells us.toArray tt)).cell? ((⟨w3.heap.size, 0, none⟩ : Addr).add j) = some u) ∧
      ∀ g cap w4, w4.ownsRow 0 e s (.slice (some ⟨g, 0, none⟩) (l.length + 1) cap) (l.length + 1) (xs ++ us) → (w3.alloc (.cells us.toArray tt)).grownBy w4 lv.ownBlock → (lv.ownBlock = some g ∨ g = w3.heap.size + 1) →
        Box w4 gB cells ∧ Hid (PushIn (fun b => S b ∨ (wr.heap.size ≤ b ∧ b < w4.heap.size)) (w4.setCell ⟨gB, p, none⟩ (.slice (some ⟨g, 0, none⟩) (l.length + 1) cap)) e s enc (l ++ [x]) (.slice (some ⟨g, 0, none⟩) (l.length + 1) cap) ∧
          Box (w4.setCell ⟨gB, p, none⟩ (.slice (some ⟨g, 0, none⟩) (l.length + 1) cap)) gB (cells.set p (.slice (some ⟨g, 0, none⟩) (l.length + 1) cap)) ∧
          Chg (fun b => b = gB ∨ lv.ownBlock = some b) w3 (w4.setCell ⟨gB, p, none⟩ (.slice (some ⟨g, 0, none⟩) (l.length + 1) cap))) := by
  have B3 : Box w3 gB cells := B.chg c hCB
  have ho' : Owns (w3.alloc (.cells us.toArray tt)) (fun b => wr.heap.size ≤ b ∧ b < (w3.alloc (.cells us.toArray tt)).heap.size) (enc x) us :=
    (ho.later ((Later.rfl' w3).alloc _)).more fun b hb => ⟨hb.1, by rw [World.size_alloc]; omega⟩
  obtain ⟨xs, a1, a2, a3⟩ := hp.push hs (c.trans (((Later.rfl' w3).alloc (.cells us.toArray tt)).chg C)) hC (fun b hb => (hS b hb).1) ho'
  refine ⟨B3, xs, a1, a2, ho.one, World.news_of_block (heap_alloc_new w3 _), fun g cap w4 hr hg hat => ?_⟩
  have hlow : ∀ b, lv.ownBlock = some b → b < wr.heap.size ∧ b ≠ gB := fun b hb => hS b (hp.block b hb).1
  have hg4 := chg_grown hg
  have B4 : Box w4 gB cells := (B3.later ((Later.rfl' w3).alloc _)).chg hg4 fun h => by have := hlow gB h.symm; omega
  have hgrow := hg.size
  have hsz := c.size
  refine ⟨B4, ((a3 _ w4 hr hg ?_).chg (S := _) (C := fun b => b = gB) ((Chg.rfl' _ w4).set rfl) (fun b hb h => ?_)), B4.set p _, ?_⟩
  · rcases hat with h | h
    · exact .inl (by rw [h]; rfl)
    · exact .inr (by rw [h, World.size_alloc]; rfl)
  · rcases hb with hb | hb
    · exact (hS b hb).2 h
    · have := B.lt
      omega
  · exact (((((Later.rfl' w3).alloc _).chg _).trans (hg4.more fun b hb => .inr hb.symm))).set (.inl rfl)

/-- A drawn value's three slices, in memory that is new since a world of 'lo' blocks. -/
def DrawnT (lo : Nat) (w : World) (l : List Vl) (cl : List ByteArray) (rs : List Rw) (v4 v5 v6 : Value) : Prop :=
  ∃ S1 S2 S3 : Nat → Prop, (∀ b, S1 b ∨ S2 b ∨ S3 b → lo ≤ b ∧ b < w.heap.size) ∧ (∀ b, S1 b → S2 b → False) ∧ (∀ b, S1 b → S3 b → False) ∧ (∀ b, S2 b → S3 b → False) ∧
    PushIn S1 w 40 7 encV l v4 ∧ PushIn S2 w 9 1 encS cl v5 ∧ PushIn S3 w 59 2 encR rs v6
theorem DrawnT.nils (lo : Nat) (w : World) : DrawnT lo w [] [] [] (.slice none 0 0) (.slice none 0 0) (.slice none 0 0) :=
  ⟨fun _ => False, fun _ => False, fun _ => False, fun b h => by simp at h, fun _ h => False.elim h, fun _ h => False.elim h, fun _ h => False.elim h, PushIn.nil _ _ _ _ _, PushIn.nil _ _ _ _ _, PushIn.nil _ _ _ _ _⟩
theorem DrawnT.ofList {lo : Nat} {w : World} {l : List Vl} {v : Value} (h : Pushed lo w 40 7 encV l v) : DrawnT lo w l [] [] v (.slice none 0 0) (.slice none 0 0) :=
  ⟨_, fun _ => False, fun _ => False, fun b h => by simpa using h, fun _ _ h => h, fun _ _ h => h, fun _ h => False.elim h, h.in_, PushIn.nil _ _ _ _ _, PushIn.nil _ _ _ _ _⟩
theorem DrawnT.chg {lo : Nat} {w w' : World} {l : List Vl} {cl : List ByteArray} {rs : List Rw} {v4 v5 v6 : Value} {C : Nat → Prop} (h : DrawnT lo w l cl rs v4 v5 v6) (c : Chg C w w') (hC : ∀ b, lo ≤ b → b < w.heap.size → ¬ C b) : DrawnT lo w' l cl rs v4 v5 v6 := by
  obtain ⟨S1, S2, S3, h1, h2, h3, h4, h5, h6, h7⟩ := h
  have hs := c.size
  exact ⟨S1, S2, S3, fun b hb => ⟨(h1 b hb).1, by have := (h1 b hb).2; omega⟩, h2, h3, h4, h5.chg c fun b hb hc => hC b (h1 b (.inl hb)).1 (h1 b (.inl hb)).2 hc,
    h6.chg c fun b hb hc => hC b (h1 b (.inr (.inl hb))).1 (h1 b (.inr (.inl hb))).2 hc, h7.chg c fun b hb hc => hC b (h1 b (.inr (.inr hb))).1 (h1 b (.inr (.inr hb))).2 hc⟩
theorem DrawnT.later {lo : Nat} {w w' : World} {l : List Vl} {cl : List ByteArray} {rs : List Rw} {v4 v5 v6 : Value} (h : DrawnT lo w l cl rs v4 v5 v6) (hb : Later w w') : DrawnT lo w' l cl rs v4 v5 v6 := h.chg (hb.chg (fun _ => False)) fun _ _ _ h => h
theorem DrawnT.base {lo lo' : Nat} {w : World} {l : List Vl} {cl : List ByteArray} {rs : List Rw} {v4 v5 v6 : Value} (h : DrawnT lo w l cl rs v4 v5 v6) (hl : lo' ≤ lo) : DrawnT lo' w l cl rs v4 v5 v6 := by
  obtain ⟨S1, S2, S3, h1, hh⟩ := h
  exact ⟨S1, S2, S3, fun b hb => ⟨by have := (h1 b hb).1; omega, (h1 b hb).2⟩, hh⟩
theorem DrawnT.owns {lo : Nat} {w : World} {k n s : Int} {t : ByteArray} {l : List Vl} {cl : List ByteArray} {rs : List Rw} {v4 v5 v6 : Value} (h : DrawnT lo w l cl rs v4 v5 v6) (b1 : Between64 k) (b2 : Between64 n) (b3 : Between64 s) (b4 : t.size ≤ 9223372036854775807) :
    Owns w (fun b => lo ≤ b ∧ b < w.heap.size) (encV (.mk k n s t l cl rs)) [.int .i64 k, .int .i64 n, .int .i64 s, .string t, v4, v5, v6] := by
  obtain ⟨S1, S2, S3, h1, h2, h3, h4, h5, h6, h7⟩ := h
  rw [encV, encVs_eq]
  refine Owns.leaf' (.int _ _ b1) (Owns.leaf' (.int _ _ b2) (Owns.leaf' (.int _ _ b3) (Owns.leaf' (.str _ _ b4) ?_)))
  refine Owns.cons (h5.own encV_len) (Owns.cons (U := fun b => S2 b ∨ S3 b) (h6.own encS_len) (Owns.cons (U := S3) (h7.own encR_len) (owns_nil _ (fun _ => False)) (fun b h => h) (fun b h => False.elim h) (fun b _ h => h)) (fun b h => .inl h) (fun b h => .inr h) h4) (fun b h => h1 b (.inl h)) (fun b h => h1 b (.inr h)) (fun b hb h => ?_)
  rcases h with h | h
  · exact h2 b hb h
  · exact h3 b hb h
theorem DrawnT.shape {lo : Nat} {w : World} {l : List Vl} {cl : List ByteArray} {rs : List Rw} {v4 v5 v6 : Value} (h : DrawnT lo w l cl rs v4 v5 v6) : ∃ A4 c4 A5 c5 A6 c6, v4 = .slice A4 l.length c4 ∧ v5 = .slice A5 cl.length c5 ∧ v6 = .slice A6 rs.length c6 := by
  obtain ⟨S1, S2, S3, h1, h2, h3, h4, h5, h6, h7⟩ := h
  obtain ⟨A4, c4, e4⟩ := h5.shape
  obtain ⟨A5, c5, e5⟩ := h6.shape
  obtain ⟨A6, c6, e6⟩ := h7.shape
  exact ⟨A4, c4, A5, c5, A6, c6, e4, e5, e6⟩
/-- Bounds of a drawn value's own parts. -/
def SmallD (k n s : Int) (t : ByteArray) : Prop := (-100 ≤ k ∧ k ≤ 100) ∧ (-1000000000 ≤ n ∧ n ≤ 1000000000) ∧ (-1000000000 ≤ s ∧ s ≤ 1000000000) ∧ t.size ≤ 100
theorem SmallD.between {k n s : Int} {t : ByteArray} (h : SmallD k n s t) : Between64 k ∧ Between64 n ∧ Between64 s ∧ t.size ≤ 9223372036854775807 := by
  obtain ⟨h1, h2, h3, h4⟩ := h
  unfold Between64
  omega
/-- A drawn value, its three slices in new memory of their own; the cursor's block alone has turned. -/
def DrawnR (M g : Nat) (W w' : World) (r : Ending) : Prop :=
  (∃ k n s t l cl rs v4 v5 v6, r = .returned (.agg #[.int .i64 k, .int .i64 n, .int .i64 s, .string t, v4, v5, v6]) ∧ SmallD k n s t ∧ (Vl.mk k n s t l cl rs).cost ≤ M ∧ DrawnT W.heap.size w' l cl rs v4 v5 v6) ∧ CurAt w' g ∧ Chg (onlyB g) W w'
theorem DrawnR.more {M M' g : Nat} {W w' : World} {r : Ending} (h : DrawnR M g W w' r) (hM : M ≤ M') : DrawnR M' g W w' r := by
  obtain ⟨⟨k, n, s, t, l, cl, rs, v4, v5, v6, h1, h2, h3, h4⟩, h5⟩ := h
  exact ⟨⟨k, n, s, t, l, cl, rs, v4, v5, v6, h1, h2, by omega, h4⟩, h5⟩
theorem DrawnR.v {M g : Nat} {W w' : World} {r : Ending} (h : DrawnR M g W w' r) : DrawnV M g W w' r := by
  obtain ⟨⟨k, n, s, t, l, cl, rs, v4, v5, v6, h1, h2, h3, h4⟩, h5⟩ := h
  obtain ⟨A4, c4, A5, c5, A6, c6, rfl, rfl, rfl⟩ := h4.shape
  have hb := h2.between
  exact ⟨⟨_, ⟨_, _, _, _, _, _, _, _, _, _, _, _, _, h1, h4.owns hb.1 hb.2.1 hb.2.2.1 hb.2.2.2⟩, h3⟩, h5⟩
theorem drawn_leaf {M g : Nat} {W w' : World} {r : Ending} {k n s : Int} {t : ByteArray} (hr : r = .returned (leafA k n s t)) (hs : SmallD k n s t) (hM : t.size ≤ M) (hcu : CurAt w' g) (hch : Chg (onlyB g) W w') : DrawnR M g W w' r :=
  ⟨⟨k, n, s, t, [], [], [], _, _, _, hr, hs, by have := cost_leaf k n s t; unfold leafD at this; omega, DrawnT.nils _ _⟩, hcu, hch⟩
theorem fill_endR {W wr : World} {g M : Nat} {k n s : Int} {t : ByteArray} {l : List Vl} {cl : List ByteArray} {rs : List Rw} {v4 v5 v6 : Value} {r : Ending}
    (hr : r = .returned (.agg #[.int .i64 k, .int .i64 n, .int .i64 s, .string t, v4, v5, v6])) (hd : DrawnT (W.heap.size + 1) wr l cl rs v4 v5 v6) (hs : SmallD k n s t) (hcost : (Vl.mk k n s t l cl rs).cost ≤ M)
    (hcu : CurAt wr g) (hch : Chg (freshB g W.heap.size) W wr) (hlt : g < W.heap.size) (vs : List Value) : DrawnR M g W (setFrom wr W.heap.size 0 vs) r := by
  have c := chg_setFrom (g := W.heap.size) vs wr 0
  exact ⟨⟨k, n, s, t, l, cl, rs, v4, v5, v6, hr, hs, hcost, (hd.chg c fun b h1 h2 e => by omega).base (Nat.le_succ _)⟩, hcu.chg c fun b hb h => by omega, chg_only (hch.trans (c.more fun k hk => .inr (by omega)))⟩
end Go.Proofs.Ytjjmbldgemnhbaa
