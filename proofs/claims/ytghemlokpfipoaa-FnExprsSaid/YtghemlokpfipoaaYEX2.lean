/-
  Draws of expressions: numbers, names, calls, operators, one of two, leaves: the walks.
-/
import Derived.Test.YtghemlokpfipoaaYEX1
import Derived.Test.YtghemlokpfipoaaYE2
namespace Go.Proofs.Ytghemlokpfipoaa
open Go.ChangeShapes Go.WideShapes Go.ChangeAt Go.RowKit
set_option linter.unusedVariables false
set_option linter.unusedSimpArgs false
set_option maxRecDepth 100000

theorem box_four {w : World} {g : Nat} {a0 a1 a2 a3 : Value} (h : Box w g [a0, a1, a2, a3]) : w.cell? ⟨g, 0, none⟩ = some a0 ∧ w.cell? ⟨g, 1, none⟩ = some a1 ∧ w.cell? ⟨g, 2, none⟩ = some a2 ∧ w.cell? ⟨g, 3, none⟩ = some a3 ∧
    w.frozen? ⟨g, 0, none⟩ = false ∧ w.frozen? ⟨g, 1, none⟩ = false ∧ w.frozen? ⟨g, 2, none⟩ = false ∧ w.frozen? ⟨g, 3, none⟩ = false :=
  ⟨h.cell rfl, h.cell rfl, h.cell rfl, h.cell rfl, h.free 0, h.free 1, h.free 2, h.free 3⟩
theorem fill_endX {W wr : World} {g M : Nat} {k n : Int} {t : ByteArray} {args : List Ex} {v : Value} {r : Ending}
    (hr : r = .returned (.agg #[.int .i64 k, .int .i64 n, .string t, v])) (hd : TopE (W.heap.size + 1) wr args v) (hs : SmallE k n t) (hcost : (Ex.mk k n t args).cost ≤ M)
    (hcu : CurAt wr g) (hch : Chg (freshB g W.heap.size) W wr) (hlt : g < W.heap.size) (vs : List Value) : DrawnX M g W (setFrom wr W.heap.size 0 vs) r := by
  have c := chg_setFrom (g := W.heap.size) vs wr 0
  exact ⟨⟨k, n, t, args, v, hr, hs, hcost, (hd.chg c fun b h1 h2 e => by omega).base (Nat.le_succ _)⟩, hcu.chg c fun b hb h => by omega, chg_only (hch.trans (c.more fun k hk => .inr (by omega)))⟩
theorem box_onlyX {W w1 : World} {g : Nat} {cs : Array Value} {t : TypeId} (hch : Chg (onlyB g) (W.alloc (.cells cs t)) w1) (hlt : g < W.heap.size) : Box w1 W.heap.size cs.toList :=
  (box_alloc W cs t).chg hch fun h => by unfold onlyB at h; omega
theorem fresh_only {W w1 : World} {g : Nat} {o : Obj} (hch : Chg (onlyB g) (W.alloc o) w1) : Chg (freshB g W.heap.size) W w1 := (((Later.rfl' W).alloc o).chg _).trans (hch.more fun k hk => .inl hk)

/-- A slice of names that lies, not in the cursor's block. -/
def NamesAt (g : Nat) (w : World) (xs : List ByteArray) (v : Value) : Prop := SlAt w (fun b => b ≠ g) 1 encS xs v ∧ 0 < xs.length ∧ xs.length ≤ 100 ∧ ∀ x ∈ xs, x.size ≤ 100
theorem NamesAt.chg {g : Nat} {w w' : World} {xs : List ByteArray} {v : Value} (h : NamesAt g w xs v) (c : Chg (onlyB g) w w') : NamesAt g w' xs v := ⟨At.chg h.1 c fun b h1 h2 => h1 h2, h.2⟩
theorem NamesAt.fresh {g : Nat} {w w' : World} {xs : List ByteArray} {v : Value} (h : NamesAt g w xs v) (c : Chg (freshB g w.heap.size) w w') : NamesAt g w' xs v :=
  ⟨At.keep h.1 fun b hb hl => ⟨hb, Nat.lt_of_lt_of_le hl c.size, c.block b hl fun e => by
    rcases e with e | e
    · exact hb e
    · omega⟩, h.2⟩
theorem NamesAt.later {g : Nat} {w w' : World} {xs : List ByteArray} {v : Value} (h : NamesAt g w xs v) (c : Later w w') : NamesAt g w' xs v := ⟨At.later h.1 c, h.2⟩
theorem NamesAt.cell {g : Nat} {w : World} {xs : List ByteArray} {v : Value} (h : NamesAt g w xs v) : ∃ b off c, v = .slice (some ⟨b, off, none⟩) xs.length c ∧ xs.length ≤ c ∧ c ≤ 9223372036854775807 ∧ b ≠ g ∧ b < w.heap.size ∧
    ∀ j (hj : j < xs.length) w', Chg (onlyB g) w w' → w'.cell? ⟨b, off + j, none⟩ = some (.string xs[j]) := by
  obtain ⟨h, h0, h1, h2⟩ := h
  obtain ⟨A, c, rfl, h3, h4, hl⟩ := At.sl_inv h
  unfold SlAt at h
  rw [flat_strs] at h
  obtain ⟨b, off, rfl, hb, hS, hcell⟩ := At.cells h (by intro e; simp at e; rw [e] at h0; simp at h0)
  refine ⟨b, off, c, rfl, h3, h4, hS, hb, fun j hj w' cg => ?_⟩
  obtain ⟨u, hu, hat⟩ := hcell j (.str xs[j]) (by rw [List.getElem?_map, List.getElem?_eq_getElem hj]; rfl)
  obtain ⟨rfl, _⟩ := hat.str_inv
  exact (World.cell?_of_block (w := w) (a := ⟨b, _, none⟩) (cg.block b hb (fun e => hS e))).trans hu
theorem names_box {g b : Nat} {w : World} {xs : List ByteArray} (B : Box w b (xs.map .string)) (hb : b ≠ g) (h0 : 0 < xs.length) (h1 : xs.length ≤ 100) (h2 : ∀ x ∈ xs, x.size ≤ 100) : NamesAt g w xs (.slice (some ⟨b, 0, none⟩) xs.length xs.length) := by
  refine ⟨?_, h0, h1, h2⟩
  unfold SlAt
  rw [flat_strs]
  refine At.make (by simp) (Nat.le_refl _) (by omega) fun _ => ⟨b, 0, rfl, B.lt, hb, fun i d hd => ?_⟩
  rw [List.getElem?_map] at hd
  obtain ⟨x, hx, rfl⟩ := Option.map_eq_some_iff.1 hd
  exact ⟨.string x, by rw [Nat.zero_add]; exact B.cell (by rw [List.getElem?_map, hx]; rfl), .str x (by have := h2 x (List.mem_of_getElem? hx); omega)⟩
theorem names_row {g lo : Nat} {w : World} {e : TypeId} {xs : List ByteArray} {v : Value} (h : w.ownsRow lo e 1 v xs.length (xs.map .string)) (hlo : g < lo) (h0 : 0 < xs.length) (h1 : xs.length ≤ 100) (h2 : ∀ x ∈ xs, x.size ≤ 100) : NamesAt g w xs v := by
  refine ⟨?_, h0, h1, h2⟩
  unfold SlAt
  rw [flat_strs]
  refine row_at h (by simp) (fun b hb => by have := (h.lt b hb).1; omega) fun p d u hd hu => ?_
  rw [List.getElem?_map] at hd hu
  obtain ⟨x, hx, rfl⟩ := Option.map_eq_some_iff.1 hd
  rw [hx] at hu
  simp at hu
  subst hu
  exact .str x (by have := h2 x (List.mem_of_getElem? hx); omega)

theorem drawPickN (g : Nat) (xs : List ByteArray) (v : Value) (W : World) (hc : CurAt W g) (hn : NamesAt g W xs v) : Calls Try.prog 159 #[.pointer (some ⟨g, 0, none⟩), v] W fun r w' => SmallS g W w' r := by
  have HC := Lib.hid (drawBelow xs.length g hn.2.1 (by have := hn.2.2.1; omega) W hc)
  obtain ⟨b, off, c, rfl, h1, h2, h3, h4, h5⟩ := hn.cell
  have HB := Lib.hid h5
  have HS := Lib.hid hn.2.2.2
  clear hc hn h5
  go_enter Try.func159, Try.ntmps159
  go_wp2_with fail
  refine HC.out.mono ?_; rintro e w1 ⟨⟨x, hx, rfl⟩, hcu, hch⟩
  have hcell := HB.out x hx w1 hch
  have hm : xs[x].size ≤ 100 := HS.out _ (List.getElem_mem hx)
  have hki : (x : Int) < (xs.length : Int) := by omega
  obtain ⟨s, hs⟩ : ∃ s, s = xs[x] := ⟨_, rfl⟩
  rw [← hs] at hcell hm
  have HM := Lib.hid hm
  have H1 := Lib.hid hcu; have H2 := Lib.hid hch
  clear hcu hch hs hm HC HB HS
  go_wp2_with fail
  go_ret
  exact ⟨⟨s, HM.out, rfl⟩, H1.out, H2.out⟩

theorem specNumX (n : Int) (W : World) : Calls Try.prog 162 #[.int .i64 n] W fun r w' => r = .returned (.agg #[.int .i64 1, .int .i64 n, .string ⟨#[]⟩, .slice none 0 0]) ∧ Later W w' := by
  go_enter Try.func162, Try.ntmps162
  go_wp2_with fail
  exact bodyPost_ret (v := .agg #[.int .i64 1, .int .i64 n, .string ⟨#[]⟩, .slice none 0 0]) (by simp [results, Try.results162, go_sem]) rfl ⟨rfl, (Later.rfl' _).alloc _⟩
theorem specNameX (t : ByteArray) (W : World) : Calls Try.prog 196 #[.string t] W fun r w' => r = .returned (.agg #[.int .i64 3, .int .i64 0, .string t, .slice none 0 0]) ∧ Later W w' := by
  go_enter Try.func196, Try.ntmps196
  go_wp2_with fail
  exact bodyPost_ret (v := .agg #[.int .i64 3, .int .i64 0, .string t, .slice none 0 0]) (by simp [results, Try.results196, go_sem]) rfl ⟨rfl, (Later.rfl' _).alloc _⟩
theorem specCallX (t : ByteArray) (A : Option Addr) (m c : Nat) (W : World) : Calls Try.prog 212 #[.string t, .slice A m c] W fun r w' => r = .returned (.agg #[.int .i64 5, .int .i64 0, .string t, .slice A m c]) ∧ Later W w' := by
  go_enter Try.func212, Try.ntmps212
  go_wp2_with fail
  exact bodyPost_ret (v := .agg #[.int .i64 5, .int .i64 0, .string t, .slice A m c]) (by simp [results, Try.results212, go_sem]) rfl ⟨rfl, (Later.rfl' _).alloc _⟩
theorem specOpX (op : Int) (a b : Ex) (ca cb : List Value) (lo : Nat) (W : World) (hlo : lo ≤ W.heap.size) (ha : Ats W (fun x => lo ≤ x ∧ x < W.heap.size) (encE a) ca) (hb : Ats W (fun x => lo ≤ x ∧ x < W.heap.size) (encE b) cb) :
    Calls Try.prog 161 #[.int .i64 op, .agg ca.toArray, .agg cb.toArray] W fun r w' => (∃ v, r = .returned (.agg #[.int .i64 6, .int .i64 op, .string ⟨#[]⟩, v]) ∧ TopE lo w' [a, b] v) ∧ Later W w' := by
  obtain ⟨k, n, t, xa, rfl⟩ := Ex.shape a
  obtain ⟨k', n', t', xb, rfl⟩ := Ex.shape b
  obtain ⟨v, rfl, _, _, _, hv⟩ := ha.ex
  obtain ⟨v', rfl, _, _, _, hv'⟩ := hb.ex
  obtain ⟨A, c, rfl, _⟩ := hv.sl_inv
  obtain ⟨B, d, rfl, _⟩ := hv'.sl_inv
  have HA := Lib.hid ha; have HB := Lib.hid hb
  clear ha hb hv hv'
  go_enter Try.func161, Try.ntmps161
  go_wp2_with fail
  have hT := top_made (lo := lo) (es := [.mk k n t xa, .mk k' n' t' xb]) (us := [.int .i64 k, .int .i64 n, .string t, .slice A xa.length c, .int .i64 k', .int .i64 n', .string t', .slice B xb.length d])
    (w := ((W.alloc (.cells #[.int .i64 k, .int .i64 n, .string t, .slice A xa.length c] 67)).alloc (.cells #[.int .i64 k', .int .i64 n', .string t', .slice B xb.length d] 67)).alloc (.cells #[.int .i64 6, .int .i64 op, .string ⟨#[]⟩, .slice (some ⟨W.heap.size + 1 + 1 + 1, 0, none⟩) 2 2] 67))
    (by
      simp only [List.flatMap_cons, List.flatMap_nil, List.append_nil]
      exact ((HA.out.append HB.out).later ((((Later.rfl' W).alloc _).alloc _).alloc _)).more fun b hb => by simp only [World.size_alloc]; omega) (by simp only [World.size_alloc]; omega) (by simp)
  simp only [World.size_alloc] at hT
  exact bodyPost_ret (v := .agg #[.int .i64 6, .int .i64 op, .string ⟨#[]⟩, .slice (some ⟨W.heap.size + 1 + 1 + 1, 0, none⟩) 2 2]) (by simp [results, Try.results161, go_sem]) rfl ⟨⟨_, rfl, hT⟩, ((((Later.rfl' W).alloc _).alloc _).alloc _).alloc _⟩
theorem specPickX (g : Nat) (k n : Int) (t : ByteArray) (A : Option Addr) (l c : Nat) (k' n' : Int) (t' : ByteArray) (A' : Option Addr) (l' c' : Nat) (W : World) (hc : CurAt W g) :
    Calls Try.prog 213 #[.pointer (some ⟨g, 0, none⟩), .agg #[.int .i64 k, .int .i64 n, .string t, .slice A l c], .agg #[.int .i64 k', .int .i64 n', .string t', .slice A' l' c']] W fun r w' =>
      (r = .returned (.agg #[.int .i64 k, .int .i64 n, .string t, .slice A l c]) ∨ r = .returned (.agg #[.int .i64 k', .int .i64 n', .string t', .slice A' l' c'])) ∧ CurAt w' g ∧ Chg (onlyB g) W w' := by
  have hlt := hc.lt
  have HCU := Lib.hid (hc.later ((((Later.rfl' W).alloc (.cells #[.int .i64 k, .int .i64 n, .string t, .slice A l c] 67)).alloc (.cells #[.int .i64 k', .int .i64 n', .string t', .slice A' l' c'] 67)).alloc (.cells #[.int .i64 0, .int .i64 0, .string ⟨#[]⟩, .slice none 0 0] 67)))
  clear hc
  go_enter Try.func213, Try.ntmps213
  go_wp2_with fail
  refine (drawOnce 2 g (by omega) (by omega) _ HCU.out).mono ?_; rintro e w1 ⟨⟨q, rfl⟩, hcu, hch⟩
  have h1 : Box w1 W.heap.size [.int .i64 k, .int .i64 n, .string t, .slice A l c] := ((box_alloc W _ _).later (((Later.rfl' _).alloc _).alloc _)).chg hch fun h => by unfold onlyB at h; omega
  have h2 : Box w1 (W.heap.size + 1) [.int .i64 k', .int .i64 n', .string t', .slice A' l' c'] := by
    have h := ((box_alloc (W.alloc (.cells #[.int .i64 k, .int .i64 n, .string t, .slice A l c] 67)) #[.int .i64 k', .int .i64 n', .string t', .slice A' l' c'] 67).later ((Later.rfl' _).alloc _)).chg hch fun h => by rw [World.size_alloc] at h; unfold onlyB at h; omega
    rw [World.size_alloc] at h
    exact h
  have h3 : Box w1 (W.heap.size + 1 + 1) [.int .i64 0, .int .i64 0, .string ⟨#[]⟩, .slice none 0 0] := by
    have h := (box_alloc ((W.alloc (.cells #[.int .i64 k, .int .i64 n, .string t, .slice A l c] 67)).alloc (.cells #[.int .i64 k', .int .i64 n', .string t', .slice A' l' c'] 67)) #[.int .i64 0, .int .i64 0, .string ⟨#[]⟩, .slice none 0 0] 67).chg hch fun h => by rw [World.size_alloc, World.size_alloc] at h; unfold onlyB at h; omega
    rw [World.size_alloc, World.size_alloc] at h
    exact h
  obtain ⟨a0, a1, a2, a3, _⟩ := box_four h1
  obtain ⟨b0, b1, b2, b3, _⟩ := box_four h2
  obtain ⟨r0, r1, r2, r3, f0, f1, f2, f3⟩ := box_four h3
  have hz := h3.lt
  have HC := Lib.hid hcu; have HH := Lib.hid ((((((Later.rfl' W).alloc _).alloc _).alloc _).chg (freshB g W.heap.size)).trans (hch.more fun k hk => .inl hk))
  clear hcu hch HCU h1 h2 h3
  cases q with
  | true =>
    go_wp2_with fail
    have cg := chg_setFrom (g := W.heap.size + 1 + 1) [.int .i64 k, .int .i64 n, .string t, .slice A l c] w1 0
    exact bodyPost_ret (v := .agg #[.int .i64 k, .int .i64 n, .string t, .slice A l c]) (by simp [results, Try.results213, go_sem, r0, r1, r2, r3]) rfl ⟨.inl rfl, HC.out.chg cg fun b hb h => by omega, chg_only (HH.out.trans (cg.more fun k hk => .inr (by omega)))⟩
  | false =>
    go_wp2_with fail
    have cg := chg_setFrom (g := W.heap.size + 1 + 1) [.int .i64 k', .int .i64 n', .string t', .slice A' l' c'] w1 0
    exact bodyPost_ret (v := .agg #[.int .i64 k', .int .i64 n', .string t', .slice A' l' c']) (by simp [results, Try.results213, go_sem, r0, r1, r2, r3]) rfl ⟨.inr rfl, HC.out.chg cg fun b hb h => by omega, chg_only (HH.out.trans (cg.more fun k hk => .inr (by omega)))⟩
end Go.Proofs.Ytghemlokpfipoaa
