/-
  Copies by 'append([]T{}, x...)': laws, rows (l3Row, copyRow).
-/
import Derived.Test.YtjjmbldgemnhbaaYDP
import Derived.Deep.AppendSrc
import Derived.Deep.RegionHeld3
namespace Go.Proofs.Ytjjmbldgemnhbaa
open Go.ChangeShapes Go.WideShapes Go.ChangeAt Go.RowKit
set_option linter.unusedVariables false
set_option linter.unusedSimpArgs false
set_option maxRecDepth 100000

section
variable {P : Program} (w : World)
/-- An append of whatever slice (nil too) to an empty slice of the call's own that has no room: nothing that lay has turned. -/
theorem run_append_zero (t ty e : TypeId) (i : TypeInfo) (z : Value) (size bytes : Nat) (ht : P.underlying t = some (.slice e)) (hi : P.info? e = some i) (hz : i.zero = some z)
    (hsize : i.size = size) (hby : i.bytes = bytes) (hzs : z.cells.size = size) (hsz : 0 < size) (g : Nat) (hown : w.ownsRow 0 e size (.slice (some ⟨g, 0, none⟩) 0 0) 0 [])
    (A : Option Addr) (m c : Nat) (news : List Value) (hl : news.length = m * size) (hA : A = none → m = 0) (hnews : ∀ ad, A = some ad → ∀ j u, news[j]? = some u → w.cell? (ad.add j) = some u) (h1 : ∀ u ∈ news, u.oneCell' = true)
    (h63 : m ≤ maxLen) (hbytes : m * bytes ≤ 140737488355328) :
    ∃ v' w', (Builtin.append_ #[t, t] ty #[.slice (some ⟨g, 0, none⟩) 0 0, .slice A m c]).run P w = .ok v' w' ∧ w'.ownsRow 0 e size v' m news ∧ Later w w' ∧ (v'.ownBlock = some g ∨ v'.ownBlock = some w.heap.size) := by
  subst hsize
  subst hby
  by_cases hm : m = 0
  · subst hm
    have hn : news = [] := List.eq_nil_of_length_eq_zero (by omega)
    subst hn
    have hs : Src P i.size t (.slice A 0 c) 0 [] w := by
      cases A with
      | none => exact Src.ofNil w ht c
      | some ad => exact Src.ofSlice w ht ad 0 c [] (by simp) (by simp) (by simp)
    have hr := run_append_room_src (P := P) w t t ty e i ht hi g 0 0 0 _ 0 [] hs (by omega) (by simp) (by simp)
    exact ⟨_, _, hr, hown, Later.rfl' _, .inl rfl⟩
  · cases A with
    | none => exact absurd (hA rfl) hm
    | some ad =>
      have hsmall : m ≤ 9223372036854775807 := by simp only [maxLen] at h63; omega
      obtain ⟨v', w', hr, h2, _, _, h5⟩ := run_append_own_at (P := P) w 0 t ty e i z i.size i.bytes ht hi hz rfl rfl hzs hsz _ 0 [] hown ad m c news hl (hnews ad rfl) h1 (by omega) (by simpa using hbytes) (Nat.zero_le _)
      have hr2 := run_append_grow (P := P) w t ty e i z ht hi hz ⟨g, 0, none⟩ 0 0 [] (by simp) (by simp) ad m c news hl (hnews ad rfl) (by omega) (by omega) (growslice_fits (by omega) (by simpa using hbytes))
      rw [hr2] at hr
      simp only [Result.ok.injEq] at hr
      obtain ⟨rfl, rfl⟩ := hr
      refine ⟨_, _, hr2, by simpa using h2, (Later.rfl' w).drew.alloc _, .inr rfl⟩
end
theorem step_append_zero {P : Program} (w : World) {ops : Array Oper} {o : Oper} {a : Act} {K : Act → World → Prop} {Q : Exit → Act → World → Prop} {E : Prop} (hgd : o.guard = none) (s x : Operand) (t : TypeId)
    (ho : o.op = .call { callee := .builtin .append, args := #[s, x], argTypes := #[t, t] })
    (e : TypeId) (i : TypeInfo) (z : Value) (size bytes : Nat) (ht : P.underlying t = some (.slice e)) (hi : P.info? e = some i) (hz : i.zero = some z)
    (hsize : i.size = size) (hby : i.bytes = bytes) (hzs : z.cells.size = size) (hsz : 0 < size)
    (g : Nat) (hs : a.eval s = .slice (some ⟨g, 0, none⟩) 0 0) (hown : w.ownsRow 0 e size (.slice (some ⟨g, 0, none⟩) 0 0) 0 [])
    (A : Option Addr) (m c : Nat) (news : List Value) (hx : a.eval x = .slice A m c) (hl : news.length = m * size) (hA : A = none → m = 0) (hnews : ∀ ad, A = some ad → ∀ j u, news[j]? = some u → w.cell? (ad.add j) = some u) (h1 : ∀ u ∈ news, u.oneCell' = true)
    (h63 : m ≤ maxLen) (hbytes : m * bytes ≤ 140737488355328)
    (h : ∀ v' w', w'.ownsRow 0 e size v' m news → Later w w' → (v'.ownBlock = some g ∨ v'.ownBlock = some w.heap.size) → K (a.put o.dst v') w') :
    if Region.wanted o (yielded ops a.tmps) = true then Oper.wp P o a w K Q else E := by
  have hw : Region.wanted o (yielded ops a.tmps) = true := by simp [Region.wanted, hgd]
  rw [if_pos hw]
  obtain ⟨v', w', hr, h2, h3, h4⟩ := run_append_zero (P := P) w t o.type e i z size bytes ht hi hz hsize hby hzs hsz g hown A m c news hl hA hnews h1 h63 hbytes
  unfold Oper.wp execOp
  simp only [ho, resolve, invoke, builtin, Sem.run_bind, Sem.run_pure, Result.andThen_ok, List.map_toArray, List.map_cons, List.map_nil, hs, hx, hr]
  exact h v' w' h2 h3 h4
/-- At the list of a plain region's operations. -/
theorem wpList_append_zero {P : Program} (w : World) {ops : Array Oper} {rest : List Oper} {o : Oper} {a : Act} {Q : Exit → Act → World → Prop} (hgd : o.guard = none) (s x : Operand) (t : TypeId)
    (ho : o.op = .call { callee := .builtin .append, args := #[s, x], argTypes := #[t, t] })
    (e : TypeId) (i : TypeInfo) (z : Value) (size bytes : Nat) (ht : P.underlying t = some (.slice e)) (hi : P.info? e = some i) (hz : i.zero = some z)
    (hsize : i.size = size) (hby : i.bytes = bytes) (hzs : z.cells.size = size) (hsz : 0 < size)
    (g : Nat) (hs : a.eval s = .slice (some ⟨g, 0, none⟩) 0 0) (hown : w.ownsRow 0 e size (.slice (some ⟨g, 0, none⟩) 0 0) 0 [])
    (A : Option Addr) (m c : Nat) (news : List Value) (hx : a.eval x = .slice A m c) (hl : news.length = m * size) (hA : A = none → m = 0) (hnews : ∀ ad, A = some ad → ∀ j u, news[j]? = some u → w.cell? (ad.add j) = some u) (h1 : ∀ u ∈ news, u.oneCell' = true)
    (h63 : m ≤ maxLen) (hbytes : m * bytes ≤ 140737488355328)
    (h : ∀ v' w', w'.ownsRow 0 e size v' m news → Later w w' → (v'.ownBlock = some g ∨ v'.ownBlock = some w.heap.size) → wpList P ops Q rest (a.put o.dst v') w') : wpList P ops Q (o :: rest) a w :=
  wpList_plain hgd fun K hK => by
    obtain ⟨v', w', hr, h2, h3, h4⟩ := run_append_zero (P := P) w t o.type e i z size bytes ht hi hz hsize hby hzs hsz g hown A m c news hl hA hnews h1 h63 hbytes
    unfold Oper.wp execOp
    simp only [ho, resolve, invoke, builtin, Sem.run_bind, Sem.run_pure, Result.andThen_ok, List.map_toArray, List.map_cons, List.map_nil, hs, hx, hr]
    exact hK _ _ (h v' w' h2 h3 h4)
theorem fresh_own {w X : World} {e s g : Nat} (h : Later (X.alloc (.cells #[] e)) w) (hg : g = X.heap.size) : w.ownsRow 0 e s (.slice (some ⟨g, 0, none⟩) 0 0) 0 [] := by
  subst hg
  exact own_later (World.ownsRow_made X #[] 0 (Nat.zero_le _) (Nat.zero_le _) (by simp)) h

theorem at_one {w : World} {S : Nat → Prop} {d : Dt} {u : Value} (h : At w S d u) : u.oneCell' = true := by cases h <;> rfl
/-- The cells of a slice of leaves. -/
theorem leaf_cells2 {w : World} {S : Nat → Prop} {s n c : Nat} {A : Option Addr} {ds : List Dt} (h : At w S (.sl s n ds) (.slice A n c)) (hl : ∀ d, d ∈ ds → (∃ n, d = .int n) ∨ ∃ s, d = .str s) (h0 : 0 < s) :
    ∃ us : List Value, us.length = n * s ∧ (A = none → n = 0) ∧ (∀ W', Later w W' → ∀ ad, A = some ad → ∀ j u, us[j]? = some u → W'.cell? (ad.add j) = some u) ∧ (∀ u ∈ us, u.oneCell' = true) ∧
      (∀ W' base e v, W'.ownsRow base e s v n us → ∀ S' : Nat → Prop, (∀ g, v.ownBlock = some g → S' g) → Own W' S' (.sl s n ds) v) ∧ ∀ W' (p : Nat) d u, ds[p]? = some d → us[p]? = some u → Own W' (fun _ => False) d u := by
  cases h with
  | sl _ _ _ _ _ F hln hc hA hF =>
    have hel : ∀ W' (i : Nat) d u, ds[i]? = some d → ((List.range ds.length).map F)[i]? = some u → Own W' (fun _ => False) d u := fun W' i d u hd hu => by
      have hi : i < ds.length := (List.getElem?_eq_some_iff.1 hd).1
      rw [List.getElem?_map, List.getElem?_range hi] at hu
      simp only [Option.map_some, Option.some.injEq] at hu
      subst hu
      have ha := hF i d hd
      rcases hl d (List.mem_of_getElem? hd) with ⟨n, rfl⟩ | ⟨s, rfl⟩
      · obtain ⟨e, hb⟩ := ha.int_inv
        rw [e]
        exact .int _ _ hb
      · obtain ⟨e, hb⟩ := ha.str_inv
        rw [e]
        exact .str _ _ hb
    refine ⟨(List.range ds.length).map F, by simpa using hln, fun e => ?_, fun W' hW ad e j u hu => ?_, fun u hu => ?_, fun W' base e v ho S' hS => ?_, hel⟩
    · by_cases hd : ds = []
      · subst hd
        simp only [List.length_nil] at hln
        rcases Nat.eq_zero_or_pos n with h | h
        · exact h
        · have := Nat.mul_pos h h0
          omega
      · obtain ⟨b, off, e2, _⟩ := hA hd
        rw [e] at e2
        cases e2
    · have hj : j < ds.length := by have := (List.getElem?_eq_some_iff.1 hu).1; simpa using this
      have hu2 : u = F j := by rw [List.getElem?_map, List.getElem?_range hj] at hu; simpa using hu.symm
      obtain ⟨b, off, e2, _, _, hcell⟩ := hA (by intro h; rw [h] at hj; simp at hj)
      rw [e] at e2
      simp only [Option.some.injEq] at e2
      subst e2
      rw [add_lit, hu2]
      exact kept_cell hW (hcell j hj)
    · obtain ⟨j, hj, rfl⟩ := List.mem_map.1 hu
      rw [List.mem_range] at hj
      exact at_one (hF j _ (List.getElem?_eq_getElem hj))
    · exact Own.of_row noB ho hln (fun g hg => ⟨hS g hg, fun _ h => h⟩) (fun _ _ h => False.elim h) (fun _ _ _ _ h => False.elim h) (fun i d u hd hu => hel W' i d u hd hu)
theorem leaf_cells {w : World} {S : Nat → Prop} {s n c : Nat} {A : Option Addr} {ds : List Dt} (h : At w S (.sl s n ds) (.slice A n c)) (hl : ∀ d, d ∈ ds → (∃ n, d = .int n) ∨ ∃ s, d = .str s) (h0 : 0 < s) :
    ∃ us : List Value, us.length = n * s ∧ (A = none → n = 0) ∧ (∀ W', Later w W' → ∀ ad, A = some ad → ∀ j u, us[j]? = some u → W'.cell? (ad.add j) = some u) ∧ (∀ u ∈ us, u.oneCell' = true) ∧
      ∀ W' base e v, W'.ownsRow base e s v n us → ∀ S' : Nat → Prop, (∀ g, v.ownBlock = some g → S' g) → Own W' S' (.sl s n ds) v := by
  obtain ⟨us, h1, h2, h3, h4, h5, _⟩ := leaf_cells2 h hl h0
  exact ⟨us, h1, h2, h3, h4, h5⟩
theorem leaf_I {l : List Int} : ∀ d, d ∈ l.flatMap encI → (∃ n, d = .int n) ∨ ∃ s, d = .str s := fun d hd => by
  obtain ⟨x, _, hx⟩ := List.mem_flatMap.1 hd
  simp only [encI, List.mem_singleton] at hx
  exact .inl ⟨_, hx⟩
theorem leaf_O {l : List Org} : ∀ d, d ∈ l.flatMap encO → (∃ n, d = .int n) ∨ ∃ s, d = .str s := fun d hd => by
  obtain ⟨x, _, hx⟩ := List.mem_flatMap.1 hd
  simp only [encO, List.mem_cons, List.not_mem_nil, or_false] at hx
  rcases hx with hx | hx <;> exact .inl ⟨_, hx⟩
theorem leaf_S {l : List ByteArray} : ∀ d, d ∈ l.flatMap encS → (∃ n, d = .int n) ∨ ∃ s, d = .str s := fun d hd => by
  obtain ⟨x, _, hx⟩ := List.mem_flatMap.1 hd
  simp only [encS, List.mem_singleton] at hx
  exact .inr ⟨_, hx⟩

/-- What l3Row and copyRow return: the same row, in memory of its own. -/
def RowOut (W w' : World) (x : Rw) (r : Ending) : Prop := ∃ A1 c1 A2 c2, r = .returned (.agg #[.slice A1 x.cells.length c1, .slice A2 x.from_.length c2]) ∧ Owns w' (fun b => W.heap.size ≤ b ∧ b < w'.heap.size) (encR x) [.slice A1 x.cells.length c1, .slice A2 x.from_.length c2]
def BoxEx (w : World) (g : Nat) : Prop := ∃ a b, Box w g [a, b]
/-- Holds at every world of the region. -/
def HoldR (W w : World) (a b : Value) : Prop := Later W w ∧ w.cell? ⟨W.heap.size, 0, none⟩ = some a ∧ w.cell? ⟨W.heap.size, 1, none⟩ = some b ∧ BoxEx w (W.heap.size + 1)
theorem holdA {W Y : World} {a b : Value} (h : HoldR W Y a b) {Z : World} (hb : Later Y Z) : HoldR W Z a b :=
  ⟨h.1.trans hb, kept_cell hb h.2.1, kept_cell hb h.2.2.1, by obtain ⟨p, q, h⟩ := h.2.2.2; exact ⟨p, q, h.later hb⟩⟩
theorem holdS {W Y : World} {a b : Value} (h : HoldR W Y a b) (x y : Value) : HoldR W (setFrom Y (W.heap.size + 1) 0 [x, y]) a b := by
  have hb := block_setFrom (g := W.heap.size + 1) (b := W.heap.size) (by omega) [x, y] Y 0
  refine ⟨later_setFrom (by omega) _ _ _ h.1, (World.cell?_of_block hb).trans h.2.1, (World.cell?_of_block hb).trans h.2.2.1, ?_⟩
  obtain ⟨p, q, h⟩ := h.2.2.2
  exact ⟨_, _, (h.set 0 x).set 1 y⟩
theorem box_facts {W Y : World} {a b : Value} (h : HoldR W Y a b) {Z : World} (hb : Later Y Z) : ∃ p q, Z.cell? ⟨W.heap.size + 1, 0, none⟩ = some p ∧ Z.cell? ⟨W.heap.size + 1, 1, none⟩ = some q ∧ Z.frozen? ⟨W.heap.size + 1, 0, none⟩ = false ∧ Z.frozen? ⟨W.heap.size + 1, 1, none⟩ = false := by
  obtain ⟨p, q, h⟩ := h.2.2.2
  have h := h.later hb
  exact ⟨p, q, h.cell rfl, h.cell rfl, h.free 0, h.free 1⟩
theorem row_done {W w4 : World} {x : Rw} {v1 v2 : Value} {us vs : List Value} {e1 e2 : Nat} (ho1 : w4.ownsRow 0 e1 1 v1 x.cells.length us) (ho2 : w4.ownsRow 0 e2 2 v2 x.from_.length vs)
    (m1 : ∀ W' base e v, W'.ownsRow base e 1 v x.cells.length us → ∀ S' : Nat → Prop, (∀ g, v.ownBlock = some g → S' g) → Own W' S' (.sl 1 x.cells.length (x.cells.flatMap encI)) v)
    (m2 : ∀ W' base e v, W'.ownsRow base e 2 v x.from_.length vs → ∀ S' : Nat → Prop, (∀ g, v.ownBlock = some g → S' g) → Own W' S' (.sl 2 x.from_.length (x.from_.flatMap encO)) v)
    (hv1 : ∀ g, v1.ownBlock = some g → W.heap.size + 2 ≤ g) (hv2 : ∀ g, v2.ownBlock = some g → W.heap.size + 2 ≤ g) (hne : ∀ g, v1.ownBlock = some g → v2.ownBlock = some g → False) (ws : List Value) :
    (∃ A1 c1 A2 c2, v1 = .slice A1 x.cells.length c1 ∧ v2 = .slice A2 x.from_.length c2) ∧ Owns (setFrom w4 (W.heap.size + 1) 0 ws) (fun b => W.heap.size ≤ b ∧ b < (setFrom w4 (W.heap.size + 1) 0 ws).heap.size) (encR x) [v1, v2] := by
  have o1 := m1 _ _ _ _ ho1 (fun b => v1.ownBlock = some b) fun g h => h
  have o2 := m2 _ _ _ _ ho2 (fun b => v2.ownBlock = some b) fun g h => h
  obtain ⟨A1, c1, rfl, _⟩ := row_shape ho1
  obtain ⟨A2, c2, rfl, _⟩ := row_shape ho2
  have c := chg_setFrom (g := W.heap.size + 1) ws w4 0
  have q1 := o1.low.chg c fun b h e => by have := hv1 b h.1; omega
  have q2 := o2.low.chg c fun b h e => by have := hv2 b h.1; omega
  refine ⟨⟨_, _, _, _, rfl, rfl⟩, ?_⟩
  refine Owns.cons q1 (Owns.cons q2 (owns_nil _ (fun _ => False)) (fun b h => h) (fun b h => False.elim h) (fun b _ h => h)) (fun b h => ?_) (fun b h => ?_) (fun b h1 h2 => hne b h1.1 h2.1)
  · have := hv1 b h.1; rw [size_setFrom]; exact ⟨by omega, h.2⟩
  · have := hv2 b h.1; rw [size_setFrom]; exact ⟨by omega, h.2⟩


end Go.Proofs.Ytjjmbldgemnhbaa
