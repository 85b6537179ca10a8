/-
  LengthOf: the walks.
-/
import Derived.Test.YtefhaochkfodnaaQ1
namespace Go.Proofs.Ytefhaochkfodnaa
open Go.ChangeShapes Go.WideShapes Go.ChangeAt Go.RowKit
set_option linter.unusedVariables false
set_option linter.unusedSimpArgs false
set_option maxRecDepth 100000

def Vl.text : Vl → ByteArray | .mk _ _ _ t _ _ _ => t
theorem one_sl {w : World} {S : Nat → Prop} {d : Vl} {cs : List Value} {g : Nat} (h : Ats w S (encV d) cs) (B : Box w g cs) : SlAt w anyB 7 encV [d] (.slice (some ⟨g, 0, none⟩) 1 1) := by
  have e : [d].flatMap encV = encV d := by simp
  refine At.make (by rw [flat_len encV_len]) (Nat.le_refl _) (by simp) fun _ => ⟨g, 0, rfl, B.lt, trivial, fun i dd hd => ?_⟩
  rw [e] at hd
  obtain ⟨c, hc, ha⟩ := h.at_ hd
  exact ⟨c, by rw [Nat.zero_add]; exact B.cell hc, ha.any⟩
theorem cells_one {w : World} {cs ys : List Value} {g j : Nat} (h7 : cs.length = 7) (B : Box w g cs) (hj : j = 0) (h : CellsAt w (.slice (some ⟨g, 0, none⟩) 1 1) (j * 7) ys) : ys = cs := by
  subst hj
  obtain ⟨b, off, m, c, e, hl, hc⟩ := h
  simp only [Value.slice.injEq, Option.some.injEq, Addr.mk.injEq, and_true] at e
  obtain ⟨⟨rfl, rfl⟩, _⟩ := e
  refine List.ext_getElem? fun i => ?_
  by_cases hi : i < 7
  · have h1 := hc i hi
    have h2 : cs[i]? = some (cs[i]'(by omega)) := List.getElem?_eq_getElem _
    have h3 := B.cell h2
    simp only [Nat.zero_mul, Nat.zero_add] at h1
    rw [← h1, h2]
    exact h3
  · rw [List.getElem?_eq_none (by omega), List.getElem?_eq_none (by omega)]
/-- An answer without slices, or the argument itself, which has none. -/
def Al (d K : Vl) (cs cs' : List Value) : Prop :=
  (∃ k n s t, K = leafD k n s t ∧ Between64 k ∧ Between64 n ∧ Between64 s ∧ t.size ≤ 9223372036854775807 ∧ cs' = [.int .i64 k, .int .i64 n, .int .i64 s, .string t, .slice none 0 0, .slice none 0 0, .slice none 0 0]) ∨
  (cs' = cs ∧ K = d ∧ ∃ k n s t, d = leafD k n s t)
theorem al_owns {w : World} {S : Nat → Prop} {d K : Vl} {cs cs' : List Value} (h : Al d K cs cs') (o : Owns w S (encV d) cs) : Owns w S (encV K) cs' := by
  rcases h with ⟨k, n, s, t, rfl, h1, h2, h3, h4, rfl⟩ | ⟨rfl, rfl, _⟩
  · exact owns_leafV w S h1 h2 h3 h4
  · exact o
theorem al_marks {w : World} {S : Nat → Prop} {d K : Vl} {m : Nat} {cs cs' : List Value} (h : Al d K cs cs') (o : Owns w S (d.topM m) cs) : Owns w S (encV K) cs' := by
  rcases h with ⟨k, n, s, t, rfl, h1, h2, h3, h4, rfl⟩ | ⟨rfl, rfl, k, n, s, t, rfl⟩
  · exact owns_leafV w S h1 h2 h3 h4
  · exact o
def lenA (E : Option Int) (k ln tn : Int) : Vl := match E with | some n => leafD 6 n 0 ⟨#[]⟩ | none => if k = 3 then leafD 1 ln 0 ⟨#[]⟩ else if k = 2 then leafD 1 tn 0 ⟨#[]⟩ else leafD 6 4 0 ⟨#[]⟩
def lenD (d : Vl) : Vl := lenA (errOf d) d.kind (d.list.length : Int) (d.text.size : Int)
theorem first_one (d : Vl) : firstE [d] = errOf d := by
  unfold firstE
  rw [List.findSome?_cons]
  cases errOf d <;> rfl


set_option maxHeartbeats 3000000 in
theorem specLengthOf (d : Vl) (hcost : d.cost ≤ 1099511627776) (W : World) (S : Nat → Prop) (cs : List Value) (h : Owns W S (encV d) cs) : Calls Try.prog 29 #[.agg cs.toArray] W fun r w' => (∃ x0 x1 x2 x3 X1 m1 e1 X2 m2 e2 X3 m3 e3, r = .returned (.agg #[.int .i64 x0, .int .i64 x1, .int .i64 x2, .string x3, .slice X1 m1 e1, .slice X2 m2 e2, .slice X3 m3 e3]) ∧ Al d (lenD d) cs [.int .i64 x0, .int .i64 x1, .int .i64 x2, .string x3, .slice X1 m1 e1, .slice X2 m2 e2, .slice X3 m3 e3]) ∧ Later W w' := by
  have hx := h.ats
  have hone := first_one d
  have C := fun w' g (hB : Box w' g cs) (hl : Later W w') => specFirst [d] (fun x hx => by rw [List.mem_singleton.1 hx]; exact hcost) w' anyB _ (one_sl (hx.later hl) hB)
  have hcell : ∀ w' g j ys, Box w' g cs → j = 0 → CellsAt w' (.slice (some ⟨g, 0, none⟩) 1 1) (j * 7) ys → ys = cs := fun w' g j ys hB hj hc => cells_one (by rw [hx.len, encV_len]) hB hj hc
  have herr6 : ∀ n, errOf d = some n → n = 4 ∨ n = d.n := fun n e => by
    unfold errOf at e
    split at e
    · split at e
      · right; cases e; rfl
      · cases e
    · left; cases e; rfl
  obtain ⟨k, n, s, t, l, cl, r, hd⟩ := Vl.shape d
  obtain ⟨A1, c1, A2, c2, A3, c3, rfl, hb4, ⟨p1, q1⟩, ⟨p2, q2⟩, ⟨p3, q3⟩, _⟩ := (hd ▸ hx : Ats W S (encV (.mk k n s t l cl r)) cs).val
  have hb : l.length ≤ 1099511627776 ∧ t.size ≤ 1099511627776 := by rw [hd, Vl.cost_mk] at hcost; omega
  have hbn := hb4.2.1
  have hdn : d.n = n := by rw [hd]; rfl
  have hdk : d.kind = k := by rw [hd]; rfl
  have hdl : d.list = l := by rw [hd]; rfl
  have hdt : d.text = t := by rw [hd]; rfl
  rw [hdn] at herr6
  have HB := Lib.hid hb; have HBN := Lib.hid hbn; have HE6 := Lib.hid herr6; have HCELL := Lib.hid hcell
  obtain ⟨E, hE⟩ : ∃ E, E = errOf d := ⟨_, rfl⟩
  have hlen : lenD d = lenA E k (l.length : Int) (t.size : Int) := by unfold lenD; rw [← hE, hdk, hdl, hdt]
  rw [hone, ← hE] at C
  rw [← hE] at herr6
  clear hone hcost hb hbn hcell hb4 hx h
  cases E with
  | some m =>
    simp only [Option.isSome_some] at C
    simp only [lenA] at hlen
    have HD := Lib.hid hlen
    have HBM : Hid (Between64 m) := by rcases herr6 m rfl with e | e <;> rw [e]; exact between_lit (by omega) (by omega); exact HBN.out
    have HEE := Lib.hid hE
    have HHD := Lib.hid hd
    simp only [firstV] at C
    unfold leafA at C
    have HAL : Hid (Al d (lenD d) ([.int .i64 k, .int .i64 n, .int .i64 s, .string t, .slice A1 l.length c1, .slice A2 cl.length c2, .slice A3 r.length c3] : List Value) [.int .i64 6, .int .i64 m, .int .i64 0, .string ⟨#[]⟩, .slice none 0 0, .slice none 0 0, .slice none 0 0]) := by unfold Hid; rw [HD.out]; exact .inl ⟨_, _, _, _, rfl, between_lit (by omega) (by omega), HBM.out, between_lit (by omega) (by omega), by decide, rfl⟩
    have HC := Lib.hid C
    clear C hlen herr6 hE hd hdn hdk hdl hdt HE6
    go_enter Try.func29, Try.ntmps29
    go_wp2_with fail
    refine (HC.out _ _ (box3 (Later.rfl' _)).2.2.1 ((((Later.rfl' _).alloc _).alloc _).alloc _)).mono ?_; rintro e w1 ⟨rfl, hb1⟩
    obtain ⟨P, R0, B, hs, L0⟩ := box3 hb1
    have R := R0.later ((Later.rfl' _).alloc (.cells #[.int .i64 6, .int .i64 m, .int .i64 0, .string ⟨#[]⟩, .slice none 0 0, .slice none 0 0, .slice none 0 0] 35))
    have L := Lib.hid L0
    clear P B hs hb1 L0 R0 HC HB HBN HCELL
    have r0 := R.cell (j := 0) rfl
    have f0 := R.free 0
    have r1 := R.cell (j := 1) rfl
    have f1 := R.free 1
    have r2 := R.cell (j := 2) rfl
    have f2 := R.free 2
    have r3 := R.cell (j := 3) rfl
    have f3 := R.free 3
    have r4 := R.cell (j := 4) rfl
    have f4 := R.free 4
    have r5 := R.cell (j := 5) rfl
    have f5 := R.free 5
    have r6 := R.cell (j := 6) rfl
    have f6 := R.free 6
    clear R
    go_wp2_with fail
    exact bodyPost_ret (v := leafA 6 m 0 ⟨#[]⟩) (by simp [results, Try.results29, go_sem, leafA, r0, r1, r2, r3, r4, r5, r6]) rfl ⟨⟨6, m, 0, ⟨#[]⟩, none, 0, 0, none, 0, 0, none, 0, 0, rfl, HAL.out⟩, later_setFrom (Nat.le_succ _) [.int .i64 6, .int .i64 m, .int .i64 0, .string ⟨#[]⟩, .slice none 0 0, .slice none 0 0, .slice none 0 0] _ 0 (L.out.alloc _)⟩
  | none =>
    simp only [Option.isSome_none] at C
    simp only [lenA] at hlen
    have HC := Lib.hid C
    have HLEN := Lib.hid hlen
    clear C hlen herr6 hE hd hdn hdk hdl hdt HE6
    go_enter Try.func29, Try.ntmps29
    go_wp2_with fail
    refine (HC.out _ _ (box3 (Later.rfl' _)).2.2.1 ((((Later.rfl' _).alloc _).alloc _).alloc _)).mono ?_; rintro e w1 ⟨rfl, hb1⟩
    unfold firstV leafA
    obtain ⟨P, R, B, hs, L⟩ := box3 hb1
    have b0 := P.cell (j := 0) rfl
    have b3 := P.cell (j := 3) rfl
    have b4 := P.cell (j := 4) rfl
    have pz := P.lt
    have RB := Lib.hid R
    have HL := Lib.hid L
    have rz0 := R.lt
    clear hb1 P R B hs L
    by_cases k3 : k = 3
    · subst k3
      have HD : Hid (lenD d = leafD 1 (l.length : Int) 0 ⟨#[]⟩) := HLEN.out
      have HAL : Hid (Al d (lenD d) ([.int .i64 3, .int .i64 n, .int .i64 s, .string t, .slice A1 l.length c1, .slice A2 cl.length c2, .slice A3 r.length c3] : List Value) [.int .i64 1, .int .i64 (l.length : Int), .int .i64 0, .string ⟨#[]⟩, .slice none 0 0, .slice none 0 0, .slice none 0 0]) := by unfold Hid; rw [HD.out]; exact .inl ⟨_, _, _, _, rfl, between_lit (by omega) (by omega), (by have := HB.out; exact between_lit (by omega) (by omega)), between_lit (by omega) (by omega), by decide, rfl⟩
      go_wp2_with fail
      refine (specNumberValue (l.length : Int) _).mono ?_; rintro e w2 ⟨rfl, hb2⟩
      unfold leafA
      have R := ((RB.out.later ((Later.rfl' _).alloc _)).later hb2)
      have L := Lib.hid ((HL.out.alloc _).trans hb2)
      clear hb2 b0 b3 b4 pz rz0
      have r0 := R.cell (j := 0) rfl
      have f0 := R.free 0
      have r1 := R.cell (j := 1) rfl
      have f1 := R.free 1
      have r2 := R.cell (j := 2) rfl
      have f2 := R.free 2
      have r3 := R.cell (j := 3) rfl
      have f3 := R.free 3
      have r4 := R.cell (j := 4) rfl
      have f4 := R.free 4
      have r5 := R.cell (j := 5) rfl
      have f5 := R.free 5
      have r6 := R.cell (j := 6) rfl
      have f6 := R.free 6
      have rz := R.lt
      clear R
      go_wp2_with fail
      exact bodyPost_ret (v := leafA 1 (l.length : Int) 0 ⟨#[]⟩) (by simp [results, Try.results29, go_sem, leafA, r0, r1, r2, r3, r4, r5, r6]) rfl ⟨⟨1, (l.length : Int), 0, ⟨#[]⟩, none, 0, 0, none, 0, 0, none, 0, 0, rfl, HAL.out⟩, later_setFrom (Nat.le_succ _) [.int .i64 1, .int .i64 (l.length : Int), .int .i64 0, .string ⟨#[]⟩, .slice none 0 0, .slice none 0 0, .slice none 0 0] _ 0 L.out⟩
    by_cases k2 : k = 2
    · subst k2
      have HD : Hid (lenD d = leafD 1 (t.size : Int) 0 ⟨#[]⟩) := HLEN.out
      have HAL : Hid (Al d (lenD d) ([.int .i64 2, .int .i64 n, .int .i64 s, .string t, .slice A1 l.length c1, .slice A2 cl.length c2, .slice A3 r.length c3] : List Value) [.int .i64 1, .int .i64 (t.size : Int), .int .i64 0, .string ⟨#[]⟩, .slice none 0 0, .slice none 0 0, .slice none 0 0]) := by unfold Hid; rw [HD.out]; exact .inl ⟨_, _, _, _, rfl, between_lit (by omega) (by omega), (by have := HB.out; exact between_lit (by omega) (by omega)), between_lit (by omega) (by omega), by decide, rfl⟩
      go_wp2_with fail
      refine (specNumberValue (t.size : Int) _).mono ?_; rintro e w2 ⟨rfl, hb2⟩
      unfold leafA
      have R := ((RB.out.later ((Later.rfl' _).alloc _)).later hb2)
      have L := Lib.hid ((HL.out.alloc _).trans hb2)
      clear hb2 b0 b3 b4 pz rz0
      have r0 := R.cell (j := 0) rfl
      have f0 := R.free 0
      have r1 := R.cell (j := 1) rfl
      have f1 := R.free 1
      have r2 := R.cell (j := 2) rfl
      have f2 := R.free 2
      have r3 := R.cell (j := 3) rfl
      have f3 := R.free 3
      have r4 := R.cell (j := 4) rfl
      have f4 := R.free 4
      have r5 := R.cell (j := 5) rfl
      have f5 := R.free 5
      have r6 := R.cell (j := 6) rfl
      have f6 := R.free 6
      have rz := R.lt
      clear R
      go_wp2_with fail
      exact bodyPost_ret (v := leafA 1 (t.size : Int) 0 ⟨#[]⟩) (by simp [results, Try.results29, go_sem, leafA, r0, r1, r2, r3, r4, r5, r6]) rfl ⟨⟨1, (t.size : Int), 0, ⟨#[]⟩, none, 0, 0, none, 0, 0, none, 0, 0, rfl, HAL.out⟩, later_setFrom (Nat.le_succ _) [.int .i64 1, .int .i64 (t.size : Int), .int .i64 0, .string ⟨#[]⟩, .slice none 0 0, .slice none 0 0, .slice none 0 0] _ 0 L.out⟩
    have HD : Hid (lenD d = leafD 6 4 0 ⟨#[]⟩) := by have := HLEN.out; simp only [k3, k2, if_false] at this; exact this
    have e3 : (k == 3) = false := by simpa using k3
    have e2 : (k == 2) = false := by simpa using k2
    clear k3 k2
    have HAL : Hid (Al d (lenD d) ([.int .i64 k, .int .i64 n, .int .i64 s, .string t, .slice A1 l.length c1, .slice A2 cl.length c2, .slice A3 r.length c3] : List Value) [.int .i64 6, .int .i64 4, .int .i64 0, .string ⟨#[]⟩, .slice none 0 0, .slice none 0 0, .slice none 0 0]) := by unfold Hid; rw [HD.out]; exact .inl ⟨_, _, _, _, rfl, between_lit (by omega) (by omega), between_lit (by omega) (by omega), between_lit (by omega) (by omega), by decide, rfl⟩
    go_wp2_with fail
    refine (specErrorValue 4 _).mono ?_; rintro e w2 ⟨rfl, hb2⟩
    unfold leafA
    have R := ((RB.out.later ((Later.rfl' _).alloc _)).later hb2)
    have L := Lib.hid ((HL.out.alloc _).trans hb2)
    clear hb2 b0 b3 b4 pz rz0
    have r0 := R.cell (j := 0) rfl
    have f0 := R.free 0
    have r1 := R.cell (j := 1) rfl
    have f1 := R.free 1
    have r2 := R.cell (j := 2) rfl
    have f2 := R.free 2
    have r3 := R.cell (j := 3) rfl
    have f3 := R.free 3
    have r4 := R.cell (j := 4) rfl
    have f4 := R.free 4
    have r5 := R.cell (j := 5) rfl
    have f5 := R.free 5
    have r6 := R.cell (j := 6) rfl
    have f6 := R.free 6
    have rz := R.lt
    clear R
    go_wp2_with fail
    exact bodyPost_ret (v := leafA 6 4 0 ⟨#[]⟩) (by simp [results, Try.results29, go_sem, leafA, r0, r1, r2, r3, r4, r5, r6]) rfl ⟨⟨6, 4, 0, ⟨#[]⟩, none, 0, 0, none, 0, 0, none, 0, 0, rfl, HAL.out⟩, later_setFrom (Nat.le_succ _) [.int .i64 6, .int .i64 4, .int .i64 0, .string ⟨#[]⟩, .slice none 0 0, .slice none 0 0, .slice none 0 0] _ 0 L.out⟩

set_option maxHeartbeats 3000000 in
theorem implLengthOf (d : Vl) (hcost : d.cost ≤ 1099511627776) (W : World) (S : Nat → Prop) (cs : List Value) (h : Owns W S (encV d) cs) : Calls Try.prog 30 #[.agg cs.toArray] W fun r w' => (∃ x0 x1 x2 x3 X1 m1 e1 X2 m2 e2 X3 m3 e3, r = .returned (.agg #[.int .i64 x0, .int .i64 x1, .int .i64 x2, .string x3, .slice X1 m1 e1, .slice X2 m2 e2, .slice X3 m3 e3]) ∧ Al d (lenD d) cs [.int .i64 x0, .int .i64 x1, .int .i64 x2, .string x3, .slice X1 m1 e1, .slice X2 m2 e2, .slice X3 m3 e3]) ∧ Later W w' := by
  have hx := h.ats
  have hone := first_one d
  have C := fun w' g (hB : Box w' g cs) (hl : Later W w') => implFirst [d] (fun x hx => by rw [List.mem_singleton.1 hx]; exact hcost) w' anyB _ (one_sl (hx.later hl) hB)
  have hcell : ∀ w' g j ys, Box w' g cs → j = 0 → CellsAt w' (.slice (some ⟨g, 0, none⟩) 1 1) (j * 7) ys → ys = cs := fun w' g j ys hB hj hc => cells_one (by rw [hx.len, encV_len]) hB hj hc
  have herr6 : ∀ n, errOf d = some n → n = 4 ∨ n = d.n := fun n e => by
    unfold errOf at e
    split at e
    · split at e
      · right; cases e; rfl
      · cases e
    · left; cases e; rfl
  obtain ⟨k, n, s, t, l, cl, r, hd⟩ := Vl.shape d
  obtain ⟨A1, c1, A2, c2, A3, c3, rfl, hb4, ⟨p1, q1⟩, ⟨p2, q2⟩, ⟨p3, q3⟩, _⟩ := (hd ▸ hx : Ats W S (encV (.mk k n s t l cl r)) cs).val
  have hb : l.length ≤ 1099511627776 ∧ t.size ≤ 1099511627776 := by rw [hd, Vl.cost_mk] at hcost; omega
  have hbn := hb4.2.1
  have hdn : d.n = n := by rw [hd]; rfl
  have hdk : d.kind = k := by rw [hd]; rfl
  have hdl : d.list = l := by rw [hd]; rfl
  have hdt : d.text = t := by rw [hd]; rfl
  rw [hdn] at herr6
  have HB := Lib.hid hb; have HBN := Lib.hid hbn; have HE6 := Lib.hid herr6; have HCELL := Lib.hid hcell
  obtain ⟨E, hE⟩ : ∃ E, E = errOf d := ⟨_, rfl⟩
  have hlen : lenD d = lenA E k (l.length : Int) (t.size : Int) := by unfold lenD; rw [← hE, hdk, hdl, hdt]
  rw [hone, ← hE] at C
  rw [← hE] at herr6
  clear hone hcost hb hbn hcell hb4 hx h
  cases E with
  | some m =>
    simp only [Option.isSome_some] at C
    simp only [lenA] at hlen
    have HD := Lib.hid hlen
    have HBM : Hid (Between64 m) := by rcases herr6 m rfl with e | e <;> rw [e]; exact between_lit (by omega) (by omega); exact HBN.out
    have HEE := Lib.hid hE
    have HHD := Lib.hid hd
    skip
    have HAL : Hid (Al d (lenD d) ([.int .i64 k, .int .i64 n, .int .i64 s, .string t, .slice A1 l.length c1, .slice A2 cl.length c2, .slice A3 r.length c3] : List Value) [.int .i64 6, .int .i64 m, .int .i64 0, .string ⟨#[]⟩, .slice none 0 0, .slice none 0 0, .slice none 0 0]) := by unfold Hid; rw [HD.out]; exact .inl ⟨_, _, _, _, rfl, between_lit (by omega) (by omega), HBM.out, between_lit (by omega) (by omega), by decide, rfl⟩
    have HC := Lib.hid C
    clear C hlen herr6 hE hd hdn hdk hdl hdt HE6
    go_enter Try.func30, Try.ntmps30
    go_wp2_with fail
    refine (HC.out _ _ (box3 (Later.rfl' _)).2.2.1 ((((Later.rfl' _).alloc _).alloc _).alloc _)).mono ?_; rintro e w1 ⟨⟨a, rfl, hres⟩, hb1⟩
    obtain ⟨P, R0, B, hs, L0⟩ := box3 hb1
    have L := Lib.hid L0
    clear P B hs hb1 L0 HC HB HBN
    rcases hres with rfl | ⟨j, hj, ys, rfl, hlf, hcs⟩
    · unfold leafA
      have R := R0.later ((Later.rfl' _).alloc (.cells #[.int .i64 6, .int .i64 m, .int .i64 0, .string ⟨#[]⟩, .slice none 0 0, .slice none 0 0, .slice none 0 0] 35))
      clear R0 HCELL
      have r0 := R.cell (j := 0) rfl
      have f0 := R.free 0
      have r1 := R.cell (j := 1) rfl
      have f1 := R.free 1
      have r2 := R.cell (j := 2) rfl
      have f2 := R.free 2
      have r3 := R.cell (j := 3) rfl
      have f3 := R.free 3
      have r4 := R.cell (j := 4) rfl
      have f4 := R.free 4
      have r5 := R.cell (j := 5) rfl
      have f5 := R.free 5
      have r6 := R.cell (j := 6) rfl
      have f6 := R.free 6
      clear R
      go_wp2_with fail
      exact bodyPost_ret (v := leafA 6 m 0 ⟨#[]⟩) (by simp [results, Try.results30, go_sem, leafA, r0, r1, r2, r3, r4, r5, r6]) rfl ⟨⟨6, m, 0, ⟨#[]⟩, none, 0, 0, none, 0, 0, none, 0, 0, rfl, HAL.out⟩, later_setFrom (Nat.le_succ _) [.int .i64 6, .int .i64 m, .int .i64 0, .string ⟨#[]⟩, .slice none 0 0, .slice none 0 0, .slice none 0 0] _ 0 (L.out.alloc _)⟩
    · have hys := HCELL.out _ _ _ _ (box3 (Later.rfl' _)).2.2.1 (by simpa using hj) hcs
      subst hys
      have HK : Hid (d = leafD 6 m 0 ⟨#[]⟩) := by have hj0 : j = 0 := by simpa using hj
                                                  subst hj0; exact hlf
      have R := R0.later ((Later.rfl' _).alloc (.cells #[.int .i64 k, .int .i64 n, .int .i64 s, .string t, .slice A1 l.length c1, .slice A2 cl.length c2, .slice A3 r.length c3] 35))
      clear hcs hlf hj R0 HCELL
      have r0 := R.cell (j := 0) rfl
      have f0 := R.free 0
      have r1 := R.cell (j := 1) rfl
      have f1 := R.free 1
      have r2 := R.cell (j := 2) rfl
      have f2 := R.free 2
      have r3 := R.cell (j := 3) rfl
      have f3 := R.free 3
      have r4 := R.cell (j := 4) rfl
      have f4 := R.free 4
      have r5 := R.cell (j := 5) rfl
      have f5 := R.free 5
      have r6 := R.cell (j := 6) rfl
      have f6 := R.free 6
      clear R
      go_wp2_with fail
      exact bodyPost_ret (v := .agg #[.int .i64 k, .int .i64 n, .int .i64 s, .string t, .slice A1 l.length c1, .slice A2 cl.length c2, .slice A3 r.length c3]) (by simp [results, Try.results30, go_sem, r0, r1, r2, r3, r4, r5, r6]) rfl ⟨⟨_, _, _, _, _, _, _, _, _, _, _, _, _, rfl, .inr ⟨rfl, by rw [HD.out, HK.out], _, _, _, _, HK.out⟩⟩, later_setFrom (Nat.le_succ _) [.int .i64 k, .int .i64 n, .int .i64 s, .string t, .slice A1 l.length c1, .slice A2 cl.length c2, .slice A3 r.length c3] _ 0 (L.out.alloc _)⟩
  | none =>
    simp only [Option.isSome_none] at C
    simp only [lenA] at hlen
    have HC := Lib.hid C
    have HLEN := Lib.hid hlen
    clear C hlen herr6 hE hd hdn hdk hdl hdt HE6
    go_enter Try.func30, Try.ntmps30
    go_wp2_with fail
    refine (HC.out _ _ (box3 (Later.rfl' _)).2.2.1 ((((Later.rfl' _).alloc _).alloc _).alloc _)).mono ?_; rintro e w1 ⟨⟨a, rfl, hres⟩, hb1⟩
    simp only [ErrRes] at hres
    subst hres
    unfold leafA
    obtain ⟨P, R, B, hs, L⟩ := box3 hb1
    have b0 := P.cell (j := 0) rfl
    have b3 := P.cell (j := 3) rfl
    have b4 := P.cell (j := 4) rfl
    have pz := P.lt
    have RB := Lib.hid R
    have HL := Lib.hid L
    have rz0 := R.lt
    clear hb1 P R B hs L
    by_cases k3 : k = 3
    · subst k3
      have HD : Hid (lenD d = leafD 1 (l.length : Int) 0 ⟨#[]⟩) := HLEN.out
      have HAL : Hid (Al d (lenD d) ([.int .i64 3, .int .i64 n, .int .i64 s, .string t, .slice A1 l.length c1, .slice A2 cl.length c2, .slice A3 r.length c3] : List Value) [.int .i64 1, .int .i64 (l.length : Int), .int .i64 0, .string ⟨#[]⟩, .slice none 0 0, .slice none 0 0, .slice none 0 0]) := by unfold Hid; rw [HD.out]; exact .inl ⟨_, _, _, _, rfl, between_lit (by omega) (by omega), (by have := HB.out; exact between_lit (by omega) (by omega)), between_lit (by omega) (by omega), by decide, rfl⟩
      go_wp2_with fail
      refine (implNumberValue (l.length : Int) _).mono ?_; rintro e w2 ⟨rfl, hb2⟩
      unfold leafA
      have R := ((RB.out.later ((Later.rfl' _).alloc _)).later hb2)
      have L := Lib.hid ((HL.out.alloc _).trans hb2)
      clear hb2 b0 b3 b4 pz rz0
      have r0 := R.cell (j := 0) rfl
      have f0 := R.free 0
      have r1 := R.cell (j := 1) rfl
      have f1 := R.free 1
      have r2 := R.cell (j := 2) rfl
      have f2 := R.free 2
      have r3 := R.cell (j := 3) rfl
      have f3 := R.free 3
      have r4 := R.cell (j := 4) rfl
      have f4 := R.free 4
      have r5 := R.cell (j := 5) rfl
      have f5 := R.free 5
      have r6 := R.cell (j := 6) rfl
      have f6 := R.free 6
      have rz := R.lt
      clear R
      go_wp2_with fail
      exact bodyPost_ret (v := leafA 1 (l.length : Int) 0 ⟨#[]⟩) (by simp [results, Try.results30, go_sem, leafA, r0, r1, r2, r3, r4, r5, r6]) rfl ⟨⟨1, (l.length : Int), 0, ⟨#[]⟩, none, 0, 0, none, 0, 0, none, 0, 0, rfl, HAL.out⟩, later_setFrom (Nat.le_succ _) [.int .i64 1, .int .i64 (l.length : Int), .int .i64 0, .string ⟨#[]⟩, .slice none 0 0, .slice none 0 0, .slice none 0 0] _ 0 L.out⟩
    by_cases k2 : k = 2
    · subst k2
      have HD : Hid (lenD d = leafD 1 (t.size : Int) 0 ⟨#[]⟩) := HLEN.out
      have HAL : Hid (Al d (lenD d) ([.int .i64 2, .int .i64 n, .int .i64 s, .string t, .slice A1 l.length c1, .slice A2 cl.length c2, .slice A3 r.length c3] : List Value) [.int .i64 1, .int .i64 (t.size : Int), .int .i64 0, .string ⟨#[]⟩, .slice none 0 0, .slice none 0 0, .slice none 0 0]) := by unfold Hid; rw [HD.out]; exact .inl ⟨_, _, _, _, rfl, between_lit (by omega) (by omega), (by have := HB.out; exact between_lit (by omega) (by omega)), between_lit (by omega) (by omega), by decide, rfl⟩
      go_wp2_with fail
      refine (implNumberValue (t.size : Int) _).mono ?_; rintro e w2 ⟨rfl, hb2⟩
      unfold leafA
      have R := ((RB.out.later ((Later.rfl' _).alloc _)).later hb2)
      have L := Lib.hid ((HL.out.alloc _).trans hb2)
      clear hb2 b0 b3 b4 pz rz0
      have r0 := R.cell (j := 0) rfl
      have f0 := R.free 0
      have r1 := R.cell (j := 1) rfl
      have f1 := R.free 1
      have r2 := R.cell (j := 2) rfl
      have f2 := R.free 2
      have r3 := R.cell (j := 3) rfl
      have f3 := R.free 3
      have r4 := R.cell (j := 4) rfl
      have f4 := R.free 4
      have r5 := R.cell (j := 5) rfl
      have f5 := R.free 5
      have r6 := R.cell (j := 6) rfl
      have f6 := R.free 6
      have rz := R.lt
      clear R
      go_wp2_with fail
      exact bodyPost_ret (v := leafA 1 (t.size : Int) 0 ⟨#[]⟩) (by simp [results, Try.results30, go_sem, leafA, r0, r1, r2, r3, r4, r5, r6]) rfl ⟨⟨1, (t.size : Int), 0, ⟨#[]⟩, none, 0, 0, none, 0, 0, none, 0, 0, rfl, HAL.out⟩, later_setFrom (Nat.le_succ _) [.int .i64 1, .int .i64 (t.size : Int), .int .i64 0, .string ⟨#[]⟩, .slice none 0 0, .slice none 0 0, .slice none 0 0] _ 0 L.out⟩
    have HD : Hid (lenD d = leafD 6 4 0 ⟨#[]⟩) := by have := HLEN.out; simp only [k3, k2, if_false] at this; exact this
    have e3 : (k == 3) = false := by simpa using k3
    have e2 : (k == 2) = false := by simpa using k2
    clear k3 k2
    have HAL : Hid (Al d (lenD d) ([.int .i64 k, .int .i64 n, .int .i64 s, .string t, .slice A1 l.length c1, .slice A2 cl.length c2, .slice A3 r.length c3] : List Value) [.int .i64 6, .int .i64 4, .int .i64 0, .string ⟨#[]⟩, .slice none 0 0, .slice none 0 0, .slice none 0 0]) := by unfold Hid; rw [HD.out]; exact .inl ⟨_, _, _, _, rfl, between_lit (by omega) (by omega), between_lit (by omega) (by omega), between_lit (by omega) (by omega), by decide, rfl⟩
    go_wp2_with fail
    refine (implErrorValue 4 _).mono ?_; rintro e w2 ⟨rfl, hb2⟩
    unfold leafA
    have R := ((RB.out.later ((Later.rfl' _).alloc _)).later hb2)
    have L := Lib.hid ((HL.out.alloc _).trans hb2)
    clear hb2 b0 b3 b4 pz rz0
    have r0 := R.cell (j := 0) rfl
    have f0 := R.free 0
    have r1 := R.cell (j := 1) rfl
    have f1 := R.free 1
    have r2 := R.cell (j := 2) rfl
    have f2 := R.free 2
    have r3 := R.cell (j := 3) rfl
    have f3 := R.free 3
    have r4 := R.cell (j := 4) rfl
    have f4 := R.free 4
    have r5 := R.cell (j := 5) rfl
    have f5 := R.free 5
    have r6 := R.cell (j := 6) rfl
    have f6 := R.free 6
    have rz := R.lt
    clear R
    go_wp2_with fail
    exact bodyPost_ret (v := leafA 6 4 0 ⟨#[]⟩) (by simp [results, Try.results30, go_sem, leafA, r0, r1, r2, r3, r4, r5, r6]) rfl ⟨⟨6, 4, 0, ⟨#[]⟩, none, 0, 0, none, 0, 0, none, 0, 0, rfl, HAL.out⟩, later_setFrom (Nat.le_succ _) [.int .i64 6, .int .i64 4, .int .i64 0, .string ⟨#[]⟩, .slice none 0 0, .slice none 0 0, .slice none 0 0] _ 0 L.out⟩
end Go.Proofs.Ytefhaochkfodnaa
