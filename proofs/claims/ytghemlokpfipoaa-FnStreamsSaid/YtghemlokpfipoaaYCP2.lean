/-
  Copies of values: l3Copy: the walk.
-/
import Derived.Test.YtghemlokpfipoaaYCP1
import Derived.Test.YtghemlokpfipoaaYDQ
import Derived.Deep.DeepCutAuto
namespace Go.Proofs.Ytghemlokpfipoaa
open Go.ChangeShapes Go.WideShapes Go.ChangeAt Go.RowKit
set_option linter.unusedVariables false
set_option linter.unusedSimpArgs false
set_option maxRecDepth 100000

/-- Holds at every world of the region that lays the copy. -/
abbrev HoldV (X w : World) (H : Nat) (c0 c1 c2 c3 c5 : Value) : Prop := Later X w ∧ w.cell? ⟨H, 0, none⟩ = some c0 ∧ w.cell? ⟨H, 1, none⟩ = some c1 ∧ w.cell? ⟨H, 2, none⟩ = some c2 ∧ w.cell? ⟨H, 3, none⟩ = some c3 ∧ w.cell? ⟨H, 5, none⟩ = some c5
theorem HoldV.on {X w w' : World} {H : Nat} {c0 c1 c2 c3 c5 : Value} (h : HoldV X w H c0 c1 c2 c3 c5) (hb : Later w w') : HoldV X w' H c0 c1 c2 c3 c5 :=
  ⟨h.1.trans hb, kept_cell hb h.2.1, kept_cell hb h.2.2.1, kept_cell hb h.2.2.2.1, kept_cell hb h.2.2.2.2.1, kept_cell hb h.2.2.2.2.2⟩
theorem HoldV.block {X w w' : World} {H : Nat} {c0 c1 c2 c3 c5 : Value} (h : HoldV X w H c0 c1 c2 c3 c5) (hl : Later X w') (hb : w'.heap[H]? = w.heap[H]?) : HoldV X w' H c0 c1 c2 c3 c5 :=
  ⟨hl, (World.cell?_of_block hb).trans h.2.1, (World.cell?_of_block hb).trans h.2.2.1, (World.cell?_of_block hb).trans h.2.2.2.1, (World.cell?_of_block hb).trans h.2.2.2.2.1, (World.cell?_of_block hb).trans h.2.2.2.2.2⟩
theorem cons_from (w : World) (g o : Nat) (v : Value) (vs : List Value) : setFrom w g o (v :: vs) = setFrom (w.setCell ⟨g, o, none⟩ v) g (o + 1) vs := rfl
theorem nil_from (w : World) (g o : Nat) : setFrom w g o [] = w := rfl
theorem chain7 (w : World) (g : Nat) (a0 a1 a2 a3 a4 a5 a6 : Value) : setFrom w g 0 [a0, a1, a2, a3, a4, a5, a6] = (((((((w.setCell ⟨g, 0, none⟩ a0).setCell ⟨g, 1, none⟩ a1).setCell ⟨g, 2, none⟩ a2).setCell ⟨g, 3, none⟩ a3).setCell ⟨g, 4, none⟩ a4).setCell ⟨g, 5, none⟩ a5).setCell ⟨g, 6, none⟩ a6) := by
  rw [cons_from, cons_from, cons_from, cons_from, cons_from, cons_from, cons_from, nil_from]
theorem HoldV.set {X w : World} {H : Nat} {c0 c1 c2 c3 c5 : Value} (h : HoldV X w H c0 c1 c2 c3 c5) {g : Nat} (hg : X.heap.size ≤ g) (hH : H < X.heap.size) (a0 a1 a2 a3 a4 a5 a6 : Value) :
    HoldV X (((((((w.setCell ⟨g, 0, none⟩ a0).setCell ⟨g, 1, none⟩ a1).setCell ⟨g, 2, none⟩ a2).setCell ⟨g, 3, none⟩ a3).setCell ⟨g, 4, none⟩ a4).setCell ⟨g, 5, none⟩ a5).setCell ⟨g, 6, none⟩ a6) H c0 c1 c2 c3 c5 := by
  have hb := block_setFrom (g := g) (b := H) (by omega) [a0, a1, a2, a3, a4, a5, a6] w 0
  have hl := later_setFrom hg [a0, a1, a2, a3, a4, a5, a6] _ 0 h.1
  rw [chain7] at hb hl
  exact h.block hl hb
theorem out_early {X wA : World} {n : Nat} {o : Obj} (hX : X.heap.size = n) (hb : Later ((X.alloc (.cells #[.int .i64 0, .int .i64 0, .int .i64 0, .string ⟨#[]⟩, .slice none 0 0, .slice none 0 0, .slice none 0 0] 28)).alloc o).drew wA) : Box wA n [.int .i64 0, .int .i64 0, .int .i64 0, .string ⟨#[]⟩, .slice none 0 0, .slice none 0 0, .slice none 0 0] :=
  hX ▸ (((box_alloc X #[.int .i64 0, .int .i64 0, .int .i64 0, .string ⟨#[]⟩, .slice none 0 0, .slice none 0 0, .slice none 0 0] 28).later ((Later.rfl' _).alloc o)).later ((Later.rfl' _).drew.trans hb))
theorem out_late {X wA : World} {n : Nat} {o : Obj} (hX : X.heap.size = n) (hb : Later ((X.alloc o).alloc (.cells #[.int .i64 0, .int .i64 0, .int .i64 0, .string ⟨#[]⟩, .slice none 0 0, .slice none 0 0, .slice none 0 0] 28)).drew wA) : Box wA (n + 1) [.int .i64 0, .int .i64 0, .int .i64 0, .string ⟨#[]⟩, .slice none 0 0, .slice none 0 0, .slice none 0 0] := by
  have h := (box_alloc (X.alloc o) #[.int .i64 0, .int .i64 0, .int .i64 0, .string ⟨#[]⟩, .slice none 0 0, .slice none 0 0, .slice none 0 0] 28).later ((Later.rfl' _).drew.trans hb)
  rw [World.size_alloc, hX] at h
  exact h
theorem box_seven {w : World} {g : Nat} {a0 a1 a2 a3 a4 a5 a6 : Value} (h : Box w g [a0, a1, a2, a3, a4, a5, a6]) : w.cell? ⟨g, 0, none⟩ = some a0 ∧ w.cell? ⟨g, 1, none⟩ = some a1 ∧ w.cell? ⟨g, 2, none⟩ = some a2 ∧ w.cell? ⟨g, 3, none⟩ = some a3 ∧ w.cell? ⟨g, 4, none⟩ = some a4 ∧ w.cell? ⟨g, 5, none⟩ = some a5 ∧ w.cell? ⟨g, 6, none⟩ = some a6 ∧
    w.frozen? ⟨g, 0, none⟩ = false ∧ w.frozen? ⟨g, 1, none⟩ = false ∧ w.frozen? ⟨g, 2, none⟩ = false ∧ w.frozen? ⟨g, 3, none⟩ = false ∧ w.frozen? ⟨g, 4, none⟩ = false ∧ w.frozen? ⟨g, 5, none⟩ = false ∧ w.frozen? ⟨g, 6, none⟩ = false :=
  ⟨h.cell rfl, h.cell rfl, h.cell rfl, h.cell rfl, h.cell rfl, h.cell rfl, h.cell rfl, h.free 0, h.free 1, h.free 2, h.free 3, h.free 4, h.free 5, h.free 6⟩
theorem box_chain {w : World} {g : Nat} {z0 z1 z2 z3 z4 z5 z6 : Value} (h : Box w g [z0, z1, z2, z3, z4, z5, z6]) (a0 a1 a2 a3 a4 a5 a6 : Value) : Box (((((((w.setCell ⟨g, 0, none⟩ a0).setCell ⟨g, 1, none⟩ a1).setCell ⟨g, 2, none⟩ a2).setCell ⟨g, 3, none⟩ a3).setCell ⟨g, 4, none⟩ a4).setCell ⟨g, 5, none⟩ a5).setCell ⟨g, 6, none⟩ a6) g [a0, a1, a2, a3, a4, a5, a6] :=
  ((((((h.set 0 a0).set 1 a1).set 2 a2).set 3 a3).set 4 a4).set 5 a5).set 6 a6
theorem row_chain {w : World} {e s n g : Nat} {v : Value} {xs : List Value} (h : w.ownsRow 0 e s v n xs) (hg : ∀ b, v.ownBlock = some b → b ≠ g) (a0 a1 a2 a3 a4 a5 a6 : Value) : World.ownsRow (((((((w.setCell ⟨g, 0, none⟩ a0).setCell ⟨g, 1, none⟩ a1).setCell ⟨g, 2, none⟩ a2).setCell ⟨g, 3, none⟩ a3).setCell ⟨g, 4, none⟩ a4).setCell ⟨g, 5, none⟩ a5).setCell ⟨g, 6, none⟩ a6) 0 e s v n xs := by
  rw [← chain7]
  exact row_block h fun b hb => block_setFrom (hg b hb) _ _ _
theorem trio_mere {lo HO : Nat} {wx : World} {cl : List ByteArray} {us : List Value} {v : Value} (ho : wx.ownsRow 0 9 1 v cl.length us) (hq : ∀ W' (p : Nat) d u, (cl.flatMap encS)[p]? = some d → us[p]? = some u → Own W' (fun _ => False) d u) (hv : ∀ b, v.ownBlock = some b → lo ≤ b ∧ b ≠ HO) :
    Trio lo HO wx [] cl [] (.slice none 0 0) v (.slice none 0 0) :=
  ⟨fun _ => False, fun b => v.ownBlock = some b, fun _ => False, fun b hb => by
      have hb : v.ownBlock = some b := by simpa using hb
      exact ⟨(hv b hb).1, (ho.lt b hb).2, (hv b hb).2⟩, fun _ h => False.elim h, fun _ h => False.elim h, fun _ _ h => h, PushIn.nil _ _ _ _ _,
    ⟨us, noB, ho, fun g hg => hg, fun _ _ h => False.elim h, fun _ _ _ _ h => False.elim h, fun p d u hd hu => hq wx p d u hd hu⟩, PushIn.nil _ _ _ _ _⟩
theorem take_snoc {α : Type} {l l1 : List α} {x : α} (ht : l.take l1.length = l1) (hlt : l1.length < l.length) (hx : x = l[l1.length]) : l.take (l1 ++ [x]).length = l1 ++ [x] := by
  rw [List.length_append, List.length_singleton, List.take_succ_eq_append_getElem hlt, ht, hx]
theorem take_full {α : Type} {l l1 : List α} (ht : l.take l1.length = l1) (hle : l1.length ≤ l.length) (hn : ¬ l1.length < l.length) : l1 = l := by
  rw [← ht]
  exact List.take_of_length_le (by omega)
/-- Behind a push: the other variables, and all that lay. -/
theorem copy_done {W wr w2 wf : World} {HO : Nat} {pc zc : List Value} (hP : Box wr W.heap.size pc) (hR : Box wr (W.heap.size + 1) zc) (hL : Later W wr) (h2 : Later wr w2) (c : Chg (fun b => b = HO ∨ W.heap.size + 2 ≤ b) w2 wf) (hHO : W.heap.size + 2 ≤ HO) :
    Box wf W.heap.size pc ∧ Box wf (W.heap.size + 1) zc ∧ Later W wf ∧ wr.heap.size ≤ wf.heap.size :=
  ⟨(hP.later h2).chg c fun h => by omega, (hR.later h2).chg c fun h => by omega, Chg.later (hL.trans h2) c fun k hk => by omega, Nat.le_trans h2.size c.size⟩
def CopyQ (fn : FuncId) (d : Vl) : Prop := d.cost ≤ 1048576 → ∀ (W : World) (S : Nat → Prop) (cs : List Value), Ats W S (encV d) cs → Calls Try.prog fn #[.agg cs.toArray] W fun r w' => CopyV W w' d r ∧ Later W w'
theorem copy_end {W wr : World} {d : Vl} {k n s : Int} {t : ByteArray} {A1 A2 A3 : Option Addr} {n1 c1 n2 c2 n3 c3 : Nat} {r : Ending}
    (hr : r = .returned (.agg #[.int .i64 k, .int .i64 n, .int .i64 s, .string t, .slice A1 n1 c1, .slice A2 n2 c2, .slice A3 n3 c3]))
    (ho : Owns wr (fun b => W.heap.size + 2 ≤ b ∧ b < wr.heap.size) (encV d) [.int .i64 k, .int .i64 n, .int .i64 s, .string t, .slice A1 n1 c1, .slice A2 n2 c2, .slice A3 n3 c3])
    (hl : Later W wr) (a0 a1 a2 a3 a4 a5 a6 : Value) : CopyV W (((((((wr.setCell ⟨W.heap.size + 1, 0, none⟩ a0).setCell ⟨W.heap.size + 1, 1, none⟩ a1).setCell ⟨W.heap.size + 1, 2, none⟩ a2).setCell ⟨W.heap.size + 1, 3, none⟩ a3).setCell ⟨W.heap.size + 1, 4, none⟩ a4).setCell ⟨W.heap.size + 1, 5, none⟩ a5).setCell ⟨W.heap.size + 1, 6, none⟩ a6) d r ∧ Later W (((((((wr.setCell ⟨W.heap.size + 1, 0, none⟩ a0).setCell ⟨W.heap.size + 1, 1, none⟩ a1).setCell ⟨W.heap.size + 1, 2, none⟩ a2).setCell ⟨W.heap.size + 1, 3, none⟩ a3).setCell ⟨W.heap.size + 1, 4, none⟩ a4).setCell ⟨W.heap.size + 1, 5, none⟩ a5).setCell ⟨W.heap.size + 1, 6, none⟩ a6) := by
  rw [← chain7]
  have c := chg_setFrom (g := W.heap.size + 1) [a0, a1, a2, a3, a4, a5, a6] wr 0
  exact ⟨⟨_, _, _, _, _, _, _, _, _, _, _, _, _, hr, (ho.chg c fun b h1 h2 => by omega).more fun b hb => ⟨by omega, by rw [size_setFrom]; exact hb.2⟩⟩, later_setFrom (by omega) _ _ _ hl⟩

set_option maxHeartbeats 8000000 in
theorem specCopy : ∀ d, CopyQ 100 d := by
  refine Vl.ind fun k n s t l cl r ih hcost W S cs h => ?_
  obtain ⟨A1, c1, A2, c2, A3, c3, rfl, hbb, ⟨p1, q1⟩, ⟨p2, q2⟩, ⟨p3, q3⟩, g1, g2, g3⟩ := h.val
  rw [Vl.cost_mk] at hcost
  have hcl : cl.length ≤ costS cl := by unfold costS; omega
  obtain ⟨us, l1, n1, k1, o1, _, m1⟩ := leaf_cells2 g2 leaf_S (by omega)
  obtain ⟨i0, hi, hz0, hz1, hz2⟩ := info_parts info_string
  have M1 := Lib.hid m1; have K1 := Lib.hid k1; have O1 := Lib.hid o1; have N1 := Lib.hid n1; have HE := Lib.hid g1; have HF := Lib.hid g3; have HQ := Lib.hid ih; have HBB := Lib.hid hbb
  clear m1 k1 o1 n1 g1 g2 g3 h ih hbb
  go_enter Try.func100, Try.ntmps100
  go_upto_region 1 with fail
  have L0 : Later W ((W.alloc (.cells #[.int .i64 k, .int .i64 n, .int .i64 s, .string t, .slice A1 l.length c1, .slice A2 cl.length c2, .slice A3 r.length c3] 28)).alloc (.cells #[.int .i64 0, .int .i64 0, .int .i64 0, .string ⟨#[]⟩, .slice none 0 0, .slice none 0 0, .slice none 0 0] 28)) := ((Later.rfl' _).alloc _).alloc _
  have bP : Box ((W.alloc (.cells #[.int .i64 k, .int .i64 n, .int .i64 s, .string t, .slice A1 l.length c1, .slice A2 cl.length c2, .slice A3 r.length c3] 28)).alloc (.cells #[.int .i64 0, .int .i64 0, .int .i64 0, .string ⟨#[]⟩, .slice none 0 0, .slice none 0 0, .slice none 0 0] 28)) W.heap.size [.int .i64 k, .int .i64 n, .int .i64 s, .string t, .slice A1 l.length c1, .slice A2 cl.length c2, .slice A3 r.length c3] := (box_alloc W #[.int .i64 k, .int .i64 n, .int .i64 s, .string t, .slice A1 l.length c1, .slice A2 cl.length c2, .slice A3 r.length c3] 28).later ((Later.rfl' _).alloc _)
  have bR : Box ((W.alloc (.cells #[.int .i64 k, .int .i64 n, .int .i64 s, .string t, .slice A1 l.length c1, .slice A2 cl.length c2, .slice A3 r.length c3] 28)).alloc (.cells #[.int .i64 0, .int .i64 0, .int .i64 0, .string ⟨#[]⟩, .slice none 0 0, .slice none 0 0, .slice none 0 0] 28)) (W.heap.size + 1) [.int .i64 0, .int .i64 0, .int .i64 0, .string ⟨#[]⟩, .slice none 0 0, .slice none 0 0, .slice none 0 0] := by
    have h := box_alloc (W.alloc (.cells #[.int .i64 k, .int .i64 n, .int .i64 s, .string t, .slice A1 l.length c1, .slice A2 cl.length c2, .slice A3 r.length c3] 28)) #[.int .i64 0, .int .i64 0, .int .i64 0, .string ⟨#[]⟩, .slice none 0 0, .slice none 0 0, .slice none 0 0] 28
    rw [World.size_alloc] at h
    exact h
  obtain ⟨X, hX⟩ : ∃ X, X = ((W.alloc (.cells #[.int .i64 k, .int .i64 n, .int .i64 s, .string t, .slice A1 l.length c1, .slice A2 cl.length c2, .slice A3 r.length c3] 28)).alloc (.cells #[.int .i64 0, .int .i64 0, .int .i64 0, .string ⟨#[]⟩, .slice none 0 0, .slice none 0 0, .slice none 0 0] 28)) := ⟨_, rfl⟩
  have hXs : X.heap.size = W.heap.size + 2 := by rw [hX]; simp
  rw [← hX] at L0 bP bR
  have HBP := Lib.hid bP; have HBR := Lib.hid bR; have HX := Lib.hid L0
  have hV : HoldV X X W.heap.size (.int .i64 k) (.int .i64 n) (.int .i64 s) (.string t) (.slice A2 cl.length c2) := ⟨Later.rfl' _, bP.cell rfl, bP.cell rfl, bP.cell rfl, bP.cell rfl, bP.cell rfl⟩
  have HV := Lib.hid hV
  rw [← hX]
  clear hX bP bR L0 hV
  go_cut [1, 2, 3] (fun s1 s2 s3 wx => ∃ HO A5 c5, s1 = .pointer (some ⟨W.heap.size, 0, none⟩) ∧ s2 = .pointer (some ⟨W.heap.size + 1, 0, none⟩) ∧ s3 = .pointer (some ⟨HO, 0, none⟩) ∧ Later X wx ∧ W.heap.size + 2 ≤ HO ∧
     Box wx HO [.int .i64 k, .int .i64 n, .int .i64 s, .string t, .slice none 0 0, .slice A5 cl.length c5, .slice none 0 0] ∧ Trio (W.heap.size + 2) HO wx [] cl [] (.slice none 0 0) (.slice A5 cl.length c5) (.slice none 0 0))
  case first =>
    have hV := HV.out
    go_region_held3 (fun w' => Later X w' ∧ w'.cell? ⟨W.heap.size, 0, none⟩ = some (.int .i64 k) ∧ w'.cell? ⟨W.heap.size, 1, none⟩ = some (.int .i64 n) ∧ w'.cell? ⟨W.heap.size, 2, none⟩ = some (.int .i64 s) ∧ w'.cell? ⟨W.heap.size, 3, none⟩ = some (.string t) ∧ w'.cell? ⟨W.heap.size, 5, none⟩ = some (.slice A2 cl.length c2))
      (first | (rw [← chain7]; rw [chain7]; with_reducible exact HoldV.set (by assumption) (by first | omega | (simp; omega)) (by omega) _ _ _ _ _ _ _) | with_reducible exact HV.out.on (Later.rfl' _).drew | with_reducible exact HoldV.on (by assumption) ((Later.rfl' _).alloc _) | with_reducible exact HoldV.on (by assumption) hbA | with_reducible exact HV.out.on ((((Later.rfl' _).alloc _).drew.trans hbA).alloc _))
      (first | (refine step_append_zero _ rfl (.tmp 14) (.tmp 16) 25 rfl 9 i0 (.string ByteArray.empty) 1 16 Try.underlying25 hi hz0 hz1 hz2 rfl (by decide) _ (by rfl) (by first | exact fresh_own (Later.rfl' _) (by first | rfl | omega | (simp; done) | (simp; omega)) | exact fresh_own (Later.rfl' _).drew (by first | rfl | omega | (simp; done) | (simp; omega)) | exact fresh_own ((Later.rfl' _).alloc _) (by first | rfl | omega | (simp; done) | (simp; omega)) | exact fresh_own ((Later.rfl' _).alloc _).drew (by first | rfl | omega | (simp; done) | (simp; omega))) A2 cl.length c2 us (by simp [Act.eval, Act.put]) l1 N1.out (K1.out _ (HX.out.trans (And.left (by assumption)))) O1.out (by unfold maxLen; omega) (by omega) ?_; intro vA wA hoA hbA hatA; obtain ⟨yA, dA, rfl, _, _, _⟩ := row_shape hoA; first | (have bO := out_early hXs hbA; obtain ⟨o0, o1, o2, o3, o4, o5, o6, p0, p1, p2, p3, p4, p5, p6⟩ := box_seven bO) | (have bO := out_late hXs hbA; obtain ⟨o0, o1, o2, o3, o4, o5, o6, p0, p1, p2, p3, p4, p5, p6⟩ := box_seven bO) | skip))
    all_goals
      (have HHL := Lib.hid (And.left (by assumption : Later X _ ∧ (_ ∧ _ ∧ _ ∧ _ ∧ _)))
       have hlt := fun b hb => (hoA.lt b hb).2
       have hsA := hbA.size
       first
         | (have bO2 := Lib.hid (box_chain bO (.int .i64 k) (.int .i64 n) (.int .i64 s) (.string t) (.slice none 0 0) (.slice yA cl.length dA) (.slice none 0 0))
            clear bO o0 o1 o2 o3 o4 o5 o6 p0 p1 p2 p3 p4 p5 p6
            go_wp2_with fail
            go_meet
            exact ⟨_, yA, dA, rfl, rfl, rfl, HHL.out, by omega, bO2.out, trio_mere (row_chain hoA (fun b hb => by rcases hatA with h | h <;> rw [h] at hb <;> simp [hXs] at hb <;> omega) _ _ _ _ _ _ _) M1.out (fun b hb => by rcases hatA with h | h <;> rw [h] at hb <;> simp [hXs] at hb <;> omega)⟩)
         | (go_wp2_with fail
            go_meet
            exact ⟨_, yA, dA, rfl, rfl, rfl, HHL.out, by simp [hXs] at hsA; omega, box_alloc _ _ _, trio_mere (own_later hoA ((Later.rfl' _).alloc _)) M1.out (fun b hb => by have := hlt b hb; rcases hatA with h | h <;> rw [h] at hb <;> simp [hXs] at hb <;> omega)⟩))
  case rest =>
    obtain ⟨HO, A5, c5, rfl, rfl, rfl, hlX, hHO, bO, hT⟩ := hcut
    have bP := HBP.out.later hlX
    have bR := HBR.out.later hlX
    have HT := Lib.hid hT; have HBO := Lib.hid bO; have HP0 := Lib.hid bP; have HR0 := Lib.hid bR; have HL0 := Lib.hid (HX.out.trans hlX)
    clear hT bO bP bR hlX HBP HBR HX HV M1 K1 O1 N1 hi hz0 hz1 hz2
    obtain ⟨i0, hi, hz0, hz1, hz2⟩ := info_parts info_value
    obtain ⟨j0, hj, hy0, hy1, hy2⟩ := info_parts info_row
    go_wp2_with fail
    go_loopw [4] (fun i wr => ∃ (x1 : List Vl) (lv : Value), i = .int .i64 (x1.length : Int) ∧ l.take x1.length = x1 ∧ x1.length ≤ l.length ∧ Box wr W.heap.size [.int .i64 k, .int .i64 n, .int .i64 s, .string t, .slice A1 l.length c1, .slice A2 cl.length c2, .slice A3 r.length c3] ∧ Box wr (W.heap.size + 1) [.int .i64 0, .int .i64 0, .int .i64 0, .string ⟨#[]⟩, .slice none 0 0, .slice none 0 0, .slice none 0 0] ∧ Box wr HO [.int .i64 k, .int .i64 n, .int .i64 s, .string t, lv, .slice A5 cl.length c5, .slice none 0 0] ∧ Trio (W.heap.size + 2) HO wr x1 cl [] lv (.slice A5 cl.length c5) (.slice none 0 0) ∧ Later W wr) (fun i _ => l.length - (intOf i).toNat)
    case atStart => exact ⟨[], .slice none 0 0, rfl, rfl, Nat.zero_le _, HP0.out, HR0.out, HBO.out, HT.out, HL0.out⟩
    case round =>
      obtain ⟨x1, lv, rfl, htk, hle, hP, hR, hO, hT, hL⟩ := hrel
      clear HT HBO HP0 HR0 HL0
      by_cases hlt : x1.length < l.length
      · obtain ⟨b, off, y0, y1, y2, y3, B1, m1, e1, B2, m2, e2, B3, m3, e3, rfl, hb, _, hx, f0, f1, f2, f3, f4, f5, f6⟩ := (HE.out.later hL).valAt hlt
        have hcx := sumN_mem Vl.cost (List.getElem_mem hlt)
        have C := fun W' (hW' : Later wr W') => HQ.out l[x1.length] (List.getElem_mem hlt) (by omega) W' S _ (hx.later hW')
        obtain ⟨D, hD⟩ : ∃ D, D = l[x1.length] := ⟨_, rfl⟩
        rw [← hD] at C
        have HD := Lib.hid hD; have HC := Lib.hid C
        have HP := Lib.hid hP; have HR := Lib.hid hR; have HBO := Lib.hid hO; have HT := Lib.hid hT; have HL := Lib.hid hL
        have hkO := hO.cell (j := 4) rfl
        have hkP := hP.cell (j := 4) rfl
        have hzO := hO.lt
        have hszO : W.heap.size + 2 ≤ wr.heap.size := by omega
        have hjn : (x1.length + 1) * 112 ≤ 140737488355328 := by omega
        have hjm : x1.length + 1 ≤ maxLen := by unfold maxLen; omega
        have hki : (x1.length : Int) < (l.length : Int) := by omega
        clear C hD hx hcx hP hR hO hT hL
        go_wp2_with fail
        go_region_law (first
          | (refine step_append_lies _ rfl (.tmp 27) (.tmp 34) 24 rfl 0 28 i0 (.agg #[.int .i64 0, .int .i64 0, .int .i64 0, .string ByteArray.empty, .slice none 0 0, .slice none 0 0, .slice none 0 0]) 7 112 Try.underlying24 hi hz0 hz1 hz2 rfl (by decide) lv x1.length xs (by simp [Act.eval, Act.put]) a1 ⟨w2.heap.size, 0, none⟩ 1 1 [.int .i64 z0, .int .i64 z1, .int .i64 z2, .string z3, .slice E1 u1 v1, .slice E2 u2 v2, .slice E3 u3 v3] (by simp [Act.eval, Act.put]) a2 a4.out a3.out (by omega) hjm hjn (Nat.zero_le _) (w2.heap.size + 1) (by simp) ?_; intro gg cap w4 ho4 hg4 hat4 hlt4; obtain ⟨B4, HFN⟩ := a5.out gg cap w4 ho4 hg4 hat4; have m4 := B4.cell (j := 4) rfl; have mf := B4.free 4; clear ho4 hg4 hat4 B4)
          | (go_simp; go_at_call 100; refine (HC.out _ (Later.rfl' _).drew).mono ?_; rintro e w2 ⟨⟨z0, z1, z2, z3, E1, u1, v1, E2, u2, v2, E3, u3, v3, rfl, ho⟩, hl2⟩; have HALL := Lib.hid (trio_list (p := 4) 28 HT.out HBO.out (((Later.rfl' wr).drew.trans hl2).chg (fun _ => False)) (fun b h => False.elim h) hszO ho); have HL2 := Lib.hid ((Later.rfl' wr).drew.trans hl2); obtain ⟨b2, xs, a1, a2, a3, a4, a5⟩ := HALL.out; have k2 := b2.cell (j := 4) rfl; have z2' := b2.lt; replace a3 := Lib.hid a3; replace a4 := Lib.hid a4; replace a5 := Lib.hid a5; clear b2 HALL hl2 ho))
        all_goals
          (obtain ⟨D1, D2, D3, D4⟩ := copy_done HP.out HR.out HL.out HL2.out HFN.out.2.2 hHO
           have E1' := Lib.hid D1; have E2' := Lib.hid D2; have E3' := Lib.hid D3
           clear D1 D2 D3 k2 z2' hkO hkP hzO a1 a2 a3 a4 a5 m4 mf f0 f1 f2 f3 f4 f5 f6
           go_wp2_with fail
           go_roundw
           case rel => exact ⟨x1 ++ [D], _, by rw [List.length_append]; go_num, take_snoc htk hlt HD.out, by rw [List.length_append]; simp; omega, E1'.out, E2'.out, HFN.out.2.1, HFN.out.1, E3'.out⟩
           case measure => simp [intOf]; omega)
      · obtain rfl := take_full htk hle hlt
        have HP := Lib.hid hP; have HR := Lib.hid hR; have HBO := Lib.hid hO; have HT := Lib.hid hT; have HL := Lib.hid hL
        have p4 := hP.cell (j := 4) rfl
        have p6 := hP.cell (j := 6) rfl
        clear hP hR hO hT hL htk hle HE HQ
        go_wp2_with fail
        go_loopw [5] (fun i wq => ∃ (r1 : List Rw) (rv : Value), i = .int .i64 (r1.length : Int) ∧ r.take r1.length = r1 ∧ r1.length ≤ r.length ∧ Box wq W.heap.size [.int .i64 k, .int .i64 n, .int .i64 s, .string t, .slice A1 x1.length c1, .slice A2 cl.length c2, .slice A3 r.length c3] ∧ Box wq (W.heap.size + 1) [.int .i64 0, .int .i64 0, .int .i64 0, .string ⟨#[]⟩, .slice none 0 0, .slice none 0 0, .slice none 0 0] ∧ Box wq HO [.int .i64 k, .int .i64 n, .int .i64 s, .string t, lv, .slice A5 cl.length c5, rv] ∧ Trio (W.heap.size + 2) HO wq x1 cl r1 lv (.slice A5 cl.length c5) rv ∧ Later W wq) (fun i _ => r.length - (intOf i).toNat)
        case atStart => exact ⟨[], .slice none 0 0, rfl, rfl, Nat.zero_le _, HP.out, HR.out, HBO.out, HT.out, HL.out⟩
        case round =>
          clear p4 p6
          obtain ⟨r1, rv, rfl, htk, hle, hP, hR, hO, hT, hL⟩ := hrel
          clear HP HR HBO HT HL
          by_cases hlr : r1.length < r.length
          · obtain ⟨b, off, B1, e1, B2, e2, rfl, hb, _, hx, f0, f1⟩ := (HF.out.later hL).rowAt hlr
            have hcx := sumN_mem Rw.cost (List.getElem_mem hlr)
            have C := fun W' (hW' : Later wr W') => specRow r[r1.length] W' S _ (hx.later hW') (by omega)
            obtain ⟨D, hD⟩ : ∃ D, D = r[r1.length] := ⟨_, rfl⟩
            rw [← hD] at C f0 f1
            have HD := Lib.hid hD; have HC := Lib.hid C
            have HP := Lib.hid hP; have HR := Lib.hid hR; have HBO := Lib.hid hO; have HT := Lib.hid hT; have HL := Lib.hid hL
            have hkO := hO.cell (j := 6) rfl
            have hkP := hP.cell (j := 6) rfl
            have hzO := hO.lt
            have hszO : W.heap.size + 2 ≤ wr.heap.size := by omega
            have hjn : (r1.length + 1) * 48 ≤ 140737488355328 := by omega
            have hjm : r1.length + 1 ≤ maxLen := by unfold maxLen; omega
            have hki : (r1.length : Int) < (r.length : Int) := by omega
            clear C hD hx hcx hP hR hO hT hL
            go_wp2_with fail
            go_region_law (first
              | (refine step_append_lies _ rfl (.tmp 45) (.tmp 52) 26 rfl 0 79 j0 (.agg #[.slice none 0 0, .slice none 0 0]) 2 48 Try.underlying26 hj hy0 hy1 hy2 rfl (by decide) rv r1.length xs (by simp [Act.eval, Act.put]) a1 ⟨w2.heap.size, 0, none⟩ 1 1 [.slice E1 D.cells.length v1, .slice E2 D.from_.length v2] (by simp [Act.eval, Act.put]) a2 a4.out a3.out (by omega) hjm hjn (Nat.zero_le _) (w2.heap.size + 1) (by simp) ?_; intro gg cap w4 ho4 hg4 hat4 hlt4; obtain ⟨B4, HFN⟩ := a5.out gg cap w4 ho4 hg4 hat4; have m4 := B4.cell (j := 6) rfl; have mf := B4.free 6; clear ho4 hg4 hat4 B4)
              | (go_simp; go_at_call 145; refine (HC.out _ (Later.rfl' _).drew).mono ?_; rintro e w2 ⟨⟨E1, v1, E2, v2, rfl, ho⟩, hl2⟩; have HALL := Lib.hid (trio_rows (p := 6) 79 HT.out HBO.out (((Later.rfl' wr).drew.trans hl2).chg (fun _ => False)) (fun b h => False.elim h) hszO ho); have HL2 := Lib.hid ((Later.rfl' wr).drew.trans hl2); obtain ⟨b2, xs, a1, a2, a3, a4, a5⟩ := HALL.out; have k2 := b2.cell (j := 6) rfl; have z2' := b2.lt; replace a3 := Lib.hid a3; replace a4 := Lib.hid a4; replace a5 := Lib.hid a5; clear b2 HALL hl2 ho))
            all_goals
              (obtain ⟨D1, D2, D3, D4⟩ := copy_done HP.out HR.out HL.out HL2.out HFN.out.2.2 hHO
               have E1' := Lib.hid D1; have E2' := Lib.hid D2; have E3' := Lib.hid D3
               clear D1 D2 D3 k2 z2' hkO hkP hzO a1 a2 a3 a4 a5 m4 mf f0 f1
               go_wp2_with fail
               go_roundw
               case rel => exact ⟨r1 ++ [D], _, by rw [List.length_append]; go_num, take_snoc htk hlr HD.out, by rw [List.length_append]; simp; omega, E1'.out, E2'.out, HFN.out.2.1, HFN.out.1, E3'.out⟩
               case measure => simp [intOf]; omega)
          · obtain rfl := take_full htk hle hlr
            obtain ⟨A4, c4, A5', c5', A6, c6, rfl, e5, rfl⟩ := hT.shape
            cases e5
            have HOW := Lib.hid ((hT.drawn.owns (k := k) (n := n) (s := s) (t := t) HBB.out.1 HBB.out.2.1 HBB.out.2.2.1 HBB.out.2.2.2))
            have HL := Lib.hid hL
            have z0 := hO.cell (j := 0) rfl
            have y0 := hR.free 0
            have rc0 := hR.cell (j := 0) rfl
            have z1 := hO.cell (j := 1) rfl
            have y1 := hR.free 1
            have rc1 := hR.cell (j := 1) rfl
            have z2 := hO.cell (j := 2) rfl
            have y2 := hR.free 2
            have rc2 := hR.cell (j := 2) rfl
            have z3 := hO.cell (j := 3) rfl
            have y3 := hR.free 3
            have rc3 := hR.cell (j := 3) rfl
            have z4 := hO.cell (j := 4) rfl
            have y4 := hR.free 4
            have rc4 := hR.cell (j := 4) rfl
            have z5 := hO.cell (j := 5) rfl
            have y5 := hR.free 5
            have rc5 := hR.cell (j := 5) rfl
            have z6 := hO.cell (j := 6) rfl
            have y6 := hR.free 6
            have rc6 := hR.cell (j := 6) rfl
            have hzs := hO.lt
            have hws := hR.lt
            have p6 := hP.cell (j := 6) rfl
            clear hP hR hO hT hL htk hle HF HBB
            go_wp2_with fail
            exact bodyPost_ret (v := .agg #[.int .i64 k, .int .i64 n, .int .i64 s, .string t, .slice A4 x1.length c4, .slice A5 cl.length c5, .slice A6 r1.length c6]) (by simp [results, Try.results100, go_sem, rc0, rc1, rc2, rc3, rc4, rc5, rc6]) rfl (copy_end rfl HOW.out HL.out _ _ _ _ _ _ _)

end Go.Proofs.Ytghemlokpfipoaa
