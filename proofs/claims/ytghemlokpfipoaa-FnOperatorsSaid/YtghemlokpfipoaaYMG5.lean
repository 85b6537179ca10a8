/-
  The cursor of draws stands where variables that hold no bytes are written. A cell of what is owned written anew; a row's origins written anew.
-/
import Derived.Test.YtghemlokpfipoaaYK3
import Derived.Test.YtghemlokpfipoaaYPV
namespace Go.Proofs.Ytghemlokpfipoaa
open Go.ChangeShapes Go.WideShapes Go.ChangeAt Go.RowKit
set_option linter.unusedVariables false
set_option linter.unusedSimpArgs false

theorem box_no {w : World} {g : Nat} {xs : List Value} (B : Box w g xs) {j : Nat} {u : Value} (h : w.cell? ⟨g, j, none⟩ = some u) : xs[j]? = some u := by
  obtain ⟨e, hr⟩ := B
  by_cases hj : j < xs.length
  · have := hr.cellAt j (by omega)
    rw [h] at this
    exact this.symm
  · rcases hr.2 with hn | ⟨g', cap, cur, hv, h0, hg, hnc, hm, hs, htake⟩
    · cases hn.1
    · simp only [Value.slice.injEq, Option.some.injEq, Addr.mk.injEq, and_true, true_and] at hv
      obtain ⟨rfl, _, rfl⟩ := hv
      rw [cell_of_row _ _ j cur e (0, 0) hg] at h
      have : j < cur.size := (Array.getElem?_eq_some_iff.1 h).1
      omega
def NoByte (xs : List Value) : Prop := ∀ (j : Nat) (x : Int), xs[j]? ≠ some (.int .u8 x)
/-- The cursor stands where variables that hold no bytes are written. -/
theorem CurAt.boxes {w w' : World} {g : Nat} (h : CurAt w g) {P : Nat → Prop} (hP : ∀ b, P b → b ≠ g ∧ ∃ xs, Box w b xs ∧ NoByte xs) (c : Chg P w w') : CurAt w' g := by
  obtain ⟨A, c0, n, i, hh, B, h1, h2, h3, h4⟩ := h
  refine ⟨A, c0, n, i, hh, B.chg c fun hg => (hP g hg).1 rfl, h1, h2, h3, fun hn => ?_⟩
  obtain ⟨b, off, e, hl, hc⟩ := h4 hn
  refine ⟨b, off, e, hl, fun i hi => ?_⟩
  obtain ⟨x, hx, hcell⟩ := hc i hi
  refine ⟨x, hx, ?_⟩
  have hlt : b < w.heap.size := by have := B.lt; omega
  refine (World.cell?_of_block (w := w) (a := ⟨b, _, none⟩) (c.block b hlt fun hb => ?_)).trans hcell
  obtain ⟨_, xs, hB, hno⟩ := hP b hb
  exact hno _ _ (box_no hB hcell)
theorem noByte_seven {a b c : Int} {t : ByteArray} {A1 A2 A3 : Option Addr} {n1 c1 n2 c2 n3 c3 : Nat} : NoByte [.int .i64 a, .int .i64 b, .int .i64 c, .string t, .slice A1 n1 c1, .slice A2 n2 c2, .slice A3 n3 c3] := by
  intro j x
  match j with
  | 0 => simp
  | 1 => simp
  | 2 => simp
  | 3 => simp
  | 4 => simp
  | 5 => simp
  | 6 => simp
  | j + 7 => simp
end Go.Proofs.Ytghemlokpfipoaa
namespace Go.Proofs.Ytghemlokpfipoaa
open Go.ChangeShapes Go.WideShapes Go.ChangeAt Go.RowKit
set_option linter.unusedVariables false
set_option linter.unusedSimpArgs false

theorem own_set_at {w : World} {S : Nat → Prop} {s n c : Nat} {A : Option Addr} {ds : List Dt} (h : Own w S (.sl s n ds) (.slice A n c)) {i : Nat} (hi : i < ds.length) :
    ∃ g, A = some ⟨g, 0, none⟩ ∧ S g ∧ g < w.heap.size ∧ (∃ u, w.cell? ⟨g, i, none⟩ = some u) ∧ w.frozen? ⟨g, i, none⟩ = false ∧
      ∀ (U : Nat → Prop) d' u', (∀ b, S b → U b) → At (w.setCell ⟨g, i, none⟩ u') U d' u' → At (w.setCell ⟨g, i, none⟩ u') U (.sl s n (ds.set i d')) (.slice A n c) := by
  cases h with
  | sl _ _ _ _ _ e xs T hrow hl hS hT hsep hF =>
    obtain ⟨A', c', he, h1, h2, h3⟩ := row_shape hrow
    simp only [Value.slice.injEq, true_and] at he
    obtain ⟨rfl, rfl⟩ := he
    have hn0 : 0 < n := by
      rcases Nat.eq_zero_or_pos n with h | h
      · subst h; simp at hl; rw [hl] at hi; simp at hi
      · exact h
    obtain ⟨g, rfl, hg⟩ := h3 hn0
    have hu : xs[i]? = some (xs[i]'(by rw [hrow.1, ← hl]; exact hi)) := List.getElem?_eq_getElem _
    refine ⟨g, rfl, (hS g hg).1, (hrow.lt g hg).2, ⟨_, by rw [hrow.cellAt i (by omega), hu]⟩, hrow.frozenAt i, fun U d' u' hU ha => ?_⟩
    have hst := (hrow.stored i u').1
    refine At.make (by rw [List.length_set]; exact hl) h1 h2 fun _ => ⟨g, 0, rfl, (hst.lt g hg).2, hU g (hS g hg).1, fun j d2 hd2 => ?_⟩
    have hj : j < n * s := by rw [← hl]; have := (List.getElem?_eq_some_iff.1 hd2).1; rw [List.length_set] at this; exact this
    have hjx : j < xs.length := by rw [hrow.1]; exact hj
    by_cases hij : i = j
    · subst hij
      rw [List.getElem?_set_self hi] at hd2
      cases hd2
      exact ⟨u', by rw [Nat.zero_add, hst.cellAt i hj, List.getElem?_set_self hjx], ha⟩
    · rw [List.getElem?_set_ne hij] at hd2
      refine ⟨xs[j], by rw [Nat.zero_add, hst.cellAt j hj, List.getElem?_set_ne hij, List.getElem?_eq_getElem], ?_⟩
      exact ((hF j d2 _ hd2 (List.getElem?_eq_getElem hjx)).chg (S' := fun b => b = g) ((Chg.rfl' _ w).set rfl) fun b h1 h2 => by subst h2; exact (hS b hg).2 j h1).at_.more fun b hb => hU b (hT j b hb)
theorem ats_from {w : World} {S : Nat → Prop} {k n s : Int} {t : ByteArray} {l : List Vl} {cl : List ByteArray} {r0 : Rw} {rs : List Rw} {a0 a1 a2 a3 a4 a5 : Value} {A6 : Option Addr} {c6 : Nat}
    (ho : Owns w S (encV (.mk k n s t l cl (r0 :: rs))) [a0, a1, a2, a3, a4, a5, .slice A6 (rs.length + 1) c6]) :
    ∃ g6, A6 = some ⟨g6, 0, none⟩ ∧ S g6 ∧ g6 < w.heap.size ∧ (∃ u, w.cell? ⟨g6, 1, none⟩ = some u) ∧ w.frozen? ⟨g6, 1, none⟩ = false ∧
      ∀ (U : Nat → Prop) (xs : List Org) (S' : Nat → Prop) (v : Value), (∀ b, S b → U b) → (∀ b, S' b → U b) → SlAt w S' 2 encO xs v → ¬ S' g6 → Ats (w.setCell ⟨g6, 1, none⟩ v) U (encV (.mk k n s t l cl (⟨r0.cells, xs⟩ :: rs))) [a0, a1, a2, a3, a4, a5, .slice A6 (rs.length + 1) c6] := by
  rw [encV, encVs_eq] at ho
  obtain ⟨hl, T, h1, h2, h3⟩ := ho
  have h6 := h3 6 _ _ rfl rfl
  have hlen : 1 < ((r0 :: rs).flatMap encR).length := by rw [flat_len encR_len]; simp; omega
  obtain ⟨g6, e, hg, hlt, hu, hf, hset⟩ := own_set_at h6 hlen
  refine ⟨g6, e, h1 6 _ hg, hlt, hu, hf, fun U xs S' v hU hU' hv hn => ?_⟩
  have c : Chg (fun b => b = g6) w (w.setCell ⟨g6, 1, none⟩ v) := (Chg.rfl' _ w).set rfl
  have hk : ∀ (i : Nat) d u, i ≠ 6 → Own w (T i) d u → At (w.setCell ⟨g6, 1, none⟩ v) U d u := fun i d u hi ho => (ho.chg c fun b hb he => by subst he; exact h2 i 6 hi _ hb hg).at_.more fun b hb => hU b (h1 i b hb)
  rw [encV, encVs_eq]
  refine .cons (hk 0 _ _ (by decide) (h3 0 _ _ rfl rfl)) (.cons (hk 1 _ _ (by decide) (h3 1 _ _ rfl rfl)) (.cons (hk 2 _ _ (by decide) (h3 2 _ _ rfl rfl)) (.cons (hk 3 _ _ (by decide) (h3 3 _ _ rfl rfl)) (.cons (hk 4 _ _ (by decide) (h3 4 _ _ rfl rfl)) (.cons (hk 5 _ _ (by decide) (h3 5 _ _ rfl rfl)) (.cons ?_ .nil))))))
  exact hset U (.sl 2 xs.length (xs.flatMap encO)) v (fun b hb => hU b (h1 6 b hb)) ((At.chg hv c fun b h1 h2 => hn (h2 ▸ h1)).more hU')
theorem cell_drew {w : World} {a : Addr} {u : Value} (h : w.cell? a = some u) : w.drew.cell? a = some u := (World.cell?_of_block (w := w) (w' := w.drew) rfl).trans h
theorem cell_blk {w w' : World} {b o : Nat} {u : Value} (h : w.cell? ⟨b, o, none⟩ = some u) (hb : w'.heap[b]? = w.heap[b]?) : w'.cell? ⟨b, o, none⟩ = some u := (World.cell?_of_block (w := w) (a := ⟨b, o, none⟩) hb).trans h
theorem cell_put {w : World} {b o g j : Nat} {u v : Value} (h : w.cell? ⟨b, o, none⟩ = some u) (hne : b ≠ g) : (w.setCell ⟨g, j, none⟩ v).cell? ⟨b, o, none⟩ = some u := cell_blk h (Below.heap_setCell _ _ _ _ hne)
theorem chg_drew {S : Nat → Prop} {W w : World} (h : Chg S W w) : Chg S W w.drew := h.trans ((Later.rfl' w).drew.chg _)
theorem chg_chain {S : Nat → Prop} {W w : World} (h : Chg S W w) {g : Nat} (hg : S g) (a0 a1 a2 a3 a4 a5 a6 : Value) :
    Chg S W (((((((w.setCell ⟨g, 0, none⟩ a0).setCell ⟨g, 1, none⟩ a1).setCell ⟨g, 2, none⟩ a2).setCell ⟨g, 3, none⟩ a3).setCell ⟨g, 4, none⟩ a4).setCell ⟨g, 5, none⟩ a5).setCell ⟨g, 6, none⟩ a6) :=
  h.trans ((chain_chg w g a0 a1 a2 a3 a4 a5 a6).more fun k hk => by rw [hk]; exact hg)
end Go.Proofs.Ytghemlokpfipoaa
