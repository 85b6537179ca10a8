/-
  All origins of a value's rows: OriginsOf: the walks.
-/
import Derived.Test.YtjjmbldgemnhbaaYUO5
import Derived.Test.YtjjmbldgemnhbaaYV2
namespace Go.Proofs.Ytjjmbldgemnhbaa
open Go.ChangeShapes Go.WideShapes Go.ChangeAt Go.RowKit
set_option linter.unusedVariables false
set_option linter.unusedSimpArgs false
set_option maxRecDepth 100000

def originsL (r : List Rw) : List Org := r.foldl (fun a x => unionO a x.from_) []
theorem originsL_next {r : List Rw} {j : Nat} (hj : j < r.length) : originsL (r.take (j + 1)) = unionO (originsL (r.take j)) r[j].from_ := by
  unfold originsL
  rw [List.take_succ_eq_append_getElem hj, List.foldl_append]
  rfl
theorem sumN_snoc {α : Type} (f : α → Nat) (l : List α) (x : α) : sumN f (l ++ [x]) = sumN f l + f x := by simp [sumN]
theorem originsL_len (r : List Rw) : ∀ j, j ≤ r.length → (originsL (r.take j)).length ≤ sumN Rw.cost (r.take j)
  | 0, _ => by simp [originsL]
  | j + 1, hj => by
    have h1 := originsL_len r j (by omega)
    rw [originsL_next (by omega), List.take_succ_eq_append_getElem (by omega), sumN_snoc]
    have h2 := length_unionO (originsL (r.take j)) r[j].from_
    have h3 : r[j].from_.length ≤ r[j].cost := by unfold Rw.cost; omega
    omega
theorem originsL_room {r : List Rw} {j : Nat} (hj : j < r.length) : (originsL (r.take j)).length + r[j].from_.length ≤ sumN Rw.cost r := by
  have h1 := originsL_len r j (by omega)
  have h3 : r[j].from_.length ≤ r[j].cost := by unfold Rw.cost; omega
  have e0 : sumN Rw.cost r = sumN Rw.cost (r.take j ++ (r[j] :: r.drop (j + 1))) := by rw [← List.drop_eq_getElem_cons hj, List.take_append_drop]
  have e1 : sumN Rw.cost (r.take j ++ (r[j] :: r.drop (j + 1))) = sumN Rw.cost (r.take j) + (r[j].cost + sumN Rw.cost (r.drop (j + 1))) := by unfold sumN; rw [List.map_append, List.sum_append, List.map_cons, List.sum_cons]
  omega
theorem originsL_all (r : List Rw) : (originsL r).length ≤ sumN Rw.cost r := by
  have := originsL_len r r.length (Nat.le_refl _)
  rwa [List.take_length] at this


set_option maxHeartbeats 2000000 in
theorem specOriginsOf (d : Vl) (hcost : d.cost ≤ 1048576) (W : World) (S : Nat → Prop) (cs : List Value) (h : Ats W S (encV d) cs) : Calls Try.prog 13 #[.agg cs.toArray] W fun e w' => CopyS W w' 2 encO (originsL d.rows) e ∧ Later W w' := by
  obtain ⟨k, n, s, t, l, cl, r, rfl⟩ := Vl.shape d
  obtain ⟨A1, c1, A2, c2, A3, c3, rfl, hb4, ⟨p1, q1⟩, ⟨p2, q2⟩, ⟨p3, q3⟩, g1, g2, g3⟩ := h.val
  rw [Vl.cost_mk] at hcost
  have hrl : r.length ≤ 1048576 := by omega
  have hsum : sumN Rw.cost r ≤ 1048576 := by omega
  have HR := Lib.hid g3
  clear h g1 g2 g3 hcost hb4
  simp only [Vl.rows]
  have HSUM := Lib.hid hsum
  clear hsum
  go_enter Try.func13, Try.ntmps13
  go_wp2_with fail
  go_loopw [3, 4] (fun ov iv wr => ∃ j : Nat, j ≤ r.length ∧ iv = .int .i64 j ∧ NewO W wr (originsL (r.take j)) ov ∧ Later (W.alloc (.cells #[.int .i64 k, .int .i64 n, .int .i64 s, .string t, .slice A1 l.length c1, .slice A2 cl.length c2, .slice A3 r.length c3] 40)) wr) (fun _ iv _ => r.length - (intOf iv).toNat)
  case atStart =>
    have H0 := World.ownsRow_made (base := W.heap.size) (e := 47) (size := 2) (W.alloc (.cells #[.int .i64 k, .int .i64 n, .int .i64 s, .string t, .slice A1 l.length c1, .slice A2 cl.length c2, .slice A3 r.length c3] 40)) #[] 0 (by simp) (Nat.zero_le _) rfl
    exact ⟨0, Nat.zero_le _, rfl, ORow.own (l := []) (by simpa [ORow] using H0) orgs64_nil (fun g hg => by simp [Value.ownBlock] at hg; subst hg; simp), (Later.rfl' _).alloc _⟩
  case round =>
    obtain ⟨j, hj, rfl, hown, hw⟩ := hrel
    have a6 := ((box_alloc W #[.int .i64 k, .int .i64 n, .int .i64 s, .string t, .slice A1 l.length c1, .slice A2 cl.length c2, .slice A3 r.length c3] 40).later hw).cell (j := 6) rfl
    have hzz := hw.size
    simp only [World.size_alloc] at hzz
    by_cases hlt : j < r.length
    · obtain ⟨b, off, B1, d1, B2, d2, rfl, hb, _, hx, e0, e1⟩ := (HR.out.later (((Later.rfl' W).alloc _).trans hw)).rowAt hlt
      obtain ⟨B1', d1', B2', d2', he, _, _, g4, g5⟩ := hx.row
      simp only [List.cons.injEq, Value.slice.injEq, true_and, and_true] at he
      obtain ⟨⟨rfl, rfl⟩, rfl, rfl⟩ := he
      have hroom := originsL_room hlt
      have hnext := originsL_next hlt
      have CU := fun W' (hW' : Later wr W') => specUnion (originsL (r.take j)) r[j].from_ (by have := HSUM.out; omega) W' _ _ _ _ (hown.at_.later hW') (g5.later hW')
      obtain ⟨X, hX⟩ : ∃ X, X = r[j].from_ := ⟨_, rfl⟩
      rw [← hX] at CU hnext e1
      obtain ⟨Y, hY⟩ : ∃ X, X = r[j].cells := ⟨_, rfl⟩
      rw [← hY] at e0
      obtain ⟨K, hK⟩ : ∃ K, K = originsL (r.take j) := ⟨_, rfl⟩
      simp only [← hK] at CU hnext
      have HC := Lib.hid CU
      have HN := Lib.hid hnext
      have HW := Lib.hid hw
      have hki : (j : Int) < (r.length : Int) := by omega
      clear CU hnext hX hY hK hx g4 g5 hown hw hroom
      go_wp2_with fail
      refine (HC.out _ (Later.rfl' wr)).mono ?_; rintro e w1 ⟨⟨v1, rfl, ho⟩, hb1⟩
      have HO : Hid (NewO W w1 (unionO K X) v1) := ho.more fun b h => ⟨by have := h.1; first | (simp only [World.size_alloc] at this; omega) | omega, h.2⟩
      have HL := Lib.hid (HW.out.trans ((Later.rfl' wr).trans hb1))
      clear ho hb1 HC
      go_wp2_with fail
      go_roundw
      case rel => exact ⟨j + 1, by omega, by go_num, by rw [HN.out]; exact HO.out, HL.out⟩
      case measure => simp [intOf]; omega
    · have e : r.take j = r := List.take_of_length_le (by omega)
      rw [e] at hown
      have HO := Lib.hid hown
      have HW := Lib.hid hw
      have hki : ¬ (j : Int) < (r.length : Int) := by omega
      clear e hown hw
      go_wp2_with fail
      go_ret
      exact ⟨⟨_, rfl, HO.out⟩, ((Later.rfl' _).alloc _).trans HW.out⟩


set_option maxHeartbeats 2000000 in
theorem implOriginsOf (d : Vl) (hcost : d.cost ≤ 1048576) (W : World) (S : Nat → Prop) (cs : List Value) (h : Ats W S (encV d) cs) : Calls Try.prog 15 #[.agg cs.toArray] W fun e w' => CopyS W w' 2 encO (originsL d.rows) e ∧ Later W w' := by
  obtain ⟨k, n, s, t, l, cl, r, rfl⟩ := Vl.shape d
  obtain ⟨A1, c1, A2, c2, A3, c3, rfl, hb4, ⟨p1, q1⟩, ⟨p2, q2⟩, ⟨p3, q3⟩, g1, g2, g3⟩ := h.val
  rw [Vl.cost_mk] at hcost
  have hrl : r.length ≤ 1048576 := by omega
  have hsum : sumN Rw.cost r ≤ 1048576 := by omega
  have HR := Lib.hid g3
  clear h g1 g2 g3 hcost hb4
  simp only [Vl.rows]
  have HSUM := Lib.hid hsum
  clear hsum
  go_enter Try.func15, Try.ntmps15
  go_wp2_with fail
  go_loopw [3, 10] (fun ov iv wr => ∃ j : Nat, j ≤ r.length ∧ iv = .int .i64 j ∧ NewO W wr (originsL (r.take j)) ov ∧ Later (W.alloc (.cells #[.int .i64 k, .int .i64 n, .int .i64 s, .string t, .slice A1 l.length c1, .slice A2 cl.length c2, .slice A3 r.length c3] 40)) wr) (fun _ iv _ => r.length - (intOf iv).toNat)
  case atStart =>
    have H0 := World.ownsRow_made (base := W.heap.size) (e := 47) (size := 2) (W.alloc (.cells #[.int .i64 k, .int .i64 n, .int .i64 s, .string t, .slice A1 l.length c1, .slice A2 cl.length c2, .slice A3 r.length c3] 40)) #[] 0 (by simp) (Nat.zero_le _) rfl
    exact ⟨0, Nat.zero_le _, rfl, ORow.own (l := []) (by simpa [ORow] using H0) orgs64_nil (fun g hg => by simp [Value.ownBlock] at hg; subst hg; simp), (Later.rfl' _).alloc _⟩
  case round =>
    obtain ⟨j, hj, rfl, hown, hw⟩ := hrel
    have a6 := ((box_alloc W #[.int .i64 k, .int .i64 n, .int .i64 s, .string t, .slice A1 l.length c1, .slice A2 cl.length c2, .slice A3 r.length c3] 40).later hw).cell (j := 6) rfl
    have hzz := hw.size
    simp only [World.size_alloc] at hzz
    by_cases hlt : j < r.length
    · obtain ⟨b, off, B1, d1, B2, d2, rfl, hb, _, hx, e0, e1⟩ := (HR.out.later (((Later.rfl' W).alloc _).trans hw)).rowAt hlt
      obtain ⟨B1', d1', B2', d2', he, _, _, g4, g5⟩ := hx.row
      simp only [List.cons.injEq, Value.slice.injEq, true_and, and_true] at he
      obtain ⟨⟨rfl, rfl⟩, rfl, rfl⟩ := he
      have hroom := originsL_room hlt
      have hnext := originsL_next hlt
      have CU := fun W' (hW' : Later wr W') => implUnion (originsL (r.take j)) r[j].from_ (by have := HSUM.out; omega) W' _ _ _ _ (hown.at_.later hW') (g5.later hW')
      obtain ⟨X, hX⟩ : ∃ X, X = r[j].from_ := ⟨_, rfl⟩
      rw [← hX] at CU hnext e1
      obtain ⟨Y, hY⟩ : ∃ X, X = r[j].cells := ⟨_, rfl⟩
      rw [← hY] at e0
      obtain ⟨K, hK⟩ : ∃ K, K = originsL (r.take j) := ⟨_, rfl⟩
      simp only [← hK] at CU hnext
      have HC := Lib.hid CU
      have HN := Lib.hid hnext
      have HW := Lib.hid hw
      have hki : (j : Int) < (r.length : Int) := by omega
      clear CU hnext hX hY hK hx g4 g5 hown hw hroom
      go_wp2_with fail
      refine (HC.out _ ((Later.rfl' wr).alloc _)).mono ?_; rintro e w1 ⟨⟨v1, rfl, ho⟩, hb1⟩
      have HO : Hid (NewO W w1 (unionO K X) v1) := ho.more fun b h => ⟨by have := h.1; first | (simp only [World.size_alloc] at this; omega) | omega, h.2⟩
      have HL := Lib.hid (HW.out.trans (((Later.rfl' wr).alloc _).trans hb1))
      clear ho hb1 HC
      go_wp2_with fail
      go_roundw
      case rel => exact ⟨j + 1, by omega, by go_num, by rw [HN.out]; exact HO.out, HL.out⟩
      case measure => simp [intOf]; omega
    · have e : r.take j = r := List.take_of_length_le (by omega)
      rw [e] at hown
      have HO := Lib.hid hown
      have HW := Lib.hid hw
      have hki : ¬ (j : Int) < (r.length : Int) := by omega
      clear e hown hw
      go_wp2_with fail
      go_ret
      exact ⟨⟨_, rfl, HO.out⟩, ((Later.rfl' _).alloc _).trans HW.out⟩

end Go.Proofs.Ytjjmbldgemnhbaa
