/-
  sequenceError: the walk.
-/
import Derived.Test.YtghemlokpfipoaaYMG8
import Derived.Deep.RegionHeld3
namespace Go.Proofs.Ytghemlokpfipoaa
open Go.ChangeShapes Go.WideShapes Go.ChangeAt Go.RowKit
set_option linter.unusedVariables false
set_option linter.unusedSimpArgs false
set_option maxRecDepth 100000

theorem two_set {w : World} {H H' : Nat} {c d : Value} (h : w.cell? ⟨H, 0, none⟩ = some c ∧ w.cell? ⟨H', 0, none⟩ = some d) {g : Nat} (h1 : H ≠ g) (h2 : H' ≠ g) (a0 a1 a2 a3 a4 a5 a6 : Value) :
    World.cell? (((((((w.setCell ⟨g, 0, none⟩ a0).setCell ⟨g, 1, none⟩ a1).setCell ⟨g, 2, none⟩ a2).setCell ⟨g, 3, none⟩ a3).setCell ⟨g, 4, none⟩ a4).setCell ⟨g, 5, none⟩ a5).setCell ⟨g, 6, none⟩ a6) ⟨H, 0, none⟩ = some c ∧
    World.cell? (((((((w.setCell ⟨g, 0, none⟩ a0).setCell ⟨g, 1, none⟩ a1).setCell ⟨g, 2, none⟩ a2).setCell ⟨g, 3, none⟩ a3).setCell ⟨g, 4, none⟩ a4).setCell ⟨g, 5, none⟩ a5).setCell ⟨g, 6, none⟩ a6) ⟨H', 0, none⟩ = some d := by
  have hb := block_setFrom (g := g) (b := H) h1 [a0, a1, a2, a3, a4, a5, a6] w 0
  have hb' := block_setFrom (g := g) (b := H') h2 [a0, a1, a2, a3, a4, a5, a6] w 0
  rw [chain7] at hb hb'
  exact ⟨(World.cell?_of_block (a := ⟨H, 0, none⟩) hb).trans h.1, (World.cell?_of_block (a := ⟨H', 0, none⟩) hb').trans h.2⟩

set_option maxHeartbeats 16000000 in
theorem implSeq (d d' : Vl) (hM : d.cost ≤ 1099511627776) (hM' : d'.cost ≤ 1099511627776) (W : World) (S S' : Nat → Prop) (cs cs' : List Value) (h : Ats W S (encV d) cs) (h' : Ats W S' (encV d') cs') :
    Calls Try.prog 78 #[.agg cs.toArray, .agg cs'.toArray] W fun r w' => ErrOut W (seqErr d d') r ∧ Later W w' := by
  have C := fun w g (hB : Box w g (cs ++ cs')) (hl : Later W w) => implErr2 d d' hM hM' W S S' cs cs' h h' w g hB hl
  obtain ⟨k, n, s, t, l, cl, r, hd⟩ := Vl.shape d
  obtain ⟨k', n', s', t', l', cl', r', hd'⟩ := Vl.shape d'
  have HP : Hid (d.kind = k ∧ d'.kind = k') := by subst hd hd'; exact ⟨rfl, rfl⟩
  rw [hd] at h
  rw [hd'] at h'
  obtain ⟨A1, c1, A2, c2, A3, c3, rfl, _⟩ := h.val
  obtain ⟨B1, d1, B2, d2, B3, d3, rfl, _⟩ := h'.val
  clear hd hd' hM hM' h h'
  have HC := Lib.hid C
  have BX := box_alloc (((W.alloc (.cells #[.int .i64 k, .int .i64 n, .int .i64 s, .string t, .slice A1 l.length c1, .slice A2 cl.length c2, .slice A3 r.length c3] 28)).alloc (.cells #[.int .i64 k', .int .i64 n', .int .i64 s', .string t', .slice B1 l'.length d1, .slice B2 cl'.length d2, .slice B3 r'.length d3] 28)).alloc (.cells #[.int .i64 0, .int .i64 0, .int .i64 0, .string ⟨#[]⟩, .slice none 0 0, .slice none 0 0, .slice none 0 0] 28)) #[.int .i64 k, .int .i64 n, .int .i64 s, .string t, .slice A1 l.length c1, .slice A2 cl.length c2, .slice A3 r.length c3, .int .i64 k', .int .i64 n', .int .i64 s', .string t', .slice B1 l'.length d1, .slice B2 cl'.length d2, .slice B3 r'.length d3] 28
  rw [World.size_alloc, World.size_alloc, World.size_alloc] at BX
  have hR := (box_alloc ((W.alloc (.cells #[.int .i64 k, .int .i64 n, .int .i64 s, .string t, .slice A1 l.length c1, .slice A2 cl.length c2, .slice A3 r.length c3] 28)).alloc (.cells #[.int .i64 k', .int .i64 n', .int .i64 s', .string t', .slice B1 l'.length d1, .slice B2 cl'.length d2, .slice B3 r'.length d3] 28)) #[.int .i64 0, .int .i64 0, .int .i64 0, .string ⟨#[]⟩, .slice none 0 0, .slice none 0 0, .slice none 0 0] 28).later ((Later.rfl' _).alloc (.cells #[.int .i64 k, .int .i64 n, .int .i64 s, .string t, .slice A1 l.length c1, .slice A2 cl.length c2, .slice A3 r.length c3, .int .i64 k', .int .i64 n', .int .i64 s', .string t', .slice B1 l'.length d1, .slice B2 cl'.length d2, .slice B3 r'.length d3] 28))
  rw [World.size_alloc, World.size_alloc] at hR
  have hB1 : Box ((((W.alloc (.cells #[.int .i64 k, .int .i64 n, .int .i64 s, .string t, .slice A1 l.length c1, .slice A2 cl.length c2, .slice A3 r.length c3] 28)).alloc (.cells #[.int .i64 k', .int .i64 n', .int .i64 s', .string t', .slice B1 l'.length d1, .slice B2 cl'.length d2, .slice B3 r'.length d3] 28)).alloc (.cells #[.int .i64 0, .int .i64 0, .int .i64 0, .string ⟨#[]⟩, .slice none 0 0, .slice none 0 0, .slice none 0 0] 28)).alloc (.cells #[.int .i64 k, .int .i64 n, .int .i64 s, .string t, .slice A1 l.length c1, .slice A2 cl.length c2, .slice A3 r.length c3, .int .i64 k', .int .i64 n', .int .i64 s', .string t', .slice B1 l'.length d1, .slice B2 cl'.length d2, .slice B3 r'.length d3] 28)) W.heap.size [.int .i64 k, .int .i64 n, .int .i64 s, .string t, .slice A1 l.length c1, .slice A2 cl.length c2, .slice A3 r.length c3] := (box_alloc W #[.int .i64 k, .int .i64 n, .int .i64 s, .string t, .slice A1 l.length c1, .slice A2 cl.length c2, .slice A3 r.length c3] 28).later ((((Later.rfl' _).alloc _).alloc _).alloc _)
  have hB2 : Box ((((W.alloc (.cells #[.int .i64 k, .int .i64 n, .int .i64 s, .string t, .slice A1 l.length c1, .slice A2 cl.length c2, .slice A3 r.length c3] 28)).alloc (.cells #[.int .i64 k', .int .i64 n', .int .i64 s', .string t', .slice B1 l'.length d1, .slice B2 cl'.length d2, .slice B3 r'.length d3] 28)).alloc (.cells #[.int .i64 0, .int .i64 0, .int .i64 0, .string ⟨#[]⟩, .slice none 0 0, .slice none 0 0, .slice none 0 0] 28)).alloc (.cells #[.int .i64 k, .int .i64 n, .int .i64 s, .string t, .slice A1 l.length c1, .slice A2 cl.length c2, .slice A3 r.length c3, .int .i64 k', .int .i64 n', .int .i64 s', .string t', .slice B1 l'.length d1, .slice B2 cl'.length d2, .slice B3 r'.length d3] 28)) (W.heap.size + 1) [.int .i64 k', .int .i64 n', .int .i64 s', .string t', .slice B1 l'.length d1, .slice B2 cl'.length d2, .slice B3 r'.length d3] := by
    have h := box_alloc (W.alloc (.cells #[.int .i64 k, .int .i64 n, .int .i64 s, .string t, .slice A1 l.length c1, .slice A2 cl.length c2, .slice A3 r.length c3] 28)) #[.int .i64 k', .int .i64 n', .int .i64 s', .string t', .slice B1 l'.length d1, .slice B2 cl'.length d2, .slice B3 r'.length d3] 28
    rw [World.size_alloc] at h
    exact h.later (((Later.rfl' _).alloc _).alloc _)
  have HBX := Lib.hid BX; have HR0 := Lib.hid hR; have HB1 := Lib.hid hB1; have HB2 := Lib.hid hB2
  clear C BX hR hB1 hB2
  go_enter Try.func78, Try.ntmps78
  go_wp2_with fail
  refine (HC.out _ _ HBX.out (((((Later.rfl' _).alloc _).alloc _).alloc _).alloc _)).mono ?_; rintro e w1 ⟨⟨x0, x1, x2, x3, E1, x4, x7, E2, x5, x8, E3, x6, x9, rfl, hEr⟩, hb1⟩
  have hl1 := hb1.alloc (.cells #[.int .i64 x0, .int .i64 x1, .int .i64 x2, .string x3, .slice E1 x4 x7, .slice E2 x5 x8, .slice E3 x6 x9] 28)
  have HR := Lib.hid (HR0.out.later hl1); have HL := Lib.hid ((((((Later.rfl' W).alloc _).alloc _).alloc _).alloc _).trans hl1)
  have HV1 := Lib.hid (HB1.out.later hl1); have HV2 := Lib.hid (HB2.out.later hl1)
  clear hb1 hl1 HBX HC HR0 HB1 HB2
  cases hE : firstE [d, d'] with
  | some m =>
    rw [hE] at hEr
    have HEr := Lib.hid (hEr m rfl)
    have HSM := Lib.hid (seq_some hE)
    have hR9 := HR.out
    obtain ⟨r0, r1, r2, r3, r4, r5, r6, f0, f1, f2, f3, f4, f5, f6⟩ := box_seven hR9
    have rz := hR9.lt
    clear hR9 HR hEr hE HV1 HV2
    simp only [Option.isSome_some]
    go_wp2_with fail
    exact bodyPost_ret (v := .tuple #[.agg #[.int .i64 x0, .int .i64 x1, .int .i64 x2, .string x3, .slice E1 x4 x7, .slice E2 x5 x8, .slice E3 x6 x9], .bool true]) (by simp [results, Try.results80, go_sem, r0, r1, r2, r3, r4, r5, r6]) rfl ⟨errOut_some HSM.out HEr.out.1 HEr.out.2, later_setFrom (by omega) [.int .i64 x0, .int .i64 x1, .int .i64 x2, .string x3, .slice E1 x4 x7, .slice E2 x5 x8, .slice E3 x6 x9] _ 0 HL.out⟩
  | none =>
    have HSK := Lib.hid (seq_kinds hE)
    obtain ⟨a0, a1, a2, a3, a4, a5, a6⟩ := Held7.of HV1.out
    obtain ⟨b0, b1, b2, b3, b4, b5, b6⟩ := Held7.of HV2.out
    have hrw := HR.out.lt
    clear HV1 HV2 hEr hE
    simp only [Option.isSome_none]
    by_cases k1 : k = 1
    · subst k1
      by_cases k3 : k' = 3
      · subst k3
        have HYES : Hid (d.kind = 1 ∧ (d'.kind = 3 ∨ d'.kind = 4)) := ⟨HP.out.1, .inl HP.out.2⟩
        have HS4 : Hid (seqErr d d' = none) := by
          unfold Hid
          rw [HSK.out, if_pos HYES.out]
        have hz0 := HR.out.lt
        have hP : (w1.alloc (.cells #[.int .i64 x0, .int .i64 x1, .int .i64 x2, .string x3, .slice E1 x4 x7, .slice E2 x5 x8, .slice E3 x6 x9] 28)).cell? ⟨W.heap.size, 0, none⟩ = some (.int .i64 1) ∧ (w1.alloc (.cells #[.int .i64 x0, .int .i64 x1, .int .i64 x2, .string x3, .slice E1 x4 x7, .slice E2 x5 x8, .slice E3 x6 x9] 28)).cell? ⟨W.heap.size + 1, 0, none⟩ = some (.int .i64 3) := ⟨a0, b0⟩
        go_wp2_with fail
        refine wp_region_held_drew (S := (fun w' => w'.cell? ⟨W.heap.size, 0, none⟩ = some (.int .i64 1) ∧ w'.cell? ⟨W.heap.size + 1, 0, none⟩ = some (.int .i64 3))) (by kernel_rfl) (⟨(World.cell?_of_block rfl).trans hP.1, (World.cell?_of_block rfl).trans hP.2⟩) (fun hHeld1 => ?_)
        clear hP
        refine wpAnyH_take (i := 1) (v := ?_) rfl (by kernel_rfl) (by kernel_rfl) (by kernel_rfl) (fun _ _ _ h => h) (Or.inl ⟨by kernel_rfl, ?_⟩) (by assumption) ?_
        rotate_left
        · intro w hSw
          try dsimp only at hSw
          go_simp
          all_goals with_reducible rfl
        try simp only [Act.put, Array.reduceGetElem, List.setIfInBounds_toArray, List.set_cons_zero, List.set_cons_succ]
        refine wpAnyH_take (i := 2) (v := ?_) rfl (by kernel_rfl) (by kernel_rfl) (by kernel_rfl) (fun _ _ _ h => h) (Or.inl ⟨by kernel_rfl, ?_⟩) (by assumption) ?_
        rotate_left
        · intro w hSw
          try dsimp only at hSw
          go_simp
          all_goals with_reducible rfl
        try simp only [Act.put, Array.reduceGetElem, List.setIfInBounds_toArray, List.set_cons_zero, List.set_cons_succ]
        refine wpAnyH_take (i := 3) (v := ?_) rfl (by kernel_rfl) (by kernel_rfl) (by kernel_rfl) (fun _ _ _ h => h) (Or.inl ⟨by kernel_rfl, ?_⟩) (by assumption) ?_
        rotate_left
        · intro w hSw
          try dsimp only at hSw
          go_simp
          all_goals with_reducible rfl
        try simp only [Act.put, Array.reduceGetElem, List.setIfInBounds_toArray, List.set_cons_zero, List.set_cons_succ]
        refine wpAnyH_ready (rs := [0]) (by kernel_rfl) (by simp) ?_
        refine AllReadyH.cons rfl (fun K hK => ?_) AllReadyH.nil
        go_simp
        go_at_call 32
        refine (implErr 4 (by omega) _).mono ?_; rintro e w9 ⟨⟨k9, n9, s9, t9, rfl, hK9, h91, h92, h93, h94⟩, hb9⟩
        unfold leafA
        have hb9' := (Later.rfl' (w1.alloc (.cells #[.int .i64 x0, .int .i64 x1, .int .i64 x2, .string x3, .slice E1 x4 x7, .slice E2 x5 x8, .slice E3 x6 x9] 28))).drew.trans hb9
        have R9 := HR.out.later hb9'
        have L9 := Lib.hid (HL.out.trans hb9')
        obtain ⟨r0, r1, r2, r3, r4, r5, r6, f0, f1, f2, f3, f4, f5, f6⟩ := box_seven R9
        have rz := R9.lt
        have hA9 : ∀ w, Later W w → Ats w anyB (encV (leafD 6 4 0 ⟨#[]⟩)) [.int .i64 k9, .int .i64 n9, .int .i64 s9, .string t9, .slice none 0 0, .slice none 0 0, .slice none 0 0] := fun w hw => by rw [show leafD 6 4 0 ⟨#[]⟩ = leafD k9 n9 s9 t9 from hK9]; exact (owns_leafV w anyB h91 h92 h93 h94).ats
        have HA9 := Lib.hid hA9
        refine hK.out _ _ ⟨kept_cell hb9 hHeld1.1, kept_cell hb9 hHeld1.2⟩ (fun hHeld2 => ?_)
        clear hK K hHeld1 R9 hb9 hb9' hK9 h91 h92 h93 h94 HR HL hA9 a0 a1 a2 a3 a4 a5 a6 b0 b1 b2 b3 b4 b5 b6
        try simp only [Act.put, Array.reduceGetElem, List.setIfInBounds_toArray, List.set_cons_zero, List.set_cons_succ]
        refine wpAnyH_take (i := 4) (v := ?_) rfl (by kernel_rfl) (by kernel_rfl) (by kernel_rfl) (fun _ _ _ h => h) (Or.inl ⟨by kernel_rfl, ?_⟩) (by assumption) ?_
        rotate_left
        · intro w hSw
          try dsimp only at hSw
          go_simp
          all_goals with_reducible rfl
        try simp only [Act.put, Array.reduceGetElem, List.setIfInBounds_toArray, List.set_cons_zero, List.set_cons_succ]
        refine wpAnyH_take (i := 5) (v := ?_) rfl (by kernel_rfl) (by kernel_rfl) (by kernel_rfl) (fun _ _ _ h => h) (Or.inl ⟨by kernel_rfl, ?_⟩) (by assumption) ?_
        rotate_left
        · intro w hSw
          try dsimp only at hSw
          go_simp
          all_goals with_reducible rfl
        try simp only [Act.put, Array.reduceGetElem, List.setIfInBounds_toArray, List.set_cons_zero, List.set_cons_succ]
        refine wpAnyH_take (i := 6) (v := ?_) rfl (by kernel_rfl) (by kernel_rfl) (by kernel_rfl) (fun _ _ _ h => h) (Or.inl ⟨by kernel_rfl, ?_⟩) (by assumption) ?_
        rotate_left
        · intro w hSw
          try dsimp only at hSw
          go_simp
          all_goals with_reducible rfl
        try simp only [Act.put, Array.reduceGetElem, List.setIfInBounds_toArray, List.set_cons_zero, List.set_cons_succ]
        refine wpAnyH_take (i := 7) (v := ?_) rfl (by kernel_rfl) (by kernel_rfl) (by kernel_rfl) (fun _ _ _ h => h) (Or.inl ⟨by kernel_rfl, ?_⟩) (by assumption) ?_
        rotate_left
        · intro w hSw
          try dsimp only at hSw
          go_simp
          all_goals with_reducible rfl
        try simp only [Act.put, Array.reduceGetElem, List.setIfInBounds_toArray, List.set_cons_zero, List.set_cons_succ]
        refine wpAnyH_take (i := 8) (v := ?_) rfl (by kernel_rfl) (by kernel_rfl) (by kernel_rfl) (fun _ _ _ h => h) (Or.inl ⟨by kernel_rfl, ?_⟩) (by assumption) ?_
        rotate_left
        · intro w hSw
          try dsimp only at hSw
          go_simp
          all_goals with_reducible rfl
        try simp only [Act.put, Array.reduceGetElem, List.setIfInBounds_toArray, List.set_cons_zero, List.set_cons_succ]
        refine wpAnyH_take (i := 9) (v := ?_) rfl (by kernel_rfl) (by kernel_rfl) (by kernel_rfl) (fun _ _ _ h => h) (Or.inr ⟨by kernel_rfl, ?_⟩) (by assumption) ?_
        rotate_left
        · rfl
        try simp only [Act.put, Array.reduceGetElem, List.setIfInBounds_toArray, List.set_cons_zero, List.set_cons_succ]
        refine wpAnyH_take (i := 10) (v := ?_) rfl (by kernel_rfl) (by kernel_rfl) (by kernel_rfl) (fun _ _ _ h => h) (Or.inr ⟨by kernel_rfl, ?_⟩) (by assumption) ?_
        rotate_left
        · rfl
        try simp only [Act.put, Array.reduceGetElem, List.setIfInBounds_toArray, List.set_cons_zero, List.set_cons_succ]
        refine wpAnyH_take (i := 11) (v := ?_) rfl (by kernel_rfl) (by kernel_rfl) (by kernel_rfl) (fun _ _ _ h => h) (Or.inr ⟨by kernel_rfl, ?_⟩) (by assumption) ?_
        rotate_left
        · rfl
        try simp only [Act.put, Array.reduceGetElem, List.setIfInBounds_toArray, List.set_cons_zero, List.set_cons_succ]
        refine wpAnyH_take (i := 12) (v := ?_) rfl (by kernel_rfl) (by kernel_rfl) (by kernel_rfl) (fun _ _ _ h => h) (Or.inl ⟨by kernel_rfl, ?_⟩) (by assumption) ?_
        rotate_left
        · intro w hSw
          try dsimp only at hSw
          go_simp
          all_goals with_reducible rfl
        try simp only [Act.put, Array.reduceGetElem, List.setIfInBounds_toArray, List.set_cons_zero, List.set_cons_succ]
        refine wpAnyH_take (i := 13) (v := ?_) rfl (by kernel_rfl) (by kernel_rfl) (by kernel_rfl) (fun _ _ _ h => h) (Or.inl ⟨by kernel_rfl, ?_⟩) (by assumption) ?_
        rotate_left
        · intro w hSw
          try dsimp only at hSw
          go_simp
          all_goals with_reducible rfl
        try simp only [Act.put, Array.reduceGetElem, List.setIfInBounds_toArray, List.set_cons_zero, List.set_cons_succ]
        refine wpAnyH_ready (rs := [14]) (by kernel_rfl) (by simp) ?_
        refine AllReadyH.cons rfl (fun K hK => ?_) AllReadyH.nil
        go_simp
        refine hK.out _ _ (by with_reducible exact two_set hHeld2 (by omega) (by omega) _ _ _ _ _ _ _) (fun hHeld3 => ?_)
        clear hK K hHeld2
        try simp only [Act.put, Array.reduceGetElem, List.setIfInBounds_toArray, List.set_cons_zero, List.set_cons_succ]
        refine wpAnyH_take (i := 15) (v := ?_) rfl (by kernel_rfl) (by kernel_rfl) (by kernel_rfl) (fun _ _ _ h => h) (Or.inl ⟨by kernel_rfl, ?_⟩) (by assumption) ?_
        rotate_left
        · intro w hSw
          try dsimp only at hSw
          go_simp
          all_goals with_reducible rfl
        try simp only [Act.put, Array.reduceGetElem, List.setIfInBounds_toArray, List.set_cons_zero, List.set_cons_succ]
        refine wpAnyH_done (by kernel_rfl) ?_ _
        clear hHeld3
        go_wp2_with fail
        exact bodyPost_ret (v := .tuple #[leafA k9 n9 s9 t9, .bool false]) (by simp [results, Try.results78, go_sem, leafA, r0, r1, r2, r3, r4, r5, r6]) rfl ⟨errOut_none HS4.out, later_setFrom (by omega) [.int .i64 k9, .int .i64 n9, .int .i64 s9, .string t9, .slice none 0 0, .slice none 0 0, .slice none 0 0] _ 0 L9.out⟩
      · by_cases k4 : k' = 4
        · subst k4
          have HYES : Hid (d.kind = 1 ∧ (d'.kind = 3 ∨ d'.kind = 4)) := ⟨HP.out.1, .inr HP.out.2⟩
          clear k3
          have HS4 : Hid (seqErr d d' = none) := by
            unfold Hid
            rw [HSK.out, if_pos HYES.out]
          have hz0 := HR.out.lt
          have HP0 := Lib.hid (show (w1.alloc (.cells #[.int .i64 x0, .int .i64 x1, .int .i64 x2, .string x3, .slice E1 x4 x7, .slice E2 x5 x8, .slice E3 x6 x9] 28)).cell? ⟨W.heap.size, 0, none⟩ = some (.int .i64 1) ∧ (w1.alloc (.cells #[.int .i64 x0, .int .i64 x1, .int .i64 x2, .string x3, .slice E1 x4 x7, .slice E2 x5 x8, .slice E3 x6 x9] 28)).cell? ⟨W.heap.size + 1, 0, none⟩ = some (.int .i64 4) from ⟨a0, b0⟩)
          go_wp2_with fail
          go_region_held3 (fun w' => w'.cell? ⟨W.heap.size, 0, none⟩ = some (.int .i64 1) ∧ w'.cell? ⟨W.heap.size + 1, 0, none⟩ = some (.int .i64 4))
            (first | with_reducible refine two_set ?_ (by omega) (by omega) _ _ _ _ _ _ _; with_reducible exact ⟨kept_cell HB9.out HP0.out.1, kept_cell HB9.out HP0.out.2⟩ | with_reducible exact ⟨kept_cell (Later.rfl' _).drew HP0.out.1, kept_cell (Later.rfl' _).drew HP0.out.2⟩ | with_reducible exact ⟨kept_cell HB9.out HP0.out.1, kept_cell HB9.out HP0.out.2⟩)
            (first | (go_at_call 32; refine (implErr 4 (by omega) _).mono ?_; rintro e w9 ⟨⟨k9, n9, s9, t9, rfl, hK9, h91, h92, h93, h94⟩, hb9⟩; unfold leafA; have HB9 := Lib.hid ((Later.rfl' (w1.alloc (.cells #[.int .i64 x0, .int .i64 x1, .int .i64 x2, .string x3, .slice E1 x4 x7, .slice E2 x5 x8, .slice E3 x6 x9] 28))).drew.trans hb9); have R9 := HR.out.later HB9.out; have L9 := Lib.hid (HL.out.trans HB9.out); obtain ⟨r0, r1, r2, r3, r4, r5, r6, f0, f1, f2, f3, f4, f5, f6⟩ := box_seven R9; have rz := R9.lt; have hA9 : ∀ w, Later W w → Ats w anyB (encV (leafD 6 4 0 ⟨#[]⟩)) [.int .i64 k9, .int .i64 n9, .int .i64 s9, .string t9, .slice none 0 0, .slice none 0 0, .slice none 0 0] := (fun w hw => by rw [show leafD 6 4 0 ⟨#[]⟩ = leafD k9 n9 s9 t9 from hK9]; exact (owns_leafV w anyB h91 h92 h93 h94).ats); have HA9 := Lib.hid hA9; clear hA9 R9 hb9 hK9 h91 h92 h93 h94))
          all_goals
            (rename_i hHL; clear hHL
             go_wp2_with fail
             exact bodyPost_ret (v := .tuple #[leafA k9 n9 s9 t9, .bool false]) (by simp [results, Try.results78, go_sem, leafA, r0, r1, r2, r3, r4, r5, r6]) rfl ⟨errOut_none HS4.out, later_setFrom (by omega) [.int .i64 k9, .int .i64 n9, .int .i64 s9, .string t9, .slice none 0 0, .slice none 0 0, .slice none 0 0] _ 0 L9.out⟩)
        · have e3 : (k' != 3) = true := by simpa using k3
          have e4 : (k' != 4) = true := by simpa using k4
          have HNO : Hid (¬ (d.kind = 1 ∧ (d'.kind = 3 ∨ d'.kind = 4))) := fun h => by rcases h.2 with h | h <;> rw [HP.out.2] at h <;> contradiction
          clear k3 k4
          have HS4 : Hid (seqErr d d' = some 4) := by
            unfold Hid
            rw [HSK.out, if_neg HNO.out]
          have hz0 := HR.out.lt
          have HP0 := Lib.hid (show (w1.alloc (.cells #[.int .i64 x0, .int .i64 x1, .int .i64 x2, .string x3, .slice E1 x4 x7, .slice E2 x5 x8, .slice E3 x6 x9] 28)).cell? ⟨W.heap.size, 0, none⟩ = some (.int .i64 1) ∧ (w1.alloc (.cells #[.int .i64 x0, .int .i64 x1, .int .i64 x2, .string x3, .slice E1 x4 x7, .slice E2 x5 x8, .slice E3 x6 x9] 28)).cell? ⟨W.heap.size + 1, 0, none⟩ = some (.int .i64 k') from ⟨a0, b0⟩)
          go_wp2_with fail
          go_region_held3 (fun w' => w'.cell? ⟨W.heap.size, 0, none⟩ = some (.int .i64 1) ∧ w'.cell? ⟨W.heap.size + 1, 0, none⟩ = some (.int .i64 k'))
            (first | with_reducible refine two_set ?_ (by omega) (by omega) _ _ _ _ _ _ _; with_reducible exact ⟨kept_cell HB9.out HP0.out.1, kept_cell HB9.out HP0.out.2⟩ | with_reducible exact ⟨kept_cell (Later.rfl' _).drew HP0.out.1, kept_cell (Later.rfl' _).drew HP0.out.2⟩ | with_reducible exact ⟨kept_cell HB9.out HP0.out.1, kept_cell HB9.out HP0.out.2⟩)
            (first | (go_at_call 32; refine (implErr 4 (by omega) _).mono ?_; rintro e w9 ⟨⟨k9, n9, s9, t9, rfl, hK9, h91, h92, h93, h94⟩, hb9⟩; unfold leafA; have HB9 := Lib.hid ((Later.rfl' (w1.alloc (.cells #[.int .i64 x0, .int .i64 x1, .int .i64 x2, .string x3, .slice E1 x4 x7, .slice E2 x5 x8, .slice E3 x6 x9] 28))).drew.trans hb9); have R9 := HR.out.later HB9.out; have L9 := Lib.hid (HL.out.trans HB9.out); obtain ⟨r0, r1, r2, r3, r4, r5, r6, f0, f1, f2, f3, f4, f5, f6⟩ := box_seven R9; have rz := R9.lt; have hA9 : ∀ w, Later W w → Ats w anyB (encV (leafD 6 4 0 ⟨#[]⟩)) [.int .i64 k9, .int .i64 n9, .int .i64 s9, .string t9, .slice none 0 0, .slice none 0 0, .slice none 0 0] := (fun w hw => by rw [show leafD 6 4 0 ⟨#[]⟩ = leafD k9 n9 s9 t9 from hK9]; exact (owns_leafV w anyB h91 h92 h93 h94).ats); have HA9 := Lib.hid hA9; clear hA9 R9 hb9 hK9 h91 h92 h93 h94))
          all_goals
            (rename_i hHL; clear hHL
             go_wp2_with fail
             exact bodyPost_ret (v := .tuple #[leafA k9 n9 s9 t9, .bool true]) (by simp [results, Try.results78, go_sem, leafA, r0, r1, r2, r3, r4, r5, r6]) rfl ⟨errOut_some HS4.out (by unfold Between64; omega) HA9.out, later_setFrom (by omega) [.int .i64 k9, .int .i64 n9, .int .i64 s9, .string t9, .slice none 0 0, .slice none 0 0, .slice none 0 0] _ 0 L9.out⟩)
    · have e1 : (k != 1) = true := by simpa using k1
      have HNO : Hid (¬ (d.kind = 1 ∧ (d'.kind = 3 ∨ d'.kind = 4))) := fun h => k1 (by rw [← HP.out.1]; exact h.1)
      clear k1
      have HS4 : Hid (seqErr d d' = some 4) := by
        unfold Hid
        rw [HSK.out, if_neg HNO.out]
      have hz0 := HR.out.lt
      have hP : (w1.alloc (.cells #[.int .i64 x0, .int .i64 x1, .int .i64 x2, .string x3, .slice E1 x4 x7, .slice E2 x5 x8, .slice E3 x6 x9] 28)).cell? ⟨W.heap.size, 0, none⟩ = some (.int .i64 k) ∧ (w1.alloc (.cells #[.int .i64 x0, .int .i64 x1, .int .i64 x2, .string x3, .slice E1 x4 x7, .slice E2 x5 x8, .slice E3 x6 x9] 28)).cell? ⟨W.heap.size + 1, 0, none⟩ = some (.int .i64 k') := ⟨a0, b0⟩
      go_wp2_with fail
      refine wp_region_held_drew (S := (fun w' => w'.cell? ⟨W.heap.size, 0, none⟩ = some (.int .i64 k) ∧ w'.cell? ⟨W.heap.size + 1, 0, none⟩ = some (.int .i64 k'))) (by kernel_rfl) (⟨(World.cell?_of_block rfl).trans hP.1, (World.cell?_of_block rfl).trans hP.2⟩) (fun hHeld1 => ?_)
      clear hP
      refine wpAnyH_take (i := 1) (v := ?_) rfl (by kernel_rfl) (by kernel_rfl) (by kernel_rfl) (fun _ _ _ h => h) (Or.inl ⟨by kernel_rfl, ?_⟩) (by assumption) ?_
      rotate_left
      · intro w hSw
        try dsimp only at hSw
        go_simp
        all_goals with_reducible rfl
      try simp only [Act.put, Array.reduceGetElem, List.setIfInBounds_toArray, List.set_cons_zero, List.set_cons_succ]
      refine wpAnyH_take (i := 2) (v := ?_) rfl (by kernel_rfl) (by kernel_rfl) (by kernel_rfl) (fun _ _ _ h => h) (Or.inl ⟨by kernel_rfl, ?_⟩) (by assumption) ?_
      rotate_left
      · intro w hSw
        try dsimp only at hSw
        go_simp
        all_goals with_reducible rfl
      try simp only [Act.put, Array.reduceGetElem, List.setIfInBounds_toArray, List.set_cons_zero, List.set_cons_succ]
      refine wpAnyH_take (i := 3) (v := ?_) rfl (by kernel_rfl) (by kernel_rfl) (by kernel_rfl) (fun _ _ _ h => h) (Or.inl ⟨by kernel_rfl, ?_⟩) (by assumption) ?_
      rotate_left
      · intro w hSw
        try dsimp only at hSw
        go_simp
        all_goals with_reducible rfl
      try simp only [Act.put, Array.reduceGetElem, List.setIfInBounds_toArray, List.set_cons_zero, List.set_cons_succ]
      refine wpAnyH_ready (rs := [0]) (by kernel_rfl) (by simp) ?_
      refine AllReadyH.cons rfl (fun K hK => ?_) AllReadyH.nil
      go_simp
      go_at_call 32
      refine (implErr 4 (by omega) _).mono ?_; rintro e w9 ⟨⟨k9, n9, s9, t9, rfl, hK9, h91, h92, h93, h94⟩, hb9⟩
      unfold leafA
      have hb9' := (Later.rfl' (w1.alloc (.cells #[.int .i64 x0, .int .i64 x1, .int .i64 x2, .string x3, .slice E1 x4 x7, .slice E2 x5 x8, .slice E3 x6 x9] 28))).drew.trans hb9
      have R9 := HR.out.later hb9'
      have L9 := Lib.hid (HL.out.trans hb9')
      obtain ⟨r0, r1, r2, r3, r4, r5, r6, f0, f1, f2, f3, f4, f5, f6⟩ := box_seven R9
      have rz := R9.lt
      have hA9 : ∀ w, Later W w → Ats w anyB (encV (leafD 6 4 0 ⟨#[]⟩)) [.int .i64 k9, .int .i64 n9, .int .i64 s9, .string t9, .slice none 0 0, .slice none 0 0, .slice none 0 0] := fun w hw => by rw [show leafD 6 4 0 ⟨#[]⟩ = leafD k9 n9 s9 t9 from hK9]; exact (owns_leafV w anyB h91 h92 h93 h94).ats
      have HA9 := Lib.hid hA9
      refine hK.out _ _ ⟨kept_cell hb9 hHeld1.1, kept_cell hb9 hHeld1.2⟩ (fun hHeld2 => ?_)
      clear hK K hHeld1 R9 hb9 hb9' hK9 h91 h92 h93 h94 HR HL hA9 a0 a1 a2 a3 a4 a5 a6 b0 b1 b2 b3 b4 b5 b6
      try simp only [Act.put, Array.reduceGetElem, List.setIfInBounds_toArray, List.set_cons_zero, List.set_cons_succ]
      refine wpAnyH_take (i := 4) (v := ?_) rfl (by kernel_rfl) (by kernel_rfl) (by kernel_rfl) (fun _ _ _ h => h) (Or.inl ⟨by kernel_rfl, ?_⟩) (by assumption) ?_
      rotate_left
      · intro w hSw
        try dsimp only at hSw
        go_simp
        all_goals with_reducible rfl
      try simp only [Act.put, Array.reduceGetElem, List.setIfInBounds_toArray, List.set_cons_zero, List.set_cons_succ]
      refine wpAnyH_take (i := 5) (v := ?_) rfl (by kernel_rfl) (by kernel_rfl) (by kernel_rfl) (fun _ _ _ h => h) (Or.inr ⟨by kernel_rfl, ?_⟩) (by assumption) ?_
      rotate_left
      · rfl
      try simp only [Act.put, Array.reduceGetElem, List.setIfInBounds_toArray, List.set_cons_zero, List.set_cons_succ]
      refine wpAnyH_take (i := 6) (v := ?_) rfl (by kernel_rfl) (by kernel_rfl) (by kernel_rfl) (fun _ _ _ h => h) (Or.inr ⟨by kernel_rfl, ?_⟩) (by assumption) ?_
      rotate_left
      · rfl
      try simp only [Act.put, Array.reduceGetElem, List.setIfInBounds_toArray, List.set_cons_zero, List.set_cons_succ]
      refine wpAnyH_take (i := 7) (v := ?_) rfl (by kernel_rfl) (by kernel_rfl) (by kernel_rfl) (fun _ _ _ h => h) (Or.inr ⟨by kernel_rfl, ?_⟩) (by assumption) ?_
      rotate_left
      · rfl
      try simp only [Act.put, Array.reduceGetElem, List.setIfInBounds_toArray, List.set_cons_zero, List.set_cons_succ]
      refine wpAnyH_take (i := 8) (v := ?_) rfl (by kernel_rfl) (by kernel_rfl) (by kernel_rfl) (fun _ _ _ h => h) (Or.inr ⟨by kernel_rfl, ?_⟩) (by assumption) ?_
      rotate_left
      · rfl
      try simp only [Act.put, Array.reduceGetElem, List.setIfInBounds_toArray, List.set_cons_zero, List.set_cons_succ]
      refine wpAnyH_take (i := 9) (v := ?_) rfl (by kernel_rfl) (by kernel_rfl) (by kernel_rfl) (fun _ _ _ h => h) (Or.inr ⟨by kernel_rfl, ?_⟩) (by assumption) ?_
      rotate_left
      · rfl
      try simp only [Act.put, Array.reduceGetElem, List.setIfInBounds_toArray, List.set_cons_zero, List.set_cons_succ]
      refine wpAnyH_take (i := 10) (v := ?_) rfl (by kernel_rfl) (by kernel_rfl) (by kernel_rfl) (fun _ _ _ h => h) (Or.inr ⟨by kernel_rfl, ?_⟩) (by assumption) ?_
      rotate_left
      · rfl
      try simp only [Act.put, Array.reduceGetElem, List.setIfInBounds_toArray, List.set_cons_zero, List.set_cons_succ]
      refine wpAnyH_take (i := 11) (v := ?_) rfl (by kernel_rfl) (by kernel_rfl) (by kernel_rfl) (fun _ _ _ h => h) (Or.inr ⟨by kernel_rfl, ?_⟩) (by assumption) ?_
      rotate_left
      · rfl
      try simp only [Act.put, Array.reduceGetElem, List.setIfInBounds_toArray, List.set_cons_zero, List.set_cons_succ]
      refine wpAnyH_take (i := 12) (v := ?_) rfl (by kernel_rfl) (by kernel_rfl) (by kernel_rfl) (fun _ _ _ h => h) (Or.inr ⟨by kernel_rfl, ?_⟩) (by assumption) ?_
      rotate_left
      · rfl
      try simp only [Act.put, Array.reduceGetElem, List.setIfInBounds_toArray, List.set_cons_zero, List.set_cons_succ]
      refine wpAnyH_take (i := 13) (v := ?_) rfl (by kernel_rfl) (by kernel_rfl) (by kernel_rfl) (fun _ _ _ h => h) (Or.inl ⟨by kernel_rfl, ?_⟩) (by assumption) ?_
      rotate_left
      · intro w hSw
        try dsimp only at hSw
        go_simp
        all_goals with_reducible rfl
      try simp only [Act.put, Array.reduceGetElem, List.setIfInBounds_toArray, List.set_cons_zero, List.set_cons_succ]
      refine wpAnyH_ready (rs := [14]) (by kernel_rfl) (by simp) ?_
      refine AllReadyH.cons rfl (fun K hK => ?_) AllReadyH.nil
      go_simp
      refine hK.out _ _ (by with_reducible exact two_set hHeld2 (by omega) (by omega) _ _ _ _ _ _ _) (fun hHeld3 => ?_)
      clear hK K hHeld2
      try simp only [Act.put, Array.reduceGetElem, List.setIfInBounds_toArray, List.set_cons_zero, List.set_cons_succ]
      refine wpAnyH_take (i := 15) (v := ?_) rfl (by kernel_rfl) (by kernel_rfl) (by kernel_rfl) (fun _ _ _ h => h) (Or.inl ⟨by kernel_rfl, ?_⟩) (by assumption) ?_
      rotate_left
      · intro w hSw
        try dsimp only at hSw
        go_simp
        all_goals with_reducible rfl
      try simp only [Act.put, Array.reduceGetElem, List.setIfInBounds_toArray, List.set_cons_zero, List.set_cons_succ]
      refine wpAnyH_done (by kernel_rfl) ?_ _
      clear hHeld3
      go_wp2_with fail
      exact bodyPost_ret (v := .tuple #[leafA k9 n9 s9 t9, .bool true]) (by simp [results, Try.results78, go_sem, leafA, r0, r1, r2, r3, r4, r5, r6]) rfl ⟨errOut_some HS4.out (by unfold Between64; omega) HA9.out, later_setFrom (by omega) [.int .i64 k9, .int .i64 n9, .int .i64 s9, .string t9, .slice none 0 0, .slice none 0 0, .slice none 0 0] _ 0 L9.out⟩

end Go.Proofs.Ytghemlokpfipoaa
