/-
  ApplyOperator of the program: the walk, part 4. ApplyOperator of the reference: the walk.
-/
import Derived.Test.YtghemlokpfipoaaYMG2
import Derived.Test.YtghemlokpfipoaaYMG7
import Derived.Test.YtghemlokpfipoaaYPV
namespace Go.Proofs.Ytghemlokpfipoaa
open Go.ChangeShapes Go.WideShapes Go.ChangeAt Go.RowKit
set_option linter.unusedVariables false
set_option linter.unusedSimpArgs false
set_option maxRecDepth 100000


set_option maxHeartbeats 40000000 in
theorem implApplyNone4 (op : Int) (d d' : Vl) (hcase : d.kind ≠ 1 ∧ d.kind ≠ 2 ∧ d.kind ≠ 3) (hM : d.cost ≤ 130000) (hM' : d'.cost ≤ 130000) (hm : firstE [d, d'] = none) (W : World) (S S' : Nat → Prop) (cs cs' : List Value) (h : Ats W S (encV d) cs) (h' : Ats W S' (encV d') cs') :
    Calls Try.prog 28 #[.int .i64 op, .agg cs.toArray, .agg cs'.toArray] W fun r w' => LeafB W.heap.size w' (applyN op d d') r ∧ Later W w' := by
  obtain ⟨e1, e2⟩ := first_two_none hm
  have HCASE := Lib.hid hcase
  have hv := (errOf_none e1).1
  have hv' := (errOf_none e2).1
  have C := fun w g (hB : Box w g (cs ++ cs')) (hl : Later W w) => implErr2 d d' (by omega) (by omega) W S S' cs cs' h h' w g hB hl
  have CS := fun w (hl : Later W w) => implEqualShown d d' w S S' cs cs' (h.later hl) (h'.later hl)
  obtain ⟨k, n, s, t, l, cl, r, hd⟩ := Vl.shape d
  obtain ⟨k', n', s', t', l', cl', r', hd'⟩ := Vl.shape d'
  have HP := Lib.hid (applyN_kinds hd hd')
  have hnum : k = 1 → -1000000000 ≤ n ∧ n ≤ 1000000000 := fun e => by have := valid_num hv (by rw [hd]; exact e); rw [hd] at this; exact this
  have hnum' : k' = 1 → -1000000000 ≤ n' ∧ n' ≤ 1000000000 := fun e => by have := valid_num hv' (by rw [hd']; exact e); rw [hd'] at this; exact this
  have htx : k = 2 → t.size ≤ 20 := fun e => by have := valid_kind2 hv (by rw [hd]; exact e); rw [hd] at this; unfold validText at this; simp at this; exact this.2
  have htx' : k' = 2 → t'.size ≤ 20 := fun e => by have := valid_kind2 hv' (by rw [hd']; exact e); rw [hd'] at this; unfold validText at this; simp at this; exact this.2
  have hls : k = 3 → l.length ≤ 8 := fun e => by have := (valid_kind3 hv (by rw [hd]; exact e)).2.1; rw [hd] at this; exact this
  have hls' : k' = 3 → l'.length ≤ 8 := fun e => by have := (valid_kind3 hv' (by rw [hd']; exact e)).2.1; rw [hd'] at this; exact this
  have hco : l.length + sumN Vl.cost l ≤ 1048576 := by have := list_cost hM; rw [hd] at this; exact Nat.le_trans this (by decide)
  have hco' : l'.length + sumN Vl.cost l' ≤ 1048576 := by have := list_cost hM'; rw [hd'] at this; exact Nat.le_trans this (by decide)
  rw [hd] at h
  rw [hd'] at h'
  obtain ⟨A1, c1, A2, c2, A3, c3, rfl, _, _, _, _, g1, _, _⟩ := h.val
  obtain ⟨B1, d1, B2, d2, B3, d3, rfl, _, _, _, _, g1', _, _⟩ := h'.val
  have HTX := Lib.hid htx; have HTX' := Lib.hid htx'; have HLS := Lib.hid hls; have HLS' := Lib.hid hls'; have HCO := Lib.hid hco; have HCO' := Lib.hid hco'; have HG := Lib.hid g1; have HG' := Lib.hid g1'
  clear htx htx' hls hls' hco hco' g1 g1'
  clear hd hd' hv hv' hM hM' e1 e2 h h'
  rw [hm] at C
  obtain ⟨q, hq⟩ : ∃ q, q = Vl.same false d d' := ⟨_, rfl⟩
  rw [← hq] at CS
  have HQ := Lib.hid hq
  have HC := Lib.hid C; have HS := Lib.hid CS; have HNUM := Lib.hid hnum; have HNUM' := Lib.hid hnum'
  have BX := box_alloc (((W.alloc (.cells #[.int .i64 k, .int .i64 n, .int .i64 s, .string t, .slice A1 l.length c1, .slice A2 cl.length c2, .slice A3 r.length c3] 28)).alloc (.cells #[.int .i64 k', .int .i64 n', .int .i64 s', .string t', .slice B1 l'.length d1, .slice B2 cl'.length d2, .slice B3 r'.length d3] 28)).alloc (.cells #[.int .i64 0, .int .i64 0, .int .i64 0, .string ⟨#[]⟩, .slice none 0 0, .slice none 0 0, .slice none 0 0] 28)) #[.int .i64 k, .int .i64 n, .int .i64 s, .string t, .slice A1 l.length c1, .slice A2 cl.length c2, .slice A3 r.length c3, .int .i64 k', .int .i64 n', .int .i64 s', .string t', .slice B1 l'.length d1, .slice B2 cl'.length d2, .slice B3 r'.length d3] 28
  rw [World.size_alloc, World.size_alloc, World.size_alloc] at BX
  have hR := (box_alloc ((W.alloc (.cells #[.int .i64 k, .int .i64 n, .int .i64 s, .string t, .slice A1 l.length c1, .slice A2 cl.length c2, .slice A3 r.length c3] 28)).alloc (.cells #[.int .i64 k', .int .i64 n', .int .i64 s', .string t', .slice B1 l'.length d1, .slice B2 cl'.length d2, .slice B3 r'.length d3] 28)) #[.int .i64 0, .int .i64 0, .int .i64 0, .string ⟨#[]⟩, .slice none 0 0, .slice none 0 0, .slice none 0 0] 28).later ((Later.rfl' _).alloc (.cells #[.int .i64 k, .int .i64 n, .int .i64 s, .string t, .slice A1 l.length c1, .slice A2 cl.length c2, .slice A3 r.length c3, .int .i64 k', .int .i64 n', .int .i64 s', .string t', .slice B1 l'.length d1, .slice B2 cl'.length d2, .slice B3 r'.length d3] 28))
  rw [World.size_alloc, World.size_alloc] at hR
  have hB1 : Box ((((W.alloc (.cells #[.int .i64 k, .int .i64 n, .int .i64 s, .string t, .slice A1 l.length c1, .slice A2 cl.length c2, .slice A3 r.length c3] 28)).alloc (.cells #[.int .i64 k', .int .i64 n', .int .i64 s', .string t', .slice B1 l'.length d1, .slice B2 cl'.length d2, .slice B3 r'.length d3] 28)).alloc (.cells #[.int .i64 0, .int .i64 0, .int .i64 0, .string ⟨#[]⟩, .slice none 0 0, .slice none 0 0, .slice none 0 0] 28)).alloc (.cells #[.int .i64 k, .int .i64 n, .int .i64 s, .string t, .slice A1 l.length c1, .slice A2 cl.length c2, .slice A3 r.length c3, .int .i64 k', .int .i64 n', .int .i64 s', .string t', .slice B1 l'.length d1, .slice B2 cl'.length d2, .slice B3 r'.length d3] 28)) W.heap.size [.int .i64 k, .int .i64 n, .int .i64 s, .string t, .slice A1 l.length c1, .slice A2 cl.length c2, .slice A3 r.length c3] := (box_alloc W #[.int .i64 k, .int .i64 n, .int .i64 s, .string t, .slice A1 l.length c1, .slice A2 cl.length c2, .slice A3 r.length c3] 28).later ((((Later.rfl' _).alloc _).alloc _).alloc _)
  have hB2 : Box ((((W.alloc (.cells #[.int .i64 k, .int .i64 n, .int .i64 s, .string t, .slice A1 l.length c1, .slice A2 cl.length c2, .slice A3 r.length c3] 28)).alloc (.cells #[.int .i64 k', .int .i64 n', .int .i64 s', .string t', .slice B1 l'.length d1, .slice B2 cl'.length d2, .slice B3 r'.length d3] 28)).alloc (.cells #[.int .i64 0, .int .i64 0, .int .i64 0, .string ⟨#[]⟩, .slice none 0 0, .slice none 0 0, .slice none 0 0] 28)).alloc (.cells #[.int .i64 k, .int .i64 n, .int .i64 s, .string t, .slice A1 l.length c1, .slice A2 cl.length c2, .slice A3 r.length c3, .int .i64 k', .int .i64 n', .int .i64 s', .string t', .slice B1 l'.length d1, .slice B2 cl'.length d2, .slice B3 r'.length d3] 28)) (W.heap.size + 1) [.int .i64 k', .int .i64 n', .int .i64 s', .string t', .slice B1 l'.length d1, .slice B2 cl'.length d2, .slice B3 r'.length d3] := by
    have h := box_alloc (W.alloc (.cells #[.int .i64 k, .int .i64 n, .int .i64 s, .string t, .slice A1 l.length c1, .slice A2 cl.length c2, .slice A3 r.length c3] 28)) #[.int .i64 k', .int .i64 n', .int .i64 s', .string t', .slice B1 l'.length d1, .slice B2 cl'.length d2, .slice B3 r'.length d3] 28
    rw [World.size_alloc] at h
    exact h.later (((Later.rfl' _).alloc _).alloc _)
  have HBX := Lib.hid BX; have HR0 := Lib.hid hR; have HB1 := Lib.hid hB1; have HB2 := Lib.hid hB2
  clear C CS BX hR hB1 hB2 hm hq hnum hnum'
  go_enter Try.func28, Try.ntmps28
  go_wp2_with fail
  refine (HC.out _ _ HBX.out (((((Later.rfl' _).alloc _).alloc _).alloc _).alloc _)).mono ?_; rintro e w1 ⟨⟨x0, x1, x2, x3, E1, x4, x7, E2, x5, x8, E3, x6, x9, rfl, _⟩, hb1⟩
  have hl1 := hb1.alloc (.cells #[.int .i64 x0, .int .i64 x1, .int .i64 x2, .string x3, .slice E1 x4 x7, .slice E2 x5 x8, .slice E3 x6 x9] 28)
  have HR := Lib.hid (HR0.out.later hl1); have HL := Lib.hid ((((((Later.rfl' W).alloc _).alloc _).alloc _).alloc _).trans hl1)
  have HV1 := Lib.hid (HB1.out.later hl1); have HV2 := Lib.hid (HB2.out.later hl1)
  clear hb1 hl1 HBX HC HR0 HB1 HB2
  obtain ⟨a0, a1, a2, a3, a4, a5, a6⟩ := Held7.of HV1.out
  obtain ⟨b0, b1, b2, b3, b4, b5, b6⟩ := Held7.of HV2.out
  have hrw := HR.out.lt
  clear HV1 HV2
  have k1 : ¬ k = 1 := by rw [← HP.out.1]; exact hcase.1
  have k2 : ¬ k = 2 := by rw [← HP.out.1]; exact hcase.2.1
  have k3 : ¬ k = 3 := by rw [← HP.out.1]; exact hcase.2.2
  have e1 : (k == 1) = false := by simpa using k1
  have e2 : (k == 2) = false := by simpa using k2
  have e3 : (k == 3) = false := by simpa using k3
  have HK1 := Lib.hid k1; have HK2 := Lib.hid k2; have HK3 := Lib.hid k3
  clear k1 k2 k3
  have HLE : Hid (lessD d d' = errD 4) := by
    obtain ⟨hk, hk', hn, hn', ht, ht', hl, hl'⟩ := HP.out
    unfold Hid lessD
    rw [hk, hk', if_neg (fun h => HK1.out h.1), if_neg (fun h => HK2.out h.1)]
  have HAD : Hid (addD d d' = errD 4) := by
    obtain ⟨hk, hk', hn, hn', ht, ht', hl, hl'⟩ := HP.out
    unfold Hid addD
    rw [hk, if_neg (fun h => HK1.out h.1), if_neg (fun h => HK2.out h.1), if_neg (fun h => HK3.out h.1)]
  have HNN : Hid (¬ (d.kind = 1 ∧ d'.kind = 1)) := by
    obtain ⟨hk, hk', hn, hn', ht, ht', hl, hl'⟩ := HP.out
    rw [hk, hk']
    exact fun h => HK1.out h.1
  by_cases h1 : op = 1
  · subst h1
    have HK : Hid (applyN 1 d d' = errD 4) := by
      obtain ⟨hk, hk', hn, hn', ht, ht', hl, hl'⟩ := HP.out
      unfold Hid applyN
      rw [if_pos rfl, HAD.out]
    go_wp2_with fail
    refine (implErr 4 (by omega) _).mono ?_; rintro e w9 ⟨⟨k9, n9, s9, t9, rfl, hK9, h91, h92, h93, h94⟩, hb9⟩
    unfold leafA
    have R9 := HR.out.later hb9
    have L9 := Lib.hid (HL.out.trans hb9)
    have HF9 := Lib.hid (fun w => leafB_of (lo := W.heap.size) (w := w) (HK.out.trans hK9) h91 h92 h93 h94)
    obtain ⟨r0, r1, r2, r3, r4, r5, r6, f0, f1, f2, f3, f4, f5, f6⟩ := box_seven R9
    have rz := R9.lt
    clear R9 hb9 hK9 h91 h92 h93 h94 HR HL
    go_wp2_with fail
    exact bodyPost_ret (v := leafA k9 n9 s9 t9) (by simp [results, Try.results28, go_sem, leafA, r0, r1, r2, r3, r4, r5, r6]) rfl ⟨HF9.out _, later_setFrom (by omega) [.int .i64 k9, .int .i64 n9, .int .i64 s9, .string t9, .slice none 0 0, .slice none 0 0, .slice none 0 0] _ 0 L9.out⟩
  · have o1 : (op == 1) = false := by simpa using h1
    have H1 := Lib.hid h1
    clear h1
    by_cases h4 : op = 4
    · subst h4
      have HK : Hid (applyN 4 d d' = errD 4) := by
        obtain ⟨hk, hk', hn, hn', ht, ht', hl, hl'⟩ := HP.out
        unfold Hid applyN
        rw [if_neg (by decide), if_pos rfl, HLE.out]
      go_wp2_with fail
      refine (implErr 4 (by omega) _).mono ?_; rintro e w9 ⟨⟨k9, n9, s9, t9, rfl, hK9, h91, h92, h93, h94⟩, hb9⟩
      unfold leafA
      have R9 := HR.out.later hb9
      have L9 := Lib.hid (HL.out.trans hb9)
      have HF9 := Lib.hid (fun w => leafB_of (lo := W.heap.size) (w := w) (HK.out.trans hK9) h91 h92 h93 h94)
      obtain ⟨r0, r1, r2, r3, r4, r5, r6, f0, f1, f2, f3, f4, f5, f6⟩ := box_seven R9
      have rz := R9.lt
      clear R9 hb9 hK9 h91 h92 h93 h94 HR HL
      go_wp2_with fail
      exact bodyPost_ret (v := leafA k9 n9 s9 t9) (by simp [results, Try.results28, go_sem, leafA, r0, r1, r2, r3, r4, r5, r6]) rfl ⟨HF9.out _, later_setFrom (by omega) [.int .i64 k9, .int .i64 n9, .int .i64 s9, .string t9, .slice none 0 0, .slice none 0 0, .slice none 0 0] _ 0 L9.out⟩
    · have o4 : (op == 4) = false := by simpa using h4
      have H4 := Lib.hid h4
      clear h4
      by_cases h5 : op = 5
      · subst h5
        have HK : Hid (applyN 5 d d' = truthD q) := by
          obtain ⟨hk, hk', hn, hn', ht, ht', hl, hl'⟩ := HP.out
          unfold Hid applyN
          rw [if_neg (by decide), if_neg (by decide), if_pos rfl, HQ.out]
        go_wp2_with fail
        refine (HS.out _ HL.out).mono ?_; rintro e w8 ⟨rfl, hb8⟩
        replace HR := Lib.hid (HR.out.later hb8); replace HL := Lib.hid (HL.out.trans hb8)
        clear hb8
        go_wp2_with fail
        refine (implTru q _).mono ?_; rintro e w9 ⟨⟨k9, n9, s9, t9, rfl, hK9, h91, h92, h93, h94⟩, hb9⟩
        unfold leafA
        have R9 := HR.out.later hb9
        have L9 := Lib.hid (HL.out.trans hb9)
        have HF9 := Lib.hid (fun w => leafB_of (lo := W.heap.size) (w := w) (HK.out.trans hK9) h91 h92 h93 h94)
        obtain ⟨r0, r1, r2, r3, r4, r5, r6, f0, f1, f2, f3, f4, f5, f6⟩ := box_seven R9
        have rz := R9.lt
        clear R9 hb9 hK9 h91 h92 h93 h94 HR HL
        go_wp2_with fail
        exact bodyPost_ret (v := leafA k9 n9 s9 t9) (by simp [results, Try.results28, go_sem, leafA, r0, r1, r2, r3, r4, r5, r6]) rfl ⟨HF9.out _, later_setFrom (by omega) [.int .i64 k9, .int .i64 n9, .int .i64 s9, .string t9, .slice none 0 0, .slice none 0 0, .slice none 0 0] _ 0 L9.out⟩
      · have o5 : (op == 5) = false := by simpa using h5
        have H5 := Lib.hid h5
        clear h5
        by_cases h2 : op = 2
        · subst h2
          have HK : Hid (applyN 2 d d' = errD 4) := by
            obtain ⟨hk, hk', hn, hn', ht, ht', hl, hl'⟩ := HP.out
            unfold Hid applyN
            rw [if_neg (by decide), if_neg (by decide), if_neg (by decide), if_neg (fun h => HNN.out h.2), if_neg (fun h => absurd h.1 (by decide))]
          go_wp2_with fail
          refine (implErr 4 (by omega) _).mono ?_; rintro e w9 ⟨⟨k9, n9, s9, t9, rfl, hK9, h91, h92, h93, h94⟩, hb9⟩
          unfold leafA
          have R9 := HR.out.later hb9
          have L9 := Lib.hid (HL.out.trans hb9)
          have HF9 := Lib.hid (fun w => leafB_of (lo := W.heap.size) (w := w) (HK.out.trans hK9) h91 h92 h93 h94)
          obtain ⟨r0, r1, r2, r3, r4, r5, r6, f0, f1, f2, f3, f4, f5, f6⟩ := box_seven R9
          have rz := R9.lt
          clear R9 hb9 hK9 h91 h92 h93 h94 HR HL
          go_wp2_with fail
          exact bodyPost_ret (v := leafA k9 n9 s9 t9) (by simp [results, Try.results28, go_sem, leafA, r0, r1, r2, r3, r4, r5, r6]) rfl ⟨HF9.out _, later_setFrom (by omega) [.int .i64 k9, .int .i64 n9, .int .i64 s9, .string t9, .slice none 0 0, .slice none 0 0, .slice none 0 0] _ 0 L9.out⟩
        · have o2 : (op == 2) = false := by simpa using h2
          have H2 := Lib.hid h2
          clear h2
          by_cases h3 : op = 3
          · subst h3
            have HK : Hid (applyN 3 d d' = errD 4) := by
              obtain ⟨hk, hk', hn, hn', ht, ht', hl, hl'⟩ := HP.out
              unfold Hid applyN
              rw [if_neg (by decide), if_neg (by decide), if_neg (by decide), if_neg (fun h => absurd h.1 (by decide)), if_neg (fun h => HNN.out h.2)]
            go_wp2_with fail
            refine (implErr 4 (by omega) _).mono ?_; rintro e w9 ⟨⟨k9, n9, s9, t9, rfl, hK9, h91, h92, h93, h94⟩, hb9⟩
            unfold leafA
            have R9 := HR.out.later hb9
            have L9 := Lib.hid (HL.out.trans hb9)
            have HF9 := Lib.hid (fun w => leafB_of (lo := W.heap.size) (w := w) (HK.out.trans hK9) h91 h92 h93 h94)
            obtain ⟨r0, r1, r2, r3, r4, r5, r6, f0, f1, f2, f3, f4, f5, f6⟩ := box_seven R9
            have rz := R9.lt
            clear R9 hb9 hK9 h91 h92 h93 h94 HR HL
            go_wp2_with fail
            exact bodyPost_ret (v := leafA k9 n9 s9 t9) (by simp [results, Try.results28, go_sem, leafA, r0, r1, r2, r3, r4, r5, r6]) rfl ⟨HF9.out _, later_setFrom (by omega) [.int .i64 k9, .int .i64 n9, .int .i64 s9, .string t9, .slice none 0 0, .slice none 0 0, .slice none 0 0] _ 0 L9.out⟩
          · have o3 : (op == 3) = false := by simpa using h3
            have H3 := Lib.hid h3
            clear h3
            have HK : Hid (applyN op d d' = errD 4) := by
              obtain ⟨hk, hk', hn, hn', ht, ht', hl, hl'⟩ := HP.out
              unfold Hid applyN
              rw [if_neg H1.out, if_neg H4.out, if_neg H5.out, if_neg (fun h => H2.out h.1), if_neg (fun h => H3.out h.1)]
            go_wp2_with fail
            refine (implErr 4 (by omega) _).mono ?_; rintro e w9 ⟨⟨k9, n9, s9, t9, rfl, hK9, h91, h92, h93, h94⟩, hb9⟩
            unfold leafA
            have R9 := HR.out.later hb9
            have L9 := Lib.hid (HL.out.trans hb9)
            have HF9 := Lib.hid (fun w => leafB_of (lo := W.heap.size) (w := w) (HK.out.trans hK9) h91 h92 h93 h94)
            obtain ⟨r0, r1, r2, r3, r4, r5, r6, f0, f1, f2, f3, f4, f5, f6⟩ := box_seven R9
            have rz := R9.lt
            clear R9 hb9 hK9 h91 h92 h93 h94 HR HL
            go_wp2_with fail
            exact bodyPost_ret (v := leafA k9 n9 s9 t9) (by simp [results, Try.results28, go_sem, leafA, r0, r1, r2, r3, r4, r5, r6]) rfl ⟨HF9.out _, later_setFrom (by omega) [.int .i64 k9, .int .i64 n9, .int .i64 s9, .string t9, .slice none 0 0, .slice none 0 0, .slice none 0 0] _ 0 L9.out⟩

end Go.Proofs.Ytghemlokpfipoaa
namespace Go.Proofs.Ytghemlokpfipoaa
open Go.ChangeShapes Go.WideShapes Go.ChangeAt Go.RowKit
set_option linter.unusedVariables false
set_option linter.unusedSimpArgs false
set_option maxRecDepth 100000


set_option maxHeartbeats 40000000 in
theorem specApplyNone (op : Int) (d d' : Vl) (hM : d.cost ≤ 130000) (hM' : d'.cost ≤ 130000) (hm : firstE [d, d'] = none) (W : World) (S S' : Nat → Prop) (cs cs' : List Value) (h : Ats W S (encV d) cs) (h' : Ats W S' (encV d') cs') :
    Calls Try.prog 29 #[.int .i64 op, .agg cs.toArray, .agg cs'.toArray] W fun r w' => LeafB W.heap.size w' (applyN op d d') r ∧ Later W w' := by
  obtain ⟨e1, e2⟩ := first_two_none hm
  have hv := (errOf_none e1).1
  have hv' := (errOf_none e2).1
  have C := fun w g (hB : Box w g (cs ++ cs')) (hl : Later W w) => specErr2 d d' (by omega) (by omega) W S S' cs cs' h h' w g hB hl
  have CA := fun w (hl : Later W w) => specAdd d d' hv hv' hM hM' w S S' cs cs' (h.later hl) (h'.later hl)
  have CL := fun w (hl : Later W w) => specLess d d' hv hv' w S S' cs cs' (h.later hl) (h'.later hl)
  have CS := fun w (hl : Later W w) => specEqualShown d d' w S S' cs cs' (h.later hl) (h'.later hl)
  obtain ⟨k, n, s, t, l, cl, r, hd⟩ := Vl.shape d
  obtain ⟨k', n', s', t', l', cl', r', hd'⟩ := Vl.shape d'
  have HP := Lib.hid (applyN_kinds hd hd')
  have hnum : k = 1 → -1000000000 ≤ n ∧ n ≤ 1000000000 := fun e => by have := valid_num hv (by rw [hd]; exact e); rw [hd] at this; exact this
  have hnum' : k' = 1 → -1000000000 ≤ n' ∧ n' ≤ 1000000000 := fun e => by have := valid_num hv' (by rw [hd']; exact e); rw [hd'] at this; exact this
  rw [hd] at h
  rw [hd'] at h'
  obtain ⟨A1, c1, A2, c2, A3, c3, rfl, _⟩ := h.val
  obtain ⟨B1, d1, B2, d2, B3, d3, rfl, _⟩ := h'.val
  clear hd hd' hv hv' hM hM' e1 e2 h h'
  rw [hm] at C
  obtain ⟨q, hq⟩ : ∃ q, q = Vl.same false d d' := ⟨_, rfl⟩
  rw [← hq] at CS
  have HQ := Lib.hid hq
  have HC := Lib.hid C; have HA := Lib.hid CA; have HE := Lib.hid CL; have HS := Lib.hid CS; have HNUM := Lib.hid hnum; have HNUM' := Lib.hid hnum'
  have BX := box_alloc (((W.alloc (.cells #[.int .i64 k, .int .i64 n, .int .i64 s, .string t, .slice A1 l.length c1, .slice A2 cl.length c2, .slice A3 r.length c3] 28)).alloc (.cells #[.int .i64 k', .int .i64 n', .int .i64 s', .string t', .slice B1 l'.length d1, .slice B2 cl'.length d2, .slice B3 r'.length d3] 28)).alloc (.cells #[.int .i64 0, .int .i64 0, .int .i64 0, .string ⟨#[]⟩, .slice none 0 0, .slice none 0 0, .slice none 0 0] 28)) #[.int .i64 k, .int .i64 n, .int .i64 s, .string t, .slice A1 l.length c1, .slice A2 cl.length c2, .slice A3 r.length c3, .int .i64 k', .int .i64 n', .int .i64 s', .string t', .slice B1 l'.length d1, .slice B2 cl'.length d2, .slice B3 r'.length d3] 28
  rw [World.size_alloc, World.size_alloc, World.size_alloc] at BX
  have hR := (box_alloc ((W.alloc (.cells #[.int .i64 k, .int .i64 n, .int .i64 s, .string t, .slice A1 l.length c1, .slice A2 cl.length c2, .slice A3 r.length c3] 28)).alloc (.cells #[.int .i64 k', .int .i64 n', .int .i64 s', .string t', .slice B1 l'.length d1, .slice B2 cl'.length d2, .slice B3 r'.length d3] 28)) #[.int .i64 0, .int .i64 0, .int .i64 0, .string ⟨#[]⟩, .slice none 0 0, .slice none 0 0, .slice none 0 0] 28).later ((Later.rfl' _).alloc (.cells #[.int .i64 k, .int .i64 n, .int .i64 s, .string t, .slice A1 l.length c1, .slice A2 cl.length c2, .slice A3 r.length c3, .int .i64 k', .int .i64 n', .int .i64 s', .string t', .slice B1 l'.length d1, .slice B2 cl'.length d2, .slice B3 r'.length d3] 28))
  rw [World.size_alloc, World.size_alloc] at hR
  have hB1 : Box ((((W.alloc (.cells #[.int .i64 k, .int .i64 n, .int .i64 s, .string t, .slice A1 l.length c1, .slice A2 cl.length c2, .slice A3 r.length c3] 28)).alloc (.cells #[.int .i64 k', .int .i64 n', .int .i64 s', .string t', .slice B1 l'.length d1, .slice B2 cl'.length d2, .slice B3 r'.length d3] 28)).alloc (.cells #[.int .i64 0, .int .i64 0, .int .i64 0, .string ⟨#[]⟩, .slice none 0 0, .slice none 0 0, .slice none 0 0] 28)).alloc (.cells #[.int .i64 k, .int .i64 n, .int .i64 s, .string t, .slice A1 l.length c1, .slice A2 cl.length c2, .slice A3 r.length c3, .int .i64 k', .int .i64 n', .int .i64 s', .string t', .slice B1 l'.length d1, .slice B2 cl'.length d2, .slice B3 r'.length d3] 28)) W.heap.size [.int .i64 k, .int .i64 n, .int .i64 s, .string t, .slice A1 l.length c1, .slice A2 cl.length c2, .slice A3 r.length c3] := (box_alloc W #[.int .i64 k, .int .i64 n, .int .i64 s, .string t, .slice A1 l.length c1, .slice A2 cl.length c2, .slice A3 r.length c3] 28).later ((((Later.rfl' _).alloc _).alloc _).alloc _)
  have hB2 : Box ((((W.alloc (.cells #[.int .i64 k, .int .i64 n, .int .i64 s, .string t, .slice A1 l.length c1, .slice A2 cl.length c2, .slice A3 r.length c3] 28)).alloc (.cells #[.int .i64 k', .int .i64 n', .int .i64 s', .string t', .slice B1 l'.length d1, .slice B2 cl'.length d2, .slice B3 r'.length d3] 28)).alloc (.cells #[.int .i64 0, .int .i64 0, .int .i64 0, .string ⟨#[]⟩, .slice none 0 0, .slice none 0 0, .slice none 0 0] 28)).alloc (.cells #[.int .i64 k, .int .i64 n, .int .i64 s, .string t, .slice A1 l.length c1, .slice A2 cl.length c2, .slice A3 r.length c3, .int .i64 k', .int .i64 n', .int .i64 s', .string t', .slice B1 l'.length d1, .slice B2 cl'.length d2, .slice B3 r'.length d3] 28)) (W.heap.size + 1) [.int .i64 k', .int .i64 n', .int .i64 s', .string t', .slice B1 l'.length d1, .slice B2 cl'.length d2, .slice B3 r'.length d3] := by
    have h := box_alloc (W.alloc (.cells #[.int .i64 k, .int .i64 n, .int .i64 s, .string t, .slice A1 l.length c1, .slice A2 cl.length c2, .slice A3 r.length c3] 28)) #[.int .i64 k', .int .i64 n', .int .i64 s', .string t', .slice B1 l'.length d1, .slice B2 cl'.length d2, .slice B3 r'.length d3] 28
    rw [World.size_alloc] at h
    exact h.later (((Later.rfl' _).alloc _).alloc _)
  have HBX := Lib.hid BX; have HR0 := Lib.hid hR; have HB1 := Lib.hid hB1; have HB2 := Lib.hid hB2
  clear C CA CL CS BX hR hB1 hB2 hm hq hnum hnum'
  go_enter Try.func29, Try.ntmps29
  go_wp2_with fail
  refine (HC.out _ _ HBX.out (((((Later.rfl' _).alloc _).alloc _).alloc _).alloc _)).mono ?_; rintro e w1 ⟨⟨x0, x1, x2, x3, E1, x4, x7, E2, x5, x8, E3, x6, x9, rfl, _⟩, hb1⟩
  have hl1 := hb1.alloc (.cells #[.int .i64 x0, .int .i64 x1, .int .i64 x2, .string x3, .slice E1 x4 x7, .slice E2 x5 x8, .slice E3 x6 x9] 28)
  have HR := Lib.hid (HR0.out.later hl1); have HL := Lib.hid ((((((Later.rfl' W).alloc _).alloc _).alloc _).alloc _).trans hl1)
  have HV1 := Lib.hid (HB1.out.later hl1); have HV2 := Lib.hid (HB2.out.later hl1)
  clear hb1 hl1 HBX HC HR0 HB1 HB2
  obtain ⟨a0, a1, a2, a3, a4, a5, a6⟩ := Held7.of HV1.out
  obtain ⟨b0, b1, b2, b3, b4, b5, b6⟩ := Held7.of HV2.out
  have hrw := HR.out.lt
  clear HV1 HV2
  by_cases k1 : k = 1
  · subst k1
    by_cases k1' : k' = 1
    · subst k1'
      obtain ⟨hb1, hb2⟩ := HNUM.out rfl
      obtain ⟨hb3, hb4⟩ := HNUM'.out rfl
      by_cases h1 : op = 1
      · subst h1
        have HK : Hid (applyN 1 d d' = addD d d') := by
          obtain ⟨hk, hk', hn, hn', ht, ht', hl, hl'⟩ := HP.out
          unfold Hid applyN
          rw [if_pos rfl]
        go_wp2_with fail
        refine (HA.out _ HL.out).mono ?_; rintro e w9 ⟨⟨y0, y1, y2, y3, C1, y4, y7, C2, y5, y8, C3, y6, y9, rfl, hA⟩, hb9⟩
        have R9 := HR.out.later hb9
        have L9 := Lib.hid (HL.out.trans hb9)
        have hzX := HL.out.size
        have hcC := chg_setFrom (g := W.heap.size + 1 + 1) [.int .i64 y0, .int .i64 y1, .int .i64 y2, .string y3, .slice C1 y4 y7, .slice C2 y5 y8, .slice C3 y6 y9] w9 0
        have HA9 := Lib.hid ((hA.chg hcC fun b h1 h2 => by have := HR.out.lt; omega).more (S' := fun b => W.heap.size ≤ b) fun b h => by have := HR.out.lt; omega)
        obtain ⟨r0, r1, r2, r3, r4, r5, r6, f0, f1, f2, f3, f4, f5, f6⟩ := box_seven R9
        have rz := R9.lt
        clear R9 hA hb9 HR HL hcC hzX
        go_wp2_with fail
        exact bodyPost_ret (v := .agg #[.int .i64 y0, .int .i64 y1, .int .i64 y2, .string y3, .slice C1 y4 y7, .slice C2 y5 y8, .slice C3 y6 y9]) (by simp [results, Try.results29, go_sem, r0, r1, r2, r3, r4, r5, r6]) rfl ⟨by rw [HK.out]; exact ⟨_, _, _, _, _, _, _, _, _, _, _, _, _, rfl, HA9.out⟩, later_setFrom (by omega) [.int .i64 y0, .int .i64 y1, .int .i64 y2, .string y3, .slice C1 y4 y7, .slice C2 y5 y8, .slice C3 y6 y9] _ 0 L9.out⟩
      · have o1 : (op == 1) = false := by simpa using h1
        have H1 := Lib.hid h1
        clear h1
        by_cases h4 : op = 4
        · subst h4
          have HK : Hid (applyN 4 d d' = lessD d d') := by
            obtain ⟨hk, hk', hn, hn', ht, ht', hl, hl'⟩ := HP.out
            unfold Hid applyN
            rw [if_neg (by decide), if_pos rfl]
          go_wp2_with fail
          refine (HE.out _ HL.out).mono ?_; rintro e w9 ⟨⟨y0, y1, y2, y3, C1, y4, y7, C2, y5, y8, C3, y6, y9, rfl, hA⟩, hb9⟩
          have R9 := HR.out.later hb9
          have L9 := Lib.hid (HL.out.trans hb9)
          have hzX := HL.out.size
          have hcC := chg_setFrom (g := W.heap.size + 1 + 1) [.int .i64 y0, .int .i64 y1, .int .i64 y2, .string y3, .slice C1 y4 y7, .slice C2 y5 y8, .slice C3 y6 y9] w9 0
          have HA9 := Lib.hid ((hA.chg hcC fun b h1 h2 => by have := HR.out.lt; omega).more (S' := fun b => W.heap.size ≤ b) fun b h => by have := HR.out.lt; omega)
          obtain ⟨r0, r1, r2, r3, r4, r5, r6, f0, f1, f2, f3, f4, f5, f6⟩ := box_seven R9
          have rz := R9.lt
          clear R9 hA hb9 HR HL hcC hzX
          go_wp2_with fail
          exact bodyPost_ret (v := .agg #[.int .i64 y0, .int .i64 y1, .int .i64 y2, .string y3, .slice C1 y4 y7, .slice C2 y5 y8, .slice C3 y6 y9]) (by simp [results, Try.results29, go_sem, r0, r1, r2, r3, r4, r5, r6]) rfl ⟨by rw [HK.out]; exact ⟨_, _, _, _, _, _, _, _, _, _, _, _, _, rfl, HA9.out⟩, later_setFrom (by omega) [.int .i64 y0, .int .i64 y1, .int .i64 y2, .string y3, .slice C1 y4 y7, .slice C2 y5 y8, .slice C3 y6 y9] _ 0 L9.out⟩
        · have o4 : (op == 4) = false := by simpa using h4
          have H4 := Lib.hid h4
          clear h4
          by_cases h5 : op = 5
          · subst h5
            have HK : Hid (applyN 5 d d' = truthD q) := by
              obtain ⟨hk, hk', hn, hn', ht, ht', hl, hl'⟩ := HP.out
              unfold Hid applyN
              rw [if_neg (by decide), if_neg (by decide), if_pos rfl, HQ.out]
            go_wp2_with fail
            refine (HS.out _ HL.out).mono ?_; rintro e w8 ⟨rfl, hb8⟩
            replace HR := Lib.hid (HR.out.later hb8); replace HL := Lib.hid (HL.out.trans hb8)
            clear hb8
            go_wp2_with fail
            refine (specTru q _).mono ?_; rintro e w9 ⟨⟨k9, n9, s9, t9, rfl, hK9, h91, h92, h93, h94⟩, hb9⟩
            unfold leafA
            have R9 := HR.out.later hb9
            have L9 := Lib.hid (HL.out.trans hb9)
            have HF9 := Lib.hid (fun w => leafB_of (lo := W.heap.size) (w := w) (HK.out.trans hK9) h91 h92 h93 h94)
            obtain ⟨r0, r1, r2, r3, r4, r5, r6, f0, f1, f2, f3, f4, f5, f6⟩ := box_seven R9
            have rz := R9.lt
            clear R9 hb9 hK9 h91 h92 h93 h94 HR HL
            go_wp2_with fail
            exact bodyPost_ret (v := leafA k9 n9 s9 t9) (by simp [results, Try.results29, go_sem, leafA, r0, r1, r2, r3, r4, r5, r6]) rfl ⟨HF9.out _, later_setFrom (by omega) [.int .i64 k9, .int .i64 n9, .int .i64 s9, .string t9, .slice none 0 0, .slice none 0 0, .slice none 0 0] _ 0 L9.out⟩
          · have o5 : (op == 5) = false := by simpa using h5
            have H5 := Lib.hid h5
            clear h5
            by_cases h2 : op = 2
            · subst h2
              have HK : Hid (applyN 2 d d' = chkD (n - n')) := by
                obtain ⟨hk, hk', hn, hn', ht, ht', hl, hl'⟩ := HP.out
                unfold Hid applyN
                rw [if_neg (by decide), if_neg (by decide), if_neg (by decide), if_pos ⟨rfl, hk, hk'⟩, hn, hn']
              go_wp2_with fail
              refine (specChk (n - n') _).mono ?_; rintro e w9 ⟨⟨k9, n9, s9, t9, rfl, hK9, h91, h92, h93, h94⟩, hb9⟩
              unfold leafA
              have R9 := HR.out.later hb9
              have L9 := Lib.hid (HL.out.trans hb9)
              have HF9 := Lib.hid (fun w => leafB_of (lo := W.heap.size) (w := w) (HK.out.trans hK9) h91 h92 h93 h94)
              obtain ⟨r0, r1, r2, r3, r4, r5, r6, f0, f1, f2, f3, f4, f5, f6⟩ := box_seven R9
              have rz := R9.lt
              clear R9 hb9 hK9 h91 h92 h93 h94 HR HL
              go_wp2_with fail
              exact bodyPost_ret (v := leafA k9 n9 s9 t9) (by simp [results, Try.results29, go_sem, leafA, r0, r1, r2, r3, r4, r5, r6]) rfl ⟨HF9.out _, later_setFrom (by omega) [.int .i64 k9, .int .i64 n9, .int .i64 s9, .string t9, .slice none 0 0, .slice none 0 0, .slice none 0 0] _ 0 L9.out⟩
            · have o2 : (op == 2) = false := by simpa using h2
              have H2 := Lib.hid h2
              clear h2
              by_cases h3 : op = 3
              · subst h3
                have HK : Hid (applyN 3 d d' = chkD (n * n')) := by
                  obtain ⟨hk, hk', hn, hn', ht, ht', hl, hl'⟩ := HP.out
                  unfold Hid applyN
                  rw [if_neg (by decide), if_neg (by decide), if_neg (by decide), if_neg (fun h => absurd h.1 (by decide)), if_pos ⟨rfl, hk, hk'⟩, hn, hn']
                obtain ⟨hm1, hm2⟩ := mul_bounds ⟨hb1, hb2⟩ ⟨hb3, hb4⟩
                go_wp2_with fail
                refine (specChk (n * n') _).mono ?_; rintro e w9 ⟨⟨k9, n9, s9, t9, rfl, hK9, h91, h92, h93, h94⟩, hb9⟩
                unfold leafA
                have R9 := HR.out.later hb9
                have L9 := Lib.hid (HL.out.trans hb9)
                have HF9 := Lib.hid (fun w => leafB_of (lo := W.heap.size) (w := w) (HK.out.trans hK9) h91 h92 h93 h94)
                obtain ⟨r0, r1, r2, r3, r4, r5, r6, f0, f1, f2, f3, f4, f5, f6⟩ := box_seven R9
                have rz := R9.lt
                clear R9 hb9 hK9 h91 h92 h93 h94 HR HL
                go_wp2_with fail
                exact bodyPost_ret (v := leafA k9 n9 s9 t9) (by simp [results, Try.results29, go_sem, leafA, r0, r1, r2, r3, r4, r5, r6]) rfl ⟨HF9.out _, later_setFrom (by omega) [.int .i64 k9, .int .i64 n9, .int .i64 s9, .string t9, .slice none 0 0, .slice none 0 0, .slice none 0 0] _ 0 L9.out⟩
              · have o3 : (op == 3) = false := by simpa using h3
                have H3 := Lib.hid h3
                clear h3
                have HK : Hid (applyN op d d' = errD 4) := by
                  obtain ⟨hk, hk', hn, hn', ht, ht', hl, hl'⟩ := HP.out
                  unfold Hid applyN
                  rw [if_neg H1.out, if_neg H4.out, if_neg H5.out, if_neg (fun h => H2.out h.1), if_neg (fun h => H3.out h.1)]
                go_wp2_with fail
                refine (specErr 4 (by omega) _).mono ?_; rintro e w9 ⟨⟨k9, n9, s9, t9, rfl, hK9, h91, h92, h93, h94⟩, hb9⟩
                unfold leafA
                have R9 := HR.out.later hb9
                have L9 := Lib.hid (HL.out.trans hb9)
                have HF9 := Lib.hid (fun w => leafB_of (lo := W.heap.size) (w := w) (HK.out.trans hK9) h91 h92 h93 h94)
                obtain ⟨r0, r1, r2, r3, r4, r5, r6, f0, f1, f2, f3, f4, f5, f6⟩ := box_seven R9
                have rz := R9.lt
                clear R9 hb9 hK9 h91 h92 h93 h94 HR HL
                go_wp2_with fail
                exact bodyPost_ret (v := leafA k9 n9 s9 t9) (by simp [results, Try.results29, go_sem, leafA, r0, r1, r2, r3, r4, r5, r6]) rfl ⟨HF9.out _, later_setFrom (by omega) [.int .i64 k9, .int .i64 n9, .int .i64 s9, .string t9, .slice none 0 0, .slice none 0 0, .slice none 0 0] _ 0 L9.out⟩
    · have e1 : (k' == 1) = false := by simpa using k1'
      have HK1 : Hid (¬ (d.kind = 1 ∧ d'.kind = 1)) := fun h => k1' (by rw [← HP.out.2.1]; exact h.2)
      clear k1'
      by_cases h1 : op = 1
      · subst h1
        have HK : Hid (applyN 1 d d' = addD d d') := by
          obtain ⟨hk, hk', hn, hn', ht, ht', hl, hl'⟩ := HP.out
          unfold Hid applyN
          rw [if_pos rfl]
        go_wp2_with fail
        refine (HA.out _ HL.out).mono ?_; rintro e w9 ⟨⟨y0, y1, y2, y3, C1, y4, y7, C2, y5, y8, C3, y6, y9, rfl, hA⟩, hb9⟩
        have R9 := HR.out.later hb9
        have L9 := Lib.hid (HL.out.trans hb9)
        have hzX := HL.out.size
        have hcC := chg_setFrom (g := W.heap.size + 1 + 1) [.int .i64 y0, .int .i64 y1, .int .i64 y2, .string y3, .slice C1 y4 y7, .slice C2 y5 y8, .slice C3 y6 y9] w9 0
        have HA9 := Lib.hid ((hA.chg hcC fun b h1 h2 => by have := HR.out.lt; omega).more (S' := fun b => W.heap.size ≤ b) fun b h => by have := HR.out.lt; omega)
        obtain ⟨r0, r1, r2, r3, r4, r5, r6, f0, f1, f2, f3, f4, f5, f6⟩ := box_seven R9
        have rz := R9.lt
        clear R9 hA hb9 HR HL hcC hzX
        go_wp2_with fail
        exact bodyPost_ret (v := .agg #[.int .i64 y0, .int .i64 y1, .int .i64 y2, .string y3, .slice C1 y4 y7, .slice C2 y5 y8, .slice C3 y6 y9]) (by simp [results, Try.results29, go_sem, r0, r1, r2, r3, r4, r5, r6]) rfl ⟨by rw [HK.out]; exact ⟨_, _, _, _, _, _, _, _, _, _, _, _, _, rfl, HA9.out⟩, later_setFrom (by omega) [.int .i64 y0, .int .i64 y1, .int .i64 y2, .string y3, .slice C1 y4 y7, .slice C2 y5 y8, .slice C3 y6 y9] _ 0 L9.out⟩
      · have o1 : (op == 1) = false := by simpa using h1
        have H1 := Lib.hid h1
        clear h1
        by_cases h4 : op = 4
        · subst h4
          have HK : Hid (applyN 4 d d' = lessD d d') := by
            obtain ⟨hk, hk', hn, hn', ht, ht', hl, hl'⟩ := HP.out
            unfold Hid applyN
            rw [if_neg (by decide), if_pos rfl]
          go_wp2_with fail
          refine (HE.out _ HL.out).mono ?_; rintro e w9 ⟨⟨y0, y1, y2, y3, C1, y4, y7, C2, y5, y8, C3, y6, y9, rfl, hA⟩, hb9⟩
          have R9 := HR.out.later hb9
          have L9 := Lib.hid (HL.out.trans hb9)
          have hzX := HL.out.size
          have hcC := chg_setFrom (g := W.heap.size + 1 + 1) [.int .i64 y0, .int .i64 y1, .int .i64 y2, .string y3, .slice C1 y4 y7, .slice C2 y5 y8, .slice C3 y6 y9] w9 0
          have HA9 := Lib.hid ((hA.chg hcC fun b h1 h2 => by have := HR.out.lt; omega).more (S' := fun b => W.heap.size ≤ b) fun b h => by have := HR.out.lt; omega)
          obtain ⟨r0, r1, r2, r3, r4, r5, r6, f0, f1, f2, f3, f4, f5, f6⟩ := box_seven R9
          have rz := R9.lt
          clear R9 hA hb9 HR HL hcC hzX
          go_wp2_with fail
          exact bodyPost_ret (v := .agg #[.int .i64 y0, .int .i64 y1, .int .i64 y2, .string y3, .slice C1 y4 y7, .slice C2 y5 y8, .slice C3 y6 y9]) (by simp [results, Try.results29, go_sem, r0, r1, r2, r3, r4, r5, r6]) rfl ⟨by rw [HK.out]; exact ⟨_, _, _, _, _, _, _, _, _, _, _, _, _, rfl, HA9.out⟩, later_setFrom (by omega) [.int .i64 y0, .int .i64 y1, .int .i64 y2, .string y3, .slice C1 y4 y7, .slice C2 y5 y8, .slice C3 y6 y9] _ 0 L9.out⟩
        · have o4 : (op == 4) = false := by simpa using h4
          have H4 := Lib.hid h4
          clear h4
          by_cases h5 : op = 5
          · subst h5
            have HK : Hid (applyN 5 d d' = truthD q) := by
              obtain ⟨hk, hk', hn, hn', ht, ht', hl, hl'⟩ := HP.out
              unfold Hid applyN
              rw [if_neg (by decide), if_neg (by decide), if_pos rfl, HQ.out]
            go_wp2_with fail
            refine (HS.out _ HL.out).mono ?_; rintro e w8 ⟨rfl, hb8⟩
            replace HR := Lib.hid (HR.out.later hb8); replace HL := Lib.hid (HL.out.trans hb8)
            clear hb8
            go_wp2_with fail
            refine (specTru q _).mono ?_; rintro e w9 ⟨⟨k9, n9, s9, t9, rfl, hK9, h91, h92, h93, h94⟩, hb9⟩
            unfold leafA
            have R9 := HR.out.later hb9
            have L9 := Lib.hid (HL.out.trans hb9)
            have HF9 := Lib.hid (fun w => leafB_of (lo := W.heap.size) (w := w) (HK.out.trans hK9) h91 h92 h93 h94)
            obtain ⟨r0, r1, r2, r3, r4, r5, r6, f0, f1, f2, f3, f4, f5, f6⟩ := box_seven R9
            have rz := R9.lt
            clear R9 hb9 hK9 h91 h92 h93 h94 HR HL
            go_wp2_with fail
            exact bodyPost_ret (v := leafA k9 n9 s9 t9) (by simp [results, Try.results29, go_sem, leafA, r0, r1, r2, r3, r4, r5, r6]) rfl ⟨HF9.out _, later_setFrom (by omega) [.int .i64 k9, .int .i64 n9, .int .i64 s9, .string t9, .slice none 0 0, .slice none 0 0, .slice none 0 0] _ 0 L9.out⟩
          · have o5 : (op == 5) = false := by simpa using h5
            have H5 := Lib.hid h5
            clear h5
            by_cases h2 : op = 2
            · subst h2
              have HK : Hid (applyN 2 d d' = errD 4) := by
                obtain ⟨hk, hk', hn, hn', ht, ht', hl, hl'⟩ := HP.out
                unfold Hid applyN
                rw [if_neg (by decide), if_neg (by decide), if_neg (by decide), if_neg (fun h => HK1.out h.2), if_neg (fun h => absurd h.1 (by decide))]
              go_wp2_with fail
              refine (specErr 4 (by omega) _).mono ?_; rintro e w9 ⟨⟨k9, n9, s9, t9, rfl, hK9, h91, h92, h93, h94⟩, hb9⟩
              unfold leafA
              have R9 := HR.out.later hb9
              have L9 := Lib.hid (HL.out.trans hb9)
              have HF9 := Lib.hid (fun w => leafB_of (lo := W.heap.size) (w := w) (HK.out.trans hK9) h91 h92 h93 h94)
              obtain ⟨r0, r1, r2, r3, r4, r5, r6, f0, f1, f2, f3, f4, f5, f6⟩ := box_seven R9
              have rz := R9.lt
              clear R9 hb9 hK9 h91 h92 h93 h94 HR HL
              go_wp2_with fail
              exact bodyPost_ret (v := leafA k9 n9 s9 t9) (by simp [results, Try.results29, go_sem, leafA, r0, r1, r2, r3, r4, r5, r6]) rfl ⟨HF9.out _, later_setFrom (by omega) [.int .i64 k9, .int .i64 n9, .int .i64 s9, .string t9, .slice none 0 0, .slice none 0 0, .slice none 0 0] _ 0 L9.out⟩
            · have o2 : (op == 2) = false := by simpa using h2
              have H2 := Lib.hid h2
              clear h2
              by_cases h3 : op = 3
              · subst h3
                have HK : Hid (applyN 3 d d' = errD 4) := by
                  obtain ⟨hk, hk', hn, hn', ht, ht', hl, hl'⟩ := HP.out
                  unfold Hid applyN
                  rw [if_neg (by decide), if_neg (by decide), if_neg (by decide), if_neg (fun h => absurd h.1 (by decide)), if_neg (fun h => HK1.out h.2)]
                go_wp2_with fail
                refine (specErr 4 (by omega) _).mono ?_; rintro e w9 ⟨⟨k9, n9, s9, t9, rfl, hK9, h91, h92, h93, h94⟩, hb9⟩
                unfold leafA
                have R9 := HR.out.later hb9
                have L9 := Lib.hid (HL.out.trans hb9)
                have HF9 := Lib.hid (fun w => leafB_of (lo := W.heap.size) (w := w) (HK.out.trans hK9) h91 h92 h93 h94)
                obtain ⟨r0, r1, r2, r3, r4, r5, r6, f0, f1, f2, f3, f4, f5, f6⟩ := box_seven R9
                have rz := R9.lt
                clear R9 hb9 hK9 h91 h92 h93 h94 HR HL
                go_wp2_with fail
                exact bodyPost_ret (v := leafA k9 n9 s9 t9) (by simp [results, Try.results29, go_sem, leafA, r0, r1, r2, r3, r4, r5, r6]) rfl ⟨HF9.out _, later_setFrom (by omega) [.int .i64 k9, .int .i64 n9, .int .i64 s9, .string t9, .slice none 0 0, .slice none 0 0, .slice none 0 0] _ 0 L9.out⟩
              · have o3 : (op == 3) = false := by simpa using h3
                have H3 := Lib.hid h3
                clear h3
                have HK : Hid (applyN op d d' = errD 4) := by
                  obtain ⟨hk, hk', hn, hn', ht, ht', hl, hl'⟩ := HP.out
                  unfold Hid applyN
                  rw [if_neg H1.out, if_neg H4.out, if_neg H5.out, if_neg (fun h => H2.out h.1), if_neg (fun h => H3.out h.1)]
                go_wp2_with fail
                refine (specErr 4 (by omega) _).mono ?_; rintro e w9 ⟨⟨k9, n9, s9, t9, rfl, hK9, h91, h92, h93, h94⟩, hb9⟩
                unfold leafA
                have R9 := HR.out.later hb9
                have L9 := Lib.hid (HL.out.trans hb9)
                have HF9 := Lib.hid (fun w => leafB_of (lo := W.heap.size) (w := w) (HK.out.trans hK9) h91 h92 h93 h94)
                obtain ⟨r0, r1, r2, r3, r4, r5, r6, f0, f1, f2, f3, f4, f5, f6⟩ := box_seven R9
                have rz := R9.lt
                clear R9 hb9 hK9 h91 h92 h93 h94 HR HL
                go_wp2_with fail
                exact bodyPost_ret (v := leafA k9 n9 s9 t9) (by simp [results, Try.results29, go_sem, leafA, r0, r1, r2, r3, r4, r5, r6]) rfl ⟨HF9.out _, later_setFrom (by omega) [.int .i64 k9, .int .i64 n9, .int .i64 s9, .string t9, .slice none 0 0, .slice none 0 0, .slice none 0 0] _ 0 L9.out⟩
  · have e1 : (k == 1) = false := by simpa using k1
    have HK1 : Hid (¬ (d.kind = 1 ∧ d'.kind = 1)) := fun h => k1 (by rw [← HP.out.1]; exact h.1)
    clear k1
    by_cases h1 : op = 1
    · subst h1
      have HK : Hid (applyN 1 d d' = addD d d') := by
        obtain ⟨hk, hk', hn, hn', ht, ht', hl, hl'⟩ := HP.out
        unfold Hid applyN
        rw [if_pos rfl]
      go_wp2_with fail
      refine (HA.out _ HL.out).mono ?_; rintro e w9 ⟨⟨y0, y1, y2, y3, C1, y4, y7, C2, y5, y8, C3, y6, y9, rfl, hA⟩, hb9⟩
      have R9 := HR.out.later hb9
      have L9 := Lib.hid (HL.out.trans hb9)
      have hzX := HL.out.size
      have hcC := chg_setFrom (g := W.heap.size + 1 + 1) [.int .i64 y0, .int .i64 y1, .int .i64 y2, .string y3, .slice C1 y4 y7, .slice C2 y5 y8, .slice C3 y6 y9] w9 0
      have HA9 := Lib.hid ((hA.chg hcC fun b h1 h2 => by have := HR.out.lt; omega).more (S' := fun b => W.heap.size ≤ b) fun b h => by have := HR.out.lt; omega)
      obtain ⟨r0, r1, r2, r3, r4, r5, r6, f0, f1, f2, f3, f4, f5, f6⟩ := box_seven R9
      have rz := R9.lt
      clear R9 hA hb9 HR HL hcC hzX
      go_wp2_with fail
      exact bodyPost_ret (v := .agg #[.int .i64 y0, .int .i64 y1, .int .i64 y2, .string y3, .slice C1 y4 y7, .slice C2 y5 y8, .slice C3 y6 y9]) (by simp [results, Try.results29, go_sem, r0, r1, r2, r3, r4, r5, r6]) rfl ⟨by rw [HK.out]; exact ⟨_, _, _, _, _, _, _, _, _, _, _, _, _, rfl, HA9.out⟩, later_setFrom (by omega) [.int .i64 y0, .int .i64 y1, .int .i64 y2, .string y3, .slice C1 y4 y7, .slice C2 y5 y8, .slice C3 y6 y9] _ 0 L9.out⟩
    · have o1 : (op == 1) = false := by simpa using h1
      have H1 := Lib.hid h1
      clear h1
      by_cases h4 : op = 4
      · subst h4
        have HK : Hid (applyN 4 d d' = lessD d d') := by
          obtain ⟨hk, hk', hn, hn', ht, ht', hl, hl'⟩ := HP.out
          unfold Hid applyN
          rw [if_neg (by decide), if_pos rfl]
        go_wp2_with fail
        refine (HE.out _ HL.out).mono ?_; rintro e w9 ⟨⟨y0, y1, y2, y3, C1, y4, y7, C2, y5, y8, C3, y6, y9, rfl, hA⟩, hb9⟩
        have R9 := HR.out.later hb9
        have L9 := Lib.hid (HL.out.trans hb9)
        have hzX := HL.out.size
        have hcC := chg_setFrom (g := W.heap.size + 1 + 1) [.int .i64 y0, .int .i64 y1, .int .i64 y2, .string y3, .slice C1 y4 y7, .slice C2 y5 y8, .slice C3 y6 y9] w9 0
        have HA9 := Lib.hid ((hA.chg hcC fun b h1 h2 => by have := HR.out.lt; omega).more (S' := fun b => W.heap.size ≤ b) fun b h => by have := HR.out.lt; omega)
        obtain ⟨r0, r1, r2, r3, r4, r5, r6, f0, f1, f2, f3, f4, f5, f6⟩ := box_seven R9
        have rz := R9.lt
        clear R9 hA hb9 HR HL hcC hzX
        go_wp2_with fail
        exact bodyPost_ret (v := .agg #[.int .i64 y0, .int .i64 y1, .int .i64 y2, .string y3, .slice C1 y4 y7, .slice C2 y5 y8, .slice C3 y6 y9]) (by simp [results, Try.results29, go_sem, r0, r1, r2, r3, r4, r5, r6]) rfl ⟨by rw [HK.out]; exact ⟨_, _, _, _, _, _, _, _, _, _, _, _, _, rfl, HA9.out⟩, later_setFrom (by omega) [.int .i64 y0, .int .i64 y1, .int .i64 y2, .string y3, .slice C1 y4 y7, .slice C2 y5 y8, .slice C3 y6 y9] _ 0 L9.out⟩
      · have o4 : (op == 4) = false := by simpa using h4
        have H4 := Lib.hid h4
        clear h4
        by_cases h5 : op = 5
        · subst h5
          have HK : Hid (applyN 5 d d' = truthD q) := by
            obtain ⟨hk, hk', hn, hn', ht, ht', hl, hl'⟩ := HP.out
            unfold Hid applyN
            rw [if_neg (by decide), if_neg (by decide), if_pos rfl, HQ.out]
          go_wp2_with fail
          refine (HS.out _ HL.out).mono ?_; rintro e w8 ⟨rfl, hb8⟩
          replace HR := Lib.hid (HR.out.later hb8); replace HL := Lib.hid (HL.out.trans hb8)
          clear hb8
          go_wp2_with fail
          refine (specTru q _).mono ?_; rintro e w9 ⟨⟨k9, n9, s9, t9, rfl, hK9, h91, h92, h93, h94⟩, hb9⟩
          unfold leafA
          have R9 := HR.out.later hb9
          have L9 := Lib.hid (HL.out.trans hb9)
          have HF9 := Lib.hid (fun w => leafB_of (lo := W.heap.size) (w := w) (HK.out.trans hK9) h91 h92 h93 h94)
          obtain ⟨r0, r1, r2, r3, r4, r5, r6, f0, f1, f2, f3, f4, f5, f6⟩ := box_seven R9
          have rz := R9.lt
          clear R9 hb9 hK9 h91 h92 h93 h94 HR HL
          go_wp2_with fail
          exact bodyPost_ret (v := leafA k9 n9 s9 t9) (by simp [results, Try.results29, go_sem, leafA, r0, r1, r2, r3, r4, r5, r6]) rfl ⟨HF9.out _, later_setFrom (by omega) [.int .i64 k9, .int .i64 n9, .int .i64 s9, .string t9, .slice none 0 0, .slice none 0 0, .slice none 0 0] _ 0 L9.out⟩
        · have o5 : (op == 5) = false := by simpa using h5
          have H5 := Lib.hid h5
          clear h5
          by_cases h2 : op = 2
          · subst h2
            have HK : Hid (applyN 2 d d' = errD 4) := by
              obtain ⟨hk, hk', hn, hn', ht, ht', hl, hl'⟩ := HP.out
              unfold Hid applyN
              rw [if_neg (by decide), if_neg (by decide), if_neg (by decide), if_neg (fun h => HK1.out h.2), if_neg (fun h => absurd h.1 (by decide))]
            go_wp2_with fail
            refine (specErr 4 (by omega) _).mono ?_; rintro e w9 ⟨⟨k9, n9, s9, t9, rfl, hK9, h91, h92, h93, h94⟩, hb9⟩
            unfold leafA
            have R9 := HR.out.later hb9
            have L9 := Lib.hid (HL.out.trans hb9)
            have HF9 := Lib.hid (fun w => leafB_of (lo := W.heap.size) (w := w) (HK.out.trans hK9) h91 h92 h93 h94)
            obtain ⟨r0, r1, r2, r3, r4, r5, r6, f0, f1, f2, f3, f4, f5, f6⟩ := box_seven R9
            have rz := R9.lt
            clear R9 hb9 hK9 h91 h92 h93 h94 HR HL
            go_wp2_with fail
            exact bodyPost_ret (v := leafA k9 n9 s9 t9) (by simp [results, Try.results29, go_sem, leafA, r0, r1, r2, r3, r4, r5, r6]) rfl ⟨HF9.out _, later_setFrom (by omega) [.int .i64 k9, .int .i64 n9, .int .i64 s9, .string t9, .slice none 0 0, .slice none 0 0, .slice none 0 0] _ 0 L9.out⟩
          · have o2 : (op == 2) = false := by simpa using h2
            have H2 := Lib.hid h2
            clear h2
            by_cases h3 : op = 3
            · subst h3
              have HK : Hid (applyN 3 d d' = errD 4) := by
                obtain ⟨hk, hk', hn, hn', ht, ht', hl, hl'⟩ := HP.out
                unfold Hid applyN
                rw [if_neg (by decide), if_neg (by decide), if_neg (by decide), if_neg (fun h => absurd h.1 (by decide)), if_neg (fun h => HK1.out h.2)]
              go_wp2_with fail
              refine (specErr 4 (by omega) _).mono ?_; rintro e w9 ⟨⟨k9, n9, s9, t9, rfl, hK9, h91, h92, h93, h94⟩, hb9⟩
              unfold leafA
              have R9 := HR.out.later hb9
              have L9 := Lib.hid (HL.out.trans hb9)
              have HF9 := Lib.hid (fun w => leafB_of (lo := W.heap.size) (w := w) (HK.out.trans hK9) h91 h92 h93 h94)
              obtain ⟨r0, r1, r2, r3, r4, r5, r6, f0, f1, f2, f3, f4, f5, f6⟩ := box_seven R9
              have rz := R9.lt
              clear R9 hb9 hK9 h91 h92 h93 h94 HR HL
              go_wp2_with fail
              exact bodyPost_ret (v := leafA k9 n9 s9 t9) (by simp [results, Try.results29, go_sem, leafA, r0, r1, r2, r3, r4, r5, r6]) rfl ⟨HF9.out _, later_setFrom (by omega) [.int .i64 k9, .int .i64 n9, .int .i64 s9, .string t9, .slice none 0 0, .slice none 0 0, .slice none 0 0] _ 0 L9.out⟩
            · have o3 : (op == 3) = false := by simpa using h3
              have H3 := Lib.hid h3
              clear h3
              have HK : Hid (applyN op d d' = errD 4) := by
                obtain ⟨hk, hk', hn, hn', ht, ht', hl, hl'⟩ := HP.out
                unfold Hid applyN
                rw [if_neg H1.out, if_neg H4.out, if_neg H5.out, if_neg (fun h => H2.out h.1), if_neg (fun h => H3.out h.1)]
              go_wp2_with fail
              refine (specErr 4 (by omega) _).mono ?_; rintro e w9 ⟨⟨k9, n9, s9, t9, rfl, hK9, h91, h92, h93, h94⟩, hb9⟩
              unfold leafA
              have R9 := HR.out.later hb9
              have L9 := Lib.hid (HL.out.trans hb9)
              have HF9 := Lib.hid (fun w => leafB_of (lo := W.heap.size) (w := w) (HK.out.trans hK9) h91 h92 h93 h94)
              obtain ⟨r0, r1, r2, r3, r4, r5, r6, f0, f1, f2, f3, f4, f5, f6⟩ := box_seven R9
              have rz := R9.lt
              clear R9 hb9 hK9 h91 h92 h93 h94 HR HL
              go_wp2_with fail
              exact bodyPost_ret (v := leafA k9 n9 s9 t9) (by simp [results, Try.results29, go_sem, leafA, r0, r1, r2, r3, r4, r5, r6]) rfl ⟨HF9.out _, later_setFrom (by omega) [.int .i64 k9, .int .i64 n9, .int .i64 s9, .string t9, .slice none 0 0, .slice none 0 0, .slice none 0 0] _ 0 L9.out⟩

end Go.Proofs.Ytghemlokpfipoaa
