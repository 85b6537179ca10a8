/-
  NthOf: the walks.
-/
import Derived.Test.YtghemlokpfipoaaYST3
import Derived.Test.YtghemlokpfipoaaYMG1
namespace Go.Proofs.Ytghemlokpfipoaa
open Go.ChangeShapes Go.WideShapes Go.ChangeAt Go.RowKit
set_option linter.unusedVariables false
set_option linter.unusedSimpArgs false
set_option maxRecDepth 100000

theorem at_empty {s c : Nat} {A : Option Addr} (w : World) (hc : c ≤ 9223372036854775807) : At w anyB (.sl s 0 []) (.slice A 0 c) := .sl s 0 [] A c (fun _ => .int .i64 0) (by simp) ⟨Nat.zero_le _, hc⟩ (fun h => absurd rfl h) (fun i d hd => by simp at hd)
/-- A leaf lies wherever it is. -/
theorem leaf_any {w : World} {S : Nat → Prop} {k n s : Int} {t : ByteArray} {cs : List Value} (h : Ats w S (encV (leafD k n s t)) cs) (w' : World) : Ats w' anyB (encV (leafD k n s t)) cs := by
  unfold leafD at h ⊢
  obtain ⟨A1, c1, A2, c2, A3, c3, rfl, ⟨b1, b2, b3, b4⟩, ⟨_, q1⟩, ⟨_, q2⟩, ⟨_, q3⟩, _, _, _⟩ := h.val
  rw [encV, encVs_eq]
  exact .cons (.int _ b1) (.cons (.int _ b2) (.cons (.int _ b3) (.cons (.str _ b4) (.cons (at_empty w' q1) (.cons (at_empty w' q2) (.cons (at_empty w' q3) .nil))))))
theorem list_cost2 {d : Vl} {M : Nat} (h : d.cost ≤ M) : d.list.length + sumN Vl.cost d.list ≤ M := by
  obtain ⟨k, n, s, t, l, c, r, rfl⟩ := Vl.shape d
  rw [Vl.cost_mk] at h
  show l.length + sumN Vl.cost l ≤ M
  omega
theorem list_mem_cost {l : List Vl} {j : Nat} (hj : j < l.length) {M : Nat} (h : l.length + sumN Vl.cost l ≤ M) : l[j].cost ≤ M := by
  have := sumN_mem Vl.cost (List.getElem_mem hj)
  omega

set_option maxHeartbeats 16000000 in
theorem specNth (d d' : Vl) (hM : d.cost ≤ 1000000) (hM' : d'.cost ≤ 1000000) (W : World) (S S' : Nat → Prop) (cs cs' : List Value) (h : Ats W S (encV d) cs) (h' : Ats W S' (encV d') cs') :
    Calls Try.prog 82 #[.agg cs.toArray, .agg cs'.toArray] W fun r w' => LeafOut w' (nthD d d') r ∧ Later W w' := by
  have C := fun w (hl : Later W w) => specSeq d d' (by omega) (by omega) w S S' cs cs' (h.later hl) (h'.later hl)
  obtain ⟨k, n, s, t, l, cl, r, hd⟩ := Vl.shape d
  obtain ⟨k', n', s', t', l', cl', r', hd'⟩ := Vl.shape d'
  have HP : Hid (d.kind = k ∧ d'.kind = k' ∧ d.n = n ∧ d'.n = n' ∧ d'.step = s' ∧ d'.list = l') := by subst hd hd'; exact ⟨rfl, rfl, rfl, rfl, rfl, rfl⟩
  have hco := list_cost2 hM'
  rw [hd'] at hco
  have HCO : Hid (l'.length + sumN Vl.cost l' ≤ 1048576) := Nat.le_trans hco (by decide)
  rw [hd] at h
  rw [hd'] at h'
  obtain ⟨A1, c1, A2, c2, A3, c3, rfl, _⟩ := h.val
  obtain ⟨B1, d1, B2, d2, B3, d3, rfl, _, _, _, _, g1, _, _⟩ := h'.val
  have HG' := Lib.hid g1
  clear hd hd' hM hM' h h' hco g1
  have HC := Lib.hid C
  have hR := box_alloc ((W.alloc (.cells #[.int .i64 k, .int .i64 n, .int .i64 s, .string t, .slice A1 l.length c1, .slice A2 cl.length c2, .slice A3 r.length c3] 28)).alloc (.cells #[.int .i64 k', .int .i64 n', .int .i64 s', .string t', .slice B1 l'.length d1, .slice B2 cl'.length d2, .slice B3 r'.length d3] 28)) #[.int .i64 0, .int .i64 0, .int .i64 0, .string ⟨#[]⟩, .slice none 0 0, .slice none 0 0, .slice none 0 0] 28
  rw [World.size_alloc, World.size_alloc] at hR
  have hB1 : Box (((W.alloc (.cells #[.int .i64 k, .int .i64 n, .int .i64 s, .string t, .slice A1 l.length c1, .slice A2 cl.length c2, .slice A3 r.length c3] 28)).alloc (.cells #[.int .i64 k', .int .i64 n', .int .i64 s', .string t', .slice B1 l'.length d1, .slice B2 cl'.length d2, .slice B3 r'.length d3] 28)).alloc (.cells #[.int .i64 0, .int .i64 0, .int .i64 0, .string ⟨#[]⟩, .slice none 0 0, .slice none 0 0, .slice none 0 0] 28)) W.heap.size [.int .i64 k, .int .i64 n, .int .i64 s, .string t, .slice A1 l.length c1, .slice A2 cl.length c2, .slice A3 r.length c3] := (box_alloc W #[.int .i64 k, .int .i64 n, .int .i64 s, .string t, .slice A1 l.length c1, .slice A2 cl.length c2, .slice A3 r.length c3] 28).later (((Later.rfl' _).alloc _).alloc _)
  have hB2 : Box (((W.alloc (.cells #[.int .i64 k, .int .i64 n, .int .i64 s, .string t, .slice A1 l.length c1, .slice A2 cl.length c2, .slice A3 r.length c3] 28)).alloc (.cells #[.int .i64 k', .int .i64 n', .int .i64 s', .string t', .slice B1 l'.length d1, .slice B2 cl'.length d2, .slice B3 r'.length d3] 28)).alloc (.cells #[.int .i64 0, .int .i64 0, .int .i64 0, .string ⟨#[]⟩, .slice none 0 0, .slice none 0 0, .slice none 0 0] 28)) (W.heap.size + 1) [.int .i64 k', .int .i64 n', .int .i64 s', .string t', .slice B1 l'.length d1, .slice B2 cl'.length d2, .slice B3 r'.length d3] := by
    have h := box_alloc (W.alloc (.cells #[.int .i64 k, .int .i64 n, .int .i64 s, .string t, .slice A1 l.length c1, .slice A2 cl.length c2, .slice A3 r.length c3] 28)) #[.int .i64 k', .int .i64 n', .int .i64 s', .string t', .slice B1 l'.length d1, .slice B2 cl'.length d2, .slice B3 r'.length d3] 28
    rw [World.size_alloc] at h
    exact h.later ((Later.rfl' _).alloc _)
  have HR0 := Lib.hid hR; have HB1 := Lib.hid hB1; have HB2 := Lib.hid hB2
  clear C hR hB1 hB2
  go_enter Try.func82, Try.ntmps82
  go_wp2_with fail
  refine (HC.out _ ((((Later.rfl' _).alloc _).alloc _).alloc _)).mono ?_; rintro e w1 ⟨⟨x0, x1, x2, x3, E1, x4, x7, E2, x5, x8, E3, x6, x9, rfl, hEr⟩, hb1⟩
  have hl1 := hb1.alloc (.cells #[.int .i64 x0, .int .i64 x1, .int .i64 x2, .string x3, .slice E1 x4 x7, .slice E2 x5 x8, .slice E3 x6 x9] 28)
  have HR := Lib.hid (HR0.out.later hl1); have HL := Lib.hid (((((Later.rfl' W).alloc _).alloc _).alloc _).trans hl1)
  have HV1 := Lib.hid (HB1.out.later hl1); have HV2 := Lib.hid (HB2.out.later hl1)
  have HW1 := Lib.hid (((((Later.rfl' W).alloc (.cells #[.int .i64 k, .int .i64 n, .int .i64 s, .string t, .slice A1 l.length c1, .slice A2 cl.length c2, .slice A3 r.length c3] 28)).alloc (.cells #[.int .i64 k', .int .i64 n', .int .i64 s', .string t', .slice B1 l'.length d1, .slice B2 cl'.length d2, .slice B3 r'.length d3] 28)).alloc (.cells #[.int .i64 0, .int .i64 0, .int .i64 0, .string ⟨#[]⟩, .slice none 0 0, .slice none 0 0, .slice none 0 0] 28)).trans hb1)
  have HB9 := Lib.hid hl1
  clear hb1 hl1 HC HR0 HB1 HB2
  cases hE : seqErr d d' with
  | some m =>
    rw [hE] at hEr
    have HEr := Lib.hid (hEr m rfl)
    have HSM : Hid (nthD d d' = errD m) := by unfold Hid nthD; rw [hE]
    have hR9 := HR.out
    obtain ⟨r0, r1, r2, r3, r4, r5, r6, f0, f1, f2, f3, f4, f5, f6⟩ := box_seven hR9
    have rz := hR9.lt
    clear hR9 hEr hE HV1 HV2
    simp only [Option.isSome_some]
    go_wp2_with fail
    exact bodyPost_ret (v := .agg #[.int .i64 x0, .int .i64 x1, .int .i64 x2, .string x3, .slice E1 x4 x7, .slice E2 x5 x8, .slice E3 x6 x9]) (by simp [results, Try.results82, go_sem, r0, r1, r2, r3, r4, r5, r6]) rfl ⟨by rw [HSM.out]; exact ⟨_, _, _, _, _, _, _, _, _, _, _, _, _, rfl, fun w hw => leaf_any (HEr.out.2 _ (Later.rfl' _)) w⟩, later_setFrom (by omega) [.int .i64 x0, .int .i64 x1, .int .i64 x2, .string x3, .slice E1 x4 x7, .slice E2 x5 x8, .slice E3 x6 x9] _ 0 HL.out⟩
  | none =>
    have HSQ := Lib.hid hE
    obtain ⟨_, _, hk1, hk34⟩ := seqErr_none hE
    obtain ⟨hv, hv2⟩ : d.valid = true ∧ d'.valid = true := ⟨(errOf_none (seqErr_none hE).1).1, (errOf_none (seqErr_none hE).2.1).1⟩
    have hkk : k = 1 := by rw [← HP.out.1]; exact hk1
    have hnum := valid_num hv hk1
    rw [HP.out.2.2.1] at hnum
    have hkk' : k' = 3 ∨ k' = 4 := by rw [← HP.out.2.1]; exact hk34
    have hstr : k' = 4 → (-1000000000 ≤ n' ∧ n' ≤ 1000000000) ∧ (-1000000000 ≤ s' ∧ s' ≤ 1000000000) := fun e => by
      obtain ⟨_, q1, q2⟩ := stream_leaf hv2 (by rw [HP.out.2.1]; exact e)
      rw [HP.out.2.2.2.1] at q1
      rw [HP.out.2.2.2.2.1] at q2
      exact ⟨numV_iff.1 q1, numV_iff.1 q2⟩
    have hlen : k' = 3 → l'.length ≤ 8 := fun e => by have := (valid_kind3 hv2 (by rw [HP.out.2.1]; exact e)).2.1; rw [HP.out.2.2.2.2.2] at this; exact this
    subst hkk
    obtain ⟨a0, a1, a2, a3, a4, a5, a6⟩ := Held7.of HV1.out
    obtain ⟨b0, b1, b2, b3, b4, b5, b6⟩ := Held7.of HV2.out
    have hrw := HR.out.lt
    obtain ⟨hn1, hn2⟩ := hnum
    have HSTR := Lib.hid hstr; have HLEN := Lib.hid hlen
    clear HV1 HV2 hEr hE hk1 hk34 hv hv2 HW1 HB9 hstr hlen
    simp only [Option.isSome_none]
    by_cases hneg : n < 0
    · have HNEG := Lib.hid hneg
      have HK : Hid (nthD d d' = errD 5) := by
        obtain ⟨hk, hk', hn, hn', hs', hl'⟩ := HP.out
        unfold Hid nthD
        rw [HSQ.out]
        unfold nthN
        simp only
        rw [hn, if_pos HNEG.out]
      go_wp2_with fail
      refine (specErr 5 (by omega) _).mono ?_; rintro e w9 ⟨⟨k9, n9, s9, t9, rfl, hK9, h91, h92, h93, h94⟩, hb9⟩
      unfold leafA
      have R9 := HR.out.later hb9
      have L9 := Lib.hid (HL.out.trans hb9)
      have HF9 := Lib.hid (fun w => leafB_of (lo := W.heap.size) (w := w) (HK.out.trans hK9) h91 h92 h93 h94)
      obtain ⟨r0, r1, r2, r3, r4, r5, r6, f0, f1, f2, f3, f4, f5, f6⟩ := box_seven R9
      have rz := R9.lt
      clear R9 hb9 hK9 h91 h92 h93 h94 HR HL
      go_wp2_with fail
      exact bodyPost_ret (v := leafA k9 n9 s9 t9) (by simp [results, Try.results82, go_sem, leafA, r0, r1, r2, r3, r4, r5, r6]) rfl ⟨(HF9.out _).out, later_setFrom (by omega) [.int .i64 k9, .int .i64 n9, .int .i64 s9, .string t9, .slice none 0 0, .slice none 0 0, .slice none 0 0] _ 0 L9.out⟩
    · have HNN := Lib.hid hneg
      rcases hkk' with hk3 | hk4
      · subst hk3
        have hl8 := HLEN.out rfl
        obtain ⟨j, hj⟩ : ∃ j : Nat, n = (j : Int) := ⟨n.toNat, by omega⟩
        subst hj
        have HJ : Hid ((j : Int).toNat = j) := by unfold Hid; omega
        by_cases hlt : j < l'.length
        · have hji : ¬ (l'.length : Int) ≤ (j : Int) := by omega
          have HK : Hid (nthD d d' = l'[j]'hlt) := by
            obtain ⟨hk, hk', hn, hn', hs', hl'⟩ := HP.out
            unfold Hid nthD
            rw [HSQ.out]
            unfold nthN
            simp only
            rw [hn, if_neg HNN.out, hk', if_pos rfl]; simp only [hl', HJ.out]; exact dif_pos hlt
          obtain ⟨b, off, g0, g1, g2, g3, G1, n1, o1, G2, n2, o2, G3, n3, o3, rfl, hb, _, hx, h0, h1, h2, h3, h4, h5, h6⟩ := (HG'.out.later HL.out).valAt hlt
          have hcq := specCopy l'[j] (list_mem_cost hlt HCO.out)
          have HX := Lib.hid (fun W' (hW : Later (w1.alloc (.cells #[.int .i64 x0, .int .i64 x1, .int .i64 x2, .string x3, .slice E1 x4 x7, .slice E2 x5 x8, .slice E3 x6 x9] 28)) W') => hcq W' _ _ (hx.later hW))
          have hji : (j : Int) < (l'.length : Int) := by omega
          have hz := HR.out.lt
          clear hcq hx HG' HCO
          go_wp2_with fail
          refine (HX.out _ (Later.rfl' _)).mono ?_; rintro e w9 ⟨⟨y0, y1, y2, y3, C1, y4, y7, C2, y5, y8, C3, y6, y9, rfl, hA⟩, hb9⟩
          have R9 := HR.out.later hb9
          have L9 := Lib.hid (HL.out.trans hb9)
          have hzX := HL.out.size
          have hcC := chg_setFrom (g := W.heap.size + 1 + 1) [.int .i64 y0, .int .i64 y1, .int .i64 y2, .string y3, .slice C1 y4 y7, .slice C2 y5 y8, .slice C3 y6 y9] w9 0
          have HA9 := Lib.hid (((hA.chg hcC fun b h1 h2 => by omega).more (S' := fun b => W.heap.size ≤ b) fun b h => by omega).ats)
          obtain ⟨r0, r1, r2, r3, r4, r5, r6, f0, f1, f2, f3, f4, f5, f6⟩ := box_seven R9
          have rz := R9.lt
          clear R9 hA hb9 HR HL hcC hzX
          go_wp2_with fail
          exact bodyPost_ret (v := .agg #[.int .i64 y0, .int .i64 y1, .int .i64 y2, .string y3, .slice C1 y4 y7, .slice C2 y5 y8, .slice C3 y6 y9]) (by simp [results, Try.results82, go_sem, r0, r1, r2, r3, r4, r5, r6]) rfl ⟨LeafB.out (lo := W.heap.size) (by rw [HK.out]; exact ⟨_, _, _, _, _, _, _, _, _, _, _, _, _, rfl, HA9.out⟩), later_setFrom (by omega) [.int .i64 y0, .int .i64 y1, .int .i64 y2, .string y3, .slice C1 y4 y7, .slice C2 y5 y8, .slice C3 y6 y9] _ 0 L9.out⟩
        · have hji : (l'.length : Int) ≤ (j : Int) := by omega
          have HBIG : Hid (¬ (j : Int).toNat < l'.length) := by unfold Hid; omega
          have HK : Hid (nthD d d' = errD 5) := by
            obtain ⟨hk, hk', hn, hn', hs', hl'⟩ := HP.out
            unfold Hid nthD
            rw [HSQ.out]
            unfold nthN
            simp only
            rw [hn, if_neg HNN.out, hk', if_pos rfl]; simp only [hl']; rw [dif_neg HBIG.out]
          go_wp2_with fail
          refine (specErr 5 (by omega) _).mono ?_; rintro e w9 ⟨⟨k9, n9, s9, t9, rfl, hK9, h91, h92, h93, h94⟩, hb9⟩
          unfold leafA
          have R9 := HR.out.later hb9
          have L9 := Lib.hid (HL.out.trans hb9)
          have HF9 := Lib.hid (fun w => leafB_of (lo := W.heap.size) (w := w) (HK.out.trans hK9) h91 h92 h93 h94)
          obtain ⟨r0, r1, r2, r3, r4, r5, r6, f0, f1, f2, f3, f4, f5, f6⟩ := box_seven R9
          have rz := R9.lt
          clear R9 hb9 hK9 h91 h92 h93 h94 HR HL
          go_wp2_with fail
          exact bodyPost_ret (v := leafA k9 n9 s9 t9) (by simp [results, Try.results82, go_sem, leafA, r0, r1, r2, r3, r4, r5, r6]) rfl ⟨(HF9.out _).out, later_setFrom (by omega) [.int .i64 k9, .int .i64 n9, .int .i64 s9, .string t9, .slice none 0 0, .slice none 0 0, .slice none 0 0] _ 0 L9.out⟩
      · subst hk4
        have HK3 : Hid (¬ d'.kind = 3) := by unfold Hid; rw [HP.out.2.1]; decide
        obtain ⟨⟨q1, q2⟩, ⟨q3, q4⟩⟩ := HSTR.out rfl
        obtain ⟨m1, m2⟩ := mul_bounds ⟨hn1, hn2⟩ ⟨q3, q4⟩
        have HK : Hid (nthD d d' = chkD (n' + n * s')) := by
          obtain ⟨hk, hk', hn, hn', hs', hl'⟩ := HP.out
          unfold Hid nthD
          rw [HSQ.out]
          unfold nthN
          simp only
          rw [hn, if_neg HNN.out, if_neg HK3.out, hn', hs']
        go_wp2_with fail
        refine (specChk (n' + n * s') _).mono ?_; rintro e w9 ⟨⟨k9, n9, s9, t9, rfl, hK9, h91, h92, h93, h94⟩, hb9⟩
        unfold leafA
        have R9 := HR.out.later hb9
        have L9 := Lib.hid (HL.out.trans hb9)
        have HF9 := Lib.hid (fun w => leafB_of (lo := W.heap.size) (w := w) (HK.out.trans hK9) h91 h92 h93 h94)
        obtain ⟨r0, r1, r2, r3, r4, r5, r6, f0, f1, f2, f3, f4, f5, f6⟩ := box_seven R9
        have rz := R9.lt
        clear R9 hb9 hK9 h91 h92 h93 h94 HR HL
        go_wp2_with fail
        exact bodyPost_ret (v := leafA k9 n9 s9 t9) (by simp [results, Try.results82, go_sem, leafA, r0, r1, r2, r3, r4, r5, r6]) rfl ⟨(HF9.out _).out, later_setFrom (by omega) [.int .i64 k9, .int .i64 n9, .int .i64 s9, .string t9, .slice none 0 0, .slice none 0 0, .slice none 0 0] _ 0 L9.out⟩


set_option maxHeartbeats 16000000 in
theorem implNth (d d' : Vl) (hM : d.cost ≤ 1000000) (hM' : d'.cost ≤ 1000000) (W : World) (S S' : Nat → Prop) (cs cs' : List Value) (h : Ats W S (encV d) cs) (h' : Ats W S' (encV d') cs') :
    Calls Try.prog 25 #[.agg cs.toArray, .agg cs'.toArray] W fun r w' => LeafOut w' (nthD d d') r ∧ Later W w' := by
  have C := fun w (hl : Later W w) => implSeq d d' (by omega) (by omega) w S S' cs cs' (h.later hl) (h'.later hl)
  obtain ⟨k, n, s, t, l, cl, r, hd⟩ := Vl.shape d
  obtain ⟨k', n', s', t', l', cl', r', hd'⟩ := Vl.shape d'
  have HP : Hid (d.kind = k ∧ d'.kind = k' ∧ d.n = n ∧ d'.n = n' ∧ d'.step = s' ∧ d'.list = l') := by subst hd hd'; exact ⟨rfl, rfl, rfl, rfl, rfl, rfl⟩
  have hco := list_cost2 hM'
  rw [hd'] at hco
  have HCO : Hid (l'.length + sumN Vl.cost l' ≤ 1048576) := Nat.le_trans hco (by decide)
  rw [hd] at h
  rw [hd'] at h'
  obtain ⟨A1, c1, A2, c2, A3, c3, rfl, _⟩ := h.val
  obtain ⟨B1, d1, B2, d2, B3, d3, rfl, _, _, _, _, g1, _, _⟩ := h'.val
  have HG' := Lib.hid g1
  clear hd hd' hM hM' h h' hco g1
  have HC := Lib.hid C
  have hR := box_alloc ((W.alloc (.cells #[.int .i64 k, .int .i64 n, .int .i64 s, .string t, .slice A1 l.length c1, .slice A2 cl.length c2, .slice A3 r.length c3] 28)).alloc (.cells #[.int .i64 k', .int .i64 n', .int .i64 s', .string t', .slice B1 l'.length d1, .slice B2 cl'.length d2, .slice B3 r'.length d3] 28)) #[.int .i64 0, .int .i64 0, .int .i64 0, .string ⟨#[]⟩, .slice none 0 0, .slice none 0 0, .slice none 0 0] 28
  rw [World.size_alloc, World.size_alloc] at hR
  have hB1 : Box (((W.alloc (.cells #[.int .i64 k, .int .i64 n, .int .i64 s, .string t, .slice A1 l.length c1, .slice A2 cl.length c2, .slice A3 r.length c3] 28)).alloc (.cells #[.int .i64 k', .int .i64 n', .int .i64 s', .string t', .slice B1 l'.length d1, .slice B2 cl'.length d2, .slice B3 r'.length d3] 28)).alloc (.cells #[.int .i64 0, .int .i64 0, .int .i64 0, .string ⟨#[]⟩, .slice none 0 0, .slice none 0 0, .slice none 0 0] 28)) W.heap.size [.int .i64 k, .int .i64 n, .int .i64 s, .string t, .slice A1 l.length c1, .slice A2 cl.length c2, .slice A3 r.length c3] := (box_alloc W #[.int .i64 k, .int .i64 n, .int .i64 s, .string t, .slice A1 l.length c1, .slice A2 cl.length c2, .slice A3 r.length c3] 28).later (((Later.rfl' _).alloc _).alloc _)
  have hB2 : Box (((W.alloc (.cells #[.int .i64 k, .int .i64 n, .int .i64 s, .string t, .slice A1 l.length c1, .slice A2 cl.length c2, .slice A3 r.length c3] 28)).alloc (.cells #[.int .i64 k', .int .i64 n', .int .i64 s', .string t', .slice B1 l'.length d1, .slice B2 cl'.length d2, .slice B3 r'.length d3] 28)).alloc (.cells #[.int .i64 0, .int .i64 0, .int .i64 0, .string ⟨#[]⟩, .slice none 0 0, .slice none 0 0, .slice none 0 0] 28)) (W.heap.size + 1) [.int .i64 k', .int .i64 n', .int .i64 s', .string t', .slice B1 l'.length d1, .slice B2 cl'.length d2, .slice B3 r'.length d3] := by
    have h := box_alloc (W.alloc (.cells #[.int .i64 k, .int .i64 n, .int .i64 s, .string t, .slice A1 l.length c1, .slice A2 cl.length c2, .slice A3 r.length c3] 28)) #[.int .i64 k', .int .i64 n', .int .i64 s', .string t', .slice B1 l'.length d1, .slice B2 cl'.length d2, .slice B3 r'.length d3] 28
    rw [World.size_alloc] at h
    exact h.later ((Later.rfl' _).alloc _)
  have HR0 := Lib.hid hR; have HB1 := Lib.hid hB1; have HB2 := Lib.hid hB2
  clear C hR hB1 hB2
  go_enter Try.func25, Try.ntmps25
  go_wp2_with fail
  refine (HC.out _ ((((Later.rfl' _).alloc _).alloc _).alloc _)).mono ?_; rintro e w1 ⟨⟨x0, x1, x2, x3, E1, x4, x7, E2, x5, x8, E3, x6, x9, rfl, hEr⟩, hb1⟩
  have hl1 := hb1.alloc (.cells #[.int .i64 x0, .int .i64 x1, .int .i64 x2, .string x3, .slice E1 x4 x7, .slice E2 x5 x8, .slice E3 x6 x9] 28)
  have HR := Lib.hid (HR0.out.later hl1); have HL := Lib.hid (((((Later.rfl' W).alloc _).alloc _).alloc _).trans hl1)
  have HV1 := Lib.hid (HB1.out.later hl1); have HV2 := Lib.hid (HB2.out.later hl1)
  have HW1 := Lib.hid (((((Later.rfl' W).alloc (.cells #[.int .i64 k, .int .i64 n, .int .i64 s, .string t, .slice A1 l.length c1, .slice A2 cl.length c2, .slice A3 r.length c3] 28)).alloc (.cells #[.int .i64 k', .int .i64 n', .int .i64 s', .string t', .slice B1 l'.length d1, .slice B2 cl'.length d2, .slice B3 r'.length d3] 28)).alloc (.cells #[.int .i64 0, .int .i64 0, .int .i64 0, .string ⟨#[]⟩, .slice none 0 0, .slice none 0 0, .slice none 0 0] 28)).trans hb1)
  have HB9 := Lib.hid hl1
  clear hb1 hl1 HC HR0 HB1 HB2
  cases hE : seqErr d d' with
  | some m =>
    rw [hE] at hEr
    have HEr := Lib.hid (hEr m rfl)
    have HSM : Hid (nthD d d' = errD m) := by unfold Hid nthD; rw [hE]
    have hR9 := HR.out
    obtain ⟨r0, r1, r2, r3, r4, r5, r6, f0, f1, f2, f3, f4, f5, f6⟩ := box_seven hR9
    have rz := hR9.lt
    clear hR9 hEr hE HV1 HV2
    simp only [Option.isSome_some]
    go_wp2_with fail
    exact bodyPost_ret (v := .agg #[.int .i64 x0, .int .i64 x1, .int .i64 x2, .string x3, .slice E1 x4 x7, .slice E2 x5 x8, .slice E3 x6 x9]) (by simp [results, Try.results25, go_sem, r0, r1, r2, r3, r4, r5, r6]) rfl ⟨by rw [HSM.out]; exact ⟨_, _, _, _, _, _, _, _, _, _, _, _, _, rfl, fun w hw => leaf_any (HEr.out.2 _ (Later.rfl' _)) w⟩, later_setFrom (by omega) [.int .i64 x0, .int .i64 x1, .int .i64 x2, .string x3, .slice E1 x4 x7, .slice E2 x5 x8, .slice E3 x6 x9] _ 0 HL.out⟩
  | none =>
    have HSQ := Lib.hid hE
    obtain ⟨_, _, hk1, hk34⟩ := seqErr_none hE
    obtain ⟨hv, hv2⟩ : d.valid = true ∧ d'.valid = true := ⟨(errOf_none (seqErr_none hE).1).1, (errOf_none (seqErr_none hE).2.1).1⟩
    have hkk : k = 1 := by rw [← HP.out.1]; exact hk1
    have hnum := valid_num hv hk1
    rw [HP.out.2.2.1] at hnum
    have hkk' : k' = 3 ∨ k' = 4 := by rw [← HP.out.2.1]; exact hk34
    have hstr : k' = 4 → (-1000000000 ≤ n' ∧ n' ≤ 1000000000) ∧ (-1000000000 ≤ s' ∧ s' ≤ 1000000000) := fun e => by
      obtain ⟨_, q1, q2⟩ := stream_leaf hv2 (by rw [HP.out.2.1]; exact e)
      rw [HP.out.2.2.2.1] at q1
      rw [HP.out.2.2.2.2.1] at q2
      exact ⟨numV_iff.1 q1, numV_iff.1 q2⟩
    have hlen : k' = 3 → l'.length ≤ 8 := fun e => by have := (valid_kind3 hv2 (by rw [HP.out.2.1]; exact e)).2.1; rw [HP.out.2.2.2.2.2] at this; exact this
    subst hkk
    obtain ⟨a0, a1, a2, a3, a4, a5, a6⟩ := Held7.of HV1.out
    obtain ⟨b0, b1, b2, b3, b4, b5, b6⟩ := Held7.of HV2.out
    have hrw := HR.out.lt
    obtain ⟨hn1, hn2⟩ := hnum
    have HSTR := Lib.hid hstr; have HLEN := Lib.hid hlen
    clear HV1 HV2 hEr hE hk1 hk34 hv hv2 HW1 HB9 hstr hlen
    simp only [Option.isSome_none]
    by_cases hneg : n < 0
    · have HNEG := Lib.hid hneg
      have HK : Hid (nthD d d' = errD 5) := by
        obtain ⟨hk, hk', hn, hn', hs', hl'⟩ := HP.out
        unfold Hid nthD
        rw [HSQ.out]
        unfold nthN
        simp only
        rw [hn, if_pos HNEG.out]
      go_wp2_with fail
      refine (implErr 5 (by omega) _).mono ?_; rintro e w9 ⟨⟨k9, n9, s9, t9, rfl, hK9, h91, h92, h93, h94⟩, hb9⟩
      unfold leafA
      have R9 := HR.out.later hb9
      have L9 := Lib.hid (HL.out.trans hb9)
      have HF9 := Lib.hid (fun w => leafB_of (lo := W.heap.size) (w := w) (HK.out.trans hK9) h91 h92 h93 h94)
      obtain ⟨r0, r1, r2, r3, r4, r5, r6, f0, f1, f2, f3, f4, f5, f6⟩ := box_seven R9
      have rz := R9.lt
      clear R9 hb9 hK9 h91 h92 h93 h94 HR HL
      go_wp2_with fail
      exact bodyPost_ret (v := leafA k9 n9 s9 t9) (by simp [results, Try.results25, go_sem, leafA, r0, r1, r2, r3, r4, r5, r6]) rfl ⟨(HF9.out _).out, later_setFrom (by omega) [.int .i64 k9, .int .i64 n9, .int .i64 s9, .string t9, .slice none 0 0, .slice none 0 0, .slice none 0 0] _ 0 L9.out⟩
    · have HNN := Lib.hid hneg
      rcases hkk' with hk3 | hk4
      · subst hk3
        have hl8 := HLEN.out rfl
        obtain ⟨j, hj⟩ : ∃ j : Nat, n = (j : Int) := ⟨n.toNat, by omega⟩
        subst hj
        have HJ : Hid ((j : Int).toNat = j) := by unfold Hid; omega
        by_cases hlt : j < l'.length
        · have hji : ¬ (l'.length : Int) ≤ (j : Int) := by omega
          have HK : Hid (nthD d d' = l'[j]'hlt) := by
            obtain ⟨hk, hk', hn, hn', hs', hl'⟩ := HP.out
            unfold Hid nthD
            rw [HSQ.out]
            unfold nthN
            simp only
            rw [hn, if_neg HNN.out, hk', if_pos rfl]; simp only [hl', HJ.out]; exact dif_pos hlt
          obtain ⟨b, off, g0, g1, g2, g3, G1, n1, o1, G2, n2, o2, G3, n3, o3, rfl, hb, _, hx, h0, h1, h2, h3, h4, h5, h6⟩ := (HG'.out.later HL.out).valAt hlt
          have hcq := implCopy l'[j] (list_mem_cost hlt HCO.out)
          have HX := Lib.hid (fun W' (hW : Later (w1.alloc (.cells #[.int .i64 x0, .int .i64 x1, .int .i64 x2, .string x3, .slice E1 x4 x7, .slice E2 x5 x8, .slice E3 x6 x9] 28)) W') => hcq W' _ _ (hx.later hW))
          have hji : (j : Int) < (l'.length : Int) := by omega
          have hz := HR.out.lt
          clear hcq hx HG' HCO
          go_wp2_with fail
          refine (HX.out _ (Later.rfl' _)).mono ?_; rintro e w9 ⟨⟨y0, y1, y2, y3, C1, y4, y7, C2, y5, y8, C3, y6, y9, rfl, hA⟩, hb9⟩
          have R9 := HR.out.later hb9
          have L9 := Lib.hid (HL.out.trans hb9)
          have hzX := HL.out.size
          have hcC := chg_setFrom (g := W.heap.size + 1 + 1) [.int .i64 y0, .int .i64 y1, .int .i64 y2, .string y3, .slice C1 y4 y7, .slice C2 y5 y8, .slice C3 y6 y9] w9 0
          have HA9 := Lib.hid (((hA.chg hcC fun b h1 h2 => by omega).more (S' := fun b => W.heap.size ≤ b) fun b h => by omega).ats)
          obtain ⟨r0, r1, r2, r3, r4, r5, r6, f0, f1, f2, f3, f4, f5, f6⟩ := box_seven R9
          have rz := R9.lt
          clear R9 hA hb9 HR HL hcC hzX
          go_wp2_with fail
          exact bodyPost_ret (v := .agg #[.int .i64 y0, .int .i64 y1, .int .i64 y2, .string y3, .slice C1 y4 y7, .slice C2 y5 y8, .slice C3 y6 y9]) (by simp [results, Try.results25, go_sem, r0, r1, r2, r3, r4, r5, r6]) rfl ⟨LeafB.out (lo := W.heap.size) (by rw [HK.out]; exact ⟨_, _, _, _, _, _, _, _, _, _, _, _, _, rfl, HA9.out⟩), later_setFrom (by omega) [.int .i64 y0, .int .i64 y1, .int .i64 y2, .string y3, .slice C1 y4 y7, .slice C2 y5 y8, .slice C3 y6 y9] _ 0 L9.out⟩
        · have hji : (l'.length : Int) ≤ (j : Int) := by omega
          have HBIG : Hid (¬ (j : Int).toNat < l'.length) := by unfold Hid; omega
          have HK : Hid (nthD d d' = errD 5) := by
            obtain ⟨hk, hk', hn, hn', hs', hl'⟩ := HP.out
            unfold Hid nthD
            rw [HSQ.out]
            unfold nthN
            simp only
            rw [hn, if_neg HNN.out, hk', if_pos rfl]; simp only [hl']; rw [dif_neg HBIG.out]
          go_wp2_with fail
          refine (implErr 5 (by omega) _).mono ?_; rintro e w9 ⟨⟨k9, n9, s9, t9, rfl, hK9, h91, h92, h93, h94⟩, hb9⟩
          unfold leafA
          have R9 := HR.out.later hb9
          have L9 := Lib.hid (HL.out.trans hb9)
          have HF9 := Lib.hid (fun w => leafB_of (lo := W.heap.size) (w := w) (HK.out.trans hK9) h91 h92 h93 h94)
          obtain ⟨r0, r1, r2, r3, r4, r5, r6, f0, f1, f2, f3, f4, f5, f6⟩ := box_seven R9
          have rz := R9.lt
          clear R9 hb9 hK9 h91 h92 h93 h94 HR HL
          go_wp2_with fail
          exact bodyPost_ret (v := leafA k9 n9 s9 t9) (by simp [results, Try.results25, go_sem, leafA, r0, r1, r2, r3, r4, r5, r6]) rfl ⟨(HF9.out _).out, later_setFrom (by omega) [.int .i64 k9, .int .i64 n9, .int .i64 s9, .string t9, .slice none 0 0, .slice none 0 0, .slice none 0 0] _ 0 L9.out⟩
      · subst hk4
        have HK3 : Hid (¬ d'.kind = 3) := by unfold Hid; rw [HP.out.2.1]; decide
        obtain ⟨⟨q1, q2⟩, ⟨q3, q4⟩⟩ := HSTR.out rfl
        obtain ⟨m1, m2⟩ := mul_bounds ⟨hn1, hn2⟩ ⟨q3, q4⟩
        have HK : Hid (nthD d d' = chkD (n' + n * s')) := by
          obtain ⟨hk, hk', hn, hn', hs', hl'⟩ := HP.out
          unfold Hid nthD
          rw [HSQ.out]
          unfold nthN
          simp only
          rw [hn, if_neg HNN.out, if_neg HK3.out, hn', hs']
        go_wp2_with fail
        refine (implChk (n' + n * s') _).mono ?_; rintro e w9 ⟨⟨k9, n9, s9, t9, rfl, hK9, h91, h92, h93, h94⟩, hb9⟩
        unfold leafA
        have R9 := HR.out.later hb9
        have L9 := Lib.hid (HL.out.trans hb9)
        have HF9 := Lib.hid (fun w => leafB_of (lo := W.heap.size) (w := w) (HK.out.trans hK9) h91 h92 h93 h94)
        obtain ⟨r0, r1, r2, r3, r4, r5, r6, f0, f1, f2, f3, f4, f5, f6⟩ := box_seven R9
        have rz := R9.lt
        clear R9 hb9 hK9 h91 h92 h93 h94 HR HL
        go_wp2_with fail
        exact bodyPost_ret (v := leafA k9 n9 s9 t9) (by simp [results, Try.results25, go_sem, leafA, r0, r1, r2, r3, r4, r5, r6]) rfl ⟨(HF9.out _).out, later_setFrom (by omega) [.int .i64 k9, .int .i64 n9, .int .i64 s9, .string t9, .slice none 0 0, .slice none 0 0, .slice none 0 0] _ 0 L9.out⟩

end Go.Proofs.Ytghemlokpfipoaa
