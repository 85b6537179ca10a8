/-
  A slice from an element on. SkipOf: the walks.
-/
import Derived.Test.YtghemlokpfipoaaYST4
import Derived.Test.YtghemlokpfipoaaYMG1
namespace Go.Proofs.Ytghemlokpfipoaa
open Go.RowKit
set_option linter.unusedVariables false
set_option linter.unusedSimpArgs false

theorem flat_drop {α : Type} {enc : α → List Dt} {s : Nat} (hs : ∀ a, (enc a).length = s) (l : List α) {j : Nat} (hj : j ≤ l.length) (i : Nat) : ((l.drop j).flatMap enc)[i]? = (l.flatMap enc)[j * s + i]? := by
  conv => rhs; rw [← List.take_append_drop j l, List.flatMap_append]
  have hl : ((l.take j).flatMap enc).length = j * s := by rw [flat_len hs, List.length_take, Nat.min_eq_left hj]
  rw [List.getElem?_append_right (by omega), hl, Nat.add_sub_cancel_left]
theorem sl_drop {w : World} {S : Nat → Prop} {l : List Vl} {B : Option Addr} {d j : Nat} (h : SlAt w S 7 encV l (.slice B l.length d)) (hj : j < l.length) (hd : l.length ≤ d) : SlAt w S 7 encV (l.drop j) (.slice (Option.map (fun x => x.add (j * 7)) B) (l.length - j) (d - j)) := by
  have hfl := flat_len encV_len l
  obtain ⟨b, off, rfl, hb, hS, hc⟩ := At.cells h (by intro e; rw [e] at hfl; simp at hfl; omega)
  obtain ⟨_, _, e, _, hmax, _⟩ := At.sl_inv h
  simp only [Value.slice.injEq, true_and] at e
  obtain ⟨_, rfl⟩ := e
  unfold SlAt
  rw [List.length_drop]
  refine At.make (by rw [flat_len encV_len, List.length_drop]) (by omega) (by omega) fun _ => ⟨b, off + j * 7, by simp only [Option.map_some, add_lit], hb, hS, fun i dd hdd => ?_⟩
  rw [flat_drop encV_len l (by omega)] at hdd
  obtain ⟨u, h1, h2⟩ := hc _ _ hdd
  exact ⟨u, by rw [Nat.add_assoc]; exact h1, h2⟩
theorem sl_none {w : World} {B : Option Addr} {d : Nat} (hd : d ≤ 9223372036854775807) : SlAt w anyB 7 encV ([] : List Vl) (.slice B 0 d) := at_empty w hd
end Go.Proofs.Ytghemlokpfipoaa
namespace Go.Proofs.Ytghemlokpfipoaa
open Go.ChangeShapes Go.WideShapes Go.ChangeAt Go.RowKit
set_option linter.unusedVariables false
set_option linter.unusedSimpArgs false
set_option maxRecDepth 100000

theorem specMin (a b c : Int) (hc : c = if a < b then a else b) (W : World) : Calls Try.prog 81 #[.int .i64 a, .int .i64 b] W fun r w' => r = .returned (.int .i64 c) ∧ W = w' := by
  by_cases h : a < b
  · rw [if_pos h] at hc
    subst hc
    go_enter Try.func81, Try.ntmps81
    go_wp2_with fail
    go_ret
    exact ⟨rfl, rfl⟩
  · rw [if_neg h] at hc
    subst hc
    go_enter Try.func81, Try.ntmps81
    go_wp2_with fail
    go_ret
    exact ⟨rfl, rfl⟩
theorem cost_drop {l : List Vl} {j M : Nat} (h : l.length + sumN Vl.cost l ≤ M) : (l.drop j).length + sumN Vl.cost (l.drop j) ≤ M := by
  have e : sumN Vl.cost l = sumN Vl.cost (l.take j) + sumN Vl.cost (l.drop j) := by
    conv => lhs; rw [← List.take_append_drop j l]
    unfold sumN
    rw [List.map_append, List.sum_append]
  rw [List.length_drop]
  omega
theorem two_set1 {w : World} {H H' : Nat} {c d : Value} (h : w.cell? ⟨H, 1, none⟩ = some c ∧ w.cell? ⟨H', 4, none⟩ = some d) {g : Nat} (h1 : H ≠ g) (h2 : H' ≠ g) (a0 a1 a2 a3 a4 a5 a6 : Value) :
    World.cell? (((((((w.setCell ⟨g, 0, none⟩ a0).setCell ⟨g, 1, none⟩ a1).setCell ⟨g, 2, none⟩ a2).setCell ⟨g, 3, none⟩ a3).setCell ⟨g, 4, none⟩ a4).setCell ⟨g, 5, none⟩ a5).setCell ⟨g, 6, none⟩ a6) ⟨H, 1, none⟩ = some c ∧
    World.cell? (((((((w.setCell ⟨g, 0, none⟩ a0).setCell ⟨g, 1, none⟩ a1).setCell ⟨g, 2, none⟩ a2).setCell ⟨g, 3, none⟩ a3).setCell ⟨g, 4, none⟩ a4).setCell ⟨g, 5, none⟩ a5).setCell ⟨g, 6, none⟩ a6) ⟨H', 4, none⟩ = some d := by
  have hb := block_setFrom (g := g) (b := H) h1 [a0, a1, a2, a3, a4, a5, a6] w 0
  have hb' := block_setFrom (g := g) (b := H') h2 [a0, a1, a2, a3, a4, a5, a6] w 0
  rw [chain7] at hb hb'
  exact ⟨(World.cell?_of_block (a := ⟨H, 1, none⟩) hb).trans h.1, (World.cell?_of_block (a := ⟨H', 4, none⟩) hb').trans h.2⟩
theorem skip_none {d d' : Vl} (h : seqErr d d' = none) : skipD d d' = skipN d d' := by unfold skipD; rw [h]
theorem nth_form {d d' : Vl} (hq : seqErr d d' = none) (hk : ¬ d'.kind = 3) : nthD d d' = errD 5 ∨ nthD d d' = chkD (d'.n + d.n * d'.step) := by
  unfold nthD
  rw [hq]
  unfold nthN
  simp only
  rw [if_neg hk]
  split
  · exact .inl rfl
  · exact .inr rfl
theorem nth_err {d d' : Vl} {n : Int} (hq : seqErr d d' = none) (hk : ¬ d'.kind = 3) (h6 : (nthD d d').kind = 6) (hn : (nthD d d').n = n) : nthD d d' = leafD 6 n 0 ⟨#[]⟩ := by
  subst hn
  rcases nth_form hq hk with e | e
  · rw [e]; rfl
  · rw [e] at h6 ⊢
    unfold chkD at h6 ⊢
    cases hc : numV (d'.n + d.n * d'.step) with
    | true => rw [hc] at h6; exact absurd (show (1 : Int) = 6 from h6) (by decide)
    | false => rfl
theorem nth_between {d d' : Vl} (hq : seqErr d d' = none) (hk : ¬ d'.kind = 3) : Between64 (nthD d d').n := by
  rcases nth_form hq hk with e | e
  · rw [e]; show Between64 5; unfold Between64; omega
  · rw [e]; exact chk_n _

theorem specStr (n s : Int) (hn : Between64 n) (hs : Between64 s) (W : World) : Calls Try.prog 83 #[.int .i64 n, .int .i64 s] W fun r w' => LeafR (leafD 4 n s ⟨#[]⟩) r ∧ Later W w' :=
  (specStreamValue n s W).mono fun r w' h => ⟨⟨_, _, _, _, h.1, rfl, by unfold Between64; omega, hn, hs, by decide⟩, h.2⟩


theorem implStr (n s : Int) (hn : Between64 n) (hs : Between64 s) (W : World) : Calls Try.prog 79 #[.int .i64 n, .int .i64 s] W fun r w' => LeafR (leafD 4 n s ⟨#[]⟩) r ∧ Later W w' :=
  (implStreamValue n s W).mono fun r w' h => ⟨⟨_, _, _, _, h.1, rfl, by unfold Between64; omega, hn, hs, by decide⟩, h.2⟩


set_option maxHeartbeats 16000000 in
theorem specSkip (d d' : Vl) (hM : d.cost ≤ 1000000) (hM' : d'.cost ≤ 1000000) (W : World) (S S' : Nat → Prop) (cs cs' : List Value) (h : Ats W S (encV d) cs) (h' : Ats W S' (encV d') cs') :
    Calls Try.prog 24 #[.agg cs.toArray, .agg cs'.toArray] W fun r w' => LeafOut w' (skipD d d') r ∧ Later W w' := by
  have C := fun w (hl : Later W w) => specSeq d d' (by omega) (by omega) w S S' cs cs' (h.later hl) (h'.later hl)
  obtain ⟨k, n, s, t, l, cl, r, hd⟩ := Vl.shape d
  obtain ⟨k', n', s', t', l', cl', r', hd'⟩ := Vl.shape d'
  have HP : Hid (d.kind = k ∧ d'.kind = k' ∧ d.n = n ∧ d'.n = n' ∧ d'.step = s' ∧ d'.list = l') := by subst hd hd'; exact ⟨rfl, rfl, rfl, rfl, rfl, rfl⟩
  have hco := list_cost2 hM'
  rw [hd'] at hco
  have HCO : Hid (l'.length + sumN Vl.cost l' ≤ 1048576) := Nat.le_trans hco (by decide)
  rw [hd] at h
  rw [hd'] at h'
  have h0 := h; have h0' := h'
  rw [← hd] at h0
  rw [← hd'] at h0'
  obtain ⟨A1, c1, A2, c2, A3, c3, rfl, _⟩ := h.val
  obtain ⟨B1, d1, B2, d2, B3, d3, rfl, _, _, _, _, g1, _, _⟩ := h'.val
  have HG' := Lib.hid g1
  have CN := fun w (hl : Later W w) => specNth d d' hM hM' w S S' _ _ (h0.later hl) (h0'.later hl)
  have HN := Lib.hid CN
  clear CN h0 h0'
  clear hd hd' hM hM' h h' hco g1
  have HC := Lib.hid C
  have hR := box_alloc ((W.alloc (.cells #[.int .i64 k, .int .i64 n, .int .i64 s, .string t, .slice A1 l.length c1, .slice A2 cl.length c2, .slice A3 r.length c3] 28)).alloc (.cells #[.int .i64 k', .int .i64 n', .int .i64 s', .string t', .slice B1 l'.length d1, .slice B2 cl'.length d2, .slice B3 r'.length d3] 28)) #[.int .i64 0, .int .i64 0, .int .i64 0, .string ⟨#[]⟩, .slice none 0 0, .slice none 0 0, .slice none 0 0] 28
  rw [World.size_alloc, World.size_alloc] at hR
  have hB1 : Box (((W.alloc (.cells #[.int .i64 k, .int .i64 n, .int .i64 s, .string t, .slice A1 l.length c1, .slice A2 cl.length c2, .slice A3 r.length c3] 28)).alloc (.cells #[.int .i64 k', .int .i64 n', .int .i64 s', .string t', .slice B1 l'.length d1, .slice B2 cl'.length d2, .slice B3 r'.length d3] 28)).alloc (.cells #[.int .i64 0, .int .i64 0, .int .i64 0, .string ⟨#[]⟩, .slice none 0 0, .slice none 0 0, .slice none 0 0] 28)) W.heap.size [.int .i64 k, .int .i64 n, .int .i64 s, .string t, .slice A1 l.length c1, .slice A2 cl.length c2, .slice A3 r.length c3] := (box_alloc W #[.int .i64 k, .int .i64 n, .int .i64 s, .string t, .slice A1 l.length c1, .slice A2 cl.length c2, .slice A3 r.length c3] 28).later (((Later.rfl' _).alloc _).alloc _)
  have hB2 : Box (((W.alloc (.cells #[.int .i64 k, .int .i64 n, .int .i64 s, .string t, .slice A1 l.length c1, .slice A2 cl.length c2, .slice A3 r.length c3] 28)).alloc (.cells #[.int .i64 k', .int .i64 n', .int .i64 s', .string t', .slice B1 l'.length d1, .slice B2 cl'.length d2, .slice B3 r'.length d3] 28)).alloc (.cells #[.int .i64 0, .int .i64 0, .int .i64 0, .string ⟨#[]⟩, .slice none 0 0, .slice none 0 0, .slice none 0 0] 28)) (W.heap.size + 1) [.int .i64 k', .int .i64 n', .int .i64 s', .string t', .slice B1 l'.length d1, .slice B2 cl'.length d2, .slice B3 r'.length d3] := by
    have h := box_alloc (W.alloc (.cells #[.int .i64 k, .int .i64 n, .int .i64 s, .string t, .slice A1 l.length c1, .slice A2 cl.length c2, .slice A3 r.length c3] 28)) #[.int .i64 k', .int .i64 n', .int .i64 s', .string t', .slice B1 l'.length d1, .slice B2 cl'.length d2, .slice B3 r'.length d3] 28
    rw [World.size_alloc] at h
    exact h.later ((Later.rfl' _).alloc _)
  have HR0 := Lib.hid hR; have HB1 := Lib.hid hB1; have HB2 := Lib.hid hB2
  clear C hR hB1 hB2
  go_enter Try.func24, Try.ntmps24
  go_wp2_with fail
  refine (HC.out _ ((((Later.rfl' _).alloc _).alloc _).alloc _)).mono ?_; rintro e w1 ⟨⟨x0, x1, x2, x3, E1, x4, x7, E2, x5, x8, E3, x6, x9, rfl, hEr⟩, hb1⟩
  have hl1 := hb1.alloc (.cells #[.int .i64 x0, .int .i64 x1, .int .i64 x2, .string x3, .slice E1 x4 x7, .slice E2 x5 x8, .slice E3 x6 x9] 28)
  have HR := Lib.hid (HR0.out.later hl1); have HL := Lib.hid (((((Later.rfl' W).alloc _).alloc _).alloc _).trans hl1)
  have HV1 := Lib.hid (HB1.out.later hl1); have HV2 := Lib.hid (HB2.out.later hl1)
  have HW1 := Lib.hid (((((Later.rfl' W).alloc (.cells #[.int .i64 k, .int .i64 n, .int .i64 s, .string t, .slice A1 l.length c1, .slice A2 cl.length c2, .slice A3 r.length c3] 28)).alloc (.cells #[.int .i64 k', .int .i64 n', .int .i64 s', .string t', .slice B1 l'.length d1, .slice B2 cl'.length d2, .slice B3 r'.length d3] 28)).alloc (.cells #[.int .i64 0, .int .i64 0, .int .i64 0, .string ⟨#[]⟩, .slice none 0 0, .slice none 0 0, .slice none 0 0] 28)).trans hb1)
  have HB9 := Lib.hid hl1
  clear hb1 hl1 HC HR0 HB1 HB2
  cases hE : seqErr d d' with
  | some m =>
    rw [hE] at hEr
    have HEr := Lib.hid (hEr m rfl)
    have HSM : Hid (skipD d d' = errD m) := by unfold Hid skipD; rw [hE]
    have hR9 := HR.out
    obtain ⟨r0, r1, r2, r3, r4, r5, r6, f0, f1, f2, f3, f4, f5, f6⟩ := box_seven hR9
    have rz := hR9.lt
    clear hR9 hEr hE HV1 HV2
    simp only [Option.isSome_some]
    go_wp2_with fail
    exact bodyPost_ret (v := .agg #[.int .i64 x0, .int .i64 x1, .int .i64 x2, .string x3, .slice E1 x4 x7, .slice E2 x5 x8, .slice E3 x6 x9]) (by simp [results, Try.results24, go_sem, r0, r1, r2, r3, r4, r5, r6]) rfl ⟨by rw [HSM.out]; exact ⟨_, _, _, _, _, _, _, _, _, _, _, _, _, rfl, fun w hw => leaf_any (HEr.out.2 _ (Later.rfl' _)) w⟩, later_setFrom (by omega) [.int .i64 x0, .int .i64 x1, .int .i64 x2, .string x3, .slice E1 x4 x7, .slice E2 x5 x8, .slice E3 x6 x9] _ 0 HL.out⟩
  | none =>
    have HSQ := Lib.hid hE
    obtain ⟨_, _, hk1, hk34⟩ := seqErr_none hE
    obtain ⟨hv, hv2⟩ : d.valid = true ∧ d'.valid = true := ⟨(errOf_none (seqErr_none hE).1).1, (errOf_none (seqErr_none hE).2.1).1⟩
    have hkk : k = 1 := by rw [← HP.out.1]; exact hk1
    have hnum := valid_num hv hk1
    rw [HP.out.2.2.1] at hnum
    have hkk' : k' = 3 ∨ k' = 4 := by rw [← HP.out.2.1]; exact hk34
    have hstr : k' = 4 → (-1000000000 ≤ n' ∧ n' ≤ 1000000000) ∧ (-1000000000 ≤ s' ∧ s' ≤ 1000000000) := fun e => by
      obtain ⟨_, q1, q2⟩ := stream_leaf hv2 (by rw [HP.out.2.1]; exact e)
      rw [HP.out.2.2.2.1] at q1
      rw [HP.out.2.2.2.2.1] at q2
      exact ⟨numV_iff.1 q1, numV_iff.1 q2⟩
    have hlen : k' = 3 → l'.length ≤ 8 := fun e => by have := (valid_kind3 hv2 (by rw [HP.out.2.1]; exact e)).2.1; rw [HP.out.2.2.2.2.2] at this; exact this
    subst hkk
    obtain ⟨a0, a1, a2, a3, a4, a5, a6⟩ := Held7.of HV1.out
    obtain ⟨b0, b1, b2, b3, b4, b5, b6⟩ := Held7.of HV2.out
    have hrw := HR.out.lt
    obtain ⟨hn1, hn2⟩ := hnum
    have HNTH := Lib.hid (fun w (hl : Later (w1.alloc (.cells #[.int .i64 x0, .int .i64 x1, .int .i64 x2, .string x3, .slice E1 x4 x7, .slice E2 x5 x8, .slice E3 x6 x9] 28)) w) => HN.out w (HL.out.trans hl))
    have HSTR := Lib.hid hstr; have HLEN := Lib.hid hlen
    clear HV1 hEr hE hk1 hk34 hv hv2 HW1 HB9 hstr hlen
    simp only [Option.isSome_none]
    by_cases hneg : n < 0
    · have HNEG := Lib.hid hneg
      have HK : Hid (skipD d d' = errD 5) := by
        obtain ⟨hk, hk', hn, hn', hs', hl'⟩ := HP.out
        unfold Hid
        rw [skip_none HSQ.out]
        unfold skipN
        rw [hn, if_pos HNEG.out]
      go_wp2_with fail
      refine (specErr 5 (by omega) _).mono ?_; rintro e w9 ⟨⟨k9, n9, s9, t9, rfl, hK9, h91, h92, h93, h94⟩, hb9⟩
      unfold leafA
      have R9 := HR.out.later hb9
      have L9 := Lib.hid (HL.out.trans hb9)
      have HF9 := Lib.hid (fun w => leafB_of (lo := W.heap.size) (w := w) (HK.out.trans hK9) h91 h92 h93 h94)
      obtain ⟨r0, r1, r2, r3, r4, r5, r6, f0, f1, f2, f3, f4, f5, f6⟩ := box_seven R9
      have rz := R9.lt
      clear R9 hb9 hK9 h91 h92 h93 h94 HR HL
      go_wp2_with fail
      exact bodyPost_ret (v := leafA k9 n9 s9 t9) (by simp [results, Try.results24, go_sem, leafA, r0, r1, r2, r3, r4, r5, r6]) rfl ⟨(HF9.out _).out, later_setFrom (by omega) [.int .i64 k9, .int .i64 n9, .int .i64 s9, .string t9, .slice none 0 0, .slice none 0 0, .slice none 0 0] _ 0 L9.out⟩
    · have HNN := Lib.hid hneg
      rcases hkk' with hk3 | hk4
      · subst hk3
        have hl8 := HLEN.out rfl
        obtain ⟨j, hj⟩ : ∃ j : Nat, n = (j : Int) := ⟨n.toNat, by omega⟩
        subst hj
        obtain ⟨_, _, he1, hd1, hd2, _⟩ := At.sl_inv HG'.out
        simp only [Value.slice.injEq, true_and] at he1
        obtain ⟨e1', e2'⟩ := he1
        subst e1' e2'
        have HK : Hid (skipD d d' = listD (l'.drop j)) := by
          obtain ⟨hk, hk', hn, hn', hs', hl'⟩ := HP.out
          unfold Hid
          rw [skip_none HSQ.out]
          unfold skipN
          rw [hn, if_neg (by omega), hk', if_pos rfl, hl', show ((j : Int)).toNat = j by omega]
        by_cases hlt : j < l'.length
        · have hji : (j : Int) < (l'.length : Int) := by omega
          have hjc : (j : Int) ≤ (d1 : Int) := by omega
          have hjl : (l'.length : Int) ≤ (d1 : Int) := by omega
          have hq0 : (0 : Int) ≤ (j : Int) := by omega
          have hq1 : (j : Int) ≤ (l'.length : Int) := by omega
          have hq2 : ¬ d1 = j := by omega
          have hq3 : ¬ j = d1 := by omega
          have HLV := Lib.hid (fun W' (hW : Later W W') => specListValue (l'.drop j) W' _ _ ((sl_drop HG'.out hlt hd1).later hW) (cost_drop HCO.out))
          clear HG' HNTH
          have HMIN : Hid (∀ W', Calls Try.prog 81 #[.int .i64 (j : Int), .int .i64 (l'.length : Int)] W' fun r w' => r = .returned (.int .i64 (j : Int)) ∧ W' = w') := fun W' => specMin _ _ _ (by rw [if_pos hji]) W'
          have HP0 := Lib.hid (show (w1.alloc (.cells #[.int .i64 x0, .int .i64 x1, .int .i64 x2, .string x3, .slice E1 x4 x7, .slice E2 x5 x8, .slice E3 x6 x9] 28)).cell? ⟨W.heap.size, 1, none⟩ = some (.int .i64 (j : Int)) ∧ (w1.alloc (.cells #[.int .i64 x0, .int .i64 x1, .int .i64 x2, .string x3, .slice E1 x4 x7, .slice E2 x5 x8, .slice E3 x6 x9] 28)).cell? ⟨W.heap.size + 1, 4, none⟩ = some (.slice B1 l'.length d1) from ⟨a1, b4⟩)
          have hz0 := HR.out.lt
          go_wp2_with fail
          go_region_held3 (fun w' => w'.cell? ⟨W.heap.size, 1, none⟩ = some (.int .i64 (j : Int)) ∧ w'.cell? ⟨W.heap.size + 1, 4, none⟩ = some (.slice B1 l'.length d1))
            (first | with_reducible refine two_set1 ?_ (by omega) (by omega) _ _ _ _ _ _ _; with_reducible exact ⟨kept_cell HB9.out HP0.out.1, kept_cell HB9.out HP0.out.2⟩ | with_reducible exact ⟨kept_cell (Later.rfl' _).drew HP0.out.1, kept_cell (Later.rfl' _).drew HP0.out.2⟩ | with_reducible exact ⟨kept_cell HB9.out HP0.out.1, kept_cell HB9.out HP0.out.2⟩)
            (first | (go_at_call 81; refine (HMIN.out _).mono ?_; rintro r w8 ⟨rfl, rfl⟩) | (go_at_call 35; refine (HLV.out _ (HL.out.trans (Later.rfl' _).drew)).mono ?_; rintro e w9 ⟨⟨y0, y1, y2, y3, C1, y4, y7, C2, y5, y8, C3, y6, y9, rfl, hA⟩, hb9⟩; have HB9 := Lib.hid ((Later.rfl' (w1.alloc (.cells #[.int .i64 x0, .int .i64 x1, .int .i64 x2, .string x3, .slice E1 x4 x7, .slice E2 x5 x8, .slice E3 x6 x9] 28))).drew.trans hb9); have R9 := HR.out.later HB9.out; obtain ⟨r0, r1, r2, r3, r4, r5, r6, f0, f1, f2, f3, f4, f5, f6⟩ := box_seven R9; have rz := R9.lt; have HAA := Lib.hid hA; clear R9 hA hb9))
          all_goals
            (rename_i hHL; clear hHL
             have L9 := Lib.hid (HL.out.trans HB9.out)
             have hzX := HL.out.size
             have hzd : (w1.alloc (.cells #[.int .i64 x0, .int .i64 x1, .int .i64 x2, .string x3, .slice E1 x4 x7, .slice E2 x5 x8, .slice E3 x6 x9] 28)).heap.size = (w1.alloc (.cells #[.int .i64 x0, .int .i64 x1, .int .i64 x2, .string x3, .slice E1 x4 x7, .slice E2 x5 x8, .slice E3 x6 x9] 28)).drew.heap.size := rfl
             have hcC := chg_setFrom (g := W.heap.size + 1 + 1) [.int .i64 y0, .int .i64 y1, .int .i64 y2, .string y3, .slice C1 y4 y7, .slice C2 y5 y8, .slice C3 y6 y9] w9 0
             have HA9 := Lib.hid (((HAA.out.chg hcC fun b h1 h2 => by omega).more (S' := fun b => W.heap.size ≤ b) fun b h => by omega).ats)
             clear hcC hzX hzd
             go_wp2_with fail
             exact bodyPost_ret (v := .agg #[.int .i64 y0, .int .i64 y1, .int .i64 y2, .string y3, .slice C1 y4 y7, .slice C2 y5 y8, .slice C3 y6 y9]) (by simp [results, Try.results24, go_sem, r0, r1, r2, r3, r4, r5, r6]) rfl ⟨LeafB.out (lo := W.heap.size) (by rw [HK.out]; exact ⟨_, _, _, _, _, _, _, _, _, _, _, _, _, rfl, HA9.out⟩), later_setFrom (by omega) [.int .i64 y0, .int .i64 y1, .int .i64 y2, .string y3, .slice C1 y4 y7, .slice C2 y5 y8, .slice C3 y6 y9] _ 0 L9.out⟩)
        · have hji : (l'.length : Int) ≤ (j : Int) := by omega
          have hjl : (l'.length : Int) ≤ (d1 : Int) := by omega
          have hdr : l'.drop j = [] := List.drop_of_length_le (by omega)
          rw [hdr] at HK
          have HLV := Lib.hid (fun W' (X : Option Addr) (n c : Nat) (hn : n = 0) (hc : c ≤ 9223372036854775807) => specListValue [] W' anyB (.slice X n c) (by subst hn; exact sl_none hc) (by simp [sumN]))
          clear HG' HNTH hdr hlt
          by_cases hcap : d1 = l'.length
          · subst hcap
            have HMIN : Hid (∀ W', Calls Try.prog 81 #[.int .i64 (j : Int), .int .i64 (l'.length : Int)] W' fun r w' => r = .returned (.int .i64 (l'.length : Int)) ∧ W' = w') := fun W' => specMin _ _ _ (by rw [if_neg (by omega)]) W'
            have HP0 := Lib.hid (show (w1.alloc (.cells #[.int .i64 x0, .int .i64 x1, .int .i64 x2, .string x3, .slice E1 x4 x7, .slice E2 x5 x8, .slice E3 x6 x9] 28)).cell? ⟨W.heap.size, 1, none⟩ = some (.int .i64 (j : Int)) ∧ (w1.alloc (.cells #[.int .i64 x0, .int .i64 x1, .int .i64 x2, .string x3, .slice E1 x4 x7, .slice E2 x5 x8, .slice E3 x6 x9] 28)).cell? ⟨W.heap.size + 1, 4, none⟩ = some (.slice B1 l'.length l'.length) from ⟨a1, b4⟩)
            have hz0 := HR.out.lt
            go_wp2_with fail
            go_region_held3 (fun w' => w'.cell? ⟨W.heap.size, 1, none⟩ = some (.int .i64 (j : Int)) ∧ w'.cell? ⟨W.heap.size + 1, 4, none⟩ = some (.slice B1 l'.length l'.length))
              (first | with_reducible refine two_set1 ?_ (by omega) (by omega) _ _ _ _ _ _ _; with_reducible exact ⟨kept_cell HB9.out HP0.out.1, kept_cell HB9.out HP0.out.2⟩ | with_reducible exact ⟨kept_cell (Later.rfl' _).drew HP0.out.1, kept_cell (Later.rfl' _).drew HP0.out.2⟩ | with_reducible exact ⟨kept_cell HB9.out HP0.out.1, kept_cell HB9.out HP0.out.2⟩)
              (first | (go_at_call 81; refine (HMIN.out _).mono ?_; rintro r w8 ⟨rfl, rfl⟩) | (go_at_call 35; refine (HLV.out _ _ _ _ (by omega) (by omega)).mono ?_; rintro e w9 ⟨⟨y0, y1, y2, y3, C1, y4, y7, C2, y5, y8, C3, y6, y9, rfl, hA⟩, hb9⟩; have HB9 := Lib.hid ((Later.rfl' (w1.alloc (.cells #[.int .i64 x0, .int .i64 x1, .int .i64 x2, .string x3, .slice E1 x4 x7, .slice E2 x5 x8, .slice E3 x6 x9] 28))).drew.trans hb9); have R9 := HR.out.later HB9.out; obtain ⟨r0, r1, r2, r3, r4, r5, r6, f0, f1, f2, f3, f4, f5, f6⟩ := box_seven R9; have rz := R9.lt; have HAA := Lib.hid hA; clear R9 hA hb9))
            all_goals
              (rename_i hHL; clear hHL
               have L9 := Lib.hid (HL.out.trans HB9.out)
               have hzX := HL.out.size
               have hzd : (w1.alloc (.cells #[.int .i64 x0, .int .i64 x1, .int .i64 x2, .string x3, .slice E1 x4 x7, .slice E2 x5 x8, .slice E3 x6 x9] 28)).heap.size = (w1.alloc (.cells #[.int .i64 x0, .int .i64 x1, .int .i64 x2, .string x3, .slice E1 x4 x7, .slice E2 x5 x8, .slice E3 x6 x9] 28)).drew.heap.size := rfl
               have hcC := chg_setFrom (g := W.heap.size + 1 + 1) [.int .i64 y0, .int .i64 y1, .int .i64 y2, .string y3, .slice C1 y4 y7, .slice C2 y5 y8, .slice C3 y6 y9] w9 0
               have HA9 := Lib.hid (((HAA.out.chg hcC fun b h1 h2 => by omega).more (S' := fun b => W.heap.size ≤ b) fun b h => by omega).ats)
               clear hcC hzX hzd
               go_wp2_with fail
               exact bodyPost_ret (v := .agg #[.int .i64 y0, .int .i64 y1, .int .i64 y2, .string y3, .slice C1 y4 y7, .slice C2 y5 y8, .slice C3 y6 y9]) (by simp [results, Try.results24, go_sem, r0, r1, r2, r3, r4, r5, r6]) rfl ⟨LeafB.out (lo := W.heap.size) (by rw [HK.out]; exact ⟨_, _, _, _, _, _, _, _, _, _, _, _, _, rfl, HA9.out⟩), later_setFrom (by omega) [.int .i64 y0, .int .i64 y1, .int .i64 y2, .string y3, .slice C1 y4 y7, .slice C2 y5 y8, .slice C3 y6 y9] _ 0 L9.out⟩)
          · have hcap2 : (l'.length : Int) < (d1 : Int) := by omega
            have hcap3 : ¬ (d1 : Int) = (l'.length : Int) := by omega
            have hcap4 : ¬ l'.length = d1 := by omega
            have hq0 : (0 : Int) ≤ (l'.length : Int) := by omega
            have HMIN : Hid (∀ W', Calls Try.prog 81 #[.int .i64 (j : Int), .int .i64 (l'.length : Int)] W' fun r w' => r = .returned (.int .i64 (l'.length : Int)) ∧ W' = w') := fun W' => specMin _ _ _ (by rw [if_neg (by omega)]) W'
            have HP0 := Lib.hid (show (w1.alloc (.cells #[.int .i64 x0, .int .i64 x1, .int .i64 x2, .string x3, .slice E1 x4 x7, .slice E2 x5 x8, .slice E3 x6 x9] 28)).cell? ⟨W.heap.size, 1, none⟩ = some (.int .i64 (j : Int)) ∧ (w1.alloc (.cells #[.int .i64 x0, .int .i64 x1, .int .i64 x2, .string x3, .slice E1 x4 x7, .slice E2 x5 x8, .slice E3 x6 x9] 28)).cell? ⟨W.heap.size + 1, 4, none⟩ = some (.slice B1 l'.length d1) from ⟨a1, b4⟩)
            have hz0 := HR.out.lt
            go_wp2_with fail
            go_region_held3 (fun w' => w'.cell? ⟨W.heap.size, 1, none⟩ = some (.int .i64 (j : Int)) ∧ w'.cell? ⟨W.heap.size + 1, 4, none⟩ = some (.slice B1 l'.length d1))
              (first | with_reducible refine two_set1 ?_ (by omega) (by omega) _ _ _ _ _ _ _; with_reducible exact ⟨kept_cell HB9.out HP0.out.1, kept_cell HB9.out HP0.out.2⟩ | with_reducible exact ⟨kept_cell (Later.rfl' _).drew HP0.out.1, kept_cell (Later.rfl' _).drew HP0.out.2⟩ | with_reducible exact ⟨kept_cell HB9.out HP0.out.1, kept_cell HB9.out HP0.out.2⟩)
              (first | (go_at_call 81; refine (HMIN.out _).mono ?_; rintro r w8 ⟨rfl, rfl⟩) | (go_at_call 35; refine (HLV.out _ _ _ _ (by omega) (by omega)).mono ?_; rintro e w9 ⟨⟨y0, y1, y2, y3, C1, y4, y7, C2, y5, y8, C3, y6, y9, rfl, hA⟩, hb9⟩; have HB9 := Lib.hid ((Later.rfl' (w1.alloc (.cells #[.int .i64 x0, .int .i64 x1, .int .i64 x2, .string x3, .slice E1 x4 x7, .slice E2 x5 x8, .slice E3 x6 x9] 28))).drew.trans hb9); have R9 := HR.out.later HB9.out; obtain ⟨r0, r1, r2, r3, r4, r5, r6, f0, f1, f2, f3, f4, f5, f6⟩ := box_seven R9; have rz := R9.lt; have HAA := Lib.hid hA; clear R9 hA hb9))
            all_goals
              (rename_i hHL; clear hHL
               have L9 := Lib.hid (HL.out.trans HB9.out)
               have hzX := HL.out.size
               have hzd : (w1.alloc (.cells #[.int .i64 x0, .int .i64 x1, .int .i64 x2, .string x3, .slice E1 x4 x7, .slice E2 x5 x8, .slice E3 x6 x9] 28)).heap.size = (w1.alloc (.cells #[.int .i64 x0, .int .i64 x1, .int .i64 x2, .string x3, .slice E1 x4 x7, .slice E2 x5 x8, .slice E3 x6 x9] 28)).drew.heap.size := rfl
               have hcC := chg_setFrom (g := W.heap.size + 1 + 1) [.int .i64 y0, .int .i64 y1, .int .i64 y2, .string y3, .slice C1 y4 y7, .slice C2 y5 y8, .slice C3 y6 y9] w9 0
               have HA9 := Lib.hid (((HAA.out.chg hcC fun b h1 h2 => by omega).more (S' := fun b => W.heap.size ≤ b) fun b h => by omega).ats)
               clear hcC hzX hzd
               go_wp2_with fail
               exact bodyPost_ret (v := .agg #[.int .i64 y0, .int .i64 y1, .int .i64 y2, .string y3, .slice C1 y4 y7, .slice C2 y5 y8, .slice C3 y6 y9]) (by simp [results, Try.results24, go_sem, r0, r1, r2, r3, r4, r5, r6]) rfl ⟨LeafB.out (lo := W.heap.size) (by rw [HK.out]; exact ⟨_, _, _, _, _, _, _, _, _, _, _, _, _, rfl, HA9.out⟩), later_setFrom (by omega) [.int .i64 y0, .int .i64 y1, .int .i64 y2, .string y3, .slice C1 y4 y7, .slice C2 y5 y8, .slice C3 y6 y9] _ 0 L9.out⟩)
      · subst hk4
        have HK3 : Hid (¬ d'.kind = 3) := by unfold Hid; rw [HP.out.2.1]; decide
        obtain ⟨⟨q1, q2⟩, ⟨q3, q4⟩⟩ := HSTR.out rfl
        have hL9 := Lib.hid (Later.rfl' (w1.alloc (.cells #[.int .i64 x0, .int .i64 x1, .int .i64 x2, .string x3, .slice E1 x4 x7, .slice E2 x5 x8, .slice E3 x6 x9] 28)))
        go_wp2_with fail
        refine (HNTH.out _ (Later.rfl' _)).mono ?_; rintro e w9 ⟨⟨y0, y1, y2, y3, C1, y4, y7, C2, y5, y8, C3, y6, y9, rfl, hA⟩, hb9⟩
        have hkn := ats_kn (hA w9 (Later.rfl' _))
        have hl9 := hb9.alloc (.cells #[.int .i64 y0, .int .i64 y1, .int .i64 y2, .string y3, .slice C1 y4 y7, .slice C2 y5 y8, .slice C3 y6 y9] 28)
        have R9 := HR.out.later hl9
        replace HL := Lib.hid (HL.out.trans hl9)
        replace HR := Lib.hid R9
        have HV2' := Lib.hid (HV2.out.later hl9)
        have HA := Lib.hid (fun W' (hW : Later (w9.alloc (.cells #[.int .i64 y0, .int .i64 y1, .int .i64 y2, .string y3, .slice C1 y4 y7, .slice C2 y5 y8, .slice C3 y6 y9] 28)) W') => hA W' (((Later.rfl' w9).alloc _).trans hW))
        clear a0 a1 a2 a3 a4 a5 a6 b0 b1 b2 b3 b4 b5 b6 R9 hb9 hl9 hA HNTH hL9
        obtain ⟨b0, b1, b2, b3, b4, b5, b6⟩ := Held7.of HV2'.out
        have hNB := nth_between (d := d) (d' := d') HSQ.out HK3.out
        rw [hkn.2] at hNB
        have HNB := Lib.hid hNB
        by_cases hy6 : y0 = 6
        · subst hy6
          have HK : Hid (skipD d d' = nthD d d') := by
            obtain ⟨hk, hk', hn, hn', hs', hl'⟩ := HP.out
            unfold Hid
            rw [skip_none HSQ.out]
            unfold skipN strD
            rw [hn, if_neg (by have := HNN.out; omega), if_neg HK3.out, if_pos hkn.1]
          have hR9 := HR.out
          obtain ⟨r0, r1, r2, r3, r4, r5, r6, f0, f1, f2, f3, f4, f5, f6⟩ := box_seven hR9
          have rz := hR9.lt
          have HKN : Hid (nthD d d' = leafD 6 y1 0 ⟨#[]⟩) := nth_err HSQ.out HK3.out hkn.1 hkn.2
          clear hR9 hkn hNB
          go_wp2_with fail
          exact bodyPost_ret (v := .agg #[.int .i64 6, .int .i64 y1, .int .i64 y2, .string y3, .slice C1 y4 y7, .slice C2 y5 y8, .slice C3 y6 y9]) (by simp [results, Try.results24, go_sem, r0, r1, r2, r3, r4, r5, r6]) rfl ⟨by rw [HK.out]; exact ⟨_, _, _, _, _, _, _, _, _, _, _, _, _, rfl, fun w hw => by rw [HKN.out]; exact leaf_any (by rw [← HKN.out]; exact HA.out _ (Later.rfl' _)) w⟩, later_setFrom (by omega) [.int .i64 6, .int .i64 y1, .int .i64 y2, .string y3, .slice C1 y4 y7, .slice C2 y5 y8, .slice C3 y6 y9] _ 0 HL.out⟩
        · have e6 : (y0 == 6) = false := by simpa using hy6
          have HK : Hid (skipD d d' = leafD 4 y1 s' ⟨#[]⟩) := by
            obtain ⟨hk, hk', hn, hn', hs', hl'⟩ := HP.out
            unfold Hid
            rw [skip_none HSQ.out]
            unfold skipN strD
            rw [hn, if_neg (by have := HNN.out; omega), if_neg HK3.out, if_neg (by rw [hkn.1]; exact hy6), hkn.2, hs']
          clear hkn hy6
          go_wp2_with fail
          refine (specStr y1 s' HNB.out (by unfold Between64; omega) _).mono ?_; rintro e w9 ⟨⟨k9, n9, s9, t9, rfl, hK9, h91, h92, h93, h94⟩, hb9⟩
          unfold leafA
          have R9 := HR.out.later hb9
          have L9 := Lib.hid (HL.out.trans hb9)
          have HF9 := Lib.hid (fun w => leafB_of (lo := W.heap.size) (w := w) (HK.out.trans hK9) h91 h92 h93 h94)
          obtain ⟨r0, r1, r2, r3, r4, r5, r6, f0, f1, f2, f3, f4, f5, f6⟩ := box_seven R9
          have rz := R9.lt
          clear R9 hb9 hK9 h91 h92 h93 h94 HR HL
          go_wp2_with fail
          exact bodyPost_ret (v := leafA k9 n9 s9 t9) (by simp [results, Try.results24, go_sem, leafA, r0, r1, r2, r3, r4, r5, r6]) rfl ⟨(HF9.out _).out, later_setFrom (by omega) [.int .i64 k9, .int .i64 n9, .int .i64 s9, .string t9, .slice none 0 0, .slice none 0 0, .slice none 0 0] _ 0 L9.out⟩


set_option maxHeartbeats 16000000 in
theorem implSkip (d d' : Vl) (hM : d.cost ≤ 1000000) (hM' : d'.cost ≤ 1000000) (W : World) (S S' : Nat → Prop) (cs cs' : List Value) (h : Ats W S (encV d) cs) (h' : Ats W S' (encV d') cs') :
    Calls Try.prog 23 #[.agg cs.toArray, .agg cs'.toArray] W fun r w' => LeafOut w' (skipD d d') r ∧ Later W w' := by
  have C := fun w (hl : Later W w) => implSeq d d' (by omega) (by omega) w S S' cs cs' (h.later hl) (h'.later hl)
  obtain ⟨k, n, s, t, l, cl, r, hd⟩ := Vl.shape d
  obtain ⟨k', n', s', t', l', cl', r', hd'⟩ := Vl.shape d'
  have HP : Hid (d.kind = k ∧ d'.kind = k' ∧ d.n = n ∧ d'.n = n' ∧ d'.step = s' ∧ d'.list = l') := by subst hd hd'; exact ⟨rfl, rfl, rfl, rfl, rfl, rfl⟩
  have hco := list_cost2 hM'
  rw [hd'] at hco
  have HCO : Hid (l'.length + sumN Vl.cost l' ≤ 1048576) := Nat.le_trans hco (by decide)
  rw [hd] at h
  rw [hd'] at h'
  have h0 := h; have h0' := h'
  rw [← hd] at h0
  rw [← hd'] at h0'
  obtain ⟨A1, c1, A2, c2, A3, c3, rfl, _⟩ := h.val
  obtain ⟨B1, d1, B2, d2, B3, d3, rfl, _, _, _, _, g1, _, _⟩ := h'.val
  have HG' := Lib.hid g1
  have CN := fun w (hl : Later W w) => implNth d d' hM hM' w S S' _ _ (h0.later hl) (h0'.later hl)
  have HN := Lib.hid CN
  clear CN h0 h0'
  clear hd hd' hM hM' h h' hco g1
  have HC := Lib.hid C
  have hR := box_alloc ((W.alloc (.cells #[.int .i64 k, .int .i64 n, .int .i64 s, .string t, .slice A1 l.length c1, .slice A2 cl.length c2, .slice A3 r.length c3] 28)).alloc (.cells #[.int .i64 k', .int .i64 n', .int .i64 s', .string t', .slice B1 l'.length d1, .slice B2 cl'.length d2, .slice B3 r'.length d3] 28)) #[.int .i64 0, .int .i64 0, .int .i64 0, .string ⟨#[]⟩, .slice none 0 0, .slice none 0 0, .slice none 0 0] 28
  rw [World.size_alloc, World.size_alloc] at hR
  have hB1 : Box (((W.alloc (.cells #[.int .i64 k, .int .i64 n, .int .i64 s, .string t, .slice A1 l.length c1, .slice A2 cl.length c2, .slice A3 r.length c3] 28)).alloc (.cells #[.int .i64 k', .int .i64 n', .int .i64 s', .string t', .slice B1 l'.length d1, .slice B2 cl'.length d2, .slice B3 r'.length d3] 28)).alloc (.cells #[.int .i64 0, .int .i64 0, .int .i64 0, .string ⟨#[]⟩, .slice none 0 0, .slice none 0 0, .slice none 0 0] 28)) W.heap.size [.int .i64 k, .int .i64 n, .int .i64 s, .string t, .slice A1 l.length c1, .slice A2 cl.length c2, .slice A3 r.length c3] := (box_alloc W #[.int .i64 k, .int .i64 n, .int .i64 s, .string t, .slice A1 l.length c1, .slice A2 cl.length c2, .slice A3 r.length c3] 28).later (((Later.rfl' _).alloc _).alloc _)
  have hB2 : Box (((W.alloc (.cells #[.int .i64 k, .int .i64 n, .int .i64 s, .string t, .slice A1 l.length c1, .slice A2 cl.length c2, .slice A3 r.length c3] 28)).alloc (.cells #[.int .i64 k', .int .i64 n', .int .i64 s', .string t', .slice B1 l'.length d1, .slice B2 cl'.length d2, .slice B3 r'.length d3] 28)).alloc (.cells #[.int .i64 0, .int .i64 0, .int .i64 0, .string ⟨#[]⟩, .slice none 0 0, .slice none 0 0, .slice none 0 0] 28)) (W.heap.size + 1) [.int .i64 k', .int .i64 n', .int .i64 s', .string t', .slice B1 l'.length d1, .slice B2 cl'.length d2, .slice B3 r'.length d3] := by
    have h := box_alloc (W.alloc (.cells #[.int .i64 k, .int .i64 n, .int .i64 s, .string t, .slice A1 l.length c1, .slice A2 cl.length c2, .slice A3 r.length c3] 28)) #[.int .i64 k', .int .i64 n', .int .i64 s', .string t', .slice B1 l'.length d1, .slice B2 cl'.length d2, .slice B3 r'.length d3] 28
    rw [World.size_alloc] at h
    exact h.later ((Later.rfl' _).alloc _)
  have HR0 := Lib.hid hR; have HB1 := Lib.hid hB1; have HB2 := Lib.hid hB2
  clear C hR hB1 hB2
  go_enter Try.func23, Try.ntmps23
  go_wp2_with fail
  refine (HC.out _ ((((Later.rfl' _).alloc _).alloc _).alloc _)).mono ?_; rintro e w1 ⟨⟨x0, x1, x2, x3, E1, x4, x7, E2, x5, x8, E3, x6, x9, rfl, hEr⟩, hb1⟩
  have hl1 := hb1.alloc (.cells #[.int .i64 x0, .int .i64 x1, .int .i64 x2, .string x3, .slice E1 x4 x7, .slice E2 x5 x8, .slice E3 x6 x9] 28)
  have HR := Lib.hid (HR0.out.later hl1); have HL := Lib.hid (((((Later.rfl' W).alloc _).alloc _).alloc _).trans hl1)
  have HV1 := Lib.hid (HB1.out.later hl1); have HV2 := Lib.hid (HB2.out.later hl1)
  have HW1 := Lib.hid (((((Later.rfl' W).alloc (.cells #[.int .i64 k, .int .i64 n, .int .i64 s, .string t, .slice A1 l.length c1, .slice A2 cl.length c2, .slice A3 r.length c3] 28)).alloc (.cells #[.int .i64 k', .int .i64 n', .int .i64 s', .string t', .slice B1 l'.length d1, .slice B2 cl'.length d2, .slice B3 r'.length d3] 28)).alloc (.cells #[.int .i64 0, .int .i64 0, .int .i64 0, .string ⟨#[]⟩, .slice none 0 0, .slice none 0 0, .slice none 0 0] 28)).trans hb1)
  have HB9 := Lib.hid hl1
  clear hb1 hl1 HC HR0 HB1 HB2
  cases hE : seqErr d d' with
  | some m =>
    rw [hE] at hEr
    have HEr := Lib.hid (hEr m rfl)
    have HSM : Hid (skipD d d' = errD m) := by unfold Hid skipD; rw [hE]
    have hR9 := HR.out
    obtain ⟨r0, r1, r2, r3, r4, r5, r6, f0, f1, f2, f3, f4, f5, f6⟩ := box_seven hR9
    have rz := hR9.lt
    clear hR9 hEr hE HV1 HV2
    simp only [Option.isSome_some]
    go_wp2_with fail
    exact bodyPost_ret (v := .agg #[.int .i64 x0, .int .i64 x1, .int .i64 x2, .string x3, .slice E1 x4 x7, .slice E2 x5 x8, .slice E3 x6 x9]) (by simp [results, Try.results23, go_sem, r0, r1, r2, r3, r4, r5, r6]) rfl ⟨by rw [HSM.out]; exact ⟨_, _, _, _, _, _, _, _, _, _, _, _, _, rfl, fun w hw => leaf_any (HEr.out.2 _ (Later.rfl' _)) w⟩, later_setFrom (by omega) [.int .i64 x0, .int .i64 x1, .int .i64 x2, .string x3, .slice E1 x4 x7, .slice E2 x5 x8, .slice E3 x6 x9] _ 0 HL.out⟩
  | none =>
    have HSQ := Lib.hid hE
    obtain ⟨_, _, hk1, hk34⟩ := seqErr_none hE
    obtain ⟨hv, hv2⟩ : d.valid = true ∧ d'.valid = true := ⟨(errOf_none (seqErr_none hE).1).1, (errOf_none (seqErr_none hE).2.1).1⟩
    have hkk : k = 1 := by rw [← HP.out.1]; exact hk1
    have hnum := valid_num hv hk1
    rw [HP.out.2.2.1] at hnum
    have hkk' : k' = 3 ∨ k' = 4 := by rw [← HP.out.2.1]; exact hk34
    have hstr : k' = 4 → (-1000000000 ≤ n' ∧ n' ≤ 1000000000) ∧ (-1000000000 ≤ s' ∧ s' ≤ 1000000000) := fun e => by
      obtain ⟨_, q1, q2⟩ := stream_leaf hv2 (by rw [HP.out.2.1]; exact e)
      rw [HP.out.2.2.2.1] at q1
      rw [HP.out.2.2.2.2.1] at q2
      exact ⟨numV_iff.1 q1, numV_iff.1 q2⟩
    have hlen : k' = 3 → l'.length ≤ 8 := fun e => by have := (valid_kind3 hv2 (by rw [HP.out.2.1]; exact e)).2.1; rw [HP.out.2.2.2.2.2] at this; exact this
    subst hkk
    obtain ⟨a0, a1, a2, a3, a4, a5, a6⟩ := Held7.of HV1.out
    obtain ⟨b0, b1, b2, b3, b4, b5, b6⟩ := Held7.of HV2.out
    have hrw := HR.out.lt
    obtain ⟨hn1, hn2⟩ := hnum
    have HNTH := Lib.hid (fun w (hl : Later (w1.alloc (.cells #[.int .i64 x0, .int .i64 x1, .int .i64 x2, .string x3, .slice E1 x4 x7, .slice E2 x5 x8, .slice E3 x6 x9] 28)) w) => HN.out w (HL.out.trans hl))
    have HSTR := Lib.hid hstr; have HLEN := Lib.hid hlen
    clear HV1 hEr hE hk1 hk34 hv hv2 HW1 HB9 hstr hlen
    simp only [Option.isSome_none]
    by_cases hneg : n < 0
    · have HNEG := Lib.hid hneg
      have HK : Hid (skipD d d' = errD 5) := by
        obtain ⟨hk, hk', hn, hn', hs', hl'⟩ := HP.out
        unfold Hid
        rw [skip_none HSQ.out]
        unfold skipN
        rw [hn, if_pos HNEG.out]
      go_wp2_with fail
      refine (implErr 5 (by omega) _).mono ?_; rintro e w9 ⟨⟨k9, n9, s9, t9, rfl, hK9, h91, h92, h93, h94⟩, hb9⟩
      unfold leafA
      have R9 := HR.out.later hb9
      have L9 := Lib.hid (HL.out.trans hb9)
      have HF9 := Lib.hid (fun w => leafB_of (lo := W.heap.size) (w := w) (HK.out.trans hK9) h91 h92 h93 h94)
      obtain ⟨r0, r1, r2, r3, r4, r5, r6, f0, f1, f2, f3, f4, f5, f6⟩ := box_seven R9
      have rz := R9.lt
      clear R9 hb9 hK9 h91 h92 h93 h94 HR HL
      go_wp2_with fail
      exact bodyPost_ret (v := leafA k9 n9 s9 t9) (by simp [results, Try.results23, go_sem, leafA, r0, r1, r2, r3, r4, r5, r6]) rfl ⟨(HF9.out _).out, later_setFrom (by omega) [.int .i64 k9, .int .i64 n9, .int .i64 s9, .string t9, .slice none 0 0, .slice none 0 0, .slice none 0 0] _ 0 L9.out⟩
    · have HNN := Lib.hid hneg
      rcases hkk' with hk3 | hk4
      · subst hk3
        have hl8 := HLEN.out rfl
        obtain ⟨j, hj⟩ : ∃ j : Nat, n = (j : Int) := ⟨n.toNat, by omega⟩
        subst hj
        obtain ⟨_, _, he1, hd1, hd2, _⟩ := At.sl_inv HG'.out
        simp only [Value.slice.injEq, true_and] at he1
        obtain ⟨e1', e2'⟩ := he1
        subst e1' e2'
        have HK : Hid (skipD d d' = listD (l'.drop j)) := by
          obtain ⟨hk, hk', hn, hn', hs', hl'⟩ := HP.out
          unfold Hid
          rw [skip_none HSQ.out]
          unfold skipN
          rw [hn, if_neg (by omega), hk', if_pos rfl, hl', show ((j : Int)).toNat = j by omega]
        by_cases hlt : j < l'.length
        · have hji : (j : Int) < (l'.length : Int) := by omega
          have hjc : (j : Int) ≤ (d1 : Int) := by omega
          have hjl : (l'.length : Int) ≤ (d1 : Int) := by omega
          have hq0 : (0 : Int) ≤ (j : Int) := by omega
          have hq1 : (j : Int) ≤ (l'.length : Int) := by omega
          have hq2 : ¬ d1 = j := by omega
          have hq3 : ¬ j = d1 := by omega
          have HLV := Lib.hid (fun W' (hW : Later W W') => implListValue (l'.drop j) W' _ _ ((sl_drop HG'.out hlt hd1).later hW) (cost_drop HCO.out))
          clear HG' HNTH
          go_wp2_with fail
          refine (HLV.out _ HL.out).mono ?_; rintro e w9 ⟨⟨y0, y1, y2, y3, C1, y4, y7, C2, y5, y8, C3, y6, y9, rfl, hA⟩, hb9⟩
          have R9 := HR.out.later hb9
          have L9 := Lib.hid (HL.out.trans hb9)
          have hzX := HL.out.size
          have hz := HR.out.lt
          have hcC := chg_setFrom (g := W.heap.size + 1 + 1) [.int .i64 y0, .int .i64 y1, .int .i64 y2, .string y3, .slice C1 y4 y7, .slice C2 y5 y8, .slice C3 y6 y9] w9 0
          have HA9 := Lib.hid (((hA.chg hcC fun b h1 h2 => by omega).more (S' := fun b => W.heap.size ≤ b) fun b h => by omega).ats)
          obtain ⟨r0, r1, r2, r3, r4, r5, r6, f0, f1, f2, f3, f4, f5, f6⟩ := box_seven R9
          have rz := R9.lt
          clear R9 hA hb9 HR HL hcC hzX
          go_wp2_with fail
          exact bodyPost_ret (v := .agg #[.int .i64 y0, .int .i64 y1, .int .i64 y2, .string y3, .slice C1 y4 y7, .slice C2 y5 y8, .slice C3 y6 y9]) (by simp [results, Try.results23, go_sem, r0, r1, r2, r3, r4, r5, r6]) rfl ⟨LeafB.out (lo := W.heap.size) (by rw [HK.out]; exact ⟨_, _, _, _, _, _, _, _, _, _, _, _, _, rfl, HA9.out⟩), later_setFrom (by omega) [.int .i64 y0, .int .i64 y1, .int .i64 y2, .string y3, .slice C1 y4 y7, .slice C2 y5 y8, .slice C3 y6 y9] _ 0 L9.out⟩
        · have hji : (l'.length : Int) ≤ (j : Int) := by omega
          have hjl : (l'.length : Int) ≤ (d1 : Int) := by omega
          have hdr : l'.drop j = [] := List.drop_of_length_le (by omega)
          rw [hdr] at HK
          have HLV := Lib.hid (fun W' (X : Option Addr) (n c : Nat) (hn : n = 0) (hc : c ≤ 9223372036854775807) => implListValue [] W' anyB (.slice X n c) (by subst hn; exact sl_none hc) (by simp [sumN]))
          clear HG' HNTH hdr hlt
          by_cases hcap : d1 = l'.length
          · subst hcap
            go_wp2_with fail
            all_goals
              (refine (HLV.out _ _ _ _ (by omega) (by omega)).mono ?_; rintro e w9 ⟨⟨y0, y1, y2, y3, C1, y4, y7, C2, y5, y8, C3, y6, y9, rfl, hA⟩, hb9⟩
               have R9 := HR.out.later hb9
               have L9 := Lib.hid (HL.out.trans hb9)
               have hzX := HL.out.size
               have hz := HR.out.lt
               have hcC := chg_setFrom (g := W.heap.size + 1 + 1) [.int .i64 y0, .int .i64 y1, .int .i64 y2, .string y3, .slice C1 y4 y7, .slice C2 y5 y8, .slice C3 y6 y9] w9 0
               have HA9 := Lib.hid (((hA.chg hcC fun b h1 h2 => by omega).more (S' := fun b => W.heap.size ≤ b) fun b h => by omega).ats)
               obtain ⟨r0, r1, r2, r3, r4, r5, r6, f0, f1, f2, f3, f4, f5, f6⟩ := box_seven R9
               have rz := R9.lt
               clear R9 hA hb9 HR HL hcC hzX
               go_wp2_with fail
               exact bodyPost_ret (v := .agg #[.int .i64 y0, .int .i64 y1, .int .i64 y2, .string y3, .slice C1 y4 y7, .slice C2 y5 y8, .slice C3 y6 y9]) (by simp [results, Try.results23, go_sem, r0, r1, r2, r3, r4, r5, r6]) rfl ⟨LeafB.out (lo := W.heap.size) (by rw [HK.out]; exact ⟨_, _, _, _, _, _, _, _, _, _, _, _, _, rfl, HA9.out⟩), later_setFrom (by omega) [.int .i64 y0, .int .i64 y1, .int .i64 y2, .string y3, .slice C1 y4 y7, .slice C2 y5 y8, .slice C3 y6 y9] _ 0 L9.out⟩)
          · have hcap2 : (l'.length : Int) < (d1 : Int) := by omega
            have hcap3 : ¬ (d1 : Int) = (l'.length : Int) := by omega
            have hcap4 : ¬ l'.length = d1 := by omega
            have hq0 : (0 : Int) ≤ (l'.length : Int) := by omega
            go_wp2_with fail
            all_goals
              (refine (HLV.out _ _ _ _ (by omega) (by omega)).mono ?_; rintro e w9 ⟨⟨y0, y1, y2, y3, C1, y4, y7, C2, y5, y8, C3, y6, y9, rfl, hA⟩, hb9⟩
               have R9 := HR.out.later hb9
               have L9 := Lib.hid (HL.out.trans hb9)
               have hzX := HL.out.size
               have hz := HR.out.lt
               have hcC := chg_setFrom (g := W.heap.size + 1 + 1) [.int .i64 y0, .int .i64 y1, .int .i64 y2, .string y3, .slice C1 y4 y7, .slice C2 y5 y8, .slice C3 y6 y9] w9 0
               have HA9 := Lib.hid (((hA.chg hcC fun b h1 h2 => by omega).more (S' := fun b => W.heap.size ≤ b) fun b h => by omega).ats)
               obtain ⟨r0, r1, r2, r3, r4, r5, r6, f0, f1, f2, f3, f4, f5, f6⟩ := box_seven R9
               have rz := R9.lt
               clear R9 hA hb9 HR HL hcC hzX
               go_wp2_with fail
               exact bodyPost_ret (v := .agg #[.int .i64 y0, .int .i64 y1, .int .i64 y2, .string y3, .slice C1 y4 y7, .slice C2 y5 y8, .slice C3 y6 y9]) (by simp [results, Try.results23, go_sem, r0, r1, r2, r3, r4, r5, r6]) rfl ⟨LeafB.out (lo := W.heap.size) (by rw [HK.out]; exact ⟨_, _, _, _, _, _, _, _, _, _, _, _, _, rfl, HA9.out⟩), later_setFrom (by omega) [.int .i64 y0, .int .i64 y1, .int .i64 y2, .string y3, .slice C1 y4 y7, .slice C2 y5 y8, .slice C3 y6 y9] _ 0 L9.out⟩)
      · subst hk4
        have HK3 : Hid (¬ d'.kind = 3) := by unfold Hid; rw [HP.out.2.1]; decide
        obtain ⟨⟨q1, q2⟩, ⟨q3, q4⟩⟩ := HSTR.out rfl
        have hL9 := Lib.hid (Later.rfl' (w1.alloc (.cells #[.int .i64 x0, .int .i64 x1, .int .i64 x2, .string x3, .slice E1 x4 x7, .slice E2 x5 x8, .slice E3 x6 x9] 28)))
        go_wp2_with fail
        refine (HNTH.out _ (Later.rfl' _)).mono ?_; rintro e w9 ⟨⟨y0, y1, y2, y3, C1, y4, y7, C2, y5, y8, C3, y6, y9, rfl, hA⟩, hb9⟩
        have hkn := ats_kn (hA w9 (Later.rfl' _))
        have hl9 := hb9.alloc (.cells #[.int .i64 y0, .int .i64 y1, .int .i64 y2, .string y3, .slice C1 y4 y7, .slice C2 y5 y8, .slice C3 y6 y9] 28)
        have R9 := HR.out.later hl9
        replace HL := Lib.hid (HL.out.trans hl9)
        replace HR := Lib.hid R9
        have HV2' := Lib.hid (HV2.out.later hl9)
        have HA := Lib.hid (fun W' (hW : Later (w9.alloc (.cells #[.int .i64 y0, .int .i64 y1, .int .i64 y2, .string y3, .slice C1 y4 y7, .slice C2 y5 y8, .slice C3 y6 y9] 28)) W') => hA W' (((Later.rfl' w9).alloc _).trans hW))
        clear a0 a1 a2 a3 a4 a5 a6 b0 b1 b2 b3 b4 b5 b6 R9 hb9 hl9 hA HNTH hL9
        obtain ⟨b0, b1, b2, b3, b4, b5, b6⟩ := Held7.of HV2'.out
        have hNB := nth_between (d := d) (d' := d') HSQ.out HK3.out
        rw [hkn.2] at hNB
        have HNB := Lib.hid hNB
        by_cases hy6 : y0 = 6
        · subst hy6
          have HK : Hid (skipD d d' = nthD d d') := by
            obtain ⟨hk, hk', hn, hn', hs', hl'⟩ := HP.out
            unfold Hid
            rw [skip_none HSQ.out]
            unfold skipN strD
            rw [hn, if_neg (by have := HNN.out; omega), if_neg HK3.out, if_pos hkn.1]
          have hR9 := HR.out
          obtain ⟨r0, r1, r2, r3, r4, r5, r6, f0, f1, f2, f3, f4, f5, f6⟩ := box_seven hR9
          have rz := hR9.lt
          have HKN : Hid (nthD d d' = leafD 6 y1 0 ⟨#[]⟩) := nth_err HSQ.out HK3.out hkn.1 hkn.2
          clear hR9 hkn hNB
          go_wp2_with fail
          exact bodyPost_ret (v := .agg #[.int .i64 6, .int .i64 y1, .int .i64 y2, .string y3, .slice C1 y4 y7, .slice C2 y5 y8, .slice C3 y6 y9]) (by simp [results, Try.results23, go_sem, r0, r1, r2, r3, r4, r5, r6]) rfl ⟨by rw [HK.out]; exact ⟨_, _, _, _, _, _, _, _, _, _, _, _, _, rfl, fun w hw => by rw [HKN.out]; exact leaf_any (by rw [← HKN.out]; exact HA.out _ (Later.rfl' _)) w⟩, later_setFrom (by omega) [.int .i64 6, .int .i64 y1, .int .i64 y2, .string y3, .slice C1 y4 y7, .slice C2 y5 y8, .slice C3 y6 y9] _ 0 HL.out⟩
        · have e6 : (y0 == 6) = false := by simpa using hy6
          have HK : Hid (skipD d d' = leafD 4 y1 s' ⟨#[]⟩) := by
            obtain ⟨hk, hk', hn, hn', hs', hl'⟩ := HP.out
            unfold Hid
            rw [skip_none HSQ.out]
            unfold skipN strD
            rw [hn, if_neg (by have := HNN.out; omega), if_neg HK3.out, if_neg (by rw [hkn.1]; exact hy6), hkn.2, hs']
          clear hkn hy6
          go_wp2_with fail
          refine (implStr y1 s' HNB.out (by unfold Between64; omega) _).mono ?_; rintro e w9 ⟨⟨k9, n9, s9, t9, rfl, hK9, h91, h92, h93, h94⟩, hb9⟩
          unfold leafA
          have R9 := HR.out.later hb9
          have L9 := Lib.hid (HL.out.trans hb9)
          have HF9 := Lib.hid (fun w => leafB_of (lo := W.heap.size) (w := w) (HK.out.trans hK9) h91 h92 h93 h94)
          obtain ⟨r0, r1, r2, r3, r4, r5, r6, f0, f1, f2, f3, f4, f5, f6⟩ := box_seven R9
          have rz := R9.lt
          clear R9 hb9 hK9 h91 h92 h93 h94 HR HL
          go_wp2_with fail
          exact bodyPost_ret (v := leafA k9 n9 s9 t9) (by simp [results, Try.results23, go_sem, leafA, r0, r1, r2, r3, r4, r5, r6]) rfl ⟨(HF9.out _).out, later_setFrom (by omega) [.int .i64 k9, .int .i64 n9, .int .i64 s9, .string t9, .slice none 0 0, .slice none 0 0, .slice none 0 0] _ 0 L9.out⟩

end Go.Proofs.Ytghemlokpfipoaa
