/-
  Streams: what SkipOf and NthOf answer: plain words; the elements of a stream behind a skip. l6Pair of the reference: the walk.
-/
import Derived.Test.YtghemlokpfipoaaYMG6
import Derived.Test.YtghemlokpfipoaaYMG2
import Derived.Test.YtghemlokpfipoaaYPV
import Derived.Deep.RegionHeld3
namespace Go.Proofs.Ytghemlokpfipoaa
set_option linter.unusedVariables false
set_option linter.unusedSimpArgs false

def Vl.step : Vl → Int | .mk _ _ s _ _ _ _ => s
/-- The error of a number and a list or stream, if there is one. -/
def seqErr (d d' : Vl) : Option Int := match firstE [d, d'] with | some m => some m | none => if d.kind = 1 ∧ (d'.kind = 3 ∨ d'.kind = 4) then none else some 4
def nthN (d d' : Vl) : Vl := if d.n < 0 then errD 5 else if d'.kind = 3 then (if h : d.n.toNat < d'.list.length then d'.list[d.n.toNat] else errD 5) else chkD (d'.n + d.n * d'.step)
def nthD (d d' : Vl) : Vl := match seqErr d d' with | some m => errD m | none => nthN d d'
/-- A stream from a number on; an error stays. -/
def strD (x : Vl) (s : Int) : Vl := if x.kind = 6 then x else leafD 4 x.n s ⟨#[]⟩
def skipN (d d' : Vl) : Vl := if d.n < 0 then errD 5 else if d'.kind = 3 then listD (d'.list.drop d.n.toNat) else strD (nthD d d') d'.step
def skipD (d d' : Vl) : Vl := match seqErr d d' with | some m => errD m | none => skipN d d'

theorem seqErr_range {d d' : Vl} {m : Int} (h : seqErr d d' = some m) : 1 ≤ m ∧ m ≤ 8 := by
  unfold seqErr at h
  cases hf : firstE [d, d'] with
  | some n => rw [hf] at h; cases h; exact first_range hf
  | none =>
    rw [hf] at h
    simp only at h
    split at h
    · cases h
    · cases h; omega
theorem seqErr_none {d d' : Vl} (h : seqErr d d' = none) : errOf d = none ∧ errOf d' = none ∧ d.kind = 1 ∧ (d'.kind = 3 ∨ d'.kind = 4) := by
  unfold seqErr at h
  cases hf : firstE [d, d'] with
  | some n => rw [hf] at h; cases h
  | none =>
    rw [hf] at h
    simp only at h
    split at h
    · rename_i hh
      obtain ⟨h1, h2⟩ := first_two_none hf
      exact ⟨h1, h2, hh⟩
    · cases h
theorem stream_leaf {d : Vl} (hv : d.valid = true) (hk : d.kind = 4) : d = leafD 4 d.n d.step ⟨#[]⟩ ∧ numV d.n = true ∧ numV d.step = true := by
  obtain ⟨k, n, s, t, l, c, r, rfl⟩ := Vl.shape d
  simp only [Vl.kind] at hk
  subst hk
  rw [Vl.valid] at hv
  simp only [show ¬ (4 : Int) = 1 by decide, show ¬ (4 : Int) = 2 by decide, if_false, if_true, Bool.and_eq_true, decide_eq_true_eq] at hv
  obtain ⟨⟨h1, h2, h3⟩, h5, h6, h7⟩ := hv
  have e1 := List.eq_nil_of_length_eq_zero h1
  have e2 := List.eq_nil_of_length_eq_zero h2
  have e3 := List.eq_nil_of_length_eq_zero h3
  have e5 : t = ⟨#[]⟩ := toList_inj.1 (h5.trans empty_list.symm)
  subst e1 e2 e3 e5
  exact ⟨rfl, h6, h7⟩
theorem valid_stream {n s : Int} (h1 : numV n = true) (h2 : numV s = true) : (leafD 4 n s ⟨#[]⟩).valid = true := by
  unfold leafD
  rw [Vl.valid]
  simp [empty_list, h1, h2]
theorem valid_number {n : Int} (h1 : numV n = true) : (leafD 1 n 0 ⟨#[]⟩).valid = true := by
  unfold leafD
  rw [Vl.valid]
  simp [empty_list, h1]
theorem errOf_ok {d : Vl} (hv : d.valid = true) (hk : d.kind ≠ 6) : errOf d = none := by unfold errOf; rw [if_pos hv, if_neg hk]
theorem seq_num {n : Int} {d' : Vl} (hn : numV n = true) (hv : d'.valid = true) (hk : d'.kind = 4) : seqErr (leafD 1 n 0 ⟨#[]⟩) d' = none := by
  unfold seqErr
  rw [first_two, errOf_ok (valid_number hn) (show ¬ (1 : Int) = 6 by decide), errOf_ok hv (by rw [hk]; decide)]
  simp only
  rw [if_pos ⟨rfl, .inr hk⟩]
/-- Where a skip of a stream is a stream: its parts. -/
theorem skip_parts {d d' : Vl} (hk : d'.kind = 4) (h : (skipD d d').kind = 4) : 0 ≤ d.n ∧ numV d.n = true ∧ numV d'.n = true ∧ numV d'.step = true ∧ numV (d'.n + d.n * d'.step) = true ∧ d'.valid = true ∧ skipD d d' = leafD 4 (d'.n + d.n * d'.step) d'.step ⟨#[]⟩ := by
  unfold skipD at *
  cases hs : seqErr d d' with
  | some m => rw [hs] at h; exact absurd (show (6 : Int) = 4 from h) (by decide)
  | none =>
    rw [hs] at h
    simp only at h ⊢
    obtain ⟨e1, e2, k1, _⟩ := seqErr_none hs
    have hv := (errOf_none e1).1
    have hv' := (errOf_none e2).1
    have hnum := valid_num hv k1
    obtain ⟨_, s1, s2⟩ := stream_leaf hv' hk
    unfold skipN at *
    by_cases hneg : d.n < 0
    · rw [if_pos hneg] at h; exact absurd (show (6 : Int) = 4 from h) (by decide)
    · rw [if_neg hneg, if_neg (by rw [hk]; decide)] at h ⊢
      have hnth : nthD d d' = chkD (d'.n + d.n * d'.step) := by
        unfold nthD
        rw [hs]
        unfold nthN
        simp only
        rw [if_neg hneg, if_neg (by rw [hk]; decide)]
      rw [hnth] at h ⊢
      unfold strD chkD at h ⊢
      cases hc : numV (d'.n + d.n * d'.step) with
      | true =>
        rw [hc] at h
        refine ⟨by omega, numV_iff.2 hnum, s1, s2, rfl, hv', ?_⟩
        simp only [if_true]
        rw [show (leafD 1 (d'.n + d.n * d'.step) 0 ⟨#[]⟩).kind = 1 from rfl, if_neg (show ¬ (1 : Int) = 6 by decide)]
        rfl
      | false =>
        rw [hc] at h
        simp only [Bool.false_eq_true, if_false] at h
        rw [show (leafD 6 5 0 ⟨#[]⟩).kind = 6 from rfl, if_pos (show (6 : Int) = 6 from rfl)] at h
        exact absurd (show (6 : Int) = 4 from h) (by decide)
/-- The elements behind a skip. -/
theorem skip_nth {d d' : Vl} (hk : d'.kind = 4) (h : (skipD d d').kind = 4) {i : Int} (h0 : 0 ≤ i) (hi : i ≤ 3) (hn : d.n + i ≤ 1000000000) : nthD (leafD 1 i 0 ⟨#[]⟩) (skipD d d') = nthD (leafD 1 (d.n + i) 0 ⟨#[]⟩) d' := by
  obtain ⟨g0, g1, g2, g3, g4, g5, g6⟩ := skip_parts hk h
  rw [g6]
  have hq := numV_iff.1 g1
  unfold nthD
  rw [seq_num (numV_iff.2 ⟨by omega, by omega⟩) (valid_stream g4 g3) rfl, seq_num (numV_iff.2 ⟨by omega, by omega⟩) g5 hk]
  unfold nthN
  simp only
  have e1 : (leafD 1 i 0 ⟨#[]⟩).n = i := rfl
  have e2 : (leafD 1 (d.n + i) 0 ⟨#[]⟩).n = d.n + i := rfl
  have e3 : (leafD 4 (d'.n + d.n * d'.step) d'.step ⟨#[]⟩).n = d'.n + d.n * d'.step := rfl
  have e4 : (leafD 4 (d'.n + d.n * d'.step) d'.step ⟨#[]⟩).step = d'.step := rfl
  have e5 : (leafD 4 (d'.n + d.n * d'.step) d'.step ⟨#[]⟩).kind = 4 := rfl
  rw [e1, e2, e3, e4, e5, hk, if_neg (by omega), if_neg (by decide), if_neg (by omega), if_neg (by decide), Int.add_mul, Int.add_assoc]
end Go.Proofs.Ytghemlokpfipoaa
namespace Go.Proofs.Ytghemlokpfipoaa
open Go.ChangeShapes Go.WideShapes Go.ChangeAt Go.RowKit
set_option linter.unusedVariables false
set_option linter.unusedSimpArgs false
set_option maxRecDepth 100000

theorem seq_some {d d' : Vl} {m : Int} (h : firstE [d, d'] = some m) : seqErr d d' = some m := by unfold seqErr; rw [h]
theorem seq_kinds {d d' : Vl} (h : firstE [d, d'] = none) : seqErr d d' = if d.kind = 1 ∧ (d'.kind = 3 ∨ d'.kind = 4) then none else some 4 := by unfold seqErr; rw [h]
theorem errOut_some {W : World} {E : Option Int} {m : Int} {z0 z1 z2 : Int} {z3 : ByteArray} {E1 E2 E3 : Option Addr} {u1 m1 u2 m2 u3 m3 : Nat} (hE : E = some m) (hb : Between64 m)
    (ha : ∀ w, Later W w → Ats w anyB (encV (leafD 6 m 0 ⟨#[]⟩)) [.int .i64 z0, .int .i64 z1, .int .i64 z2, .string z3, .slice E1 u1 m1, .slice E2 u2 m2, .slice E3 u3 m3]) :
    ErrOut W E (.returned (.tuple #[.agg #[.int .i64 z0, .int .i64 z1, .int .i64 z2, .string z3, .slice E1 u1 m1, .slice E2 u2 m2, .slice E3 u3 m3], .bool true])) := by
  subst hE
  exact ⟨_, _, _, _, _, _, _, _, _, _, _, _, _, rfl, fun n e => by cases e; exact ⟨hb, ha⟩⟩
theorem errOut_none {W : World} {E : Option Int} {z0 z1 z2 : Int} {z3 : ByteArray} {E1 E2 E3 : Option Addr} {u1 m1 u2 m2 u3 m3 : Nat} (hE : E = none) :
    ErrOut W E (.returned (.tuple #[.agg #[.int .i64 z0, .int .i64 z1, .int .i64 z2, .string z3, .slice E1 u1 m1, .slice E2 u2 m2, .slice E3 u3 m3], .bool false])) := by
  subst hE
  exact ⟨_, _, _, _, _, _, _, _, _, _, _, _, _, rfl, fun n e => by cases e⟩

set_option maxHeartbeats 16000000 in
theorem specSeq (d d' : Vl) (hM : d.cost ≤ 1099511627776) (hM' : d'.cost ≤ 1099511627776) (W : World) (S S' : Nat → Prop) (cs cs' : List Value) (h : Ats W S (encV d) cs) (h' : Ats W S' (encV d') cs') :
    Calls Try.prog 80 #[.agg cs.toArray, .agg cs'.toArray] W fun r w' => ErrOut W (seqErr d d') r ∧ Later W w' := by
  have C := fun w g (hB : Box w g (cs ++ cs')) (hl : Later W w) => specErr2 d d' hM hM' W S S' cs cs' h h' w g hB hl
  obtain ⟨k, n, s, t, l, cl, r, hd⟩ := Vl.shape d
  obtain ⟨k', n', s', t', l', cl', r', hd'⟩ := Vl.shape d'
  have HP : Hid (d.kind = k ∧ d'.kind = k') := by subst hd hd'; exact ⟨rfl, rfl⟩
  rw [hd] at h
  rw [hd'] at h'
  obtain ⟨A1, c1, A2, c2, A3, c3, rfl, _⟩ := h.val
  obtain ⟨B1, d1, B2, d2, B3, d3, rfl, _⟩ := h'.val
  clear hd hd' hM hM' h h'
  have HC := Lib.hid C
  have BX := box_alloc (((W.alloc (.cells #[.int .i64 k, .int .i64 n, .int .i64 s, .string t, .slice A1 l.length c1, .slice A2 cl.length c2, .slice A3 r.length c3] 28)).alloc (.cells #[.int .i64 k', .int .i64 n', .int .i64 s', .string t', .slice B1 l'.length d1, .slice B2 cl'.length d2, .slice B3 r'.length d3] 28)).alloc (.cells #[.int .i64 0, .int .i64 0, .int .i64 0, .string ⟨#[]⟩, .slice none 0 0, .slice none 0 0, .slice none 0 0] 28)) #[.int .i64 k, .int .i64 n, .int .i64 s, .string t, .slice A1 l.length c1, .slice A2 cl.length c2, .slice A3 r.length c3, .int .i64 k', .int .i64 n', .int .i64 s', .string t', .slice B1 l'.length d1, .slice B2 cl'.length d2, .slice B3 r'.length d3] 28
  rw [World.size_alloc, World.size_alloc, World.size_alloc] at BX
  have hR := (box_alloc ((W.alloc (.cells #[.int .i64 k, .int .i64 n, .int .i64 s, .string t, .slice A1 l.length c1, .slice A2 cl.length c2, .slice A3 r.length c3] 28)).alloc (.cells #[.int .i64 k', .int .i64 n', .int .i64 s', .string t', .slice B1 l'.length d1, .slice B2 cl'.length d2, .slice B3 r'.length d3] 28)) #[.int .i64 0, .int .i64 0, .int .i64 0, .string ⟨#[]⟩, .slice none 0 0, .slice none 0 0, .slice none 0 0] 28).later ((Later.rfl' _).alloc (.cells #[.int .i64 k, .int .i64 n, .int .i64 s, .string t, .slice A1 l.length c1, .slice A2 cl.length c2, .slice A3 r.length c3, .int .i64 k', .int .i64 n', .int .i64 s', .string t', .slice B1 l'.length d1, .slice B2 cl'.length d2, .slice B3 r'.length d3] 28))
  rw [World.size_alloc, World.size_alloc] at hR
  have hB1 : Box ((((W.alloc (.cells #[.int .i64 k, .int .i64 n, .int .i64 s, .string t, .slice A1 l.length c1, .slice A2 cl.length c2, .slice A3 r.length c3] 28)).alloc (.cells #[.int .i64 k', .int .i64 n', .int .i64 s', .string t', .slice B1 l'.length d1, .slice B2 cl'.length d2, .slice B3 r'.length d3] 28)).alloc (.cells #[.int .i64 0, .int .i64 0, .int .i64 0, .string ⟨#[]⟩, .slice none 0 0, .slice none 0 0, .slice none 0 0] 28)).alloc (.cells #[.int .i64 k, .int .i64 n, .int .i64 s, .string t, .slice A1 l.length c1, .slice A2 cl.length c2, .slice A3 r.length c3, .int .i64 k', .int .i64 n', .int .i64 s', .string t', .slice B1 l'.length d1, .slice B2 cl'.length d2, .slice B3 r'.length d3] 28)) W.heap.size [.int .i64 k, .int .i64 n, .int .i64 s, .string t, .slice A1 l.length c1, .slice A2 cl.length c2, .slice A3 r.length c3] := (box_alloc W #[.int .i64 k, .int .i64 n, .int .i64 s, .string t, .slice A1 l.length c1, .slice A2 cl.length c2, .slice A3 r.length c3] 28).later ((((Later.rfl' _).alloc _).alloc _).alloc _)
  have hB2 : Box ((((W.alloc (.cells #[.int .i64 k, .int .i64 n, .int .i64 s, .string t, .slice A1 l.length c1, .slice A2 cl.length c2, .slice A3 r.length c3] 28)).alloc (.cells #[.int .i64 k', .int .i64 n', .int .i64 s', .string t', .slice B1 l'.length d1, .slice B2 cl'.length d2, .slice B3 r'.length d3] 28)).alloc (.cells #[.int .i64 0, .int .i64 0, .int .i64 0, .string ⟨#[]⟩, .slice none 0 0, .slice none 0 0, .slice none 0 0] 28)).alloc (.cells #[.int .i64 k, .int .i64 n, .int .i64 s, .string t, .slice A1 l.length c1, .slice A2 cl.length c2, .slice A3 r.length c3, .int .i64 k', .int .i64 n', .int .i64 s', .string t', .slice B1 l'.length d1, .slice B2 cl'.length d2, .slice B3 r'.length d3] 28)) (W.heap.size + 1) [.int .i64 k', .int .i64 n', .int .i64 s', .string t', .slice B1 l'.length d1, .slice B2 cl'.length d2, .slice B3 r'.length d3] := by
    have h := box_alloc (W.alloc (.cells #[.int .i64 k, .int .i64 n, .int .i64 s, .string t, .slice A1 l.length c1, .slice A2 cl.length c2, .slice A3 r.length c3] 28)) #[.int .i64 k', .int .i64 n', .int .i64 s', .string t', .slice B1 l'.length d1, .slice B2 cl'.length d2, .slice B3 r'.length d3] 28
    rw [World.size_alloc] at h
    exact h.later (((Later.rfl' _).alloc _).alloc _)
  have HBX := Lib.hid BX; have HR0 := Lib.hid hR; have HB1 := Lib.hid hB1; have HB2 := Lib.hid hB2
  clear C BX hR hB1 hB2
  go_enter Try.func80, Try.ntmps80
  go_wp2_with fail
  refine (HC.out _ _ HBX.out (((((Later.rfl' _).alloc _).alloc _).alloc _).alloc _)).mono ?_; rintro e w1 ⟨⟨x0, x1, x2, x3, E1, x4, x7, E2, x5, x8, E3, x6, x9, rfl, hEr⟩, hb1⟩
  have hl1 := hb1.alloc (.cells #[.int .i64 x0, .int .i64 x1, .int .i64 x2, .string x3, .slice E1 x4 x7, .slice E2 x5 x8, .slice E3 x6 x9] 28)
  have HR := Lib.hid (HR0.out.later hl1); have HL := Lib.hid ((((((Later.rfl' W).alloc _).alloc _).alloc _).alloc _).trans hl1)
  have HV1 := Lib.hid (HB1.out.later hl1); have HV2 := Lib.hid (HB2.out.later hl1)
  clear hb1 hl1 HBX HC HR0 HB1 HB2
  cases hE : firstE [d, d'] with
  | some m =>
    rw [hE] at hEr
    have HEr := Lib.hid (hEr m rfl)
    have HSM := Lib.hid (seq_some hE)
    have hR9 := HR.out
    obtain ⟨r0, r1, r2, r3, r4, r5, r6, f0, f1, f2, f3, f4, f5, f6⟩ := box_seven hR9
    have rz := hR9.lt
    clear hR9 HR hEr hE HV1 HV2
    simp only [Option.isSome_some]
    go_wp2_with fail
    exact bodyPost_ret (v := .tuple #[.agg #[.int .i64 x0, .int .i64 x1, .int .i64 x2, .string x3, .slice E1 x4 x7, .slice E2 x5 x8, .slice E3 x6 x9], .bool true]) (by simp [results, Try.results80, go_sem, r0, r1, r2, r3, r4, r5, r6]) rfl ⟨errOut_some HSM.out HEr.out.1 HEr.out.2, later_setFrom (by omega) [.int .i64 x0, .int .i64 x1, .int .i64 x2, .string x3, .slice E1 x4 x7, .slice E2 x5 x8, .slice E3 x6 x9] _ 0 HL.out⟩
  | none =>
    have HSK := Lib.hid (seq_kinds hE)
    obtain ⟨a0, a1, a2, a3, a4, a5, a6⟩ := Held7.of HV1.out
    obtain ⟨b0, b1, b2, b3, b4, b5, b6⟩ := Held7.of HV2.out
    have hrw := HR.out.lt
    clear HV1 HV2 hEr hE
    simp only [Option.isSome_none]
    by_cases k1 : k = 1
    · subst k1
      by_cases k3 : k' = 3
      · subst k3
        have HYES : Hid (d.kind = 1 ∧ (d'.kind = 3 ∨ d'.kind = 4)) := ⟨HP.out.1, .inl HP.out.2⟩
        have HS4 : Hid (seqErr d d' = none) := by
          unfold Hid
          rw [HSK.out, if_pos HYES.out]
        have hR9 := HR.out
        obtain ⟨r0, r1, r2, r3, r4, r5, r6, f0, f1, f2, f3, f4, f5, f6⟩ := box_seven hR9
        have rz := hR9.lt
        clear hR9 HR
        go_wp2_with fail
        exact bodyPost_ret (v := .tuple #[leafA 0 0 0 ⟨#[]⟩, .bool false]) (by simp [results, Try.results80, go_sem, leafA, r0, r1, r2, r3, r4, r5, r6]) rfl ⟨errOut_none HS4.out, later_setFrom (by omega) [.int .i64 0, .int .i64 0, .int .i64 0, .string ⟨#[]⟩, .slice none 0 0, .slice none 0 0, .slice none 0 0] _ 0 HL.out⟩
      · by_cases k4 : k' = 4
        · subst k4
          have HYES : Hid (d.kind = 1 ∧ (d'.kind = 3 ∨ d'.kind = 4)) := ⟨HP.out.1, .inr HP.out.2⟩
          clear k3
          have HS4 : Hid (seqErr d d' = none) := by
            unfold Hid
            rw [HSK.out, if_pos HYES.out]
          have hR9 := HR.out
          obtain ⟨r0, r1, r2, r3, r4, r5, r6, f0, f1, f2, f3, f4, f5, f6⟩ := box_seven hR9
          have rz := hR9.lt
          clear hR9 HR
          go_wp2_with fail
          exact bodyPost_ret (v := .tuple #[leafA 0 0 0 ⟨#[]⟩, .bool false]) (by simp [results, Try.results80, go_sem, leafA, r0, r1, r2, r3, r4, r5, r6]) rfl ⟨errOut_none HS4.out, later_setFrom (by omega) [.int .i64 0, .int .i64 0, .int .i64 0, .string ⟨#[]⟩, .slice none 0 0, .slice none 0 0, .slice none 0 0] _ 0 HL.out⟩
        · have e3 : (k' != 3) = true := by simpa using k3
          have e4 : (k' != 4) = true := by simpa using k4
          have HNO : Hid (¬ (d.kind = 1 ∧ (d'.kind = 3 ∨ d'.kind = 4))) := fun h => by rcases h.2 with h | h <;> rw [HP.out.2] at h <;> contradiction
          clear k3 k4
          have HS4 : Hid (seqErr d d' = some 4) := by
            unfold Hid
            rw [HSK.out, if_neg HNO.out]
          go_wp2_with fail
          refine (specErr 4 (by omega) _).mono ?_; rintro e w9 ⟨⟨k9, n9, s9, t9, rfl, hK9, h91, h92, h93, h94⟩, hb9⟩
          unfold leafA
          have R9 := HR.out.later hb9
          have L9 := Lib.hid (HL.out.trans hb9)
          have HF9 := Lib.hid (fun w => (leafB_of (lo := 0) (w := w) hK9 h91 h92 h93 h94))
          obtain ⟨r0, r1, r2, r3, r4, r5, r6, f0, f1, f2, f3, f4, f5, f6⟩ := box_seven R9
          have rz := R9.lt
          have hA9 : ∀ w, Later W w → Ats w anyB (encV (leafD 6 4 0 ⟨#[]⟩)) [.int .i64 k9, .int .i64 n9, .int .i64 s9, .string t9, .slice none 0 0, .slice none 0 0, .slice none 0 0] := fun w hw => by rw [show leafD 6 4 0 ⟨#[]⟩ = leafD k9 n9 s9 t9 from hK9]; exact (owns_leafV w anyB h91 h92 h93 h94).ats
          have HA9 := Lib.hid hA9
          clear R9 hb9 hK9 h91 h92 h93 h94 HR HL hA9
          go_wp2_with fail
          exact bodyPost_ret (v := .tuple #[leafA k9 n9 s9 t9, .bool true]) (by simp [results, Try.results80, go_sem, leafA, r0, r1, r2, r3, r4, r5, r6]) rfl ⟨errOut_some HS4.out (by unfold Between64; omega) HA9.out, later_setFrom (by omega) [.int .i64 k9, .int .i64 n9, .int .i64 s9, .string t9, .slice none 0 0, .slice none 0 0, .slice none 0 0] _ 0 L9.out⟩
    · have e1 : (k != 1) = true := by simpa using k1
      have HNO : Hid (¬ (d.kind = 1 ∧ (d'.kind = 3 ∨ d'.kind = 4))) := fun h => k1 (by rw [← HP.out.1]; exact h.1)
      clear k1
      have HS4 : Hid (seqErr d d' = some 4) := by
        unfold Hid
        rw [HSK.out, if_neg HNO.out]
      go_wp2_with fail
      refine (specErr 4 (by omega) _).mono ?_; rintro e w9 ⟨⟨k9, n9, s9, t9, rfl, hK9, h91, h92, h93, h94⟩, hb9⟩
      unfold leafA
      have R9 := HR.out.later hb9
      have L9 := Lib.hid (HL.out.trans hb9)
      have HF9 := Lib.hid (fun w => (leafB_of (lo := 0) (w := w) hK9 h91 h92 h93 h94))
      obtain ⟨r0, r1, r2, r3, r4, r5, r6, f0, f1, f2, f3, f4, f5, f6⟩ := box_seven R9
      have rz := R9.lt
      have hA9 : ∀ w, Later W w → Ats w anyB (encV (leafD 6 4 0 ⟨#[]⟩)) [.int .i64 k9, .int .i64 n9, .int .i64 s9, .string t9, .slice none 0 0, .slice none 0 0, .slice none 0 0] := fun w hw => by rw [show leafD 6 4 0 ⟨#[]⟩ = leafD k9 n9 s9 t9 from hK9]; exact (owns_leafV w anyB h91 h92 h93 h94).ats
      have HA9 := Lib.hid hA9
      clear R9 hb9 hK9 h91 h92 h93 h94 HR HL hA9
      go_wp2_with fail
      exact bodyPost_ret (v := .tuple #[leafA k9 n9 s9 t9, .bool true]) (by simp [results, Try.results80, go_sem, leafA, r0, r1, r2, r3, r4, r5, r6]) rfl ⟨errOut_some HS4.out (by unfold Between64; omega) HA9.out, later_setFrom (by omega) [.int .i64 k9, .int .i64 n9, .int .i64 s9, .string t9, .slice none 0 0, .slice none 0 0, .slice none 0 0] _ 0 L9.out⟩

end Go.Proofs.Ytghemlokpfipoaa
