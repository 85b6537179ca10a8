/-
  What the makers of leaves answer, in one form; a list out of two. l5Less, l5Add: the walks. l5Add: the walk. ApplyOperator of the program: words for its walk.
-/
import Derived.Test.YtghemlokpfipoaaYMG6
import Derived.Test.YtghemlokpfipoaaYMG1
import Derived.Deep.RegionHeld3
import Derived.Test.YtghemlokpfipoaaYMG7
import Derived.Test.YtghemlokpfipoaaYPV
namespace Go.Proofs.Ytghemlokpfipoaa
open Go.ChangeShapes Go.WideShapes Go.ChangeAt Go.RowKit
set_option linter.unusedVariables false
set_option linter.unusedSimpArgs false
set_option maxRecDepth 100000

/-- A leaf's value. -/
def LeafR (K : Vl) (r : Ending) : Prop := ∃ k n s t, r = .returned (leafA k n s t) ∧ K = leafD k n s t ∧ Between64 k ∧ Between64 n ∧ Between64 s ∧ t.size ≤ 9223372036854775807
theorem chk_k (n : Int) : Between64 (if numV n = true then 1 else 6) := by unfold Between64; split <;> omega
theorem chk_n (n : Int) : Between64 (if numV n = true then n else 5) := by
  unfold Between64
  split
  · rename_i h
    have := numV_iff.1 h
    omega
  · omega
theorem mul_bounds {a b : Int} (h1 : -1000000000 ≤ a ∧ a ≤ 1000000000) (h2 : -1000000000 ≤ b ∧ b ≤ 1000000000) : -1000000000000000000 ≤ a * b ∧ a * b ≤ 1000000000000000000 := by
  have ha : a.natAbs ≤ 1000000000 := by omega
  have hb : b.natAbs ≤ 1000000000 := by omega
  have h := Nat.mul_le_mul ha hb
  rw [← Int.natAbs_mul] at h
  omega
theorem leafOut_of {W : World} {K : Vl} {k n s : Int} {t : ByteArray} (hK : K = leafD k n s t) (h1 : Between64 k) (h2 : Between64 n) (h3 : Between64 s) (h4 : t.size ≤ 9223372036854775807) : LeafOut W K (.returned (leafA k n s t)) := leaf_out W hK h1 h2 h3 h4
theorem leaf_later {W W' : World} {K : Vl} {r : Ending} (h : LeafOut W K r) (hb : Later W W') : LeafOut W' K r := by
  obtain ⟨z0, z1, z2, z3, E1, u1, m1, E2, u2, m2, E3, u3, m3, hr, ha⟩ := h
  exact ⟨_, _, _, _, _, _, _, _, _, _, _, _, _, hr, fun w hw => ha w (hb.trans hw)⟩
/-- A value that lies in blocks from lo on. -/
def LeafB (lo : Nat) (w : World) (K : Vl) (r : Ending) : Prop := ∃ z0 z1 z2 z3 E1 u1 m1 E2 u2 m2 E3 u3 m3, r = .returned (.agg #[.int .i64 z0, .int .i64 z1, .int .i64 z2, .string z3, .slice E1 u1 m1, .slice E2 u2 m2, .slice E3 u3 m3]) ∧
  Ats w (fun b => lo ≤ b) (encV K) [.int .i64 z0, .int .i64 z1, .int .i64 z2, .string z3, .slice E1 u1 m1, .slice E2 u2 m2, .slice E3 u3 m3]
theorem leafB_of {lo : Nat} {w : World} {K : Vl} {k n s : Int} {t : ByteArray} (hK : K = leafD k n s t) (h1 : Between64 k) (h2 : Between64 n) (h3 : Between64 s) (h4 : t.size ≤ 9223372036854775807) : LeafB lo w K (.returned (leafA k n s t)) :=
  ⟨_, _, _, _, _, _, _, _, _, _, _, _, _, rfl, hK ▸ (owns_leafV w _ h1 h2 h3 h4).ats⟩
theorem LeafB.out {lo : Nat} {w : World} {K : Vl} {r : Ending} (h : LeafB lo w K r) : LeafOut w K r := by
  obtain ⟨z0, z1, z2, z3, E1, u1, m1, E2, u2, m2, E3, u3, m3, hr, ha⟩ := h
  exact ⟨_, _, _, _, _, _, _, _, _, _, _, _, _, hr, fun w hw => (ha.later hw).any⟩

theorem specChk (n : Int) (W : World) : Calls Try.prog 76 #[.int .i64 n] W fun r w' => LeafR (chkD n) r ∧ Later W w' :=
  (specChecked n W).mono fun r w' h => ⟨⟨_, _, _, _, h.1, rfl, chk_k n, chk_n n, by unfold Between64; omega, by decide⟩, h.2⟩
theorem specTru (b : Bool) (W : World) : Calls Try.prog 93 #[.bool b] W fun r w' => LeafR (truthD b) r ∧ Later W w' :=
  (specTruthValue b W).mono fun r w' h => ⟨⟨_, _, _, _, h.1, rfl, by unfold Between64; omega, by cases b <;> (unfold Between64; decide), by unfold Between64; omega, by decide⟩, h.2⟩
theorem specErr (m : Int) (hm : 1 ≤ m ∧ m ≤ 8) (W : World) : Calls Try.prog 75 #[.int .i64 m] W fun r w' => LeafR (errD m) r ∧ Later W w' :=
  (specErrorValue m W).mono fun r w' h => ⟨⟨_, _, _, _, h.1, rfl, by unfold Between64; omega, by unfold Between64; omega, by unfold Between64; omega, by decide⟩, h.2⟩
theorem specTxt (t : ByteArray) (ht : t.size ≤ 9223372036854775807) (W : World) : Calls Try.prog 138 #[.string t] W fun r w' => LeafR (leafD 2 0 0 t) r ∧ Later W w' :=
  (specTextValue t W).mono fun r w' h => ⟨⟨_, _, _, _, h.1, rfl, by unfold Between64; omega, by unfold Between64; omega, by unfold Between64; omega, ht⟩, h.2⟩


theorem implChk (n : Int) (W : World) : Calls Try.prog 85 #[.int .i64 n] W fun r w' => LeafR (chkD n) r ∧ Later W w' :=
  (implChecked n W).mono fun r w' h => ⟨⟨_, _, _, _, h.1, rfl, chk_k n, chk_n n, by unfold Between64; omega, by decide⟩, h.2⟩
theorem implTru (b : Bool) (W : World) : Calls Try.prog 90 #[.bool b] W fun r w' => LeafR (truthD b) r ∧ Later W w' :=
  (implTruthValue b W).mono fun r w' h => ⟨⟨_, _, _, _, h.1, rfl, by unfold Between64; omega, by cases b <;> (unfold Between64; decide), by unfold Between64; omega, by decide⟩, h.2⟩
theorem implErr (m : Int) (hm : 1 ≤ m ∧ m ≤ 8) (W : World) : Calls Try.prog 32 #[.int .i64 m] W fun r w' => LeafR (errD m) r ∧ Later W w' :=
  (implErrorValue m W).mono fun r w' h => ⟨⟨_, _, _, _, h.1, rfl, by unfold Between64; omega, by unfold Between64; omega, by unfold Between64; omega, by decide⟩, h.2⟩
theorem implTxt (t : ByteArray) (ht : t.size ≤ 9223372036854775807) (W : World) : Calls Try.prog 88 #[.string t] W fun r w' => LeafR (leafD 2 0 0 t) r ∧ Later W w' :=
  (implTextValue t W).mono fun r w' h => ⟨⟨_, _, _, _, h.1, rfl, by unfold Between64; omega, by unfold Between64; omega, by unfold Between64; omega, ht⟩, h.2⟩

end Go.Proofs.Ytghemlokpfipoaa
namespace Go.Proofs.Ytghemlokpfipoaa
open Go.ChangeShapes Go.WideShapes Go.ChangeAt Go.RowKit
set_option linter.unusedVariables false
set_option linter.unusedSimpArgs false
set_option maxRecDepth 100000

theorem applyN_kinds {d d' : Vl} {k n s k' n' s' : Int} {t t' : ByteArray} {l l' : List Vl} {cl cl' : List ByteArray} {r r' : List Rw} (hd : d = .mk k n s t l cl r) (hd' : d' = .mk k' n' s' t' l' cl' r') : d.kind = k ∧ d'.kind = k' ∧ d.n = n ∧ d'.n = n' ∧ d.text = t ∧ d'.text = t' ∧ d.list = l ∧ d'.list = l' := by
  subst hd hd'
  exact ⟨rfl, rfl, rfl, rfl, rfl, rfl, rfl, rfl⟩

set_option maxHeartbeats 8000000 in
theorem specLess (d d' : Vl) (hv : d.valid = true) (hv' : d'.valid = true) (W : World) (S S' : Nat → Prop) (cs cs' : List Value) (h : Ats W S (encV d) cs) (h' : Ats W S' (encV d') cs') : Calls Try.prog 92 #[.agg cs.toArray, .agg cs'.toArray] W fun r w' => LeafB W.heap.size w' (lessD d d') r ∧ Later W w' := by
  obtain ⟨k, n, s, t, l, cl, r, hd⟩ := Vl.shape d
  obtain ⟨k', n', s', t', l', cl', r', hd'⟩ := Vl.shape d'
  have HP := Lib.hid (applyN_kinds hd hd')
  rw [hd] at h
  rw [hd'] at h'
  clear hd hd'
  obtain ⟨A1, c1, A2, c2, A3, c3, rfl, hbb, ⟨p1, q1⟩, _, _, g1, _, _⟩ := h.val
  obtain ⟨B1, d1, B2, d2, B3, d3, rfl, hbb', ⟨p1', q1'⟩, _, _, g1', _, _⟩ := h'.val
  have hX : Later W (((W.alloc (.cells #[.int .i64 k, .int .i64 n, .int .i64 s, .string t, .slice A1 l.length c1, .slice A2 cl.length c2, .slice A3 r.length c3] 28)).alloc (.cells #[.int .i64 k', .int .i64 n', .int .i64 s', .string t', .slice B1 l'.length d1, .slice B2 cl'.length d2, .slice B3 r'.length d3] 28)).alloc (.cells #[.int .i64 0, .int .i64 0, .int .i64 0, .string ⟨#[]⟩, .slice none 0 0, .slice none 0 0, .slice none 0 0] 28)) := (((Later.rfl' _).alloc _).alloc _).alloc _
  have hR := box_alloc ((W.alloc (.cells #[.int .i64 k, .int .i64 n, .int .i64 s, .string t, .slice A1 l.length c1, .slice A2 cl.length c2, .slice A3 r.length c3] 28)).alloc (.cells #[.int .i64 k', .int .i64 n', .int .i64 s', .string t', .slice B1 l'.length d1, .slice B2 cl'.length d2, .slice B3 r'.length d3] 28)) #[.int .i64 0, .int .i64 0, .int .i64 0, .string ⟨#[]⟩, .slice none 0 0, .slice none 0 0, .slice none 0 0] 28
  rw [World.size_alloc, World.size_alloc] at hR
  have HR := Lib.hid hR; have HL := Lib.hid hX
  clear hR hX
  clear g1 g1' h h' hbb hbb' p1 q1 p1' q1' hv hv'
  by_cases k1 : k = 1
  · subst k1
    by_cases k1' : k' = 1
    · subst k1'
      go_enter Try.func92, Try.ntmps92
      have HK : Hid (lessD d d' = truthD (decide (n < n'))) := by
        obtain ⟨hk, hk', hn, hn', ht, ht', hl, hl'⟩ := HP.out
        unfold Hid
        unfold lessD; rw [if_pos ⟨hk, hk'⟩, hn, hn']
      go_wp2_with fail
      refine (specTru (decide (n < n')) _).mono ?_; rintro e w9 ⟨⟨k9, n9, s9, t9, rfl, hK9, h91, h92, h93, h94⟩, hb9⟩
      unfold leafA
      have R9 := HR.out.later hb9
      have L9 := Lib.hid (HL.out.trans hb9)
      have HF9 := Lib.hid (fun w => leafB_of (lo := W.heap.size) (w := w) (HK.out.trans hK9) h91 h92 h93 h94)
      obtain ⟨r0, r1, r2, r3, r4, r5, r6, f0, f1, f2, f3, f4, f5, f6⟩ := box_seven R9
      have rz := R9.lt
      clear R9 hb9 hK9 h91 h92 h93 h94 HR HL
      go_wp2_with fail
      exact bodyPost_ret (v := leafA k9 n9 s9 t9) (by simp [results, Try.results92, go_sem, leafA, r0, r1, r2, r3, r4, r5, r6]) rfl ⟨HF9.out _, later_setFrom (by omega) [.int .i64 k9, .int .i64 n9, .int .i64 s9, .string t9, .slice none 0 0, .slice none 0 0, .slice none 0 0] _ 0 L9.out⟩
    · have e1 : (k' == 1) = false := by simpa using k1'
      have HK1 := Lib.hid k1'
      clear k1'
      go_enter Try.func92, Try.ntmps92
      have HK : Hid (lessD d d' = errD 4) := by
        obtain ⟨hk, hk', hn, hn', ht, ht', hl, hl'⟩ := HP.out
        unfold Hid
        unfold lessD; rw [hk, hk', if_neg (fun h => HK1.out h.2), if_neg (fun h => absurd h.1 (by decide))]
      go_wp2_with fail
      refine (specErr 4 (by omega) _).mono ?_; rintro e w9 ⟨⟨k9, n9, s9, t9, rfl, hK9, h91, h92, h93, h94⟩, hb9⟩
      unfold leafA
      have R9 := HR.out.later hb9
      have L9 := Lib.hid (HL.out.trans hb9)
      have HF9 := Lib.hid (fun w => leafB_of (lo := W.heap.size) (w := w) (HK.out.trans hK9) h91 h92 h93 h94)
      obtain ⟨r0, r1, r2, r3, r4, r5, r6, f0, f1, f2, f3, f4, f5, f6⟩ := box_seven R9
      have rz := R9.lt
      clear R9 hb9 hK9 h91 h92 h93 h94 HR HL
      go_wp2_with fail
      exact bodyPost_ret (v := leafA k9 n9 s9 t9) (by simp [results, Try.results92, go_sem, leafA, r0, r1, r2, r3, r4, r5, r6]) rfl ⟨HF9.out _, later_setFrom (by omega) [.int .i64 k9, .int .i64 n9, .int .i64 s9, .string t9, .slice none 0 0, .slice none 0 0, .slice none 0 0] _ 0 L9.out⟩
  · have e1 : (k == 1) = false := by simpa using k1
    have HK1 := Lib.hid k1
    clear k1
    by_cases k2 : k = 2
    · subst k2
      by_cases k2' : k' = 2
      · subst k2'
        go_enter Try.func92, Try.ntmps92
        have HK : Hid (lessD d d' = truthD (textLt t t')) := by
          obtain ⟨hk, hk', hn, hn', ht, ht', hl, hl'⟩ := HP.out
          unfold Hid
          unfold lessD; rw [hk, hk', if_neg (fun h => HK1.out h.1), if_pos ⟨rfl, rfl⟩, ht, ht']
        go_wp2_with fail
        refine (specTru (textLt t t') _).mono ?_; rintro e w9 ⟨⟨k9, n9, s9, t9, rfl, hK9, h91, h92, h93, h94⟩, hb9⟩
        unfold leafA
        have R9 := HR.out.later hb9
        have L9 := Lib.hid (HL.out.trans hb9)
        have HF9 := Lib.hid (fun w => leafB_of (lo := W.heap.size) (w := w) (HK.out.trans hK9) h91 h92 h93 h94)
        obtain ⟨r0, r1, r2, r3, r4, r5, r6, f0, f1, f2, f3, f4, f5, f6⟩ := box_seven R9
        have rz := R9.lt
        clear R9 hb9 hK9 h91 h92 h93 h94 HR HL
        go_wp2_with fail
        exact bodyPost_ret (v := leafA k9 n9 s9 t9) (by simp [results, Try.results92, go_sem, leafA, r0, r1, r2, r3, r4, r5, r6]) rfl ⟨HF9.out _, later_setFrom (by omega) [.int .i64 k9, .int .i64 n9, .int .i64 s9, .string t9, .slice none 0 0, .slice none 0 0, .slice none 0 0] _ 0 L9.out⟩
      · have e2 : (k' == 2) = false := by simpa using k2'
        have HK2 := Lib.hid k2'
        clear k2'
        go_enter Try.func92, Try.ntmps92
        have HK : Hid (lessD d d' = errD 4) := by
          obtain ⟨hk, hk', hn, hn', ht, ht', hl, hl'⟩ := HP.out
          unfold Hid
          unfold lessD; rw [hk, hk', if_neg (fun h => HK1.out h.1), if_neg (fun h => HK2.out h.2)]
        go_wp2_with fail
        refine (specErr 4 (by omega) _).mono ?_; rintro e w9 ⟨⟨k9, n9, s9, t9, rfl, hK9, h91, h92, h93, h94⟩, hb9⟩
        unfold leafA
        have R9 := HR.out.later hb9
        have L9 := Lib.hid (HL.out.trans hb9)
        have HF9 := Lib.hid (fun w => leafB_of (lo := W.heap.size) (w := w) (HK.out.trans hK9) h91 h92 h93 h94)
        obtain ⟨r0, r1, r2, r3, r4, r5, r6, f0, f1, f2, f3, f4, f5, f6⟩ := box_seven R9
        have rz := R9.lt
        clear R9 hb9 hK9 h91 h92 h93 h94 HR HL
        go_wp2_with fail
        exact bodyPost_ret (v := leafA k9 n9 s9 t9) (by simp [results, Try.results92, go_sem, leafA, r0, r1, r2, r3, r4, r5, r6]) rfl ⟨HF9.out _, later_setFrom (by omega) [.int .i64 k9, .int .i64 n9, .int .i64 s9, .string t9, .slice none 0 0, .slice none 0 0, .slice none 0 0] _ 0 L9.out⟩
    · have e2 : (k == 2) = false := by simpa using k2
      have HK2 := Lib.hid k2
      clear k2
      go_enter Try.func92, Try.ntmps92
      have HK : Hid (lessD d d' = errD 4) := by
        obtain ⟨hk, hk', hn, hn', ht, ht', hl, hl'⟩ := HP.out
        unfold Hid
        unfold lessD; rw [hk, if_neg (fun h => HK1.out h.1), if_neg (fun h => HK2.out h.1)]
      go_wp2_with fail
      refine (specErr 4 (by omega) _).mono ?_; rintro e w9 ⟨⟨k9, n9, s9, t9, rfl, hK9, h91, h92, h93, h94⟩, hb9⟩
      unfold leafA
      have R9 := HR.out.later hb9
      have L9 := Lib.hid (HL.out.trans hb9)
      have HF9 := Lib.hid (fun w => leafB_of (lo := W.heap.size) (w := w) (HK.out.trans hK9) h91 h92 h93 h94)
      obtain ⟨r0, r1, r2, r3, r4, r5, r6, f0, f1, f2, f3, f4, f5, f6⟩ := box_seven R9
      have rz := R9.lt
      clear R9 hb9 hK9 h91 h92 h93 h94 HR HL
      go_wp2_with fail
      exact bodyPost_ret (v := leafA k9 n9 s9 t9) (by simp [results, Try.results92, go_sem, leafA, r0, r1, r2, r3, r4, r5, r6]) rfl ⟨HF9.out _, later_setFrom (by omega) [.int .i64 k9, .int .i64 n9, .int .i64 s9, .string t9, .slice none 0 0, .slice none 0 0, .slice none 0 0] _ 0 L9.out⟩

end Go.Proofs.Ytghemlokpfipoaa
namespace Go.Proofs.Ytghemlokpfipoaa
open Go.ChangeShapes Go.WideShapes Go.ChangeAt Go.RowKit
set_option linter.unusedVariables false
set_option linter.unusedSimpArgs false
set_option maxRecDepth 100000

theorem sumN_app2 {α : Type} (f : α → Nat) (l m : List α) : sumN f (l ++ m) = sumN f l + sumN f m := by unfold sumN; rw [List.map_append, List.sum_append]
theorem list_cost {d : Vl} {M : Nat} (h : d.cost ≤ M) : d.list.length + sumN Vl.cost d.list ≤ M := by
  obtain ⟨k, n, s, t, l, c, r, rfl⟩ := Vl.shape d
  rw [Vl.cost_mk] at h
  show l.length + sumN Vl.cost l ≤ M
  omega
theorem two_cost {d d' : Vl} {M : Nat} (h : d.cost ≤ M) (h' : d'.cost ≤ M) : (d.list ++ d'.list).length + sumN Vl.cost (d.list ++ d'.list) ≤ M + M := by
  have h1 := list_cost h
  have h2 := list_cost h'
  rw [List.length_append, sumN_app2]
  omega
/-- The two lists' places. -/
abbrev HoldC (w : World) (H H' : Nat) (c4 d4 : Value) : Prop := w.cell? ⟨H, 4, none⟩ = some c4 ∧ w.cell? ⟨H', 4, none⟩ = some d4
theorem HoldC.of {X w : World} {H H' : Nat} {c4 d4 : Value} (hl : Later X w) (h1 : X.cell? ⟨H, 4, none⟩ = some c4) (h2 : X.cell? ⟨H', 4, none⟩ = some d4) : HoldC w H H' c4 d4 := ⟨kept_cell hl h1, kept_cell hl h2⟩
theorem HoldC.set {w : World} {H H' : Nat} {c4 d4 : Value} (h : HoldC w H H' c4 d4) {g : Nat} (h1 : H ≠ g) (h2 : H' ≠ g) (a0 a1 a2 a3 a4 a5 a6 : Value) :
    HoldC (((((((w.setCell ⟨g, 0, none⟩ a0).setCell ⟨g, 1, none⟩ a1).setCell ⟨g, 2, none⟩ a2).setCell ⟨g, 3, none⟩ a3).setCell ⟨g, 4, none⟩ a4).setCell ⟨g, 5, none⟩ a5).setCell ⟨g, 6, none⟩ a6) H H' c4 d4 := by
  have hb := block_setFrom (g := g) (b := H) h1 [a0, a1, a2, a3, a4, a5, a6] w 0
  have hb' := block_setFrom (g := g) (b := H') h2 [a0, a1, a2, a3, a4, a5, a6] w 0
  rw [chain7] at hb hb'
  exact ⟨(World.cell?_of_block (a := ⟨H, 4, none⟩) hb).trans h.1, (World.cell?_of_block (a := ⟨H', 4, none⟩) hb').trans h.2⟩
theorem later_grown {X w w' : World} {b : Option Nat} (h : Later X w) (hg : w.grownBy w' b) (hb : ∀ g, b = some g → X.heap.size ≤ g) : Later X w' := Chg.later h (chg_grown hg) fun k hk => hb k hk.symm
theorem copy_out {W w' : World} {K : Vl} {r : Ending} (h : CopyV W w' K r) : LeafOut w' K r := by
  obtain ⟨k, n, s, t, A1, n1, c1, A2, n2, c2, A3, n3, c3, hr, ho⟩ := h
  exact ⟨_, _, _, _, _, _, _, _, _, _, _, _, _, hr, fun w hw => (ho.ats.later hw).any⟩

set_option maxHeartbeats 16000000 in
theorem specAdd (d d' : Vl) (hv : d.valid = true) (hv' : d'.valid = true) (hM : d.cost ≤ 130000) (hM' : d'.cost ≤ 130000) (W : World) (S S' : Nat → Prop) (cs cs' : List Value) (h : Ats W S (encV d) cs) (h' : Ats W S' (encV d') cs') : Calls Try.prog 91 #[.agg cs.toArray, .agg cs'.toArray] W fun r w' => LeafB W.heap.size w' (addD d d') r ∧ Later W w' := by
  obtain ⟨k, n, s, t, l, cl, r, hd⟩ := Vl.shape d
  obtain ⟨k', n', s', t', l', cl', r', hd'⟩ := Vl.shape d'
  have HP := Lib.hid (applyN_kinds hd hd')
  have hnum : k = 1 → -1000000000 ≤ n ∧ n ≤ 1000000000 := fun e => by have := valid_num hv (by rw [hd]; exact e); rw [hd] at this; exact this
  have hnum' : k' = 1 → -1000000000 ≤ n' ∧ n' ≤ 1000000000 := fun e => by have := valid_num hv' (by rw [hd']; exact e); rw [hd'] at this; exact this
  have htx : k = 2 → t.size ≤ 20 := fun e => by have := valid_kind2 hv (by rw [hd]; exact e); rw [hd] at this; unfold validText at this; simp at this; exact this.2
  have htx' : k' = 2 → t'.size ≤ 20 := fun e => by have := valid_kind2 hv' (by rw [hd']; exact e); rw [hd'] at this; unfold validText at this; simp at this; exact this.2
  have hls : k = 3 → l.length ≤ 8 := fun e => by have := (valid_kind3 hv (by rw [hd]; exact e)).2.1; rw [hd] at this; exact this
  have hls' : k' = 3 → l'.length ≤ 8 := fun e => by have := (valid_kind3 hv' (by rw [hd']; exact e)).2.1; rw [hd'] at this; exact this
  have hco : (l ++ l').length + sumN Vl.cost (l ++ l') ≤ 1048576 := by have := two_cost hM hM'; rw [hd, hd'] at this; exact Nat.le_trans this (by decide)
  rw [hd] at h
  rw [hd'] at h'
  clear hd hd' hv hv' hM hM'
  obtain ⟨A1, c1, A2, c2, A3, c3, rfl, hbb, ⟨p1, q1⟩, _, _, g1, _, _⟩ := h.val
  obtain ⟨B1, d1, B2, d2, B3, d3, rfl, hbb', ⟨p1', q1'⟩, _, _, g1', _, _⟩ := h'.val
  have hX : Later W (((W.alloc (.cells #[.int .i64 k, .int .i64 n, .int .i64 s, .string t, .slice A1 l.length c1, .slice A2 cl.length c2, .slice A3 r.length c3] 28)).alloc (.cells #[.int .i64 k', .int .i64 n', .int .i64 s', .string t', .slice B1 l'.length d1, .slice B2 cl'.length d2, .slice B3 r'.length d3] 28)).alloc (.cells #[.int .i64 0, .int .i64 0, .int .i64 0, .string ⟨#[]⟩, .slice none 0 0, .slice none 0 0, .slice none 0 0] 28)) := (((Later.rfl' _).alloc _).alloc _).alloc _
  have hR := box_alloc ((W.alloc (.cells #[.int .i64 k, .int .i64 n, .int .i64 s, .string t, .slice A1 l.length c1, .slice A2 cl.length c2, .slice A3 r.length c3] 28)).alloc (.cells #[.int .i64 k', .int .i64 n', .int .i64 s', .string t', .slice B1 l'.length d1, .slice B2 cl'.length d2, .slice B3 r'.length d3] 28)) #[.int .i64 0, .int .i64 0, .int .i64 0, .string ⟨#[]⟩, .slice none 0 0, .slice none 0 0, .slice none 0 0] 28
  rw [World.size_alloc, World.size_alloc] at hR
  have HR := Lib.hid hR; have HL := Lib.hid hX; have HNUM := Lib.hid hnum; have HNUM' := Lib.hid hnum'; have HTX := Lib.hid htx; have HTX' := Lib.hid htx'; have HLS := Lib.hid hls; have HLS' := Lib.hid hls'; have HCO := Lib.hid hco; have HG := Lib.hid g1; have HG' := Lib.hid g1'
  clear hR hX hnum hnum' htx htx' hls hls' hco g1 g1' h h' hbb hbb' p1 q1 p1' q1'
  by_cases k1 : k = 1
  · subst k1
    by_cases k1' : k' = 1
    · subst k1'
      obtain ⟨hb1, hb2⟩ := HNUM.out rfl
      obtain ⟨hb3, hb4⟩ := HNUM'.out rfl
      go_enter Try.func91, Try.ntmps91
      have HK : Hid (addD d d' = chkD (n + n')) := by
        obtain ⟨hk, hk', hn, hn', ht, ht', hl, hl'⟩ := HP.out
        unfold Hid addD
        rw [if_pos ⟨hk, hk'⟩, hn, hn']
      go_wp2_with fail
      refine (specChk (n + n') _).mono ?_; rintro e w9 ⟨⟨k9, n9, s9, t9, rfl, hK9, h91, h92, h93, h94⟩, hb9⟩
      unfold leafA
      have R9 := HR.out.later hb9
      have L9 := Lib.hid (HL.out.trans hb9)
      have HF9 := Lib.hid (fun w => leafB_of (lo := W.heap.size) (w := w) (HK.out.trans hK9) h91 h92 h93 h94)
      obtain ⟨r0, r1, r2, r3, r4, r5, r6, f0, f1, f2, f3, f4, f5, f6⟩ := box_seven R9
      have rz := R9.lt
      clear R9 hb9 hK9 h91 h92 h93 h94 HR HL
      go_wp2_with fail
      exact bodyPost_ret (v := leafA k9 n9 s9 t9) (by simp [results, Try.results91, go_sem, leafA, r0, r1, r2, r3, r4, r5, r6]) rfl ⟨HF9.out _, later_setFrom (by omega) [.int .i64 k9, .int .i64 n9, .int .i64 s9, .string t9, .slice none 0 0, .slice none 0 0, .slice none 0 0] _ 0 L9.out⟩
    · have e1 : (k' == 1) = false := by simpa using k1'
      have HK1 := Lib.hid k1'
      clear k1'
      go_enter Try.func91, Try.ntmps91
      have HK : Hid (addD d d' = errD 4) := by
        obtain ⟨hk, hk', hn, hn', ht, ht', hl, hl'⟩ := HP.out
        unfold Hid addD
        rw [hk, hk', if_neg (fun h => HK1.out h.2), if_neg (fun h => absurd h.1 (by decide)), if_neg (fun h => absurd h.1 (by decide))]
      go_wp2_with fail
      refine (specErr 4 (by omega) _).mono ?_; rintro e w9 ⟨⟨k9, n9, s9, t9, rfl, hK9, h91, h92, h93, h94⟩, hb9⟩
      unfold leafA
      have R9 := HR.out.later hb9
      have L9 := Lib.hid (HL.out.trans hb9)
      have HF9 := Lib.hid (fun w => leafB_of (lo := W.heap.size) (w := w) (HK.out.trans hK9) h91 h92 h93 h94)
      obtain ⟨r0, r1, r2, r3, r4, r5, r6, f0, f1, f2, f3, f4, f5, f6⟩ := box_seven R9
      have rz := R9.lt
      clear R9 hb9 hK9 h91 h92 h93 h94 HR HL
      go_wp2_with fail
      exact bodyPost_ret (v := leafA k9 n9 s9 t9) (by simp [results, Try.results91, go_sem, leafA, r0, r1, r2, r3, r4, r5, r6]) rfl ⟨HF9.out _, later_setFrom (by omega) [.int .i64 k9, .int .i64 n9, .int .i64 s9, .string t9, .slice none 0 0, .slice none 0 0, .slice none 0 0] _ 0 L9.out⟩
  · have e1 : (k == 1) = false := by simpa using k1
    have HK1 := Lib.hid k1
    clear k1
    by_cases k2 : k = 2
    · subst k2
      by_cases k2' : k' = 2
      · subst k2'
        have hz := HTX.out rfl; have hz' := HTX'.out rfl
        by_cases hsm : t.size + t'.size ≤ 20
        · have hi : ¬ (20 : Int) < (t.size : Int) + (t'.size : Int) := by omega
          obtain ⟨T, hT⟩ : ∃ T, T = t ++ t' := ⟨_, rfl⟩
          have hTs : T.size ≤ 20 := by rw [hT, ByteArray.size_append]; exact hsm
          have HT := Lib.hid hT; have HSM := Lib.hid hsm; have HTS := Lib.hid hTs
          have hT2 := hT.symm
          clear hT hsm hTs
          go_enter Try.func91, Try.ntmps91
          have HK : Hid (addD d d' = leafD 2 0 0 T) := by
            obtain ⟨hk, hk', hn, hn', ht, ht', hl, hl'⟩ := HP.out
            unfold Hid addD
            unfold addT; rw [hk, hk', if_neg (fun h => HK1.out h.1), if_pos ⟨rfl, rfl⟩, ht, ht', if_pos HSM.out, HT.out]
          go_wp2_with fail
          refine (specTxt T (by have := HTS.out; omega) _).mono ?_; rintro e w9 ⟨⟨k9, n9, s9, t9, rfl, hK9, h91, h92, h93, h94⟩, hb9⟩
          unfold leafA
          have R9 := HR.out.later hb9
          have L9 := Lib.hid (HL.out.trans hb9)
          have HF9 := Lib.hid (fun w => leafB_of (lo := W.heap.size) (w := w) (HK.out.trans hK9) h91 h92 h93 h94)
          obtain ⟨r0, r1, r2, r3, r4, r5, r6, f0, f1, f2, f3, f4, f5, f6⟩ := box_seven R9
          have rz := R9.lt
          clear R9 hb9 hK9 h91 h92 h93 h94 HR HL
          go_wp2_with fail
          exact bodyPost_ret (v := leafA k9 n9 s9 t9) (by simp [results, Try.results91, go_sem, leafA, r0, r1, r2, r3, r4, r5, r6]) rfl ⟨HF9.out _, later_setFrom (by omega) [.int .i64 k9, .int .i64 n9, .int .i64 s9, .string t9, .slice none 0 0, .slice none 0 0, .slice none 0 0] _ 0 L9.out⟩
        · have hi : (20 : Int) < (t.size : Int) + (t'.size : Int) := by omega
          have HSM := Lib.hid hsm
          clear hsm
          go_enter Try.func91, Try.ntmps91
          have HK : Hid (addD d d' = errD 6) := by
            obtain ⟨hk, hk', hn, hn', ht, ht', hl, hl'⟩ := HP.out
            unfold Hid addD
            unfold addT; rw [hk, hk', if_neg (fun h => HK1.out h.1), if_pos ⟨rfl, rfl⟩, ht, ht', if_neg HSM.out]
          go_wp2_with fail
          refine (specErr 6 (by omega) _).mono ?_; rintro e w9 ⟨⟨k9, n9, s9, t9, rfl, hK9, h91, h92, h93, h94⟩, hb9⟩
          unfold leafA
          have R9 := HR.out.later hb9
          have L9 := Lib.hid (HL.out.trans hb9)
          have HF9 := Lib.hid (fun w => leafB_of (lo := W.heap.size) (w := w) (HK.out.trans hK9) h91 h92 h93 h94)
          obtain ⟨r0, r1, r2, r3, r4, r5, r6, f0, f1, f2, f3, f4, f5, f6⟩ := box_seven R9
          have rz := R9.lt
          clear R9 hb9 hK9 h91 h92 h93 h94 HR HL
          go_wp2_with fail
          exact bodyPost_ret (v := leafA k9 n9 s9 t9) (by simp [results, Try.results91, go_sem, leafA, r0, r1, r2, r3, r4, r5, r6]) rfl ⟨HF9.out _, later_setFrom (by omega) [.int .i64 k9, .int .i64 n9, .int .i64 s9, .string t9, .slice none 0 0, .slice none 0 0, .slice none 0 0] _ 0 L9.out⟩
      · have e2 : (k' == 2) = false := by simpa using k2'
        have HK2 := Lib.hid k2'
        clear k2'
        go_enter Try.func91, Try.ntmps91
        have HK : Hid (addD d d' = errD 4) := by
          obtain ⟨hk, hk', hn, hn', ht, ht', hl, hl'⟩ := HP.out
          unfold Hid addD
          rw [hk, hk', if_neg (fun h => HK1.out h.1), if_neg (fun h => HK2.out h.2), if_neg (fun h => absurd h.1 (by decide))]
        go_wp2_with fail
        refine (specErr 4 (by omega) _).mono ?_; rintro e w9 ⟨⟨k9, n9, s9, t9, rfl, hK9, h91, h92, h93, h94⟩, hb9⟩
        unfold leafA
        have R9 := HR.out.later hb9
        have L9 := Lib.hid (HL.out.trans hb9)
        have HF9 := Lib.hid (fun w => leafB_of (lo := W.heap.size) (w := w) (HK.out.trans hK9) h91 h92 h93 h94)
        obtain ⟨r0, r1, r2, r3, r4, r5, r6, f0, f1, f2, f3, f4, f5, f6⟩ := box_seven R9
        have rz := R9.lt
        clear R9 hb9 hK9 h91 h92 h93 h94 HR HL
        go_wp2_with fail
        exact bodyPost_ret (v := leafA k9 n9 s9 t9) (by simp [results, Try.results91, go_sem, leafA, r0, r1, r2, r3, r4, r5, r6]) rfl ⟨HF9.out _, later_setFrom (by omega) [.int .i64 k9, .int .i64 n9, .int .i64 s9, .string t9, .slice none 0 0, .slice none 0 0, .slice none 0 0] _ 0 L9.out⟩
    · have e2 : (k == 2) = false := by simpa using k2
      have HK2 := Lib.hid k2
      clear k2
      by_cases k3 : k = 3
      · subst k3
        by_cases k3' : k' = 3
        · subst k3'
          by_cases hsm : l.length + l'.length ≤ 8
          · have hq8 : ¬ (8 : Int) < (l.length : Int) + (l'.length : Int) := by omega
            have HK : Hid (addD d d' = listD (l ++ l')) := by
              obtain ⟨hk, hk', hn, hn', ht, ht', hl, hl'⟩ := HP.out
              unfold Hid addD addL
              rw [hk, hk', if_neg (fun h => absurd h.1 (by decide)), if_neg (fun h => absurd h.1 (by decide)), if_pos ⟨rfl, rfl⟩, hl, hl', if_pos hsm]
            obtain ⟨us, l1, n1, k1, o1, m1⟩ := any_cells HG.out (by omega)
            obtain ⟨us', l1', n1', k1', o1', m1'⟩ := any_cells HG'.out (by omega)
            obtain ⟨i0, hi, hz0, hz1, hz2⟩ := info_parts info_value
            have hl8 := HLS.out rfl; have hl8' := HLS'.out rfl
            obtain ⟨X, hXe⟩ : ∃ X, X = (((W.alloc (.cells #[.int .i64 3, .int .i64 n, .int .i64 s, .string t, .slice A1 l.length c1, .slice A2 cl.length c2, .slice A3 r.length c3] 28)).alloc (.cells #[.int .i64 3, .int .i64 n', .int .i64 s', .string t', .slice B1 l'.length d1, .slice B2 cl'.length d2, .slice B3 r'.length d3] 28)).alloc (.cells #[.int .i64 0, .int .i64 0, .int .i64 0, .string ⟨#[]⟩, .slice none 0 0, .slice none 0 0, .slice none 0 0] 28)) := ⟨_, rfl⟩
            have hXs : X.heap.size = W.heap.size + 3 := by rw [hXe]; simp
            rw [← hXe] at HR HL
            have hc4 : X.cell? ⟨W.heap.size, 4, none⟩ = some (.slice A1 l.length c1) := by rw [hXe]; exact ((box_alloc W #[.int .i64 3, .int .i64 n, .int .i64 s, .string t, .slice A1 l.length c1, .slice A2 cl.length c2, .slice A3 r.length c3] 28).later (((Later.rfl' _).alloc _).alloc _)).cell rfl
            have hd4 : X.cell? ⟨W.heap.size + 1, 4, none⟩ = some (.slice B1 l'.length d1) := by
              rw [hXe]
              have h := box_alloc (W.alloc (.cells #[.int .i64 3, .int .i64 n, .int .i64 s, .string t, .slice A1 l.length c1, .slice A2 cl.length c2, .slice A3 r.length c3] 28)) #[.int .i64 3, .int .i64 n', .int .i64 s', .string t', .slice B1 l'.length d1, .slice B2 cl'.length d2, .slice B3 r'.length d3] 28
              rw [World.size_alloc] at h
              exact (h.later ((Later.rfl' _).alloc _)).cell rfl
            have M1 := Lib.hid m1; have K1 := Lib.hid k1; have O1 := Lib.hid o1; have N1 := Lib.hid n1; have M2 := Lib.hid m1'; have K2 := Lib.hid k1'; have O2 := Lib.hid o1'; have N2 := Lib.hid n1'
            have HX := Lib.hid hXe; have HC4 := Lib.hid hc4; have HD4 := Lib.hid hd4; have HXS := Lib.hid hXs
            have HLV : Hid (∀ W' v (h : SlAt W' anyB 7 encV (l ++ l') v), Calls Try.prog 35 #[v] W' fun r w' => CopyV W' w' (listD (l ++ l')) r ∧ Later W' w') := fun W' v h => specListValue (l ++ l') W' anyB v h HCO.out
            clear m1 k1 o1 n1 m1' k1' o1' n1' hXe hc4 hd4 hXs hsm HG HG'
            go_enter Try.func91, Try.ntmps91
            go_wp2_with fail
            rw [← HX.out]
            have hV : HoldC X W.heap.size (W.heap.size + 1) (.slice A1 l.length c1) (.slice B1 l'.length d1) := ⟨HC4.out, HD4.out⟩
            clear HX
            go_region_held3 (fun w' => w'.cell? ⟨W.heap.size, 4, none⟩ = some (.slice A1 l.length c1) ∧ w'.cell? ⟨W.heap.size + 1, 4, none⟩ = some (.slice B1 l'.length d1))
              (first | with_reducible refine HoldC.set ?_ (by omega) (by omega) _ _ _ _ _ _ _; with_reducible exact HoldC.of (HZB.out.trans hbC) HC4.out HD4.out | with_reducible exact HoldC.of (Later.rfl' _).drew HC4.out HD4.out | with_reducible exact HoldC.of ((Later.rfl' _).alloc _).drew HC4.out HD4.out | with_reducible exact HoldC.of hLA HC4.out HD4.out | with_reducible exact HoldC.of hLB HC4.out HD4.out | with_reducible exact HoldC.of (hLB.trans hbC) HC4.out HD4.out)
              (first | ((with_reducible show (if Region.wanted { dst := _, op := .call _, type := _, pos := _, after := _, guard := _ } _ = true then _ else _)); refine step_append_any _ rfl (.tmp 62) (.tmp 64) 24 rfl 28 i0 (.agg #[.int .i64 0, .int .i64 0, .int .i64 0, .string ByteArray.empty, .slice none 0 0, .slice none 0 0, .slice none 0 0]) 7 112 Try.underlying24 hi hz0 hz1 hz2 rfl (by decide) (.slice (some ⟨X.heap.size, 0, none⟩) 0 0) 0 [] (by simp [Act.eval, Act.put]) (by first | exact fresh_own (Later.rfl' _) (by first | rfl | omega | (simp; done) | (simp; omega)) | exact fresh_own (Later.rfl' _).drew (by first | rfl | omega | (simp; done) | (simp; omega))) A1 l.length c1 us (by simp [Act.eval, Act.put]) l1 N1.out (K1.out _ (HL.out.trans (by first | exact (Later.rfl' _).drew.alloc _ | exact ((Later.rfl' _).alloc _).drew))) O1.out (by unfold maxLen; omega) (by omega) ?_; intro vA wA hoA hgA hatA; have hLA : Later X wA := later_grown (by first | exact (Later.rfl' _).drew.alloc _ | exact ((Later.rfl' _).alloc _).drew) hgA (fun g hg => by simp only [Value.ownBlock, Option.some.injEq] at hg; omega); obtain ⟨yA, dA, rfl, _, _, _⟩ := row_shape hoA) | ((with_reducible show (if Region.wanted { dst := _, op := .call _, type := _, pos := _, after := _, guard := _ } _ = true then _ else _)); refine step_append_any _ rfl (.tmp 65) (.tmp 67) 24 rfl 28 i0 (.agg #[.int .i64 0, .int .i64 0, .int .i64 0, .string ByteArray.empty, .slice none 0 0, .slice none 0 0, .slice none 0 0]) 7 112 Try.underlying24 hi hz0 hz1 hz2 rfl (by decide) (.slice yA (0 + l.length) dA) (0 + l.length) ([] ++ us) (by simp [Act.eval, Act.put]) hoA B1 l'.length d1 us' (by simp [Act.eval, Act.put]) l1' N2.out (K2.out _ (HL.out.trans hLA)) O2.out (by unfold maxLen; omega) (by omega) ?_; intro vB wB hoB hgB hatB; have hLB : Later X wB := later_grown hLA hgB (fun g hg => by rcases hatA with h | h <;> rw [h] at hg <;> simp only [Value.ownBlock, Option.some.injEq] at hg <;> (try simp at hg) <;> omega); have hoB' : wB.ownsRow 0 28 7 vB (l.length + l'.length) (us ++ us') := (by simpa using hoB); have HOB := Lib.hid hoB'; have HZB := Lib.hid hLB; clear hoA hgA hatA hoB hgB hatB hoB' hLA) | (go_at_call 35; refine (HLV.out _ _ (at_two HOB.out l1 (fun p d u hd hu => (M1.out p d u hd hu).later (HL.out.trans hLB)) (fun p d u hd hu => (M2.out p d u hd hu).later (HL.out.trans hLB)))).mono ?_; rintro r wC ⟨⟨y0, y1, y2, y3, C1, y4, y7, C2, y5, y8, C3, y6, y9, rfl, hoC⟩, hbC⟩; have hRC := HR.out.later (hLB.trans hbC); obtain ⟨r0, r1, r2, r3, r4, r5, r6, f0, f1, f2, f3, f4, f5, f6⟩ := box_seven hRC; have rz := hRC.lt; have HOC := Lib.hid hoC; clear hoC hRC HOB hi hz0 hz1 hz2 l1 l1' hl8 hl8' hq8 e1 e2 M1 K1 O1 N1 M2 K2 O2 N2 HLV HCO))
            all_goals
              (rename_i hHL; clear hHL
               have c := chg_setFrom (g := W.heap.size + 1 + 1) [.int .i64 y0, .int .i64 y1, .int .i64 y2, .string y3, .slice C1 y4 y7, .slice C2 y5 y8, .slice C3 y6 y9] wC 0
               have hzB := HZB.out.size
               have hxs := HXS.out
               have HO := Lib.hid ((HOC.out.ats.chg c fun b h1 h2 => by omega).more (S' := fun b => W.heap.size ≤ b) fun b h => by omega)
               have HLF := Lib.hid (later_setFrom (show W.heap.size ≤ W.heap.size + 1 + 1 by omega) [.int .i64 y0, .int .i64 y1, .int .i64 y2, .string y3, .slice C1 y4 y7, .slice C2 y5 y8, .slice C3 y6 y9] _ 0 (HL.out.trans (hLB.trans hbC)))
               clear hbC hLB c
               go_wp2_with fail
               exact bodyPost_ret (v := .agg #[.int .i64 y0, .int .i64 y1, .int .i64 y2, .string y3, .slice C1 y4 y7, .slice C2 y5 y8, .slice C3 y6 y9]) (by simp [results, Try.results91, go_sem, r0, r1, r2, r3, r4, r5, r6]) rfl ⟨by rw [HK.out]; exact ⟨_, _, _, _, _, _, _, _, _, _, _, _, _, rfl, HO.out⟩, HLF.out⟩)
          · have hi : (8 : Int) < (l.length : Int) + (l'.length : Int) := by omega
            have hl8 := HLS.out rfl; have hl8' := HLS'.out rfl
            have HSM := Lib.hid hsm
            clear hsm
            go_enter Try.func91, Try.ntmps91
            have HK : Hid (addD d d' = errD 6) := by
              obtain ⟨hk, hk', hn, hn', ht, ht', hl, hl'⟩ := HP.out
              unfold Hid addD
              unfold addL; rw [hk, hk', if_neg (fun h => HK1.out h.1), if_neg (fun h => HK2.out h.1), if_pos ⟨rfl, rfl⟩, hl, hl', if_neg HSM.out]
            go_wp2_with fail
            refine (specErr 6 (by omega) _).mono ?_; rintro e w9 ⟨⟨k9, n9, s9, t9, rfl, hK9, h91, h92, h93, h94⟩, hb9⟩
            unfold leafA
            have R9 := HR.out.later hb9
            have L9 := Lib.hid (HL.out.trans hb9)
            have HF9 := Lib.hid (fun w => leafB_of (lo := W.heap.size) (w := w) (HK.out.trans hK9) h91 h92 h93 h94)
            obtain ⟨r0, r1, r2, r3, r4, r5, r6, f0, f1, f2, f3, f4, f5, f6⟩ := box_seven R9
            have rz := R9.lt
            clear R9 hb9 hK9 h91 h92 h93 h94 HR HL
            go_wp2_with fail
            exact bodyPost_ret (v := leafA k9 n9 s9 t9) (by simp [results, Try.results91, go_sem, leafA, r0, r1, r2, r3, r4, r5, r6]) rfl ⟨HF9.out _, later_setFrom (by omega) [.int .i64 k9, .int .i64 n9, .int .i64 s9, .string t9, .slice none 0 0, .slice none 0 0, .slice none 0 0] _ 0 L9.out⟩
        · have e3 : (k' == 3) = false := by simpa using k3'
          have HK3 := Lib.hid k3'
          clear k3'
          go_enter Try.func91, Try.ntmps91
          have HK : Hid (addD d d' = errD 4) := by
            obtain ⟨hk, hk', hn, hn', ht, ht', hl, hl'⟩ := HP.out
            unfold Hid addD
            rw [hk, hk', if_neg (fun h => HK1.out h.1), if_neg (fun h => HK2.out h.1), if_neg (fun h => HK3.out h.2)]
          go_wp2_with fail
          refine (specErr 4 (by omega) _).mono ?_; rintro e w9 ⟨⟨k9, n9, s9, t9, rfl, hK9, h91, h92, h93, h94⟩, hb9⟩
          unfold leafA
          have R9 := HR.out.later hb9
          have L9 := Lib.hid (HL.out.trans hb9)
          have HF9 := Lib.hid (fun w => leafB_of (lo := W.heap.size) (w := w) (HK.out.trans hK9) h91 h92 h93 h94)
          obtain ⟨r0, r1, r2, r3, r4, r5, r6, f0, f1, f2, f3, f4, f5, f6⟩ := box_seven R9
          have rz := R9.lt
          clear R9 hb9 hK9 h91 h92 h93 h94 HR HL
          go_wp2_with fail
          exact bodyPost_ret (v := leafA k9 n9 s9 t9) (by simp [results, Try.results91, go_sem, leafA, r0, r1, r2, r3, r4, r5, r6]) rfl ⟨HF9.out _, later_setFrom (by omega) [.int .i64 k9, .int .i64 n9, .int .i64 s9, .string t9, .slice none 0 0, .slice none 0 0, .slice none 0 0] _ 0 L9.out⟩
      · have e3 : (k == 3) = false := by simpa using k3
        have HK3 := Lib.hid k3
        clear k3
        go_enter Try.func91, Try.ntmps91
        have HK : Hid (addD d d' = errD 4) := by
          obtain ⟨hk, hk', hn, hn', ht, ht', hl, hl'⟩ := HP.out
          unfold Hid addD
          rw [hk, if_neg (fun h => HK1.out h.1), if_neg (fun h => HK2.out h.1), if_neg (fun h => HK3.out h.1)]
        go_wp2_with fail
        refine (specErr 4 (by omega) _).mono ?_; rintro e w9 ⟨⟨k9, n9, s9, t9, rfl, hK9, h91, h92, h93, h94⟩, hb9⟩
        unfold leafA
        have R9 := HR.out.later hb9
        have L9 := Lib.hid (HL.out.trans hb9)
        have HF9 := Lib.hid (fun w => leafB_of (lo := W.heap.size) (w := w) (HK.out.trans hK9) h91 h92 h93 h94)
        obtain ⟨r0, r1, r2, r3, r4, r5, r6, f0, f1, f2, f3, f4, f5, f6⟩ := box_seven R9
        have rz := R9.lt
        clear R9 hb9 hK9 h91 h92 h93 h94 HR HL
        go_wp2_with fail
        exact bodyPost_ret (v := leafA k9 n9 s9 t9) (by simp [results, Try.results91, go_sem, leafA, r0, r1, r2, r3, r4, r5, r6]) rfl ⟨HF9.out _, later_setFrom (by omega) [.int .i64 k9, .int .i64 n9, .int .i64 s9, .string t9, .slice none 0 0, .slice none 0 0, .slice none 0 0] _ 0 L9.out⟩

end Go.Proofs.Ytghemlokpfipoaa
namespace Go.Proofs.Ytghemlokpfipoaa
open Go.ChangeShapes Go.WideShapes Go.ChangeAt Go.RowKit
set_option linter.unusedVariables false
set_option linter.unusedSimpArgs false
set_option maxRecDepth 100000

theorem own_news {w : World} {base e s n c : Nat} {A : Option Addr} {xs : List Value} (h : w.ownsRow base e s (.slice A n c) n xs) : (A = none → n = 0) ∧ ∀ ad, A = some ad → ∀ j u, xs[j]? = some u → w.cell? (ad.add j) = some u := by
  rcases h.2 with ⟨hv, h0⟩ | ⟨g, cap, cur, hv, _⟩
  · simp only [Value.slice.injEq] at hv
    obtain ⟨rfl, _⟩ := hv
    exact ⟨fun _ => h0, fun ad e => by cases e⟩
  · simp only [Value.slice.injEq] at hv
    obtain ⟨rfl, _, _⟩ := hv
    exact ⟨fun e => (by cases e), fun ad e j u hu => by cases e; exact h.cells (g := g) rfl j u hu⟩
theorem at_rowS {w : World} {S : Nat → Prop} {base e s n : Nat} {v : Value} {xs : List Value} {ds : List Dt} (hown : w.ownsRow base e s v n xs) (hS : ∀ g, v.ownBlock = some g → S g) (hl : ds.length = n * s) (h : ∀ (p : Nat) d u, ds[p]? = some d → xs[p]? = some u → At w S d u) : At w S (.sl s n ds) v := by
  obtain ⟨A, c, rfl, h1, h2, h3⟩ := row_shape hown
  refine At.make hl h1 h2 fun hn => ?_
  have hn0 : 0 < n := by
    rcases Nat.eq_zero_or_pos n with h | h
    · subst h; simp at hl; exact absurd hl hn
    · exact h
  obtain ⟨g, rfl, hg⟩ := h3 hn0
  refine ⟨g, 0, rfl, (hown.lt g hg).2, hS g hg, fun i d hd => ?_⟩
  have hi : i < n * s := by rw [← hl]; exact (List.getElem?_eq_some_iff.1 hd).1
  have hu : xs[i]? = some (xs[i]'(by rw [hown.1]; exact hi)) := List.getElem?_eq_getElem _
  exact ⟨_, by rw [Nat.zero_add, hown.cellAt i hi, hu], h i d _ hd hu⟩
/-- Two rows of values joined in one. -/
theorem push_two {lo lo' e : Nat} {w0 w : World} {l l' : List Vl} {vA vB : Value} (hp : Pushed lo w0 e 7 encV l vA) (hw : Later w0 w) (h0 : lo ≤ w0.heap.size) (hlo : w0.heap.size ≤ lo') (hp' : Pushed lo' w e 7 encV l' vB) :
    ∃ xs us : List Value, w.ownsRow 0 e 7 vA l.length xs ∧ us.length = l'.length * 7 ∧ (∀ u ∈ us, u.oneCell' = true) ∧ (∀ A c, vB = .slice A l'.length c → (A = none → l'.length = 0) ∧ ∀ ad, A = some ad → ∀ j u, us[j]? = some u → w.cell? (ad.add j) = some u) ∧ (∀ g, vA.ownBlock = some g → lo ≤ g) ∧
      ∀ w' v, w'.ownsRow 0 e 7 v (l.length + l'.length) (xs ++ us) → w.grownBy w' vA.ownBlock → (v.ownBlock = vA.ownBlock ∨ v.ownBlock = some w.heap.size) → SlAt w' (fun b => lo ≤ b) 7 encV (l ++ l') v := by
  obtain ⟨xs, T, h1, h2, h3, h4⟩ := hp
  obtain ⟨us, T', k1, k2, k3, k4⟩ := hp'
  have hf := flat_len encV_len l
  have hf' := flat_len encV_len l'
  have hws := hw.size
  refine ⟨xs, us, row_base (own_later h1 hw), k1.1, fun u hu => ?_, fun A c e => by subst e; exact own_news k1, fun g hg => (h1.lt g hg).1, fun w' v hown hg hv => ?_⟩
  · obtain ⟨i, hi, rfl⟩ := List.getElem_of_mem hu
    exact own_one (k4 i _ _ (List.getElem?_eq_getElem (by rw [hf', ← k1.1]; exact hi)) (List.getElem?_eq_getElem hi))
  · have hc := chg_grown hg
    have hA : ∀ b, some b = vA.ownBlock → lo ≤ b ∧ b < w0.heap.size := fun b hb => h1.lt b hb.symm
    unfold SlAt
    rw [List.length_append]
    refine at_rowS hown (fun g hg => ?_) (by rw [flat_len encV_len, List.length_append]) fun p d u hd hp => ?_
    · rcases hv with h | h
      · rw [h] at hg; exact (hA g hg.symm).1
      · rw [h] at hg; cases hg; show lo ≤ w.heap.size; omega
    · have hxl := h1.1
      rw [List.flatMap_append] at hd
      by_cases h : p < l.length * 7
      · rw [List.getElem?_append_left (by omega)] at hd hp
        exact (((h4 p d u hd hp).later hw).chg hc fun b h5 h6 => (h2 p b h5).2.2 h6.symm).at_.more fun b hb => (h2 p b hb).1
      · rw [List.getElem?_append_right (by omega)] at hd hp
        rw [hf] at hd
        rw [hxl] at hp
        exact ((k4 _ d u hd hp).chg hc fun b h5 h6 => by have := (k2 _ b h5).1; have := (hA b h6).2; omega).at_.more fun b hb => by have := (k2 _ b hb).1; omega
end Go.Proofs.Ytghemlokpfipoaa
