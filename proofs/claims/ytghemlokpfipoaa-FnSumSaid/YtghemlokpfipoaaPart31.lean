/-
  Marks of a whole value: markValue, heldValue.
-/
import Derived.Test.YtghemlokpfipoaaPart28
import Derived.Test.YtghemlokpfipoaaPart30
namespace Go.Proofs.Ytghemlokpfipoaa
open Go.ChangeShapes Go.WideShapes Go.ChangeAt Go.RowKit
set_option linter.unusedVariables false
set_option linter.unusedSimpArgs false

def cntL (l : List Vl) : Nat := Dt.cnts (l.flatMap encV)
def cntC (c : List ByteArray) : Nat := Dt.cnts (c.flatMap encS)
def cntR (r : List Rw) : Nat := Dt.cnts (r.flatMap encR)
/-- How many marks a value takes. -/
def Vl.topN : Vl → Nat | .mk _ _ _ _ l c r => cntL l + cntC c + cntR r
/-- A value whose slices are marked. -/
def Vl.topM : Vl → Nat → List Dt
  | .mk k0 n s t l c r, k => [.int k0, .int n, .int s, .str t, .sl 7 l.length (Dt.marks markB (l.flatMap encV) k), .sl 1 c.length (Dt.marks markB (c.flatMap encS) (k + cntL l)), .sl 2 r.length (Dt.marks markB (r.flatMap encR) (k + cntL l + cntC c))]
theorem cntI (l : List Int) : Dt.cnts (l.flatMap encI) = l.length := by
  induction l with
  | nil => rfl
  | cons a l ih => rw [List.flatMap_cons, cnts_append, ih, List.length_cons]; simp [encI, Dt.cnts, Dt.cnt]; omega
theorem cntO (l : List Org) : Dt.cnts (l.flatMap encO) = 2 * l.length := by
  induction l with
  | nil => rfl
  | cons a l ih => rw [List.flatMap_cons, cnts_append, ih, List.length_cons]; simp [encO, Dt.cnts, Dt.cnt]; omega
theorem cntC_eq (c : List ByteArray) : cntC c = c.length := by
  unfold cntC
  induction c with
  | nil => rfl
  | cons a l ih => rw [List.flatMap_cons, cnts_append, ih, List.length_cons]; simp [encS, Dt.cnts, Dt.cnt]; omega
theorem cntR_le (r : List Rw) : cntR r ≤ 2 * sumN Rw.cost r := by
  unfold cntR
  induction r with
  | nil => simp [Dt.cnts]
  | cons a l ih =>
    rw [List.flatMap_cons, cnts_append]
    have h1 := cntI a.cells
    have h2 := cntO a.from_
    have : sumN Rw.cost (a :: l) = a.cost + sumN Rw.cost l := by simp [sumN]
    simp only [encR, Dt.cnts, Dt.cnt, h1, h2]
    unfold Rw.cost at this ⊢
    simp only [show (fun r : Rw => r.cells.length + r.from_.length) = Rw.cost from rfl] at *
    unfold Rw.cost at ih
    simp only [show (fun r : Rw => r.cells.length + r.from_.length) = Rw.cost from rfl] at ih
    omega
theorem cntL_cons (v : Vl) (l : List Vl) : cntL (v :: l) = 4 + v.topN + cntL l := by
  obtain ⟨k, n, s, t, li, cl, r, rfl⟩ := Vl.shape v
  unfold cntL
  rw [List.flatMap_cons, cnts_append, encV, encVs_eq]
  simp only [Dt.cnts, Dt.cnt, Vl.topN, cntL, cntC, cntR]
  omega
theorem topN_le : ∀ d : Vl, d.topN ≤ 4 * d.cost := by
  refine Vl.ind fun k n s t l c r ih => ?_
  rw [Vl.cost_mk, Vl.topN, cntC_eq]
  have h1 := cntR_le r
  have h2 : cntL l ≤ 4 * (l.length + sumN Vl.cost l) := by
    clear h1 k n s t c r
    induction l with
    | nil => simp [cntL, Dt.cnts]
    | cons v l ih2 =>
      have h3 := ih2 fun x hx => ih x (by simp [hx])
      have h4 := ih v (by simp)
      rw [cntL_cons]
      have : sumN Vl.cost (v :: l) = v.cost + sumN Vl.cost l := by simp [sumN]
      rw [List.length_cons]
      omega
  have h3 : c.length ≤ costS c := by unfold costS; omega
  omega

theorem Owns.parts {w : World} {S : Nat → Prop} {k n s : Int} {t : ByteArray} {l : List Vl} {cl : List ByteArray} {r : List Rw} {cs : List Value} (h : Owns w S (encV (.mk k n s t l cl r)) cs) :
    ∃ A1 c1 A2 c2 A3 c3 T1 T2 T3, cs = [.int .i64 k, .int .i64 n, .int .i64 s, .string t, .slice A1 l.length c1, .slice A2 cl.length c2, .slice A3 r.length c3] ∧ (Between64 k ∧ Between64 n ∧ Between64 s ∧ t.size ≤ 9223372036854775807) ∧
      Own w T1 (.sl 7 l.length (l.flatMap encV)) (.slice A1 l.length c1) ∧ Own w T2 (.sl 1 cl.length (cl.flatMap encS)) (.slice A2 cl.length c2) ∧ Own w T3 (.sl 2 r.length (r.flatMap encR)) (.slice A3 r.length c3) ∧
      (∀ b, T1 b → S b ∧ b < w.heap.size) ∧ (∀ b, T2 b → S b ∧ b < w.heap.size) ∧ (∀ b, T3 b → S b ∧ b < w.heap.size) ∧ (∀ b, T1 b → T2 b → False) ∧ (∀ b, T1 b → T3 b → False) ∧ (∀ b, T2 b → T3 b → False) := by
  obtain ⟨A1, c1, A2, c2, A3, c3, rfl, hb4, _⟩ := h.ats.val
  obtain ⟨_, T, hT, hsep, hF⟩ := h
  rw [encV, encVs_eq] at hF
  refine ⟨A1, c1, A2, c2, A3, c3, _, _, _, rfl, hb4, (hF 4 _ _ rfl rfl).low, (hF 5 _ _ rfl rfl).low, (hF 6 _ _ rfl rfl).low, fun b hb => ⟨hT _ b hb.1, hb.2⟩, fun b hb => ⟨hT _ b hb.1, hb.2⟩, fun b hb => ⟨hT _ b hb.1, hb.2⟩, fun b h1 h2 => hsep 4 5 (by omega) b h1.1 h2.1, fun b h1 h2 => hsep 4 6 (by omega) b h1.1 h2.1, fun b h1 h2 => hsep 5 6 (by omega) b h1.1 h2.1⟩

set_option maxHeartbeats 1000000 in
theorem markValue (d : Vl) (k : Nat) (x : Int) (hx : x = (k : Int)) (W : World) (S : Nat → Prop) (cs : List Value) (hk : k + d.topN ≤ 1099511627776) (h : Owns W S (encV d) cs) :
    Calls Try.prog 41 #[.agg cs.toArray, .int .i64 x] W fun r w' => r = .returned (.int .i64 ((k + d.topN : Nat) : Int)) ∧ Owns w' S (d.topM k) cs ∧ Chg S W w' := by
  subst hx
  obtain ⟨k0, n, s, t, l, cl, r, rfl⟩ := Vl.shape d
  obtain ⟨A1, c1, A2, c2, A3, c3, T1, T2, T3, rfl, hb4, o1, o2, o3, t1, t2, t3, d12, d13, d23⟩ := h.parts
  rw [Vl.topN] at hk ⊢
  have C1 := fun W' ho => markValueS l k W' T1 (.slice A1 l.length c1) (by show k + cntL l ≤ _; omega) ho
  have C2 := fun W' ho => markStrs cl (k + cntL l) W' T2 (.slice A2 cl.length c2) (by show k + cntL l + cntC cl ≤ _; omega) ho
  have C3 := fun W' ho => markRowS r (k + cntL l + cntC cl) W' T3 (.slice A3 r.length c3) (by show k + cntL l + cntC cl + cntR r ≤ _; omega) ho
  have hN : Hid (Vl.topM (.mk k0 n s t l cl r) k = [.int k0, .int n, .int s, .str t, .sl 7 l.length (Dt.marks markB (l.flatMap encV) k), .sl 1 cl.length (Dt.marks markB (cl.flatMap encS) (k + cntL l)), .sl 2 r.length (Dt.marks markB (r.flatMap encR) (k + cntL l + cntC cl))]) := rfl
  simp only [show ∀ l : List Vl, Dt.cnts (l.flatMap encV) = cntL l from fun _ => rfl] at C1
  simp only [show ∀ l : List ByteArray, Dt.cnts (l.flatMap encS) = cntC l from fun _ => rfl] at C2
  simp only [show ∀ l : List Rw, Dt.cnts (l.flatMap encR) = cntR l from fun _ => rfl] at C3
  obtain ⟨n1, hn1⟩ : ∃ n, n = cntL l := ⟨_, rfl⟩
  obtain ⟨n2, hn2⟩ : ∃ n, n = cntC cl := ⟨_, rfl⟩
  obtain ⟨n3, hn3⟩ : ∃ n, n = cntR r := ⟨_, rfl⟩
  simp only [← hn1, ← hn2, ← hn3] at C1 C2 C3 hN hk ⊢
  have H1 := Lib.hid C1; have H2 := Lib.hid C2; have H3 := Lib.hid C3
  have O1 := Lib.hid o1; have O2 := Lib.hid o2; have O3 := Lib.hid o3
  have HT := Lib.hid (And.intro t1 (And.intro t2 t3))
  have HD := Lib.hid (And.intro d12 (And.intro d13 d23))
  have HB := Lib.hid hb4
  clear C1 C2 C3 hn1 hn2 hn3 h o1 o2 o3 t1 t2 t3 d12 d13 d23 hb4
  go_enter Try.func41, Try.ntmps41
  go_wp2_with fail
  refine (H1.out _ (O1.out.later ((Later.rfl' _).alloc _))).mono ?_; rintro e w1 ⟨rfl, p1, g1⟩
  have B := (box_alloc W _ _).chg g1 (fun hb => Nat.lt_irrefl _ (HT.out.1 _ hb).2)
  have q2 := (O2.out.later ((Later.rfl' _).alloc _)).chg g1 fun b h1 h2 => HD.out.1 b h2 h1
  have q3 := (O3.out.later ((Later.rfl' _).alloc _)).chg g1 fun b h1 h2 => HD.out.2.1 b h2 h1
  have b5 := B.cell (j := 5) rfl
  have HBX := Lib.hid B
  have HG1 := Lib.hid ((((Later.rfl' W).alloc _).chg S).trans (g1.more fun b hb => (HT.out.1 b hb).1))
  have P1 := Lib.hid p1; have Q2 := Lib.hid q2; have Q3 := Lib.hid q3
  clear p1 g1 B q2 q3 O1 O2 O3 H1
  go_wp2_with fail
  refine (H2.out _ Q2.out).mono ?_; rintro e w2 ⟨rfl, p2, g2⟩
  have B := HBX.out.chg g2 (fun hb => Nat.lt_irrefl _ (HT.out.2.1 _ hb).2)
  have p1 := P1.out.chg g2 fun b h1 h2 => HD.out.1 b h1 h2
  have q3 := Q3.out.chg g2 fun b h1 h2 => HD.out.2.2 b h2 h1
  have b6 := B.cell (j := 6) rfl
  have HG2 := Lib.hid (HG1.out.trans (g2.more fun b hb => (HT.out.2.1 b hb).1))
  replace P1 := Lib.hid p1; have P2 := Lib.hid p2; replace Q3 := Lib.hid q3
  clear p1 g2 B q3 p2 HBX HG1 H2 b5 Q2
  go_wp2_with fail
  refine (H3.out _ Q3.out).mono ?_; rintro e w3 ⟨rfl, p3, g3⟩
  have p1 := P1.out.chg g3 fun b h1 h2 => HD.out.2.1 b h1 h2
  have p2 := P2.out.chg g3 fun b h1 h2 => HD.out.2.2 b h1 h2
  have HG3 := Lib.hid (HG2.out.trans (g3.more fun b hb => (HT.out.2.2 b hb).1))
  have HR : Hid (Owns w3 S (Vl.topM (.mk k0 n s t l cl r) k) [.int .i64 k0, .int .i64 n, .int .i64 s, .string t, .slice A1 l.length c1, .slice A2 cl.length c2, .slice A3 r.length c3]) := by
    have hb := HB.out
    unfold Hid
    rw [hN.out]
    refine Owns.leaf' (.int _ _ hb.1) (Owns.leaf' (.int _ _ hb.2.1) (Owns.leaf' (.int _ _ hb.2.2.1) (Owns.leaf' (.str _ _ hb.2.2.2) (Owns.cons p1 (Owns.cons (U := fun b => T2 b ∨ T3 b) p2 (Owns.cons (U := T3) p3 (owns_nil _ (fun _ => False)) (fun _ h => h) (fun _ h => False.elim h) (fun _ _ h => h)) (fun _ h => .inl h) (fun _ h => .inr h) (HD.out.2.2)) (fun b h => (HT.out.1 b h).1) ?_ ?_))))
    · rintro b (h | h)
      · exact (HT.out.2.1 b h).1
      · exact (HT.out.2.2 b h).1
    · rintro b h1 (h | h)
      · exact HD.out.1 b h1 h
      · exact HD.out.2.1 b h1 h
  clear p1 p2 p3 g3 P1 P2 Q3 HG2 b6
  go_wp2_with fail
  go_ret
  exact ⟨ret_int (by push_cast; omega), HR.out, HG3.out⟩

set_option maxHeartbeats 1000000 in
theorem heldValue (d : Vl) (k : Nat) (x : Int) (hx : x = (k : Int)) (W : World) (S : Nat → Prop) (cs : List Value) (hk : k + d.topN ≤ 1099511627776) (h : Ats W S (d.topM k) cs) :
    Calls Try.prog 42 #[.agg cs.toArray, .int .i64 x] W fun r w' => r = .returned (.int .i64 ((k + d.topN : Nat) : Int)) ∧ Later W w' := by
  subst hx
  obtain ⟨k0, n, s, t, l, cl, r, rfl⟩ := Vl.shape d
  rw [Vl.topM] at h
  rw [Vl.topN] at hk ⊢
  cases h with | cons h0 t => cases t with | cons h1 t => cases t with | cons h2 t => cases t with | cons h3 t => cases t with | cons h4 t => cases t with | cons h5 t => cases t with | cons h6 t => cases t with | nil =>
  obtain ⟨rfl, _⟩ := h0.int_inv
  obtain ⟨rfl, _⟩ := h1.int_inv
  obtain ⟨rfl, _⟩ := h2.int_inv
  obtain ⟨rfl, _⟩ := h3.str_inv
  obtain ⟨A1, c1, rfl, g1, g2, _⟩ := h4.sl_inv
  obtain ⟨A2, c2, rfl, g3, g4, _⟩ := h5.sl_inv
  obtain ⟨A3, c3, rfl, g5, g6, _⟩ := h6.sl_inv
  have C1 := fun W' (hW' : Later W W') => heldValueS l k k W' S _ rfl (by rw [flat_len encV_len]) (by show k + cntL l ≤ _; omega) (h4.later hW')
  have C2 := fun W' (hW' : Later W W') => heldStrs cl (k + cntL l) ((k + cntL l : Nat) : Int) W' S _ rfl (by rw [flat_len encS_len]) (by show k + cntL l + cntC cl ≤ _; omega) (h5.later hW')
  have C3 := fun W' (hW' : Later W W') => heldRowS r (k + cntL l + cntC cl) ((k + cntL l + cntC cl : Nat) : Int) W' S _ rfl (by rw [flat_len encR_len]) (by show k + cntL l + cntC cl + cntR r ≤ _; omega) (h6.later hW')
  simp only [show ∀ l : List Vl, Dt.cnts (l.flatMap encV) = cntL l from fun _ => rfl] at C1
  simp only [show ∀ l : List ByteArray, Dt.cnts (l.flatMap encS) = cntC l from fun _ => rfl] at C2
  simp only [show ∀ l : List Rw, Dt.cnts (l.flatMap encR) = cntR l from fun _ => rfl] at C3
  obtain ⟨n1, hn1⟩ : ∃ n, n = cntL l := ⟨_, rfl⟩
  obtain ⟨n2, hn2⟩ : ∃ n, n = cntC cl := ⟨_, rfl⟩
  obtain ⟨n3, hn3⟩ : ∃ n, n = cntR r := ⟨_, rfl⟩
  simp only [← hn1, ← hn2, ← hn3] at C1 C2 C3 hk ⊢
  have H1 := Lib.hid C1; have H2 := Lib.hid C2; have H3 := Lib.hid C3
  have hp1 : (0 : Int) ≤ ((k + n1 : Nat) : Int) := by omega
  have hp2 : (0 : Int) ≤ ((k + n1 + n2 : Nat) : Int) := by omega
  have hp3 : (0 : Int) ≤ ((k + n1 + n2 + n3 : Nat) : Int) := by omega
  clear C1 C2 C3 hn1 hn2 hn3 h0 h1 h2 h3 h4 h5 h6
  go_enter Try.func42, Try.ntmps42
  go_wp2_with fail
  refine (H1.out _ ((Later.rfl' _).alloc _)).mono ?_; rintro e w1 ⟨rfl, hb1⟩
  have b5 := boxN hb1 (j := 5) rfl
  have b6 := boxN hb1 (j := 6) rfl
  have L1 := Lib.hid (((Later.rfl' W).alloc _).trans hb1)
  clear hb1
  go_wp2_with fail
  refine (H2.out _ L1.out).mono ?_; rintro e w2 ⟨rfl, hb2⟩
  have b6' := kept_cell hb2 b6
  have L2 := Lib.hid (L1.out.trans hb2)
  clear hb2 b5 b6 L1
  go_wp2_with fail
  refine (H3.out _ L2.out).mono ?_; rintro e w3 ⟨rfl, hb3⟩
  have L3 := Lib.hid (L2.out.trans hb3)
  clear hb3 b6' L2
  go_wp2_with fail
  go_ret
  exact ⟨ret_int (by push_cast; omega), L3.out⟩
end Go.Proofs.Ytghemlokpfipoaa
