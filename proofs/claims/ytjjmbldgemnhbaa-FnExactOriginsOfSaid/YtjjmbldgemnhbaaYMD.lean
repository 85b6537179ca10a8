/-
  Values: the laws' own equality at equal data: eqIntS, eqOrigin, eqOriginS, eqRow, eqRowS, eqValue, eqValueS. The laws' marks on texts: markText. Marks: what the laws write into what a call owns: markIntS, markOriginS, markStringS, markRowS. Marks: markStringS, markRowS, markValueS, markValue. Marks: markValueS, markValue. Marks that are held: heldIntS, heldOriginS, heldStringS, heldRowS. Marks that are held: heldValueS. Marks of a whole value: markValue, heldValue.
-/
import Derived.Test.YtjjmbldgemnhbaaYD6
import Derived.Deep.QuietTactic
import Derived.BigQuiet
import Derived.StillTailTactics
import Derived.Test.YtjjmbldgemnhbaaYOwn
import Derived.Test.YtjjmbldgemnhbaaYFrame
import Derived.Laws.BytesString
import Derived.Deep.RegionHeld3
namespace Go.Proofs.Ytjjmbldgemnhbaa
open Go.ChangeShapes Go.WideShapes Go.ChangeAt Go.RowKit
set_option linter.unusedVariables false
set_option linter.unusedSimpArgs false
set_option maxRecDepth 100000

theorem eqIntS (l : List Int) (W : World) (S S' : Nat → Prop) (v u : Value) (h : SlAt W S 1 encI l v) (h' : SlAt W S' 1 encI l u) : Calls Try.prog 68 #[v, u] W fun r w' => r = .returned (.bool true) ∧ Later W w' := by
  obtain ⟨A, c, rfl, hlc, hcm⟩ := sl_parts h
  obtain ⟨A', c', rfl, hlc', hcm'⟩ := sl_parts h'
  have HE := Lib.hid h; have HE' := Lib.hid h'; clear h h'
  go_enter Try.func68, Try.ntmps68
  go_wp2
  go_loopw [5] (fun i wr => ∃ j : Nat, j ≤ l.length ∧ i = .int .i64 j ∧ Draws W wr) (fun i _ => l.length - (intOf i).toNat)
  case atStart => exact ⟨0, Nat.zero_le _, rfl, Draws.rfl' _⟩
  case round =>
    obtain ⟨j, hj, rfl, hw⟩ := hrel
    by_cases hlt : j < l.length
    · obtain ⟨b, off, rfl, hb, _, e0, _⟩ := (HE.out.later hw.later).intAt hlt
      obtain ⟨b', off', rfl, hb', _, e0', _⟩ := (HE'.out.later hw.later).intAt hlt
      have hki : (j : Int) < (l.length : Int) := by omega
      obtain ⟨X, hX⟩ : ∃ X, X = l[j] := ⟨_, rfl⟩
      rw [← hX] at e0 e0'
      clear hX
      go_wp2
      go_quiet (fail)
      go_wp2
      go_roundw
      case rel => exact ⟨j + 1, by omega, by go_num, hw.trans (Draws.drewN _ _)⟩
      case measure => simp [intOf]; omega
    · go_wp2
      go_ret
      exact ⟨rfl, hw.later⟩

theorem box2 {W w1 : World} {a b : Array Value} {t u : TypeId} (hb : Later ((W.alloc (.cells a t)).alloc (.cells b u)) w1) :
    Box w1 W.heap.size a.toList ∧ Box w1 (W.heap.size + 1) b.toList ∧ W.heap.size + 2 ≤ w1.heap.size ∧ Later W w1 := by
  have h1 := ((box_alloc W a t).later ((Later.rfl' _).alloc (.cells b u))).later hb
  have h2 := (box_alloc (W.alloc (.cells a t)) b u).later hb
  have hs := hb.size
  simp only [World.size_alloc] at h2 hs
  exact ⟨h1, h2, by omega, (((Later.rfl' _).alloc _).alloc _).trans hb⟩

theorem eqOrigin (a b : Int) (W : World) : Calls Try.prog 23 #[.agg #[.int .i64 a, .int .i64 b], .agg #[.int .i64 a, .int .i64 b]] W fun r w' => r = .returned (.bool true) ∧ Later W w' := by
  go_enter Try.func23, Try.ntmps23
  go_wp2_with fail
  go_ret
  exact ⟨rfl, ((Later.rfl' _).alloc _).alloc _⟩

theorem eqOriginS (l : List Org) (W : World) (S S' : Nat → Prop) (v u : Value) (h : SlAt W S 2 encO l v) (h' : SlAt W S' 2 encO l u) : Calls Try.prog 9 #[v, u] W fun r w' => r = .returned (.bool true) ∧ Later W w' := by
  obtain ⟨A, c, rfl, hlc, hcm⟩ := sl_parts h
  obtain ⟨A', c', rfl, hlc', hcm'⟩ := sl_parts h'
  have HE := Lib.hid h; have HE' := Lib.hid h'; clear h h'
  go_enter Try.func9, Try.ntmps9
  go_wp2
  go_loopw [5] (fun i wr => ∃ j : Nat, j ≤ l.length ∧ i = .int .i64 j ∧ Later W wr) (fun i _ => l.length - (intOf i).toNat)
  case atStart => exact ⟨0, Nat.zero_le _, rfl, Later.rfl' _⟩
  case round =>
    obtain ⟨j, hj, rfl, hw⟩ := hrel
    by_cases hlt : j < l.length
    · obtain ⟨b, off, rfl, hb, _, e0, e1, _⟩ := (HE.out.later hw).origAt hlt
      obtain ⟨b', off', rfl, hb', _, e0', e1', _⟩ := (HE'.out.later hw).origAt hlt
      have hki : (j : Int) < (l.length : Int) := by omega
      obtain ⟨X, hX⟩ : ∃ X, X = l[j] := ⟨_, rfl⟩
      rw [← hX] at e0 e0' e1 e1'
      have HW := Lib.hid hw
      clear hX hw
      go_wp2
      go_still_tail 8, (by kernel_rfl)
      go_wp2_with fail
      refine (eqOrigin _ _ _).mono ?_; rintro r w1 ⟨rfl, hb1⟩
      go_wp2_with fail
      go_roundw
      case rel => exact ⟨j + 1, by omega, by go_num, HW.out.trans ((Later.rfl' _).drew.trans hb1)⟩
      case measure => simp [intOf]; omega
    · go_wp2
      go_ret
      exact ⟨rfl, hw⟩

theorem eqRow (x : Rw) (W : World) (S S' : Nat → Prop) (cs cs' : List Value) (h : Ats W S (encR x) cs) (h' : Ats W S' (encR x) cs') : Calls Try.prog 44 #[.agg cs.toArray, .agg cs'.toArray] W fun r w' => r = .returned (.bool true) ∧ Later W w' := by
  obtain ⟨A, c, A', c', rfl, _, _, g1, g2⟩ := h.row
  obtain ⟨B, d, B', d', rfl, _, _, k1, k2⟩ := h'.row
  have C1 := fun W' (hW' : Later W W') => eqIntS x.cells W' S S' _ _ (g1.later hW') (k1.later hW')
  have C2 := fun W' (hW' : Later W W') => eqOriginS x.from_ W' S S' _ _ (g2.later hW') (k2.later hW')
  have H1 := Lib.hid C1
  have H2 := Lib.hid C2
  clear C1 C2 g1 g2 k1 k2 h h'
  go_enter Try.func44, Try.ntmps44
  go_wp2_with fail
  refine (H1.out _ (((Later.rfl' _).alloc _).alloc _)).mono ?_; rintro e w1 ⟨rfl, hb1⟩
  obtain ⟨P, Q, hs, L⟩ := box2 hb1
  have p1 := P.cell (j := 1) rfl
  have q1 := Q.cell (j := 1) rfl
  have HL := Lib.hid L
  clear hb1 P Q hs L
  go_wp2_with fail
  refine (H2.out _ HL.out).mono ?_; rintro e w2 ⟨rfl, hb2⟩
  go_wp2_with fail
  go_ret
  exact ⟨rfl, HL.out.trans hb2⟩

def EqQ (d : Vl) : Prop := ∀ (W : World) (S S' : Nat → Prop) (cs cs' : List Value), Ats W S (encV d) cs → Ats W S' (encV d) cs' → Calls Try.prog 16 #[.agg cs.toArray, .agg cs'.toArray] W fun r w' => r = .returned (.bool true) ∧ Later W w'
def EqRQ (d : Rw) : Prop := ∀ (W : World) (S S' : Nat → Prop) (cs cs' : List Value), Ats W S (encR d) cs → Ats W S' (encR d) cs' → Calls Try.prog 44 #[.agg cs.toArray, .agg cs'.toArray] W fun r w' => r = .returned (.bool true) ∧ Later W w'


theorem eqRowS (l : List Rw) (hq : ∀ x, x ∈ l → EqRQ x) (W : World) (S S' : Nat → Prop) (v u : Value) (h : SlAt W S 2 encR l v) (h' : SlAt W S' 2 encR l u) : Calls Try.prog 32 #[v, u] W fun r w' => r = .returned (.bool true) ∧ Later W w' := by
  obtain ⟨A, c, rfl, hlc, hcm⟩ := sl_parts h
  obtain ⟨A', c', rfl, hlc', hcm'⟩ := sl_parts h'
  have HE := Lib.hid h; have HE' := Lib.hid h'; clear h h'
  have HQ := Lib.hid hq; clear hq
  go_enter Try.func32, Try.ntmps32
  go_wp2
  go_loopw [5] (fun i wr => ∃ j : Nat, j ≤ l.length ∧ i = .int .i64 j ∧ Later W wr) (fun i _ => l.length - (intOf i).toNat)
  case atStart => exact ⟨0, Nat.zero_le _, rfl, Later.rfl' _⟩
  case round =>
    obtain ⟨j, hj, rfl, hw⟩ := hrel
    by_cases hlt : j < l.length
    · obtain ⟨b, off, A1, c1, A2, c2, rfl, hb, _, hx, e0, e1⟩ := (HE.out.later hw).rowAt hlt
      obtain ⟨b', off', B1, d1, B2, d2, rfl, hb', _, hx', g0, g1⟩ := (HE'.out.later hw).rowAt hlt
      have C := fun W' (hW' : Later _ W') => HQ.out l[j] (List.getElem_mem hlt) W' S S' _ _ (hx.later hW') (hx'.later hW')
      have hki : (j : Int) < (l.length : Int) := by omega
      have HC := Lib.hid C
      have HW := Lib.hid hw
      clear C hw hx hx'
      go_wp2
      go_still_tail 8, (by kernel_rfl)
      go_wp2_with fail
      refine (HC.out _ (Later.rfl' _).drew).mono ?_; rintro r w1 ⟨rfl, hb1⟩
      go_wp2_with fail
      go_roundw
      case rel => exact ⟨j + 1, by omega, by go_num, HW.out.trans ((Later.rfl' _).drew.trans hb1)⟩
      case measure => simp [intOf]; omega
    · go_wp2
      go_ret
      exact ⟨rfl, hw⟩

theorem eqValueS (l : List Vl) (hq : ∀ x, x ∈ l → EqQ x) (W : World) (S S' : Nat → Prop) (v u : Value) (h : SlAt W S 7 encV l v) (h' : SlAt W S' 7 encV l u) : Calls Try.prog 30 #[v, u] W fun r w' => r = .returned (.bool true) ∧ Later W w' := by
  obtain ⟨A, c, rfl, hlc, hcm⟩ := sl_parts h
  obtain ⟨A', c', rfl, hlc', hcm'⟩ := sl_parts h'
  have HE := Lib.hid h; have HE' := Lib.hid h'; clear h h'
  have HQ := Lib.hid hq; clear hq
  go_enter Try.func30, Try.ntmps30
  go_wp2
  go_loopw [5] (fun i wr => ∃ j : Nat, j ≤ l.length ∧ i = .int .i64 j ∧ Later W wr) (fun i _ => l.length - (intOf i).toNat)
  case atStart => exact ⟨0, Nat.zero_le _, rfl, Later.rfl' _⟩
  case round =>
    obtain ⟨j, hj, rfl, hw⟩ := hrel
    by_cases hlt : j < l.length
    · obtain ⟨b, off, y0, y1, y2, y3, A1, n1, c1, A2, n2, c2, A3, n3, c3, rfl, hb, _, hx, e0, e1, e2, e3, e4, e5, e6⟩ := (HE.out.later hw).valAt hlt
      obtain ⟨b', off', z0, z1, z2, z3, B1, m1, d1, B2, m2, d2, B3, m3, d3, rfl, hb', _, hx', g0, g1, g2, g3, g4, g5, g6⟩ := (HE'.out.later hw).valAt hlt
      have C := fun W' (hW' : Later _ W') => HQ.out l[j] (List.getElem_mem hlt) W' S S' _ _ (hx.later hW') (hx'.later hW')
      have hki : (j : Int) < (l.length : Int) := by omega
      have HC := Lib.hid C
      have HW := Lib.hid hw
      clear C hw hx hx'
      go_wp2
      go_still_tail 8, (by kernel_rfl)
      go_wp2_with fail
      refine (HC.out _ (Later.rfl' _).drew).mono ?_; rintro r w1 ⟨rfl, hb1⟩
      go_wp2_with fail
      go_roundw
      case rel => exact ⟨j + 1, by omega, by go_num, HW.out.trans ((Later.rfl' _).drew.trans hb1)⟩
      case measure => simp [intOf]; omega
    · go_wp2
      go_ret
      exact ⟨rfl, hw⟩

theorem eqStrs (l : List ByteArray) (W : World) (S S' : Nat → Prop) (v u : Value) (h : SlAt W S 1 encS l v) (h' : SlAt W S' 1 encS l u) : Calls Try.prog 31 #[v, u] W fun r w' => r = .returned (.bool true) ∧ Later W w' := by
  refine (eqStringS v u l l W (sl_strs h) (sl_strs h')).mono ?_
  rintro r w' ⟨rfl, hd⟩
  exact ⟨by simp [eqS], hd.later⟩

theorem eqValue : ∀ d, EqQ d := by
  refine Vl.ind fun k n s t l cl r ih W S S' cs cs' h h' => ?_
  obtain ⟨A1, c1, A2, c2, A3, c3, rfl, hb4, ⟨p1, q1⟩, ⟨p2, q2⟩, ⟨p3, q3⟩, g1, g2, g3⟩ := h.val
  obtain ⟨B1, d1, B2, d2, B3, d3, rfl, _, ⟨p1', q1'⟩, ⟨p2', q2'⟩, ⟨p3', q3'⟩, k1, k2, k3⟩ := h'.val
  have C1 := fun W' (hW' : Later W W') => eqValueS l ih W' S S' _ _ (g1.later hW') (k1.later hW')
  have C2 := fun W' (hW' : Later W W') => eqStrs cl W' S S' _ _ (g2.later hW') (k2.later hW')
  have C3 := fun W' (hW' : Later W W') => eqRowS r (fun x _ => eqRow x) W' S S' _ _ (g3.later hW') (k3.later hW')
  have H1 := Lib.hid C1
  have H2 := Lib.hid C2
  have H3 := Lib.hid C3
  clear C1 C2 C3 g1 g2 g3 k1 k2 k3 h h' ih hb4
  go_enter Try.func16, Try.ntmps16
  go_wp2_with fail
  refine (H1.out _ (((Later.rfl' _).alloc _).alloc _)).mono ?_; rintro e w1 ⟨rfl, hb1⟩
  obtain ⟨P, Q, hs, L⟩ := box2 hb1
  have a1 := P.cell (j := 5) rfl
  have a2 := Q.cell (j := 5) rfl
  have HP := Lib.hid P; have HQ := Lib.hid Q
  have HL := Lib.hid L
  clear hb1 P Q hs L
  go_wp2_with fail
  refine (H2.out _ HL.out).mono ?_; rintro e w2 ⟨rfl, hb2⟩
  have b1 := (HP.out.later hb2).cell (j := 6) rfl
  have b2 := (HQ.out.later hb2).cell (j := 6) rfl
  replace HL := Lib.hid (HL.out.trans hb2)
  clear hb2 a1 a2
  go_wp2_with fail
  refine (H3.out _ HL.out).mono ?_; rintro e w3 ⟨rfl, hb3⟩
  go_wp2_with fail
  go_ret
  exact ⟨rfl, HL.out.trans hb3⟩
end Go.Proofs.Ytjjmbldgemnhbaa
namespace Go.Proofs.Ytjjmbldgemnhbaa
open Go.ChangeShapes Go.WideShapes Go.ChangeAt Go.RowKit
set_option linter.unusedVariables false
set_option linter.unusedSimpArgs false

/-- A number's digits. -/
def digB (k : Nat) : ByteArray := if h : k = 0 then ByteArray.empty else digB (k / 10) ++ ⟨#[UInt8.ofNat (48 + k % 10)]⟩
decreasing_by omega
theorem digB_zero : digB 0 = ByteArray.empty := by unfold digB; rw [dif_pos rfl]
theorem digB_pos {k : Nat} (h : 0 < k) : digB k = digB (k / 10) ++ ⟨#[UInt8.ofNat (48 + k % 10)]⟩ := by
  conv => lhs; unfold digB
  rw [dif_neg (by omega)]
theorem size_digB (k : Nat) : (digB k).size ≤ k := by
  induction k using Nat.strongRecOn with
  | _ k ih =>
    rcases Nat.eq_zero_or_pos k with h | h
    · subst h; rw [digB_zero]; exact Nat.le_refl _
    · rw [digB_pos h, ByteArray.size_append]
      have := ih (k / 10) (by omega)
      have e : (ByteArray.mk #[UInt8.ofNat (48 + k % 10)]).size = 1 := rfl
      rw [e]
      omega
def markB (k : Nat) : ByteArray := if k = 0 then ⟨#[109, 48]⟩ else ⟨#[109]⟩ ++ digB k

/-- One byte as a string. -/
theorem conv_byte (w : World) (j : Nat) (hj : j < 256) : (convert 105 9 (.slice (some ⟨w.heap.size, 0, none⟩) 1 1)).run Try.prog (w.alloc (.cells #[.int .u8 (j : Int)] 5)) = .ok (.string ⟨#[UInt8.ofNat j]⟩) (w.alloc (.cells #[.int .u8 (j : Int)] 5)) := by
  rw [run_convert_bytes_string _ _ _ 5 _ _ _ Try.underlying105 Try.underlying5 Try.underlying9]
  rw [run_bytesToString _ _ 1 1 [(j : Int)] (by simp [loadCells, loadCellsFrom, Addr.add])]
  rfl

theorem markText (k : Nat) (W : World) (hk : k ≤ 1099511627776) : Calls Try.prog 45 #[.int .i64 k] W fun r w' => r = .returned (.string (markB k)) ∧ Later W w' := by
  rcases Nat.eq_zero_or_pos k with h0 | h0
  · subst h0
    go_enter Try.func45, Try.ntmps45
    go_wp2
    go_ret
    exact ⟨rfl, Later.rfl' _⟩
  · have hp : (0 : Int) < (k : Int) := by omega
    have HV : Hid (markB k = ⟨#[109]⟩ ++ digB k) := by unfold Hid markB; rw [if_neg (by omega)]
    have hsz := size_digB k
    go_enter Try.func45, Try.ntmps45
    go_wp2_with fail
    go_loopw [0, 3] (fun n o wr => ∃ (j : Nat) (s : ByteArray), n = .int .i64 j ∧ o = .string s ∧ digB j ++ s = digB k ∧ j ≤ k ∧ Later W wr) (fun n _ _ => (intOf n).toNat)
    case atStart => exact ⟨k, ByteArray.empty, rfl, rfl, by simp, Nat.le_refl _, Later.rfl' _⟩
    case round =>
      obtain ⟨j, s, rfl, rfl, hs, hj, hw⟩ := hrel
      have hss : s.size ≤ 1099511627776 := by have := congrArg ByteArray.size hs; rw [ByteArray.size_append] at this; omega
      by_cases hj0 : 0 < j
      · have hjp : (0 : Int) < (j : Int) := by omega
        rw [digB_pos hj0] at hs
        have hcv := conv_byte wr (48 + j % 10) (by omega)
        rw [show (((48 + j % 10 : Nat)) : Int) = 48 + (j : Int) % 10 by omega] at hcv
        obtain ⟨D, hD⟩ : ∃ D, D = ByteArray.mk #[UInt8.ofNat (48 + j % 10)] := ⟨_, rfl⟩
        have hDs : D.size = 1 := by rw [hD]; rfl
        rw [← hD] at hcv hs
        clear hD
        have HS := Lib.hid hs
        have HW := Lib.hid hw
        clear hs hw
        go_wp2_with fail
        go_roundw
        case rel => exact ⟨j / 10, D ++ s, by go_num, rfl, by rw [← ByteArray.append_assoc]; exact HS.out, by omega, HW.out.trans ((Later.rfl' _).alloc _)⟩
        case measure => simp [intOf]; omega
      · have : j = 0 := by omega
        subst this
        rw [digB_zero] at hs
        have hs2 : s = digB k := by simpa using hs
        clear hs
        subst hs2
        go_wp2_with fail
        go_ret
        exact ⟨by rw [HV.out]; rfl, hw⟩

end Go.Proofs.Ytjjmbldgemnhbaa
namespace Go.Proofs.Ytjjmbldgemnhbaa
open Go.ChangeShapes Go.WideShapes Go.ChangeAt Go.RowKit
set_option linter.unusedVariables false
set_option linter.unusedSimpArgs false

/-- A slice of which the first p cells are marked from k on. -/
def OwnMix (w : World) (S : Nat → Prop) (s n : Nat) (ds : List Dt) (k p : Nat) (v : Value) : Prop := Own w S (.sl s n (mixd ds (Dt.marks markB ds k) p)) v
theorem OwnMix.later {w w' : World} {S : Nat → Prop} {s n : Nat} {ds : List Dt} {k p : Nat} {v : Value} (h : OwnMix w S s n ds k p v) (hb : Later w w') : OwnMix w' S s n ds k p v := Own.later h hb
theorem OwnMix.start {w : World} {S : Nat → Prop} {s n : Nat} {ds : List Dt} {v : Value} (h : Own w S (.sl s n ds) v) (k : Nat) : OwnMix w S s n ds k 0 v := by
  unfold OwnMix
  rw [mixd_zero]
  exact h
theorem OwnMix.done {w : World} {S : Nat → Prop} {s n : Nat} {ds : List Dt} {k : Nat} {v : Value} (h : OwnMix w S s n ds k ds.length v) : Own w S (.sl s n (Dt.marks markB ds k)) v := by
  unfold OwnMix at h
  rw [mixd_all (length_marks markB ds k)] at h
  exact h
/-- A cell lies, and may be written. -/
theorem OwnMix.cell {w : World} {S : Nat → Prop} {s n c : Nat} {A : Option Addr} {ds : List Dt} {k p i : Nat} {d : Dt} (h : OwnMix w S s n ds k p (.slice A n c)) (hp : p ≤ i) (hd : ds[i]? = some d) :
    ∃ g u, A = some ⟨g, 0, none⟩ ∧ S g ∧ g < w.heap.size ∧ w.cell? ⟨g, i, none⟩ = some u ∧ w.frozen? ⟨g, i, none⟩ = false := by
  have hi : i < ds.length := (List.getElem?_eq_some_iff.1 hd).1
  obtain ⟨g, u, e, h1, h2, h3, h4, _⟩ := Own.cell h (i := i) (d := d) (by rw [mixd_get (length_marks markB ds k) hp (by omega)]; exact hd)
  exact ⟨g, u, e, h1, h2, h3, h4⟩
theorem between_small {n : Nat} (h : n ≤ 1099511627776) : Between64 (n : Int) := by unfold Between64; omega
theorem OwnMix.int {w : World} {S : Nat → Prop} {s n c g : Nat} {ds : List Dt} {k p : Nat} {m x : Int} (h : OwnMix w S s n ds k p (.slice (some ⟨g, 0, none⟩) n c)) (hd : ds[p]? = some (.int m)) (hx : x = ((k + Dt.cnts (ds.take p) : Nat) : Int)) (hb : k + Dt.cnts (ds.take p) ≤ 1099511627776) :
    OwnMix (w.setCell ⟨g, p, none⟩ (.int .i64 x)) S s n ds k (p + 1) (.slice (some ⟨g, 0, none⟩) n c) := by
  have hi : p < ds.length := (List.getElem?_eq_some_iff.1 hd).1
  obtain ⟨g', u, e, _, _, _, _, T, _, _, _, _, hst⟩ := Own.cell h (i := p) (d := .int m) (by rw [mixd_get (length_marks markB ds k) (Nat.le_refl _) (by omega)]; exact hd)
  simp only [Option.some.injEq, Addr.mk.injEq, and_true] at e
  subst e
  have := hst (.int x) (.int .i64 x) fun T w' => .int _ _ (by rw [hx]; exact between_small hb)
  unfold OwnMix
  rw [← mixd_set (length_marks markB ds k) (p := p) (d := .int x) (by rw [get_marks, hd, hx]; rfl)]
  exact this
theorem OwnMix.str {w : World} {S : Nat → Prop} {s n c g : Nat} {ds : List Dt} {k p : Nat} {m x : ByteArray} (h : OwnMix w S s n ds k p (.slice (some ⟨g, 0, none⟩) n c)) (hd : ds[p]? = some (.str m)) (hx : x = markB (k + Dt.cnts (ds.take p))) (hb : x.size ≤ 9223372036854775807) :
    OwnMix (w.setCell ⟨g, p, none⟩ (.string x)) S s n ds k (p + 1) (.slice (some ⟨g, 0, none⟩) n c) := by
  have hi : p < ds.length := (List.getElem?_eq_some_iff.1 hd).1
  obtain ⟨g', u, e, _, _, _, _, T, _, _, _, _, hst⟩ := Own.cell h (i := p) (d := .str m) (by rw [mixd_get (length_marks markB ds k) (Nat.le_refl _) (by omega)]; exact hd)
  simp only [Option.some.injEq, Addr.mk.injEq, and_true] at e
  subst e
  have := hst (.str x) (.string x) fun T w' => .str _ _ hb
  unfold OwnMix
  rw [← mixd_set (length_marks markB ds k) (p := p) (d := .str x) (by rw [get_marks, hd, hx]; rfl)]
  exact this
theorem OwnMix.sub {w : World} {S : Nat → Prop} {s n c : Nat} {A : Option Addr} {ds : List Dt} {k p : Nat} {s' n' : Nat} {ds' : List Dt} (h : OwnMix w S s n ds k p (.slice A n c)) (hd : ds[p]? = some (.sl s' n' ds')) :
    ∃ g A' c' T, A = some ⟨g, 0, none⟩ ∧ S g ∧ w.cell? ⟨g, p, none⟩ = some (.slice A' n' c') ∧ n' ≤ c' ∧ c' ≤ 9223372036854775807 ∧ (∀ b, T b → S b) ∧ Own w T (.sl s' n' ds') (.slice A' n' c') ∧
      ∀ w', Own w' T (.sl s' n' (Dt.marks markB ds' (k + Dt.cnts (ds.take p)))) (.slice A' n' c') → Chg T w w' → OwnMix w' S s n ds k (p + 1) (.slice A n c) := by
  have hi : p < ds.length := (List.getElem?_eq_some_iff.1 hd).1
  obtain ⟨g, u, e, h1, h2, h3, h4, T, h5, h6, h7, h8, _⟩ := Own.cell h (i := p) (d := .sl s' n' ds') (by rw [mixd_get (length_marks markB ds k) (Nat.le_refl _) (by omega)]; exact hd)
  obtain ⟨A', c', rfl, g1, g2, _⟩ := h7.at_.sl_inv
  refine ⟨g, A', c', T, e, h1, h3, g1, g2, h5, h7, fun w' ho hc => ?_⟩
  have := h8 w' _ ho hc
  unfold OwnMix
  rw [← mixd_set (length_marks markB ds k) (p := p) (d := .sl s' n' (Dt.marks markB ds' (k + Dt.cnts (ds.take p)))) (by rw [get_marks, hd]; rfl)]
  exact this
theorem own_shape' {w : World} {S : Nat → Prop} {s n : Nat} {ds : List Dt} {v : Value} (h : Own w S (.sl s n ds) v) : ∃ A c, v = .slice A n c ∧ n ≤ c ∧ c ≤ 9223372036854775807 ∧ ds.length = n * s := h.at_.sl_inv

/-- What a marking function does. -/
def MarksQ (fn : FuncId) (s n : Nat) (ds : List Dt) : Prop := ∀ (k : Nat) (W : World) (S : Nat → Prop) (v : Value), k + Dt.cnts ds ≤ 1099511627776 → Own W S (.sl s n ds) v →
  Calls Try.prog fn #[v, .int .i64 k] W fun r w' => r = .returned (.int .i64 ((k + Dt.cnts ds : Nat) : Int)) ∧ Own w' S (.sl s n (Dt.marks markB ds k)) v ∧ Chg S W w'

theorem markIntS (l : List Int) : MarksQ 46 1 l.length (l.flatMap encI) := by
  intro k W S v hk h
  obtain ⟨A, c, rfl, h1, h2, hl⟩ := own_shape' h
  have H0 := Lib.hid (OwnMix.start h k)
  obtain ⟨ds, hds⟩ : ∃ ds, ds = l.flatMap encI := ⟨_, rfl⟩
  have hget : ∀ j (hj : j < l.length), ds[j]? = some (.int l[j]) := fun j hj => by rw [hds]; have := flat_get encI_len l hj (show 0 < 1 by omega); simpa [encI] using this
  rw [← hds] at H0 hk hl ⊢
  have HG := Lib.hid hget
  have HL := Lib.hid hl
  clear h hget hds hl
  go_enter Try.func46, Try.ntmps46
  go_wp2_with fail
  go_loopw [1, 5] (fun s i wr => ∃ j K : Nat, j ≤ l.length ∧ i = .int .i64 j ∧ s = .int .i64 (K : Int) ∧ K = k + Dt.cnts (ds.take j) ∧ OwnMix wr S 1 l.length ds k j (.slice A l.length c) ∧ Chg S W wr) (fun _ i _ => l.length - (intOf i).toNat)
  case atStart => exact ⟨0, k, Nat.zero_le _, rfl, rfl, by simp [Dt.cnts], H0.out, Chg.rfl' _ _⟩
  case round =>
    obtain ⟨j, K, hj, rfl, rfl, hK, ho, hc⟩ := hrel
    by_cases hlt : j < l.length
    · have hd := HG.out j hlt
      obtain ⟨g, u, rfl, hS, hg, e0, f0⟩ := ho.cell (Nat.le_refl _) hd
      have hle := cnts_le ds j
      have hsuc := cnts_succ hd
      have o1 := ho.int hd (x := (K : Int)) (by rw [hK]) (by omega)
      have hK1 : K + 1 = k + Dt.cnts (ds.take (j + 1)) := by rw [hsuc, hK]; rfl
      have hKb : K ≤ 1099511627776 := by omega
      have HR := Lib.hid o1
      have HK := Lib.hid hK1
      have HC := Lib.hid (hc.set (o := j) (u := .int .i64 K) hS)
      clear o1 hK1 hsuc hle hK ho hc hd
      go_wp2_with fail
      go_roundw
      case rel => exact ⟨j + 1, K + 1, by omega, by go_num, by go_num, HK.out, HR.out, HC.out⟩
      case measure => simp [intOf]; omega
    · have e : j = ds.length := by have := HL.out; omega
      rw [e, List.take_length] at hK
      rw [e] at ho
      have HR := Lib.hid ho.done
      have HK := Lib.hid hK
      have HC := Lib.hid hc
      clear ho hc e hK
      go_wp2_with fail
      go_ret
      exact ⟨ret_int (by rw [HK.out]), HR.out, HC.out⟩

theorem markOriginS (l : List Org) : MarksQ 10 2 l.length (l.flatMap encO) := by
  intro k W S v hk h
  obtain ⟨A, c, rfl, h1, h2, hl⟩ := own_shape' h
  have H0 := Lib.hid (OwnMix.start h k)
  obtain ⟨ds, hds⟩ : ∃ ds, ds = l.flatMap encO := ⟨_, rfl⟩
  have hget0 : ∀ j (hj : j < l.length), ds[j * 2]? = some (.int l[j].1) := fun j hj => by rw [hds]; have := flat_get encO_len l hj (show 0 < 2 by omega); simpa [encO] using this
  have hget1 : ∀ j (hj : j < l.length), ds[j * 2 + 1]? = some (.int l[j].2) := fun j hj => by rw [hds]; have := flat_get encO_len l hj (show 1 < 2 by omega); simpa [encO] using this
  rw [← hds] at H0 hk hl ⊢
  have HG0 := Lib.hid hget0
  have HG1 := Lib.hid hget1
  have HL := Lib.hid hl
  clear h hget0 hget1 hds hl
  go_enter Try.func10, Try.ntmps10
  go_wp2_with fail
  go_loopw [1, 5] (fun s i wr => ∃ j K : Nat, j ≤ l.length ∧ i = .int .i64 j ∧ s = .int .i64 (K : Int) ∧ K = k + Dt.cnts (ds.take (j * 2)) ∧ OwnMix wr S 2 l.length ds k (j * 2) (.slice A l.length c) ∧ Chg S W wr) (fun _ i _ => l.length - (intOf i).toNat)
  case atStart => exact ⟨0, k, Nat.zero_le _, rfl, rfl, by simp [Dt.cnts], by simpa using H0.out, Chg.rfl' _ _⟩
  case round =>
    obtain ⟨j, K, hj, rfl, rfl, hK, ho, hc⟩ := hrel
    by_cases hlt : j < l.length
    · have hd0 := HG0.out j hlt
      have hd1 := HG1.out j hlt
      obtain ⟨g, u, rfl, hS, hg, e0, f0⟩ := ho.cell (Nat.le_refl _) hd0
      obtain ⟨g', u', eg, _, _, e1, f1⟩ := ho.cell (Nat.le_succ _) hd1
      simp only [Option.some.injEq, Addr.mk.injEq, and_true] at eg
      subst eg
      have hle := cnts_le ds (j * 2 + 1)
      have hs0 := cnts_succ hd0
      have hs1 := cnts_succ hd1
      simp only [Dt.cnt] at hs0 hs1
      have o1 := ho.int hd0 (x := (K : Int)) (by rw [hK]) (by omega)
      have o2 := o1.int hd1 (x := (K : Int) + 1) (by rw [hs0, hK]; omega) (by omega)
      have hK1 : K + 1 + 1 = k + Dt.cnts (ds.take ((j + 1) * 2)) := by rw [show (j + 1) * 2 = j * 2 + 1 + 1 by omega, hs1, hs0, hK]; omega
      have hKb : K ≤ 1099511627776 := by omega
      have HR := Lib.hid o2
      have HK := Lib.hid hK1
      have HC := Lib.hid ((hc.set (o := j * 2) (u := .int .i64 K) hS).set (o := j * 2 + 1) (u := .int .i64 ((K : Int) + 1)) hS)
      clear o1 o2 hK1 hs0 hs1 hle hK ho hc hd0 hd1
      go_wp2_with fail
      go_roundw
      case rel => exact ⟨j + 1, K + 1 + 1, by omega, by go_num, by go_num, HK.out, by rw [show (j + 1) * 2 = j * 2 + 1 + 1 by omega]; exact HR.out, HC.out⟩
      case measure => simp [intOf]; omega
    · have e : j * 2 = ds.length := by have := HL.out; omega
      rw [e, List.take_length] at hK
      rw [e] at ho
      have HR := Lib.hid ho.done
      have HK := Lib.hid hK
      have HC := Lib.hid hc
      clear ho hc e hK
      go_wp2_with fail
      go_ret
      exact ⟨ret_int (by rw [HK.out]), HR.out, HC.out⟩
end Go.Proofs.Ytjjmbldgemnhbaa
namespace Go.Proofs.Ytjjmbldgemnhbaa
open Go.ChangeShapes Go.WideShapes Go.ChangeAt Go.RowKit
set_option linter.unusedVariables false
set_option linter.unusedSimpArgs false

theorem size_markB (k : Nat) : (markB k).size ≤ k + 2 := by
  unfold markB
  split
  · show 2 ≤ _; omega
  · rw [ByteArray.size_append]
    have := size_digB k
    show 1 + _ ≤ _
    omega
theorem markTextX (x : Int) (k : Nat) (hx : x = (k : Int)) (hk : k ≤ 1099511627776) (W : World) : Calls Try.prog 45 #[.int .i64 x] W fun r w' => r = .returned (.string (markB k)) ∧ Later W w' := by
  subst hx
  exact markText k W hk

theorem markStrs (l : List ByteArray) : MarksQ 34 1 l.length (l.flatMap encS) := by
  intro k W S v hk h
  obtain ⟨A, c, rfl, h1, h2, hl⟩ := own_shape' h
  have H0 := Lib.hid (OwnMix.start h k)
  obtain ⟨ds, hds⟩ : ∃ ds, ds = l.flatMap encS := ⟨_, rfl⟩
  have hget : ∀ j (hj : j < l.length), ds[j]? = some (.str l[j]) := fun j hj => by rw [hds]; have := flat_get encS_len l hj (show 0 < 1 by omega); simpa [encS] using this
  rw [← hds] at H0 hk hl ⊢
  have HG := Lib.hid hget
  have HL := Lib.hid hl
  clear h hget hds hl
  go_enter Try.func34, Try.ntmps34
  go_wp2_with fail
  go_loopw [1, 5] (fun s i wr => ∃ j K : Nat, j ≤ l.length ∧ i = .int .i64 j ∧ s = .int .i64 (K : Int) ∧ K = k + Dt.cnts (ds.take j) ∧ OwnMix wr S 1 l.length ds k j (.slice A l.length c) ∧ Chg S W wr) (fun _ i _ => l.length - (intOf i).toNat)
  case atStart => exact ⟨0, k, Nat.zero_le _, rfl, rfl, by simp [Dt.cnts], H0.out, Chg.rfl' _ _⟩
  case round =>
    obtain ⟨j, K, hj, rfl, rfl, hK, ho, hc⟩ := hrel
    by_cases hlt : j < l.length
    · have hd := HG.out j hlt
      obtain ⟨g, u, rfl, hS, hg, e0, f0⟩ := ho.cell (Nat.le_refl _) hd
      have hle := cnts_le ds j
      have hsuc := cnts_succ hd
      have hK1 : K + 1 = k + Dt.cnts (ds.take (j + 1)) := by rw [hsuc, hK]; rfl
      have hKb : K ≤ 1099511627776 := by omega
      have C := markText K wr hKb
      have hsz := size_markB K
      obtain ⟨M, hM⟩ : ∃ M, M = markB K := ⟨_, rfl⟩
      rw [← hM] at C hsz
      rw [hK] at hM
      have HM := Lib.hid hM
      have HK := Lib.hid hK1
      have HCC := Lib.hid C
      have HO := Lib.hid ho
      have HCH := Lib.hid hc
      have HD := Lib.hid hd
      have HS := Lib.hid hS
      clear hK1 hsuc hle hK ho hc hd C hM e0 f0
      go_wp2_with fail
      refine HCC.out.mono ?_; rintro r w1 ⟨rfl, hb1⟩
      have ho1 := HO.out.later hb1
      obtain ⟨g', u', eg, _, _, e0, f0⟩ := ho1.cell (Nat.le_refl _) HD.out
      simp only [Option.some.injEq, Addr.mk.injEq, and_true] at eg
      subst eg
      have HR := Lib.hid (ho1.str HD.out HM.out (by omega))
      have HC := Lib.hid ((HCH.out.trans (hb1.chg S)).set (o := j) (u := .string M) HS.out)
      clear ho1 hb1
      go_wp2_with fail
      go_roundw
      case rel => exact ⟨j + 1, K + 1, by omega, by go_num, by go_num, HK.out, HR.out, HC.out⟩
      case measure => simp [intOf]; omega
    · have e : j = ds.length := by have := HL.out; omega
      rw [e, List.take_length] at hK
      rw [e] at ho
      have HR := Lib.hid ho.done
      have HK := Lib.hid hK
      have HC := Lib.hid hc
      clear ho hc e hK
      go_wp2_with fail
      go_ret
      exact ⟨ret_int (by rw [HK.out]), HR.out, HC.out⟩

theorem marksQ_at {fn : FuncId} {s n : Nat} {ds : List Dt} (h : MarksQ fn s n ds) {x : Int} (k : Nat) (hx : x = (k : Int)) (hk : k + Dt.cnts ds ≤ 1099511627776) {W : World} {S : Nat → Prop} {v : Value} (ho : Own W S (.sl s n ds) v) :
    Calls Try.prog fn #[v, .int .i64 x] W fun r w' => r = .returned (.int .i64 ((k + Dt.cnts ds : Nat) : Int)) ∧ Own w' S (.sl s n (Dt.marks markB ds k)) v ∧ Chg S W w' := by
  subst hx
  exact h k W S v hk ho

theorem markRowS (l : List Rw) : MarksQ 35 2 l.length (l.flatMap encR) := by
  intro k W S v hk h
  obtain ⟨A, c, rfl, h1, h2, hl⟩ := own_shape' h
  have H0 := Lib.hid (OwnMix.start h k)
  obtain ⟨ds, hds⟩ : ∃ ds, ds = l.flatMap encR := ⟨_, rfl⟩
  have hget0 : ∀ j (hj : j < l.length), ds[j * 2]? = some (.sl 1 l[j].cells.length (l[j].cells.flatMap encI)) := fun j hj => by rw [hds]; have := flat_get encR_len l hj (show 0 < 2 by omega); simpa [encR] using this
  have hget1 : ∀ j (hj : j < l.length), ds[j * 2 + 1]? = some (.sl 2 l[j].from_.length (l[j].from_.flatMap encO)) := fun j hj => by rw [hds]; have := flat_get encR_len l hj (show 1 < 2 by omega); simpa [encR] using this
  rw [← hds] at H0 hk hl ⊢
  have HG0 := Lib.hid hget0
  have HG1 := Lib.hid hget1
  have HL := Lib.hid hl
  clear h hget0 hget1 hds hl
  go_enter Try.func35, Try.ntmps35
  go_wp2_with fail
  go_loopw [1, 5] (fun s i wr => ∃ j K : Nat, j ≤ l.length ∧ i = .int .i64 j ∧ s = .int .i64 (K : Int) ∧ K = k + Dt.cnts (ds.take (j * 2)) ∧ OwnMix wr S 2 l.length ds k (j * 2) (.slice A l.length c) ∧ Chg S W wr) (fun _ i _ => l.length - (intOf i).toNat)
  case atStart => exact ⟨0, k, Nat.zero_le _, rfl, rfl, by simp [Dt.cnts], by simpa using H0.out, Chg.rfl' _ _⟩
  case round =>
    obtain ⟨j, K, hj, rfl, rfl, hK, ho, hc⟩ := hrel
    by_cases hlt : j < l.length
    · have hd0 := HG0.out j hlt
      have hd1 := HG1.out j hlt
      obtain ⟨g, A1, c1, T1, rfl, hS, e0, b1, b2, hT1, ow1, next1⟩ := ho.sub hd0
      have hle := cnts_le ds (j * 2 + 1 + 1)
      have hs0 := cnts_succ hd0
      have hs1 := cnts_succ hd1
      simp only [Dt.cnt] at hs0 hs1
      obtain ⟨N1, hN1⟩ : ∃ N, N = Dt.cnts (l[j].cells.flatMap encI) := ⟨_, rfl⟩
      obtain ⟨N2, hN2⟩ : ∃ N, N = Dt.cnts (l[j].from_.flatMap encO) := ⟨_, rfl⟩
      have C1 := markIntS l[j].cells K wr T1 _ (by omega) ow1
      have C2 := fun W T v (ho : Own W T _ v) => markOriginS l[j].from_ (K + N1) W T v (by omega) ho
      rw [← hN1] at C1 hs0
      rw [← hN2] at C2 hs1
      have HN1 := Lib.hid next1
      have HC1 := Lib.hid C1
      have HC2 := Lib.hid C2
      have HD1 := Lib.hid hd1
      have HT1 := Lib.hid hT1
      have hK1 : K + N1 = k + Dt.cnts (ds.take (j * 2 + 1)) := by omega
      have hK2 : K + N1 + N2 = k + Dt.cnts (ds.take ((j + 1) * 2)) := by rw [show (j + 1) * 2 = j * 2 + 1 + 1 by omega]; omega
      have hKb : K + N1 + N2 ≤ 1099511627776 := by omega
      have HK0 := Lib.hid hK
      have HK1 := Lib.hid hK1
      have HK2 := Lib.hid hK2
      have HCH := Lib.hid hc
      clear next1 C1 C2 hd0 hd1 hT1 hK1 hK2 hK hle hs0 hs1 hN1 hN2 ow1 ho hc
      go_wp2_with fail
      refine HC1.out.mono ?_; rintro r w1 ⟨rfl, ow1, hg1⟩
      have ho1 := HN1.out w1 (by rw [← HK0.out]; exact ow1) hg1
      obtain ⟨g', A2, c2, T2, eg, hS2, e1, b3, b4, hT2, ow2, next2⟩ := ho1.sub HD1.out
      simp only [Option.some.injEq, Addr.mk.injEq, and_true] at eg
      subst eg
      have HN2 := Lib.hid next2
      have HOW2 := Lib.hid ow2
      have HT2 := Lib.hid hT2
      replace HCH := Lib.hid (HCH.out.trans (hg1.more HT1.out))
      clear ow1 hg1 ho1 ow2 next2 hT2 e0 HN1 HC1 HT1
      go_wp2_with fail
      refine (HC2.out _ _ _ HOW2.out).mono ?_; rintro r w2 ⟨rfl, ow2, hg2⟩
      have HR := Lib.hid (HN2.out w2 (by rw [← HK1.out]; exact ow2) hg2)
      have HC := Lib.hid (HCH.out.trans (hg2.more HT2.out))
      clear ow2 hg2
      go_wp2_with fail
      go_roundw
      case rel => exact ⟨j + 1, K + N1 + N2, by omega, by go_num, rfl, HK2.out, by rw [show (j + 1) * 2 = j * 2 + 1 + 1 by omega]; exact HR.out, HC.out⟩
      case measure => simp [intOf]; omega
    · have e : j * 2 = ds.length := by have := HL.out; omega
      rw [e, List.take_length] at hK
      rw [e] at ho
      have HR := Lib.hid ho.done
      have HK := Lib.hid hK
      have HC := Lib.hid hc
      clear ho hc e hK
      go_wp2_with fail
      go_ret
      exact ⟨ret_int (by rw [HK.out]), HR.out, HC.out⟩
end Go.Proofs.Ytjjmbldgemnhbaa
namespace Go.Proofs.Ytjjmbldgemnhbaa
open Go.ChangeShapes Go.WideShapes Go.ChangeAt Go.RowKit
set_option linter.unusedVariables false
set_option linter.unusedSimpArgs false

/-- What the marking of a value's list does. -/
def MarkVQ (d : Vl) : Prop := ∀ k n s t l c r, d = .mk k n s t l c r → MarksQ 33 7 l.length (l.flatMap encV)

set_option maxHeartbeats 2000000 in
theorem markValueS_step (l : List Vl) (ih : ∀ x, x ∈ l → MarkVQ x) : MarksQ 33 7 l.length (l.flatMap encV) := by
  intro k W S v hk h
  obtain ⟨A, c, rfl, h1, h2, hl⟩ := own_shape' h
  have H0 := Lib.hid (OwnMix.start h k)
  obtain ⟨ds, hds⟩ : ∃ ds, ds = l.flatMap encV := ⟨_, rfl⟩
  have hget : ∀ j (hj : j < l.length), ∃ k n s t l' cl r, l[j] = .mk k n s t l' cl r ∧ ds[j * 7]? = some (.int k) ∧ ds[j * 7 + 1]? = some (.int n) ∧ ds[j * 7 + 2]? = some (.int s) ∧ ds[j * 7 + 3]? = some (.str t) ∧ ds[j * 7 + 4]? = some (.sl 7 l'.length (l'.flatMap encV)) ∧
      ds[j * 7 + 5]? = some (.sl 1 cl.length (cl.flatMap encS)) ∧ ds[j * 7 + 6]? = some (.sl 2 r.length (r.flatMap encR)) := by
    intro j hj
    obtain ⟨k, n, s, t, l', cl, r, hx⟩ := Vl.shape l[j]
    have hh : ∀ i, i < 7 → ds[j * 7 + i]? = (encV l[j])[i]? := fun i hi => by rw [hds]; exact flat_get encV_len l hj hi
    rw [hx, encV, encVs_eq] at hh
    refine ⟨k, n, s, t, l', cl, r, hx, hh 0 (by omega), hh 1 (by omega), hh 2 (by omega), hh 3 (by omega), hh 4 (by omega), hh 5 (by omega), hh 6 (by omega)⟩
  rw [← hds] at H0 hk hl ⊢
  have HG := Lib.hid hget
  have HL := Lib.hid hl
  have IH := Lib.hid ih
  clear h hget hds hl ih
  go_enter Try.func33, Try.ntmps33
  go_wp2_with fail
  go_loopw [1, 5] (fun s i wr => ∃ j K : Nat, j ≤ l.length ∧ i = .int .i64 j ∧ s = .int .i64 (K : Int) ∧ K = k + Dt.cnts (ds.take (j * 7)) ∧ OwnMix wr S 7 l.length ds k (j * 7) (.slice A l.length c) ∧ Chg S W wr) (fun _ i _ => l.length - (intOf i).toNat)
  case atStart => exact ⟨0, k, Nat.zero_le _, rfl, rfl, by simp [Dt.cnts], by simpa using H0.out, Chg.rfl' _ _⟩
  case round =>
    obtain ⟨j, K, hj, rfl, rfl, hK, ho, hc⟩ := hrel
    by_cases hlt : j < l.length
    · obtain ⟨xk, xn, xs, xt, xl, xc, xr, hx, g0, g1, g2, g3, g4, g5, g6⟩ := HG.out j hlt
      have IHx := IH.out l[j] (List.getElem_mem hlt) _ _ _ _ _ _ _ hx
      have hle := cnts_le ds (j * 7 + 6 + 1)
      have s0 := cnts_succ g0
      have s1 := cnts_succ g1
      have s2 := cnts_succ g2
      have s3 := cnts_succ g3
      have s4 := cnts_succ g4
      have s5 := cnts_succ g5
      have s6 := cnts_succ g6
      simp only [Dt.cnt, Nat.add_assoc, Nat.reduceAdd] at s0 s1 s2 s3 s4 s5 s6 hle
      obtain ⟨N1, hN1⟩ : ∃ N, N = Dt.cnts (xl.flatMap encV) := ⟨_, rfl⟩
      obtain ⟨N2, hN2⟩ : ∃ N, N = Dt.cnts (xc.flatMap encS) := ⟨_, rfl⟩
      obtain ⟨N3, hN3⟩ : ∃ N, N = Dt.cnts (xr.flatMap encR) := ⟨_, rfl⟩
      rw [← hN1] at s4
      rw [← hN2] at s5
      rw [← hN3] at s6
      have hKb : K + 4 + N1 + N2 + N3 ≤ 1099511627776 := by omega
      have C1 := fun W T v (ho : Own W T _ v) => marksQ_at IHx (x := (K : Int) + 1 + 1 + 1 + 1) (K + 4) (by omega) (by rw [← hN1]; omega) (W := W) (S := T) (v := v) ho
      have C2 := fun W T v (ho : Own W T _ v) => markStrs xc (K + 4 + N1) W T v (by rw [← hN2]; omega) ho
      have C3 := fun W T v (ho : Own W T _ v) => markRowS xr (K + 4 + N1 + N2) W T v (by rw [← hN3]; omega) ho
      rw [← hN1] at C1
      rw [← hN2] at C2
      rw [← hN3] at C3
      have CM := fun W => markTextX ((K : Int) + 1 + 1 + 1) (K + 3) (by omega) (by omega) W
      have hsz := size_markB (K + 3)
      obtain ⟨M, hM⟩ : ∃ M, M = markB (K + 3) := ⟨_, rfl⟩
      rw [← hM] at CM hsz
      obtain ⟨g, u0, rfl, hS, hg, e0, f0⟩ := ho.cell (Nat.le_refl _) g0
      obtain ⟨g', u1, eg, _, _, e1, f1⟩ := ho.cell (show j * 7 ≤ j * 7 + 1 by omega) g1
      simp only [Option.some.injEq, Addr.mk.injEq, and_true] at eg
      subst eg
      obtain ⟨g', u2, eg, _, _, e2, f2⟩ := ho.cell (show j * 7 ≤ j * 7 + 2 by omega) g2
      simp only [Option.some.injEq, Addr.mk.injEq, and_true] at eg
      subst eg
      have o1 := ho.int g0 (x := (K : Int)) (by rw [hK]) (by omega)
      have o2 : OwnMix _ S 7 l.length ds k (j * 7 + 2) _ := o1.int g1 (x := (K : Int) + 1) (by omega) (by omega)
      have o3 : OwnMix _ S 7 l.length ds k (j * 7 + 3) _ := o2.int g2 (x := (K : Int) + 1 + 1) (by omega) (by omega)
      have hc3 := ((hc.set (o := j * 7) (u := .int .i64 K) hS).set (o := j * 7 + 1) (u := .int .i64 ((K : Int) + 1)) hS).set (o := j * 7 + 2) (u := .int .i64 ((K : Int) + 1 + 1)) hS
      have h3 : K + 3 = k + Dt.cnts (ds.take (j * 7 + 3)) := by omega
      have h4 : K + 4 = k + Dt.cnts (ds.take (j * 7 + 4)) := by omega
      have h5 : K + 4 + N1 = k + Dt.cnts (ds.take (j * 7 + 5)) := by omega
      have h6 : K + 4 + N1 + N2 = k + Dt.cnts (ds.take (j * 7 + 6)) := by omega
      have h7 : K + 4 + N1 + N2 + N3 = k + Dt.cnts (ds.take ((j + 1) * 7)) := by rw [show (j + 1) * 7 = j * 7 + 7 by omega]; omega
      have HO3 := Lib.hid o3
      have HC3 := Lib.hid hc3
      have H3 := Lib.hid h3; have H4 := Lib.hid h4; have H5 := Lib.hid h5; have H6 := Lib.hid h6; have H7 := Lib.hid h7
      have HM := Lib.hid hM
      have HCM := Lib.hid CM
      have HC1 := Lib.hid C1; have HC2 := Lib.hid C2; have HCC3 := Lib.hid C3
      have HD3 := Lib.hid g3; have HD4 := Lib.hid g4; have HD5 := Lib.hid g5; have HD6 := Lib.hid g6
      have HS := Lib.hid hS
      clear o1 o2 o3 hc3 h3 h4 h5 h6 h7 hM CM C1 C2 C3 g0 g1 g2 g3 g4 g5 g6 hS s0 s1 s2 s3 s4 s5 s6 hle hN1 hN2 hN3 hx IHx hK ho hc
      go_wp2_with fail
      refine (HCM.out _).mono ?_; rintro r w1 ⟨rfl, hb1⟩
      have ho1 := HO3.out.later hb1
      obtain ⟨g', u3, eg, _, _, e3, f3⟩ := ho1.cell (Nat.le_refl _) HD3.out
      simp only [Option.some.injEq, Addr.mk.injEq, and_true] at eg
      subst eg
      have ho2 : OwnMix _ S 7 l.length ds k (j * 7 + 4) _ := ho1.str HD3.out (x := M) (by rw [HM.out, H3.out]) (by omega)
      have hc1 := (HC3.out.trans (hb1.chg S)).set (o := j * 7 + 3) (u := .string M) HS.out
      obtain ⟨g', A1, c1, T1, eg, _, e4, b1, b2, hT1, ow1, next1⟩ := ho2.sub HD4.out
      simp only [Option.some.injEq, Addr.mk.injEq, and_true] at eg
      subst eg
      have hbl : g < w1.heap.size := World.block_lt_of_cell? _ _ e3
      have e4' : w1.cell? ⟨g, j * 7 + 4, none⟩ = some (.slice A1 xl.length c1) := by
        obtain ⟨_, u4, eg, _, _, e4', _⟩ := ho1.cell (show j * 7 + 3 ≤ j * 7 + 4 by omega) HD4.out
        simp only [Option.some.injEq, Addr.mk.injEq, and_true] at eg
        subst eg
        have : (w1.setCell ⟨g, j * 7 + 3, none⟩ (.string M)).cell? ⟨g, j * 7 + 4, none⟩ = w1.cell? ⟨g, j * 7 + 4, none⟩ := by simp [go_sem]
        rw [← this]
        exact e4
      have HOW1 := Lib.hid ow1
      have HX1 := Lib.hid next1
      have HT1 := Lib.hid hT1
      have HCH := Lib.hid hc1
      clear ho1 ho2 hb1 ow1 next1 hT1 hc1 e0 e1 e2 f0 f1 f2 e4 HO3 HC3 HCM
      go_wp2_with fail
      refine (HC1.out _ _ _ HOW1.out).mono ?_; rintro r w2 ⟨rfl, ow1, hg1⟩
      have ho3 : OwnMix _ S 7 l.length ds k (j * 7 + 5) _ := HX1.out w2 (by rw [← H4.out]; exact ow1) hg1
      obtain ⟨g', A2, c2, T2, eg, _, e5, b3, b4, hT2, ow2, next2⟩ := ho3.sub HD5.out
      simp only [Option.some.injEq, Addr.mk.injEq, and_true] at eg
      subst eg
      have HOW2 := Lib.hid ow2
      have HX2 := Lib.hid next2
      have HT2 := Lib.hid hT2
      replace HCH := Lib.hid (HCH.out.trans (hg1.more HT1.out))
      clear ow1 hg1 ho3 ow2 next2 hT2 e3 f3 e4' HOW1 HX1 HT1 HC1 hbl
      go_wp2_with fail
      refine (HC2.out _ _ _ HOW2.out).mono ?_; rintro r w3 ⟨rfl, ow2, hg2⟩
      have ho4 : OwnMix _ S 7 l.length ds k (j * 7 + 6) _ := HX2.out w3 (by rw [← H5.out]; exact ow2) hg2
      obtain ⟨g', A3, c3, T3, eg, _, e6, b5, b6, hT3, ow3, next3⟩ := ho4.sub HD6.out
      simp only [Option.some.injEq, Addr.mk.injEq, and_true] at eg
      subst eg
      have HOW3 := Lib.hid ow3
      have HX3 := Lib.hid next3
      have HT3 := Lib.hid hT3
      replace HCH := Lib.hid (HCH.out.trans (hg2.more HT2.out))
      clear ow2 hg2 ho4 ow3 next3 hT3 e5 HOW2 HX2 HT2 HC2
      go_wp2_with fail
      refine (HCC3.out _ _ _ HOW3.out).mono ?_; rintro r w4 ⟨rfl, ow3, hg3⟩
      have ho5 : OwnMix w4 S 7 l.length ds k ((j + 1) * 7) (.slice (some ⟨g, 0, none⟩) l.length c) := by
        have := HX3.out w4 (by rw [← H6.out]; exact ow3) hg3
        rw [show (j + 1) * 7 = j * 7 + 6 + 1 by omega]
        exact this
      have HR := Lib.hid ho5
      have HC := Lib.hid (HCH.out.trans (hg3.more HT3.out))
      clear ow3 hg3 ho5 e6 HOW3 HX3 HT3 HCC3 HCH
      go_wp2_with fail
      go_roundw
      case rel => exact ⟨j + 1, K + 4 + N1 + N2 + N3, by omega, by go_num, rfl, H7.out, HR.out, HC.out⟩
      case measure => simp [intOf]; omega
    · have e : j * 7 = ds.length := by have := HL.out; omega
      rw [e, List.take_length] at hK
      rw [e] at ho
      have HR := Lib.hid ho.done
      have HK := Lib.hid hK
      have HC := Lib.hid hc
      clear ho hc e hK
      go_wp2_with fail
      go_ret
      exact ⟨ret_int (by rw [HK.out]), HR.out, HC.out⟩

theorem markVQ : ∀ d, MarkVQ d := by
  refine Vl.ind fun k n s t l c r ih => ?_
  intro k' n' s' t' l' c' r' e
  simp only [Vl.mk.injEq] at e
  obtain ⟨_, _, _, _, rfl, _, _⟩ := e
  exact markValueS_step l ih
theorem markValueS (l : List Vl) : MarksQ 33 7 l.length (l.flatMap encV) := markValueS_step l fun x _ => markVQ x
end Go.Proofs.Ytjjmbldgemnhbaa
namespace Go.Proofs.Ytjjmbldgemnhbaa
open Go.ChangeShapes Go.WideShapes Go.ChangeAt Go.RowKit
set_option linter.unusedVariables false
set_option linter.unusedSimpArgs false

theorem At.markInt {w : World} {S : Nat → Prop} {s n c k p : Nat} {A : Option Addr} {ds : List Dt} {m : Int} (h : At w S (.sl s n (Dt.marks markB ds k)) (.slice A n c)) (hd : ds[p]? = some (.int m)) :
    ∃ b off, A = some ⟨b, off, none⟩ ∧ b < w.heap.size ∧ w.cell? ⟨b, off + p, none⟩ = some (.int .i64 ((k + Dt.cnts (ds.take p) : Nat) : Int)) := by
  have hm : (Dt.marks markB ds k)[p]? = some (.int ((k + Dt.cnts (ds.take p) : Nat) : Int)) := by rw [get_marks, hd]; rfl
  obtain ⟨b, off, e, hl, _, hc⟩ := At.cells h (by intro e; rw [e] at hm; simp at hm)
  obtain ⟨u, h1, h2⟩ := hc p _ hm
  obtain ⟨rfl, _⟩ := h2.int_inv
  exact ⟨b, off, e, hl, h1⟩
theorem At.markStr {w : World} {S : Nat → Prop} {s n c k p : Nat} {A : Option Addr} {ds : List Dt} {m : ByteArray} (h : At w S (.sl s n (Dt.marks markB ds k)) (.slice A n c)) (hd : ds[p]? = some (.str m)) :
    ∃ b off, A = some ⟨b, off, none⟩ ∧ b < w.heap.size ∧ w.cell? ⟨b, off + p, none⟩ = some (.string (markB (k + Dt.cnts (ds.take p)))) := by
  have hm : (Dt.marks markB ds k)[p]? = some (.str (markB (k + Dt.cnts (ds.take p)))) := by rw [get_marks, hd]; rfl
  obtain ⟨b, off, e, hl, _, hc⟩ := At.cells h (by intro e; rw [e] at hm; simp at hm)
  obtain ⟨u, h1, h2⟩ := hc p _ hm
  obtain ⟨rfl, _⟩ := h2.str_inv
  exact ⟨b, off, e, hl, h1⟩
theorem At.markSub {w : World} {S : Nat → Prop} {s n c k p s' n' : Nat} {A : Option Addr} {ds ds' : List Dt} (h : At w S (.sl s n (Dt.marks markB ds k)) (.slice A n c)) (hd : ds[p]? = some (.sl s' n' ds')) :
    ∃ b off A' c', A = some ⟨b, off, none⟩ ∧ b < w.heap.size ∧ w.cell? ⟨b, off + p, none⟩ = some (.slice A' n' c') ∧ At w S (.sl s' n' (Dt.marks markB ds' (k + Dt.cnts (ds.take p)))) (.slice A' n' c') := by
  have hm : (Dt.marks markB ds k)[p]? = some (.sl s' n' (Dt.marks markB ds' (k + Dt.cnts (ds.take p)))) := by rw [get_marks, hd]; rfl
  obtain ⟨b, off, e, hl, _, hc⟩ := At.cells h (by intro e; rw [e] at hm; simp at hm)
  obtain ⟨u, h1, h2⟩ := hc p _ hm
  obtain ⟨A', c', rfl, _⟩ := h2.sl_inv
  exact ⟨b, off, A', c', e, hl, h1, h2⟩
/-- What a holding function answers. -/
def HeldsQ (fn : FuncId) (s n : Nat) (ds : List Dt) : Prop := ∀ (k : Nat) (x : Int) (W : World) (S : Nat → Prop) (v : Value), x = (k : Int) → ds.length = n * s → k + Dt.cnts ds ≤ 1099511627776 → At W S (.sl s n (Dt.marks markB ds k)) v →
  Calls Try.prog fn #[v, .int .i64 x] W fun r w' => r = .returned (.int .i64 ((k + Dt.cnts ds : Nat) : Int)) ∧ Later W w'


theorem heldOriginS (l : List Org) : HeldsQ 11 2 l.length (l.flatMap encO) := by
  intro k x W S v hx hl hk h
  subst hx
  obtain ⟨A, c, rfl, h1, h2, _⟩ := At.sl_inv h
  have H0 := Lib.hid h
  obtain ⟨ds, hds⟩ : ∃ ds, ds = l.flatMap encO := ⟨_, rfl⟩
  have hget0 : ∀ j (hj : j < l.length), ds[j * 2]? = some (.int l[j].1) := fun j hj => by rw [hds]; have := flat_get encO_len l hj (show 0 < 2 by omega); simpa [encO] using this
  have hget1 : ∀ j (hj : j < l.length), ds[j * 2 + 1]? = some (.int l[j].2) := fun j hj => by rw [hds]; have := flat_get encO_len l hj (show 1 < 2 by omega); simpa [encO] using this
  rw [← hds] at H0 hk hl ⊢
  have HG0 := Lib.hid hget0
  have HG1 := Lib.hid hget1
  have HL := Lib.hid hl
  clear h hds hl hget0 hget1
  go_enter Try.func11, Try.ntmps11
  go_wp2_with fail
  go_loopw [1, 5] (fun s i wr => ∃ j K : Nat, j ≤ l.length ∧ i = .int .i64 j ∧ s = .int .i64 (K : Int) ∧ K = k + Dt.cnts (ds.take (j * 2)) ∧ Later W wr) (fun _ i _ => l.length - (intOf i).toNat)
  case atStart => exact ⟨0, k, Nat.zero_le _, rfl, rfl, by simp [Dt.cnts], Later.rfl' _⟩
  case round =>
    obtain ⟨j, K, hj, rfl, rfl, hK, hw⟩ := hrel
    by_cases hlt : j < l.length
    · obtain ⟨b, off, rfl, hb, e0⟩ := (H0.out.later hw).markInt (HG0.out j hlt)
      obtain ⟨b', off', eg, _, e1⟩ := (H0.out.later hw).markInt (HG1.out j hlt)
      simp only [Option.some.injEq, Addr.mk.injEq, and_true] at eg
      obtain ⟨rfl, rfl⟩ := eg
      have hs := cnts_succ (HG0.out j hlt)
      have hs1 := cnts_succ (HG1.out j hlt)
      have hle := cnts_le ds (j * 2 + 1 + 1)
      simp only [Dt.cnt] at hs hs1
      rw [← hK] at e0
      have h1 : k + Dt.cnts (ds.take (j * 2 + 1)) = K + 1 := by omega
      rw [h1, ← Nat.add_assoc, Int.natCast_add] at e1
      have HK := Lib.hid (show K + 1 + 1 = k + Dt.cnts (ds.take ((j + 1) * 2)) by rw [show (j + 1) * 2 = j * 2 + 1 + 1 by omega]; omega)
      have hKb : K ≤ 1099511627776 := by omega
      clear hs hs1 hle hK h1
      go_wp2_with fail
      go_roundw
      case rel => exact ⟨j + 1, K + 1 + 1, by omega, by go_num, by go_num, HK.out, hw⟩
      case measure => simp [intOf]; omega
    · have e : (j * 2) = ds.length := by have := HL.out; omega
      rw [e, List.take_length] at hK
      have HK := Lib.hid hK
      clear e hK
      go_wp2_with fail
      go_ret
      exact ⟨ret_int (by rw [HK.out]), hw⟩

end Go.Proofs.Ytjjmbldgemnhbaa
namespace Go.Proofs.Ytjjmbldgemnhbaa
open Go.ChangeShapes Go.WideShapes Go.ChangeAt Go.RowKit
set_option linter.unusedVariables false
set_option linter.unusedSimpArgs false

end Go.Proofs.Ytjjmbldgemnhbaa
namespace Go.Proofs.Ytjjmbldgemnhbaa
open Go.ChangeShapes Go.WideShapes Go.ChangeAt Go.RowKit
set_option linter.unusedVariables false
set_option linter.unusedSimpArgs false

def cntL (l : List Vl) : Nat := Dt.cnts (l.flatMap encV)
def cntC (c : List ByteArray) : Nat := Dt.cnts (c.flatMap encS)
def cntR (r : List Rw) : Nat := Dt.cnts (r.flatMap encR)
/-- How many marks a value takes. -/
def Vl.topN : Vl → Nat | .mk _ _ _ _ l c r => cntL l + cntC c + cntR r
/-- A value whose slices are marked. -/
def Vl.topM : Vl → Nat → List Dt
  | .mk k0 n s t l c r, k => [.int k0, .int n, .int s, .str t, .sl 7 l.length (Dt.marks markB (l.flatMap encV) k), .sl 1 c.length (Dt.marks markB (c.flatMap encS) (k + cntL l)), .sl 2 r.length (Dt.marks markB (r.flatMap encR) (k + cntL l + cntC c))]
theorem cntI (l : List Int) : Dt.cnts (l.flatMap encI) = l.length := by
  induction l with
  | nil => rfl
  | cons a l ih => rw [List.flatMap_cons, cnts_append, ih, List.length_cons]; simp [encI, Dt.cnts, Dt.cnt]; omega
theorem cntO (l : List Org) : Dt.cnts (l.flatMap encO) = 2 * l.length := by
  induction l with
  | nil => rfl
  | cons a l ih => rw [List.flatMap_cons, cnts_append, ih, List.length_cons]; simp [encO, Dt.cnts, Dt.cnt]; omega
theorem cntC_eq (c : List ByteArray) : cntC c = c.length := by
  unfold cntC
  induction c with
  | nil => rfl
  | cons a l ih => rw [List.flatMap_cons, cnts_append, ih, List.length_cons]; simp [encS, Dt.cnts, Dt.cnt]; omega
theorem cntR_le (r : List Rw) : cntR r ≤ 2 * sumN Rw.cost r := by
  unfold cntR
  induction r with
  | nil => simp [Dt.cnts]
  | cons a l ih =>
    rw [List.flatMap_cons, cnts_append]
    have h1 := cntI a.cells
    have h2 := cntO a.from_
    have : sumN Rw.cost (a :: l) = a.cost + sumN Rw.cost l := by simp [sumN]
    simp only [encR, Dt.cnts, Dt.cnt, h1, h2]
    unfold Rw.cost at this ⊢
    simp only [show (fun r : Rw => r.cells.length + r.from_.length) = Rw.cost from rfl] at *
    unfold Rw.cost at ih
    simp only [show (fun r : Rw => r.cells.length + r.from_.length) = Rw.cost from rfl] at ih
    omega
theorem cntL_cons (v : Vl) (l : List Vl) : cntL (v :: l) = 4 + v.topN + cntL l := by
  obtain ⟨k, n, s, t, li, cl, r, rfl⟩ := Vl.shape v
  unfold cntL
  rw [List.flatMap_cons, cnts_append, encV, encVs_eq]
  simp only [Dt.cnts, Dt.cnt, Vl.topN, cntL, cntC, cntR]
  omega
theorem topN_le : ∀ d : Vl, d.topN ≤ 4 * d.cost := by
  refine Vl.ind fun k n s t l c r ih => ?_
  rw [Vl.cost_mk, Vl.topN, cntC_eq]
  have h1 := cntR_le r
  have h2 : cntL l ≤ 4 * (l.length + sumN Vl.cost l) := by
    clear h1 k n s t c r
    induction l with
    | nil => simp [cntL, Dt.cnts]
    | cons v l ih2 =>
      have h3 := ih2 fun x hx => ih x (by simp [hx])
      have h4 := ih v (by simp)
      rw [cntL_cons]
      have : sumN Vl.cost (v :: l) = v.cost + sumN Vl.cost l := by simp [sumN]
      rw [List.length_cons]
      omega
  have h3 : c.length ≤ costS c := by unfold costS; omega
  omega

theorem Owns.parts {w : World} {S : Nat → Prop} {k n s : Int} {t : ByteArray} {l : List Vl} {cl : List ByteArray} {r : List Rw} {cs : List Value} (h : Owns w S (encV (.mk k n s t l cl r)) cs) :
    ∃ A1 c1 A2 c2 A3 c3 T1 T2 T3, cs = [.int .i64 k, .int .i64 n, .int .i64 s, .string t, .slice A1 l.length c1, .slice A2 cl.length c2, .slice A3 r.length c3] ∧ (Between64 k ∧ Between64 n ∧ Between64 s ∧ t.size ≤ 9223372036854775807) ∧
      Own w T1 (.sl 7 l.length (l.flatMap encV)) (.slice A1 l.length c1) ∧ Own w T2 (.sl 1 cl.length (cl.flatMap encS)) (.slice A2 cl.length c2) ∧ Own w T3 (.sl 2 r.length (r.flatMap encR)) (.slice A3 r.length c3) ∧
      (∀ b, T1 b → S b ∧ b < w.heap.size) ∧ (∀ b, T2 b → S b ∧ b < w.heap.size) ∧ (∀ b, T3 b → S b ∧ b < w.heap.size) ∧ (∀ b, T1 b → T2 b → False) ∧ (∀ b, T1 b → T3 b → False) ∧ (∀ b, T2 b → T3 b → False) := by
  obtain ⟨A1, c1, A2, c2, A3, c3, rfl, hb4, _⟩ := h.ats.val
  obtain ⟨_, T, hT, hsep, hF⟩ := h
  rw [encV, encVs_eq] at hF
  refine ⟨A1, c1, A2, c2, A3, c3, _, _, _, rfl, hb4, (hF 4 _ _ rfl rfl).low, (hF 5 _ _ rfl rfl).low, (hF 6 _ _ rfl rfl).low, fun b hb => ⟨hT _ b hb.1, hb.2⟩, fun b hb => ⟨hT _ b hb.1, hb.2⟩, fun b hb => ⟨hT _ b hb.1, hb.2⟩, fun b h1 h2 => hsep 4 5 (by omega) b h1.1 h2.1, fun b h1 h2 => hsep 4 6 (by omega) b h1.1 h2.1, fun b h1 h2 => hsep 5 6 (by omega) b h1.1 h2.1⟩

set_option maxHeartbeats 1000000 in
theorem markValue (d : Vl) (k : Nat) (x : Int) (hx : x = (k : Int)) (W : World) (S : Nat → Prop) (cs : List Value) (hk : k + d.topN ≤ 1099511627776) (h : Owns W S (encV d) cs) :
    Calls Try.prog 17 #[.agg cs.toArray, .int .i64 x] W fun r w' => r = .returned (.int .i64 ((k + d.topN : Nat) : Int)) ∧ Owns w' S (d.topM k) cs ∧ Chg S W w' := by
  subst hx
  obtain ⟨k0, n, s, t, l, cl, r, rfl⟩ := Vl.shape d
  obtain ⟨A1, c1, A2, c2, A3, c3, T1, T2, T3, rfl, hb4, o1, o2, o3, t1, t2, t3, d12, d13, d23⟩ := h.parts
  rw [Vl.topN] at hk ⊢
  have C1 := fun W' ho => markValueS l k W' T1 (.slice A1 l.length c1) (by show k + cntL l ≤ _; omega) ho
  have C2 := fun W' ho => markStrs cl (k + cntL l) W' T2 (.slice A2 cl.length c2) (by show k + cntL l + cntC cl ≤ _; omega) ho
  have C3 := fun W' ho => markRowS r (k + cntL l + cntC cl) W' T3 (.slice A3 r.length c3) (by show k + cntL l + cntC cl + cntR r ≤ _; omega) ho
  have hN : Hid (Vl.topM (.mk k0 n s t l cl r) k = [.int k0, .int n, .int s, .str t, .sl 7 l.length (Dt.marks markB (l.flatMap encV) k), .sl 1 cl.length (Dt.marks markB (cl.flatMap encS) (k + cntL l)), .sl 2 r.length (Dt.marks markB (r.flatMap encR) (k + cntL l + cntC cl))]) := rfl
  simp only [show ∀ l : List Vl, Dt.cnts (l.flatMap encV) = cntL l from fun _ => rfl] at C1
  simp only [show ∀ l : List ByteArray, Dt.cnts (l.flatMap encS) = cntC l from fun _ => rfl] at C2
  simp only [show ∀ l : List Rw, Dt.cnts (l.flatMap encR) = cntR l from fun _ => rfl] at C3
  obtain ⟨n1, hn1⟩ : ∃ n, n = cntL l := ⟨_, rfl⟩
  obtain ⟨n2, hn2⟩ : ∃ n, n = cntC cl := ⟨_, rfl⟩
  obtain ⟨n3, hn3⟩ : ∃ n, n = cntR r := ⟨_, rfl⟩
  simp only [← hn1, ← hn2, ← hn3] at C1 C2 C3 hN hk ⊢
  have H1 := Lib.hid C1; have H2 := Lib.hid C2; have H3 := Lib.hid C3
  have O1 := Lib.hid o1; have O2 := Lib.hid o2; have O3 := Lib.hid o3
  have HT := Lib.hid (And.intro t1 (And.intro t2 t3))
  have HD := Lib.hid (And.intro d12 (And.intro d13 d23))
  have HB := Lib.hid hb4
  clear C1 C2 C3 hn1 hn2 hn3 h o1 o2 o3 t1 t2 t3 d12 d13 d23 hb4
  go_enter Try.func17, Try.ntmps17
  go_wp2_with fail
  refine (H1.out _ (O1.out.later ((Later.rfl' _).alloc _))).mono ?_; rintro e w1 ⟨rfl, p1, g1⟩
  have B := (box_alloc W _ _).chg g1 (fun hb => Nat.lt_irrefl _ (HT.out.1 _ hb).2)
  have q2 := (O2.out.later ((Later.rfl' _).alloc _)).chg g1 fun b h1 h2 => HD.out.1 b h2 h1
  have q3 := (O3.out.later ((Later.rfl' _).alloc _)).chg g1 fun b h1 h2 => HD.out.2.1 b h2 h1
  have b5 := B.cell (j := 5) rfl
  have HBX := Lib.hid B
  have HG1 := Lib.hid ((((Later.rfl' W).alloc _).chg S).trans (g1.more fun b hb => (HT.out.1 b hb).1))
  have P1 := Lib.hid p1; have Q2 := Lib.hid q2; have Q3 := Lib.hid q3
  clear p1 g1 B q2 q3 O1 O2 O3 H1
  go_wp2_with fail
  refine (H2.out _ Q2.out).mono ?_; rintro e w2 ⟨rfl, p2, g2⟩
  have B := HBX.out.chg g2 (fun hb => Nat.lt_irrefl _ (HT.out.2.1 _ hb).2)
  have p1 := P1.out.chg g2 fun b h1 h2 => HD.out.1 b h1 h2
  have q3 := Q3.out.chg g2 fun b h1 h2 => HD.out.2.2 b h2 h1
  have b6 := B.cell (j := 6) rfl
  have HG2 := Lib.hid (HG1.out.trans (g2.more fun b hb => (HT.out.2.1 b hb).1))
  replace P1 := Lib.hid p1; have P2 := Lib.hid p2; replace Q3 := Lib.hid q3
  clear p1 g2 B q3 p2 HBX HG1 H2 b5 Q2
  go_wp2_with fail
  refine (H3.out _ Q3.out).mono ?_; rintro e w3 ⟨rfl, p3, g3⟩
  have p1 := P1.out.chg g3 fun b h1 h2 => HD.out.2.1 b h1 h2
  have p2 := P2.out.chg g3 fun b h1 h2 => HD.out.2.2 b h1 h2
  have HG3 := Lib.hid (HG2.out.trans (g3.more fun b hb => (HT.out.2.2 b hb).1))
  have HR : Hid (Owns w3 S (Vl.topM (.mk k0 n s t l cl r) k) [.int .i64 k0, .int .i64 n, .int .i64 s, .string t, .slice A1 l.length c1, .slice A2 cl.length c2, .slice A3 r.length c3]) := by
    have hb := HB.out
    unfold Hid
    rw [hN.out]
    refine Owns.leaf' (.int _ _ hb.1) (Owns.leaf' (.int _ _ hb.2.1) (Owns.leaf' (.int _ _ hb.2.2.1) (Owns.leaf' (.str _ _ hb.2.2.2) (Owns.cons p1 (Owns.cons (U := fun b => T2 b ∨ T3 b) p2 (Owns.cons (U := T3) p3 (owns_nil _ (fun _ => False)) (fun _ h => h) (fun _ h => False.elim h) (fun _ _ h => h)) (fun _ h => .inl h) (fun _ h => .inr h) (HD.out.2.2)) (fun b h => (HT.out.1 b h).1) ?_ ?_))))
    · rintro b (h | h)
      · exact (HT.out.2.1 b h).1
      · exact (HT.out.2.2 b h).1
    · rintro b h1 (h | h)
      · exact HD.out.1 b h1 h
      · exact HD.out.2.1 b h1 h
  clear p1 p2 p3 g3 P1 P2 Q3 HG2 b6
  go_wp2_with fail
  go_ret
  exact ⟨ret_int (by push_cast; omega), HR.out, HG3.out⟩

end Go.Proofs.Ytjjmbldgemnhbaa
