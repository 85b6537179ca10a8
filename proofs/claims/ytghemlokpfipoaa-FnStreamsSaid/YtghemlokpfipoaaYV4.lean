/-
  Values: EqualValue, EqualShown: the walks.
-/
import Derived.Test.YtghemlokpfipoaaYV3
namespace Go.Proofs.Ytghemlokpfipoaa
open Go.ChangeShapes Go.WideShapes Go.ChangeAt Go.RowKit
set_option linter.unusedVariables false
set_option linter.unusedSimpArgs false
set_option maxRecDepth 100000

/-- Two lists agree, element by element. -/
def allSame {α : Type} (p : α → α → Bool) : List α → List α → Bool
  | [], [] => true
  | x :: xs, y :: ys => p x y && allSame p xs ys
  | [], _ :: _ => false
  | _ :: _, [] => false
theorem allSame_len {α : Type} {p : α → α → Bool} : ∀ {a b : List α}, a.length ≠ b.length → allSame p a b = false
  | [], [], h => absurd rfl h
  | [], _ :: _, _ => by simp [allSame]
  | _ :: _, [], _ => by simp [allSame]
  | x :: xs, y :: ys, h => by rw [allSame, allSame_len (a := xs) (b := ys) (by simpa using h), Bool.and_false]
theorem allSame_at {α : Type} {p : α → α → Bool} : ∀ {a b : List α} {k : Nat} (h1 : k < a.length) (h2 : k < b.length), p a[k] b[k] = false → allSame p a b = false
  | x :: xs, y :: ys, 0, _, _, h => by simp at h; simp [allSame, h]
  | x :: xs, y :: ys, k + 1, h1, h2, h => by
    rw [allSame, allSame_at (a := xs) (b := ys) (k := k) (by simpa using h1) (by simpa using h2) (by simpa using h), Bool.and_false]
theorem allSame_all {α : Type} {p : α → α → Bool} : ∀ {a b : List α}, a.length = b.length → (∀ k, (h1 : k < a.length) → (h2 : k < b.length) → p a[k] b[k] = true) → allSame p a b = true
  | [], [], _, _ => by simp [allSame]
  | x :: xs, y :: ys, hl, h => by
    have h0 := h 0 (by simp) (by simp)
    simp at h0
    rw [allSame, h0, Bool.true_and]
    exact allSame_all (by simpa using hl) fun k h1 h2 => by have := h (k + 1) (by simpa using h1) (by simpa using h2); simpa only [List.getElem_cons_succ] using this
def rowSame (f : Bool) (x y : Rw) : Bool := sameL x.cells y.cells && (!f || sameL x.from_ y.from_)
mutual
def Vl.same (f : Bool) : Vl → Vl → Bool
  | .mk k n s t l c r, .mk k' n' s' t' l' c' r' => decide (k = k') && (decide (n = n') && (decide (s = s') && (decide (t = t') && (Vl.sames f l l' && (sameL c c' && allSame (rowSame f) r r')))))
def Vl.sames (f : Bool) : List Vl → List Vl → Bool
  | [], [] => true
  | x :: xs, y :: ys => Vl.same f x y && Vl.sames f xs ys
  | [], _ :: _ => false
  | _ :: _, [] => false
end
theorem sames_eq (f : Bool) : ∀ a b : List Vl, Vl.sames f a b = allSame (Vl.same f) a b
  | [], [] => by simp [Vl.sames, allSame]
  | [], _ :: _ => by simp [Vl.sames, allSame]
  | _ :: _, [] => by simp [Vl.sames, allSame]
  | x :: xs, y :: ys => by simp [Vl.sames, allSame, sames_eq f xs ys]
theorem same_mk (f : Bool) (k n s : Int) (t : ByteArray) (l : List Vl) (c : List ByteArray) (r : List Rw) (k' n' s' : Int) (t' : ByteArray) (l' : List Vl) (c' : List ByteArray) (r' : List Rw) : Vl.same f (.mk k n s t l c r) (.mk k' n' s' t' l' c' r') =
    (decide (k = k') && (decide (n = n') && (decide (s = s') && (decide (t = t') && (allSame (Vl.same f) l l' && (sameL c c' && allSame (rowSame f) r r')))))) := by rw [Vl.same, sames_eq]
theorem vtext_ne {t t' : ByteArray} (h : t ≠ t') : (t.toList == t'.toList) = false := by rw [beq_toList]; simpa using h
theorem vtext_ne' {t t' : ByteArray} (h : t ≠ t') : (t.toList != t'.toList) = true := by rw [bne, vtext_ne h]; rfl

def SameQ (fn : FuncId) (d : Vl) : Prop := ∀ (f : Bool) (d' : Vl) (W : World) (S S' : Nat → Prop) (cs cs' : List Value), Ats W S (encV d) cs → Ats W S' (encV d') cs' →
  Calls Try.prog fn #[.agg cs.toArray, .agg cs'.toArray, .bool f] W fun r w' => r = .returned (.bool (Vl.same f d d')) ∧ Later W w'


set_option maxHeartbeats 2000000 in
theorem specSame : ∀ d, SameQ 65 d := by
  refine Vl.ind fun k n s t l cl r ih f d' W S S' cs cs' h h' => ?_
  obtain ⟨k', n', s', t', l', cl', r', rfl⟩ := Vl.shape d'
  obtain ⟨A1, c1, A2, c2, A3, c3, rfl, hb4, ⟨p1, q1⟩, ⟨p2, q2⟩, ⟨p3, q3⟩, g1, g2, g3⟩ := h.val
  obtain ⟨B1, d1, B2, d2, B3, d3, rfl, hb4', ⟨p1', q1'⟩, ⟨p2', q2'⟩, ⟨p3', q3'⟩, x1, x2, x3⟩ := h'.val
  have CT := fun W' (hW' : Later W W') => specTexts cl cl' _ _ W' S S' (g2.later hW') (x2.later hW')
  have HC := Lib.hid CT
  clear CT hb4 hb4'
  by_cases e1 : k = k'
  rotate_left
  · have e1' : (k != k') = true := by simpa using e1
    have HV : Hid (Vl.same f (.mk k n s t l cl r) (.mk k' n' s' t' l' cl' r') = false) := by unfold Hid; rw [same_mk]; simp [e1]
    clear e1 g1 g2 g3 x1 x2 x3 h h' ih
    go_enter Try.func65, Try.ntmps65
    go_wp2_with fail
    go_ret
    exact ⟨ret_bool HV.out.symm, ((Later.rfl' _).alloc _).alloc _⟩
  subst e1
  by_cases e2 : n = n'
  rotate_left
  · have e2' : (n != n') = true := by simpa using e2
    have HV : Hid (Vl.same f (.mk k n s t l cl r) (.mk k n' s' t' l' cl' r') = false) := by unfold Hid; rw [same_mk]; simp [e2]
    clear e2 g1 g2 g3 x1 x2 x3 h h' ih
    go_enter Try.func65, Try.ntmps65
    go_wp2_with fail
    go_ret
    exact ⟨ret_bool HV.out.symm, ((Later.rfl' _).alloc _).alloc _⟩
  subst e2
  by_cases e3 : s = s'
  rotate_left
  · have e3' : (s != s') = true := by simpa using e3
    have HV : Hid (Vl.same f (.mk k n s t l cl r) (.mk k n s' t' l' cl' r') = false) := by unfold Hid; rw [same_mk]; simp [e3]
    clear e3 g1 g2 g3 x1 x2 x3 h h' ih
    go_enter Try.func65, Try.ntmps65
    go_wp2_with fail
    go_ret
    exact ⟨ret_bool HV.out.symm, ((Later.rfl' _).alloc _).alloc _⟩
  subst e3
  by_cases e4 : t = t'
  rotate_left
  · have e4' := vtext_ne e4
    have e4'' := vtext_ne' e4
    have HV : Hid (Vl.same f (.mk k n s t l cl r) (.mk k n s t' l' cl' r') = false) := by unfold Hid; rw [same_mk]; simp [e4]
    clear e4 g1 g2 g3 x1 x2 x3 h h' ih
    go_enter Try.func65, Try.ntmps65
    go_wp2_with fail
    go_ret
    exact ⟨ret_bool HV.out.symm, ((Later.rfl' _).alloc _).alloc _⟩
  subst e4
  by_cases e5 : l.length = l'.length
  rotate_left
  · have e5' : ((l.length : Int) != (l'.length : Int)) = true := by simp; omega
    have HV : Hid (Vl.same f (.mk k n s t l cl r) (.mk k n s t l' cl' r') = false) := by unfold Hid; rw [same_mk]; simp [allSame_len e5]
    clear e5 g1 g2 g3 x1 x2 x3 h h' ih
    go_enter Try.func65, Try.ntmps65
    go_wp2_with fail
    go_ret
    exact ⟨ret_bool HV.out.symm, ((Later.rfl' _).alloc _).alloc _⟩
  have e5' : ((l.length : Int) != (l'.length : Int)) = false := by simp [e5]
  have HL := Lib.hid e5
  clear e5
  cases hcc : sameL cl cl' with
  | false =>
    rw [hcc] at HC
    have HV : Hid (Vl.same f (.mk k n s t l cl r) (.mk k n s t l' cl' r') = false) := by unfold Hid; rw [same_mk]; simp [hcc]
    clear hcc g1 g2 g3 x1 x2 x3 h h' ih
    go_enter Try.func65, Try.ntmps65
    go_wp2_with fail
    refine (HC.out _ (((Later.rfl' _).alloc _).alloc _)).mono ?_; rintro e w1 ⟨rfl, nd, rfl⟩
    go_wp2_with fail
    go_ret
    exact ⟨ret_bool HV.out.symm, (((Later.rfl' _).alloc _).alloc _).trans (Later.drewN _ _)⟩
  | true =>
  rw [hcc] at HC
  by_cases e6 : r.length = r'.length
  rotate_left
  · have e6' : ((r.length : Int) != (r'.length : Int)) = true := by simp; omega
    have HV : Hid (Vl.same f (.mk k n s t l cl r) (.mk k n s t l' cl' r') = false) := by unfold Hid; rw [same_mk]; simp [allSame_len e6]
    clear e6 hcc g1 g2 g3 x1 x2 x3 h h' ih
    go_enter Try.func65, Try.ntmps65
    go_wp2_with fail
    refine (HC.out _ (((Later.rfl' _).alloc _).alloc _)).mono ?_; rintro e w1 ⟨rfl, nd, rfl⟩
    go_wp2_with fail
    go_ret
    exact ⟨ret_bool HV.out.symm, (((Later.rfl' _).alloc _).alloc _).trans (Later.drewN _ _)⟩
  have e6' : ((r.length : Int) != (r'.length : Int)) = false := by simp [e6]
  have HRL := Lib.hid e6
  have HV : Hid (Vl.same f (.mk k n s t l cl r) (.mk k n s t l' cl' r') = (allSame (Vl.same f) l l' && allSame (rowSame f) r r')) := by unfold Hid; rw [same_mk, hcc]; simp
  have HE := Lib.hid g1
  have HE' := Lib.hid x1
  have HR := Lib.hid g3
  have HR' := Lib.hid x3
  have IH := Lib.hid ih
  clear e6 hcc g1 g2 g3 x1 x2 x3 h h' ih
  go_enter Try.func65, Try.ntmps65
  go_wp2_with fail
  refine (HC.out _ (((Later.rfl' _).alloc _).alloc _)).mono ?_; rintro e w1 ⟨rfl, nd, rfl⟩
  clear HC
  go_wp2_with fail
  go_loopw [7] (fun i wr => ∃ j : Nat, j ≤ l.length ∧ i = .int .i64 j ∧ (∀ k, (h1 : k < l.length) → (h2 : k < l'.length) → k < j → Vl.same f l[k] l'[k] = true) ∧ Later ((W.alloc (.cells #[.int .i64 k, .int .i64 n, .int .i64 s, .string t, .slice A1 l.length c1, .slice A2 cl.length c2, .slice A3 r.length c3] 28)).alloc (.cells #[.int .i64 k, .int .i64 n, .int .i64 s, .string t, .slice B1 l'.length d1, .slice B2 cl'.length d2, .slice B3 r'.length d3] 28)) wr) (fun i _ => l.length - (intOf i).toNat)
  case atStart => exact ⟨0, Nat.zero_le _, rfl, fun k _ _ h => absurd h (by omega), Later.drewN _ _⟩
  case round =>
    obtain ⟨j, hj, rfl, hall, hw⟩ := hrel
    obtain ⟨P, Q, hs, L⟩ := box2 hw
    have a4 := P.cell (j := 4) rfl
    have b4 := Q.cell (j := 4) rfl
    have a6 := P.cell (j := 6) rfl
    have b6 := Q.cell (j := 6) rfl
    have HA := Lib.hid hall
    have HW := Lib.hid hw
    have HLW := Lib.hid L
    clear hall hw P Q hs L
    by_cases hlt : j < l.length
    · have hlt' : j < l'.length := by have := HL.out; omega
      obtain ⟨b, off, y0, y1, y2, y3, A1, n1, c1, A2, n2, c2, A3, n3, c3, rfl, hb, _, hx, g0, g1, g2, g3, g4, g5, g6⟩ := (HE.out.later HLW.out).valAt hlt
      obtain ⟨b', off', z0, z1, z2, z3, B1, m1, d1, B2, m2, d2, B3, m3, d3, rfl, hb', _, hx', k0, k1, k2, k3, k4, k5, k6⟩ := (HE'.out.later HLW.out).valAt hlt'
      have C := fun W' (hW' : Later wr W') => IH.out l[j] (List.getElem_mem hlt) f l'[j] W' S S' _ _ (hx.later hW') (hx'.later hW')
      obtain ⟨q, hq⟩ : ∃ q, q = Vl.same f l[j] l'[j] := ⟨_, rfl⟩
      simp only [← hq] at C
      have HQ := Lib.hid hq
      have HCC := Lib.hid C
      have hki : (j : Int) < (l.length : Int) := by omega
      have hki' : (j : Int) < (l'.length : Int) := by omega
      clear C hq hx hx'
      cases q with
      | true =>
        go_wp2
        go_still_tail 11, (by kernel_rfl)
        go_wp2_with fail
        refine (HCC.out _ (Later.rfl' _).drew).mono ?_; rintro e w1 ⟨rfl, hb1⟩
        go_wp2_with fail
        go_roundw
        case rel => exact ⟨j + 1, by omega, by go_num, fun k h1 h2 hkj => if e : k = j then by subst e; exact HQ.out.symm else HA.out k h1 h2 (by omega), HW.out.trans ((Later.rfl' _).drew.trans hb1)⟩
        case measure => simp [intOf]; omega
      | false =>
        have HF : Hid (allSame (Vl.same f) l l' = false) := allSame_at hlt hlt' HQ.out.symm
        go_wp2
        go_still_tail 11, (by kernel_rfl)
        go_wp2_with fail
        refine (HCC.out _ (Later.rfl' _).drew).mono ?_; rintro e w1 ⟨rfl, hb1⟩
        go_wp2_with fail
        go_ret
        exact ⟨ret_bool (by rw [HV.out, HF.out]; rfl), HLW.out.trans ((Later.rfl' _).drew.trans hb1)⟩
    · have HT : Hid (allSame (Vl.same f) l l' = true) := allSame_all HL.out fun k h1 h2 => HA.out k h1 h2 (by omega)
      clear HA HLW
      go_wp2_with fail
      go_loopw [8] (fun i wr => ∃ j : Nat, j ≤ r.length ∧ i = .int .i64 j ∧ (∀ k, (h1 : k < r.length) → (h2 : k < r'.length) → k < j → rowSame f r[k] r'[k] = true) ∧ Later ((W.alloc (.cells #[.int .i64 k, .int .i64 n, .int .i64 s, .string t, .slice A1 l.length c1, .slice A2 cl.length c2, .slice A3 r.length c3] 28)).alloc (.cells #[.int .i64 k, .int .i64 n, .int .i64 s, .string t, .slice B1 l'.length d1, .slice B2 cl'.length d2, .slice B3 r'.length d3] 28)) wr) (fun i _ => r.length - (intOf i).toNat)
      case atStart => exact ⟨0, Nat.zero_le _, rfl, fun k _ _ h => absurd h (by omega), HW.out⟩
      case round =>
        clear a4 b4 a6 b6 HW
        obtain ⟨j', hj', rfl, hall, hw⟩ := hrel
        obtain ⟨P, Q, hs, L⟩ := box2 hw
        have a6 := P.cell (j := 6) rfl
        have b6 := Q.cell (j := 6) rfl
        have HA := Lib.hid hall
        have HW := Lib.hid hw
        have HLW := Lib.hid L
        clear hall hw P Q hs L
        by_cases hlt2 : j' < r.length
        · have hlt2' : j' < r'.length := by have := HRL.out; omega
          obtain ⟨b, off, A1, c1, A2, c2, rfl, hb, _, hx, g0, g1⟩ := (HR.out.later HLW.out).rowAt hlt2
          obtain ⟨b', off', B1, d1, B2, d2, rfl, hb', _, hx', k0, k1⟩ := (HR'.out.later HLW.out).rowAt hlt2'
          obtain ⟨_, _, _, _, ee, _, _, u1, u2⟩ := hx.row
          obtain ⟨_, _, _, _, ee', _, _, u1', u2'⟩ := hx'.row
          simp only [List.cons.injEq, Value.slice.injEq, true_and, and_true] at ee ee'
          obtain ⟨⟨rfl, rfl⟩, rfl, rfl⟩ := ee
          obtain ⟨⟨rfl, rfl⟩, rfl, rfl⟩ := ee'
          have HI := fun m => quiet_call (n := m) (specInts r[j'].cells r'[j'].cells _ _ (wr.drewN m) S S' (u1.later (Later.drewN _ _)) (u1'.later (Later.drewN _ _)))
          have HO := fun m => quiet_call (n := m) (specOrigs r[j'].from_ r'[j'].from_ _ _ (wr.drewN m) S S' (u2.later (Later.drewN _ _)) (u2'.later (Later.drewN _ _)))
          have hrs : rowSame f r[j'] r'[j'] = (sameL r[j'].cells r'[j'].cells && (!f || sameL r[j'].from_ r'[j'].from_)) := rfl
          obtain ⟨X1, hX1⟩ : ∃ q, q = sameL r[j'].cells r'[j'].cells := ⟨_, rfl⟩
          obtain ⟨X2, hX2⟩ : ∃ q, q = sameL r[j'].from_ r'[j'].from_ := ⟨_, rfl⟩
          rw [← hX1] at HI hrs
          rw [← hX2] at HO hrs
          have HRS := Lib.hid hrs
          have HHI := Lib.hid HI
          have HHO := Lib.hid HO
          have hki : (j' : Int) < (r.length : Int) := by omega
          have hki' : (j' : Int) < (r'.length : Int) := by omega
          clear hx hx' u1 u2 u1' u2' HI HO hrs hX1 hX2
          cases X1 with
          | false =>
            have HF : Hid (allSame (rowSame f) r r' = false) := allSame_at hlt2 hlt2' (by rw [HRS.out]; rfl)
            go_wp2
            go_quiet (first | (go_at_call 131; exact HHI.out _) | (go_at_call 132; exact HHO.out _))
            go_wp2_with fail
            go_ret
            exact ⟨ret_bool (by rw [HV.out, HF.out, Bool.and_false]), HLW.out.trans (Later.drewN _ _)⟩
          | true =>
            cases f with
            | false =>
              go_wp2
              go_quiet (first | (go_at_call 131; exact HHI.out _) | (go_at_call 132; exact HHO.out _))
              go_wp2_with fail
              go_roundw
              case rel => exact ⟨j' + 1, by omega, by go_num, fun k h1 h2 hkj => if e : k = j' then by subst e; rw [HRS.out]; rfl else HA.out k h1 h2 (by omega), HW.out.trans (Later.drewN _ _)⟩
              case measure => simp [intOf]; omega
            | true =>
              cases X2 with
              | false =>
                have HF : Hid (allSame (rowSame true) r r' = false) := allSame_at hlt2 hlt2' (by rw [HRS.out]; rfl)
                go_wp2
                go_quiet (first | (go_at_call 131; exact HHI.out _) | (go_at_call 132; exact HHO.out _))
                go_wp2_with fail
                go_ret
                exact ⟨ret_bool (by rw [HV.out, HF.out, Bool.and_false]), HLW.out.trans (Later.drewN _ _)⟩
              | true =>
                go_wp2
                go_quiet (first | (go_at_call 131; exact HHI.out _) | (go_at_call 132; exact HHO.out _))
                go_wp2_with fail
                go_roundw
                case rel => exact ⟨j' + 1, by omega, by go_num, fun k h1 h2 hkj => if e : k = j' then by subst e; rw [HRS.out]; rfl else HA.out k h1 h2 (by omega), HW.out.trans (Later.drewN _ _)⟩
                case measure => simp [intOf]; omega
        · have HT2 : Hid (allSame (rowSame f) r r' = true) := allSame_all HRL.out fun k h1 h2 => HA.out k h1 h2 (by omega)
          go_wp2_with fail
          go_ret
          exact ⟨ret_bool (by rw [HV.out, HT.out, HT2.out]; rfl), HLW.out⟩

set_option maxHeartbeats 2000000 in
theorem implEqual : ∀ d, SameQ 64 d := by
  refine Vl.ind fun k n s t l cl r ih f d' W S S' cs cs' h h' => ?_
  obtain ⟨k', n', s', t', l', cl', r', rfl⟩ := Vl.shape d'
  obtain ⟨A1, c1, A2, c2, A3, c3, rfl, hb4, ⟨p1, q1⟩, ⟨p2, q2⟩, ⟨p3, q3⟩, g1, g2, g3⟩ := h.val
  obtain ⟨B1, d1, B2, d2, B3, d3, rfl, hb4', ⟨p1', q1'⟩, ⟨p2', q2'⟩, ⟨p3', q3'⟩, x1, x2, x3⟩ := h'.val
  have CT := fun W' (hW' : Later W W') => implTexts cl cl' _ _ W' S S' (g2.later hW') (x2.later hW')
  have HC := Lib.hid CT
  clear CT hb4 hb4'
  by_cases e1 : k = k'
  rotate_left
  · have e1' : (k != k') = true := by simpa using e1
    have HV : Hid (Vl.same f (.mk k n s t l cl r) (.mk k' n' s' t' l' cl' r') = false) := by unfold Hid; rw [same_mk]; simp [e1]
    clear e1 g1 g2 g3 x1 x2 x3 h h' ih
    go_enter Try.func64, Try.ntmps64
    go_wp2_with fail
    go_ret
    exact ⟨ret_bool HV.out.symm, ((Later.rfl' _).alloc _).alloc _⟩
  subst e1
  by_cases e2 : n = n'
  rotate_left
  · have e2' : (n != n') = true := by simpa using e2
    have HV : Hid (Vl.same f (.mk k n s t l cl r) (.mk k n' s' t' l' cl' r') = false) := by unfold Hid; rw [same_mk]; simp [e2]
    clear e2 g1 g2 g3 x1 x2 x3 h h' ih
    go_enter Try.func64, Try.ntmps64
    go_wp2_with fail
    go_ret
    exact ⟨ret_bool HV.out.symm, ((Later.rfl' _).alloc _).alloc _⟩
  subst e2
  by_cases e3 : s = s'
  rotate_left
  · have e3' : (s != s') = true := by simpa using e3
    have HV : Hid (Vl.same f (.mk k n s t l cl r) (.mk k n s' t' l' cl' r') = false) := by unfold Hid; rw [same_mk]; simp [e3]
    clear e3 g1 g2 g3 x1 x2 x3 h h' ih
    go_enter Try.func64, Try.ntmps64
    go_wp2_with fail
    go_ret
    exact ⟨ret_bool HV.out.symm, ((Later.rfl' _).alloc _).alloc _⟩
  subst e3
  by_cases e4 : t = t'
  rotate_left
  · have e4' := vtext_ne e4
    have e4'' := vtext_ne' e4
    have HV : Hid (Vl.same f (.mk k n s t l cl r) (.mk k n s t' l' cl' r') = false) := by unfold Hid; rw [same_mk]; simp [e4]
    clear e4 g1 g2 g3 x1 x2 x3 h h' ih
    go_enter Try.func64, Try.ntmps64
    go_wp2_with fail
    go_ret
    exact ⟨ret_bool HV.out.symm, ((Later.rfl' _).alloc _).alloc _⟩
  subst e4
  cases hcc : sameL cl cl' with
  | false =>
    rw [hcc] at HC
    have HV : Hid (Vl.same f (.mk k n s t l cl r) (.mk k n s t l' cl' r') = false) := by unfold Hid; rw [same_mk]; simp [hcc]
    clear hcc g1 g2 g3 x1 x2 x3 h h' ih
    go_enter Try.func64, Try.ntmps64
    go_wp2_with fail
    refine (HC.out _ (((Later.rfl' _).alloc _).alloc _)).mono ?_; rintro e w1 ⟨rfl, nd, rfl⟩
    go_wp2_with fail
    go_ret
    exact ⟨ret_bool HV.out.symm, (((Later.rfl' _).alloc _).alloc _).trans (Later.drewN _ _)⟩
  | true =>
  rw [hcc] at HC
  by_cases e5 : l.length = l'.length
  rotate_left
  · have e5' : ((l.length : Int) != (l'.length : Int)) = true := by simp; omega
    have HV : Hid (Vl.same f (.mk k n s t l cl r) (.mk k n s t l' cl' r') = false) := by unfold Hid; rw [same_mk]; simp [allSame_len e5]
    clear e5 g1 g2 g3 x1 x2 x3 h h' ih
    go_enter Try.func64, Try.ntmps64
    go_wp2_with fail
    refine (HC.out _ (((Later.rfl' _).alloc _).alloc _)).mono ?_; rintro e w1 ⟨rfl, nd, rfl⟩
    go_wp2_with fail
    go_ret
    exact ⟨ret_bool HV.out.symm, (((Later.rfl' _).alloc _).alloc _).trans (Later.drewN _ _)⟩
  have e5' : ((l.length : Int) != (l'.length : Int)) = false := by simp [e5]
  have HL := Lib.hid e5
  clear e5
  by_cases e6 : r.length = r'.length
  rotate_left
  · have e6' : ((r.length : Int) != (r'.length : Int)) = true := by simp; omega
    have HV : Hid (Vl.same f (.mk k n s t l cl r) (.mk k n s t l' cl' r') = false) := by unfold Hid; rw [same_mk]; simp [allSame_len e6]
    clear e6 hcc g1 g2 g3 x1 x2 x3 h h' ih
    go_enter Try.func64, Try.ntmps64
    go_wp2_with fail
    refine (HC.out _ (((Later.rfl' _).alloc _).alloc _)).mono ?_; rintro e w1 ⟨rfl, nd, rfl⟩
    go_wp2_with fail
    go_ret
    exact ⟨ret_bool HV.out.symm, (((Later.rfl' _).alloc _).alloc _).trans (Later.drewN _ _)⟩
  have e6' : ((r.length : Int) != (r'.length : Int)) = false := by simp [e6]
  have HRL := Lib.hid e6
  have HV : Hid (Vl.same f (.mk k n s t l cl r) (.mk k n s t l' cl' r') = (allSame (Vl.same f) l l' && allSame (rowSame f) r r')) := by unfold Hid; rw [same_mk, hcc]; simp
  have HE := Lib.hid g1
  have HE' := Lib.hid x1
  have HR := Lib.hid g3
  have HR' := Lib.hid x3
  have IH := Lib.hid ih
  clear e6 hcc g1 g2 g3 x1 x2 x3 h h' ih
  go_enter Try.func64, Try.ntmps64
  go_wp2_with fail
  refine (HC.out _ (((Later.rfl' _).alloc _).alloc _)).mono ?_; rintro e w1 ⟨rfl, nd, rfl⟩
  clear HC
  go_wp2_with fail
  go_loopw [64] (fun i wr => ∃ j : Nat, j ≤ l.length ∧ i = .int .i64 j ∧ (∀ k, (h1 : k < l.length) → (h2 : k < l'.length) → k < j → Vl.same f l[k] l'[k] = true) ∧ Later ((W.alloc (.cells #[.int .i64 k, .int .i64 n, .int .i64 s, .string t, .slice A1 l.length c1, .slice A2 cl.length c2, .slice A3 r.length c3] 28)).alloc (.cells #[.int .i64 k, .int .i64 n, .int .i64 s, .string t, .slice B1 l'.length d1, .slice B2 cl'.length d2, .slice B3 r'.length d3] 28)) wr) (fun i _ => l.length - (intOf i).toNat)
  case atStart => exact ⟨0, Nat.zero_le _, rfl, fun k _ _ h => absurd h (by omega), Later.drewN _ _⟩
  case round =>
    obtain ⟨j, hj, rfl, hall, hw⟩ := hrel
    obtain ⟨P, Q, hs, L⟩ := box2 hw
    have a4 := P.cell (j := 4) rfl
    have b4 := Q.cell (j := 4) rfl
    have a6 := P.cell (j := 6) rfl
    have b6 := Q.cell (j := 6) rfl
    have HA := Lib.hid hall
    have HW := Lib.hid hw
    have HLW := Lib.hid L
    clear hall hw P Q hs L
    by_cases hlt : j < l.length
    · have hlt' : j < l'.length := by have := HL.out; omega
      obtain ⟨b, off, y0, y1, y2, y3, A1, n1, c1, A2, n2, c2, A3, n3, c3, rfl, hb, _, hx, g0, g1, g2, g3, g4, g5, g6⟩ := (HE.out.later HLW.out).valAt hlt
      obtain ⟨b', off', z0, z1, z2, z3, B1, m1, d1, B2, m2, d2, B3, m3, d3, rfl, hb', _, hx', k0, k1, k2, k3, k4, k5, k6⟩ := (HE'.out.later HLW.out).valAt hlt'
      have C := fun W' (hW' : Later wr W') => IH.out l[j] (List.getElem_mem hlt) f l'[j] W' S S' _ _ (hx.later hW') (hx'.later hW')
      obtain ⟨q, hq⟩ : ∃ q, q = Vl.same f l[j] l'[j] := ⟨_, rfl⟩
      simp only [← hq] at C
      have HQ := Lib.hid hq
      have HCC := Lib.hid C
      have hki : (j : Int) < (l.length : Int) := by omega
      have hki' : (j : Int) < (l'.length : Int) := by omega
      clear C hq hx hx'
      cases q with
      | true =>
        go_wp2
        go_still_tail 11, (by kernel_rfl)
        go_wp2_with fail
        refine (HCC.out _ (Later.rfl' _).drew).mono ?_; rintro e w1 ⟨rfl, hb1⟩
        go_wp2_with fail
        go_roundw
        case rel => exact ⟨j + 1, by omega, by go_num, fun k h1 h2 hkj => if e : k = j then by subst e; exact HQ.out.symm else HA.out k h1 h2 (by omega), HW.out.trans ((Later.rfl' _).drew.trans hb1)⟩
        case measure => simp [intOf]; omega
      | false =>
        have HF : Hid (allSame (Vl.same f) l l' = false) := allSame_at hlt hlt' HQ.out.symm
        go_wp2
        go_still_tail 11, (by kernel_rfl)
        go_wp2_with fail
        refine (HCC.out _ (Later.rfl' _).drew).mono ?_; rintro e w1 ⟨rfl, hb1⟩
        go_wp2_with fail
        go_ret
        exact ⟨ret_bool (by rw [HV.out, HF.out]; rfl), HLW.out.trans ((Later.rfl' _).drew.trans hb1)⟩
    · have HT : Hid (allSame (Vl.same f) l l' = true) := allSame_all HL.out fun k h1 h2 => HA.out k h1 h2 (by omega)
      clear HA HLW
      go_wp2_with fail
      go_loopw [84] (fun i wr => ∃ j : Nat, j ≤ r.length ∧ i = .int .i64 j ∧ (∀ k, (h1 : k < r.length) → (h2 : k < r'.length) → k < j → rowSame f r[k] r'[k] = true) ∧ Later ((W.alloc (.cells #[.int .i64 k, .int .i64 n, .int .i64 s, .string t, .slice A1 l.length c1, .slice A2 cl.length c2, .slice A3 r.length c3] 28)).alloc (.cells #[.int .i64 k, .int .i64 n, .int .i64 s, .string t, .slice B1 l'.length d1, .slice B2 cl'.length d2, .slice B3 r'.length d3] 28)) wr) (fun i _ => r.length - (intOf i).toNat)
      case atStart => exact ⟨0, Nat.zero_le _, rfl, fun k _ _ h => absurd h (by omega), HW.out⟩
      case round =>
        clear a4 b4 a6 b6 HW
        obtain ⟨j', hj', rfl, hall, hw⟩ := hrel
        obtain ⟨P, Q, hs, L⟩ := box2 hw
        have a6 := P.cell (j := 6) rfl
        have b6 := Q.cell (j := 6) rfl
        have HA := Lib.hid hall
        have HW := Lib.hid hw
        have HLW := Lib.hid L
        clear hall hw P Q hs L
        by_cases hlt2 : j' < r.length
        · have hlt2' : j' < r'.length := by have := HRL.out; omega
          obtain ⟨b, off, A1, c1, A2, c2, rfl, hb, _, hx, g0, g1⟩ := (HR.out.later HLW.out).rowAt hlt2
          obtain ⟨b', off', B1, d1, B2, d2, rfl, hb', _, hx', k0, k1⟩ := (HR'.out.later HLW.out).rowAt hlt2'
          obtain ⟨_, _, _, _, ee, _, _, u1, u2⟩ := hx.row
          obtain ⟨_, _, _, _, ee', _, _, u1', u2'⟩ := hx'.row
          simp only [List.cons.injEq, Value.slice.injEq, true_and, and_true] at ee ee'
          obtain ⟨⟨rfl, rfl⟩, rfl, rfl⟩ := ee
          obtain ⟨⟨rfl, rfl⟩, rfl, rfl⟩ := ee'
          have HI := fun m => quiet_call (n := m) (implInts r[j'].cells r'[j'].cells _ _ (wr.drewN m) S S' (u1.later (Later.drewN _ _)) (u1'.later (Later.drewN _ _)))
          have HO := fun m => quiet_call (n := m) (implOrigs r[j'].from_ r'[j'].from_ _ _ (wr.drewN m) S S' (u2.later (Later.drewN _ _)) (u2'.later (Later.drewN _ _)))
          have hrs : rowSame f r[j'] r'[j'] = (sameL r[j'].cells r'[j'].cells && (!f || sameL r[j'].from_ r'[j'].from_)) := rfl
          obtain ⟨X1, hX1⟩ : ∃ q, q = sameL r[j'].cells r'[j'].cells := ⟨_, rfl⟩
          obtain ⟨X2, hX2⟩ : ∃ q, q = sameL r[j'].from_ r'[j'].from_ := ⟨_, rfl⟩
          rw [← hX1] at HI hrs
          rw [← hX2] at HO hrs
          have HRS := Lib.hid hrs
          have HHI := Lib.hid HI
          have HHO := Lib.hid HO
          have hki : (j' : Int) < (r.length : Int) := by omega
          have hki' : (j' : Int) < (r'.length : Int) := by omega
          clear hx hx' u1 u2 u1' u2' HI HO hrs hX1 hX2
          cases X1 with
          | false =>
            have HF : Hid (allSame (rowSame f) r r' = false) := allSame_at hlt2 hlt2' (by rw [HRS.out]; rfl)
            go_wp2
            go_quiet (first | (go_at_call 128; exact HHI.out _) | (go_at_call 129; exact HHO.out _))
            go_wp2_with fail
            go_ret
            exact ⟨ret_bool (by rw [HV.out, HF.out, Bool.and_false]), HLW.out.trans (Later.drewN _ _)⟩
          | true =>
            cases f with
            | false =>
              go_wp2
              go_quiet (first | (go_at_call 128; exact HHI.out _) | (go_at_call 129; exact HHO.out _))
              go_wp2_with fail
              go_roundw
              case rel => exact ⟨j' + 1, by omega, by go_num, fun k h1 h2 hkj => if e : k = j' then by subst e; rw [HRS.out]; rfl else HA.out k h1 h2 (by omega), HW.out.trans (Later.drewN _ _)⟩
              case measure => simp [intOf]; omega
            | true =>
              cases X2 with
              | false =>
                have HF : Hid (allSame (rowSame true) r r' = false) := allSame_at hlt2 hlt2' (by rw [HRS.out]; rfl)
                go_wp2
                go_quiet (first | (go_at_call 128; exact HHI.out _) | (go_at_call 129; exact HHO.out _))
                go_wp2_with fail
                go_ret
                exact ⟨ret_bool (by rw [HV.out, HF.out, Bool.and_false]), HLW.out.trans (Later.drewN _ _)⟩
              | true =>
                go_wp2
                go_quiet (first | (go_at_call 128; exact HHI.out _) | (go_at_call 129; exact HHO.out _))
                go_wp2_with fail
                go_roundw
                case rel => exact ⟨j' + 1, by omega, by go_num, fun k h1 h2 hkj => if e : k = j' then by subst e; rw [HRS.out]; rfl else HA.out k h1 h2 (by omega), HW.out.trans (Later.drewN _ _)⟩
                case measure => simp [intOf]; omega
        · have HT2 : Hid (allSame (rowSame f) r r' = true) := allSame_all HRL.out fun k h1 h2 => HA.out k h1 h2 (by omega)
          go_wp2_with fail
          go_ret
          exact ⟨ret_bool (by rw [HV.out, HT.out, HT2.out]; rfl), HLW.out⟩


theorem specEqualValue (d d' : Vl) (W : World) (S S' : Nat → Prop) (cs cs' : List Value) (h : Ats W S (encV d) cs) (h' : Ats W S' (encV d') cs') : Calls Try.prog 15 #[.agg cs.toArray, .agg cs'.toArray] W fun r w' => r = .returned (.bool (Vl.same true d d')) ∧ Later W w' := by
  have C := fun W' (hW' : Later W W') => specSame d true d' W' S S' cs cs' (h.later hW') (h'.later hW')
  obtain ⟨k, n, s, t, l, cl, r, rfl⟩ := Vl.shape d
  obtain ⟨k', n', s', t', l', cl', r', rfl⟩ := Vl.shape d'
  obtain ⟨A1, c1, A2, c2, A3, c3, rfl, _⟩ := h.val
  obtain ⟨B1, d1, B2, d2, B3, d3, rfl, _⟩ := h'.val
  obtain ⟨q, hq⟩ : ∃ q, q = Vl.same true (.mk k n s t l cl r) (.mk k' n' s' t' l' cl' r') := ⟨_, rfl⟩
  rw [← hq] at C ⊢
  have HC := Lib.hid C
  clear C hq h h'
  go_enter Try.func15, Try.ntmps15
  go_wp2_with fail
  refine (HC.out _ (((Later.rfl' _).alloc _).alloc _)).mono ?_; rintro e w1 ⟨rfl, hb1⟩
  go_wp2_with fail
  go_ret
  exact ⟨rfl, (((Later.rfl' _).alloc _).alloc _).trans hb1⟩

theorem specEqualShown (d d' : Vl) (W : World) (S S' : Nat → Prop) (cs cs' : List Value) (h : Ats W S (encV d) cs) (h' : Ats W S' (encV d') cs') : Calls Try.prog 94 #[.agg cs.toArray, .agg cs'.toArray] W fun r w' => r = .returned (.bool (Vl.same false d d')) ∧ Later W w' := by
  have C := fun W' (hW' : Later W W') => specSame d false d' W' S S' cs cs' (h.later hW') (h'.later hW')
  obtain ⟨k, n, s, t, l, cl, r, rfl⟩ := Vl.shape d
  obtain ⟨k', n', s', t', l', cl', r', rfl⟩ := Vl.shape d'
  obtain ⟨A1, c1, A2, c2, A3, c3, rfl, _⟩ := h.val
  obtain ⟨B1, d1, B2, d2, B3, d3, rfl, _⟩ := h'.val
  obtain ⟨q, hq⟩ : ∃ q, q = Vl.same false (.mk k n s t l cl r) (.mk k' n' s' t' l' cl' r') := ⟨_, rfl⟩
  rw [← hq] at C ⊢
  have HC := Lib.hid C
  clear C hq h h'
  go_enter Try.func94, Try.ntmps94
  go_wp2_with fail
  refine (HC.out _ (((Later.rfl' _).alloc _).alloc _)).mono ?_; rintro e w1 ⟨rfl, hb1⟩
  go_wp2_with fail
  go_ret
  exact ⟨rfl, (((Later.rfl' _).alloc _).alloc _).trans hb1⟩

theorem implEqualValue (d d' : Vl) (W : World) (S S' : Nat → Prop) (cs cs' : List Value) (h : Ats W S (encV d) cs) (h' : Ats W S' (encV d') cs') : Calls Try.prog 14 #[.agg cs.toArray, .agg cs'.toArray] W fun r w' => r = .returned (.bool (Vl.same true d d')) ∧ Later W w' := by
  have C := fun W' (hW' : Later W W') => implEqual d true d' W' S S' cs cs' (h.later hW') (h'.later hW')
  obtain ⟨k, n, s, t, l, cl, r, rfl⟩ := Vl.shape d
  obtain ⟨k', n', s', t', l', cl', r', rfl⟩ := Vl.shape d'
  obtain ⟨A1, c1, A2, c2, A3, c3, rfl, _⟩ := h.val
  obtain ⟨B1, d1, B2, d2, B3, d3, rfl, _⟩ := h'.val
  obtain ⟨q, hq⟩ : ∃ q, q = Vl.same true (.mk k n s t l cl r) (.mk k' n' s' t' l' cl' r') := ⟨_, rfl⟩
  rw [← hq] at C ⊢
  have HC := Lib.hid C
  clear C hq h h'
  go_enter Try.func14, Try.ntmps14
  go_wp2_with fail
  refine (HC.out _ (((Later.rfl' _).alloc _).alloc _)).mono ?_; rintro e w1 ⟨rfl, hb1⟩
  go_wp2_with fail
  go_ret
  exact ⟨rfl, (((Later.rfl' _).alloc _).alloc _).trans hb1⟩

theorem implEqualShown (d d' : Vl) (W : World) (S S' : Nat → Prop) (cs cs' : List Value) (h : Ats W S (encV d) cs) (h' : Ats W S' (encV d') cs') : Calls Try.prog 16 #[.agg cs.toArray, .agg cs'.toArray] W fun r w' => r = .returned (.bool (Vl.same false d d')) ∧ Later W w' := by
  have C := fun W' (hW' : Later W W') => implEqual d false d' W' S S' cs cs' (h.later hW') (h'.later hW')
  obtain ⟨k, n, s, t, l, cl, r, rfl⟩ := Vl.shape d
  obtain ⟨k', n', s', t', l', cl', r', rfl⟩ := Vl.shape d'
  obtain ⟨A1, c1, A2, c2, A3, c3, rfl, _⟩ := h.val
  obtain ⟨B1, d1, B2, d2, B3, d3, rfl, _⟩ := h'.val
  obtain ⟨q, hq⟩ : ∃ q, q = Vl.same false (.mk k n s t l cl r) (.mk k' n' s' t' l' cl' r') := ⟨_, rfl⟩
  rw [← hq] at C ⊢
  have HC := Lib.hid C
  clear C hq h h'
  go_enter Try.func16, Try.ntmps16
  go_wp2_with fail
  refine (HC.out _ (((Later.rfl' _).alloc _).alloc _)).mono ?_; rintro e w1 ⟨rfl, hb1⟩
  go_wp2_with fail
  go_ret
  exact ⟨rfl, (((Later.rfl' _).alloc _).alloc _).trans hb1⟩
end Go.Proofs.Ytghemlokpfipoaa
