/-
  Marks that are held: heldValueS.
-/
import Derived.Test.YtghemlokpfipoaaPart29
namespace Go.Proofs.Ytghemlokpfipoaa
open Go.ChangeShapes Go.WideShapes Go.ChangeAt Go.RowKit
set_option linter.unusedVariables false
set_option linter.unusedSimpArgs false

def HeldVQ (d : Vl) : Prop := ∀ k n s t l c r, d = .mk k n s t l c r → HeldsQ 106 7 l.length (l.flatMap encV)

set_option maxHeartbeats 2000000 in
theorem heldValueS_step (l : List Vl) (ih : ∀ x, x ∈ l → HeldVQ x) : HeldsQ 106 7 l.length (l.flatMap encV) := by
  intro k x W S v hx hl hk h
  subst hx
  obtain ⟨A, c, rfl, h1, h2, _⟩ := At.sl_inv h
  have H0 := Lib.hid h
  obtain ⟨ds, hds⟩ : ∃ ds, ds = l.flatMap encV := ⟨_, rfl⟩
  have hget : ∀ j (hj : j < l.length), ∃ k n s t l' cl r, l[j] = .mk k n s t l' cl r ∧ ds[j * 7]? = some (.int k) ∧ ds[j * 7 + 1]? = some (.int n) ∧ ds[j * 7 + 2]? = some (.int s) ∧ ds[j * 7 + 3]? = some (.str t) ∧ ds[j * 7 + 4]? = some (.sl 7 l'.length (l'.flatMap encV)) ∧
      ds[j * 7 + 5]? = some (.sl 1 cl.length (cl.flatMap encS)) ∧ ds[j * 7 + 6]? = some (.sl 2 r.length (r.flatMap encR)) := by
    intro j hj
    obtain ⟨k, n, s, t, l', cl, r, hx⟩ := Vl.shape l[j]
    have hh : ∀ i, i < 7 → ds[j * 7 + i]? = (encV l[j])[i]? := fun i hi => by rw [hds]; exact flat_get encV_len l hj hi
    rw [hx, encV, encVs_eq] at hh
    refine ⟨k, n, s, t, l', cl, r, hx, hh 0 (by omega), hh 1 (by omega), hh 2 (by omega), hh 3 (by omega), hh 4 (by omega), hh 5 (by omega), hh 6 (by omega)⟩
  rw [← hds] at H0 hk hl ⊢
  have HG := Lib.hid hget
  have HL := Lib.hid hl
  have IH := Lib.hid ih
  clear h hget hds hl ih
  go_enter Try.func106, Try.ntmps106
  go_wp2_with fail
  go_loopw [1, 5] (fun s i wr => ∃ j K : Nat, j ≤ l.length ∧ i = .int .i64 j ∧ s = .int .i64 (K : Int) ∧ K = k + Dt.cnts (ds.take (j * 7)) ∧ Later W wr) (fun _ i _ => l.length - (intOf i).toNat)
  case atStart => exact ⟨0, k, Nat.zero_le _, rfl, rfl, by simp [Dt.cnts], Later.rfl' _⟩
  case round =>
    obtain ⟨j, K, hj, rfl, rfl, hK, hw⟩ := hrel
    by_cases hlt : j < l.length
    · obtain ⟨xk, xn, xs, xt, xl, xc, xr, hx, g0, g1, g2, g3, g4, g5, g6⟩ := HG.out j hlt
      have IHx := IH.out l[j] (List.getElem_mem hlt) _ _ _ _ _ _ _ hx
      have hat := H0.out.later hw
      have hle := cnts_le ds (j * 7 + 6 + 1)
      obtain ⟨b, off, rfl, hb, e0⟩ := hat.markInt g0
      obtain ⟨b', off', eg, _, e1⟩ := hat.markInt g1
      simp only [Option.some.injEq, Addr.mk.injEq, and_true] at eg
      obtain ⟨rfl, rfl⟩ := eg
      obtain ⟨b', off', eg, _, e2⟩ := hat.markInt g2
      simp only [Option.some.injEq, Addr.mk.injEq, and_true] at eg
      obtain ⟨rfl, rfl⟩ := eg
      obtain ⟨b', off', eg, _, e3⟩ := hat.markStr g3
      simp only [Option.some.injEq, Addr.mk.injEq, and_true] at eg
      obtain ⟨rfl, rfl⟩ := eg
      obtain ⟨b', off', A4, c4, eg, _, e4, a4⟩ := hat.markSub g4
      simp only [Option.some.injEq, Addr.mk.injEq, and_true] at eg
      obtain ⟨rfl, rfl⟩ := eg
      obtain ⟨b', off', A5, c5, eg, _, e5, a5⟩ := hat.markSub g5
      simp only [Option.some.injEq, Addr.mk.injEq, and_true] at eg
      obtain ⟨rfl, rfl⟩ := eg
      obtain ⟨b', off', A6, c6, eg, _, e6, a6⟩ := hat.markSub g6
      simp only [Option.some.injEq, Addr.mk.injEq, and_true] at eg
      obtain ⟨rfl, rfl⟩ := eg
      have s0 := cnts_succ g0
      have s1 := cnts_succ g1
      have s2 := cnts_succ g2
      have s3 := cnts_succ g3
      have s4 := cnts_succ g4
      have s5 := cnts_succ g5
      have s6 := cnts_succ g6
      simp only [Dt.cnt, Nat.add_assoc, Nat.reduceAdd] at s0 s1 s2 s3 s4 s5 s6 hle
      obtain ⟨N1, hN1⟩ : ∃ N, N = Dt.cnts (xl.flatMap encV) := ⟨_, rfl⟩
      obtain ⟨N2, hN2⟩ : ∃ N, N = Dt.cnts (xc.flatMap encS) := ⟨_, rfl⟩
      obtain ⟨N3, hN3⟩ : ∃ N, N = Dt.cnts (xr.flatMap encR) := ⟨_, rfl⟩
      rw [← hN1] at s4
      rw [← hN2] at s5
      rw [← hN3] at s6
      have hKb : K + 4 + N1 + N2 + N3 ≤ 1099511627776 := by omega
      have q0 : ((k + Dt.cnts (ds.take (j * 7)) : Nat) : Int) = (K : Int) := by omega
      have q1 : ((k + Dt.cnts (ds.take (j * 7 + 1)) : Nat) : Int) = (K : Int) + 1 := by omega
      have q2 : ((k + Dt.cnts (ds.take (j * 7 + 2)) : Nat) : Int) = (K : Int) + 1 + 1 := by omega
      have q3 : k + Dt.cnts (ds.take (j * 7 + 3)) = K + 3 := by omega
      have q4 : k + Dt.cnts (ds.take (j * 7 + 4)) = K + 4 := by omega
      have q5 : k + Dt.cnts (ds.take (j * 7 + 5)) = K + 4 + N1 := by omega
      have q6 : k + Dt.cnts (ds.take (j * 7 + 6)) = K + 4 + N1 + N2 := by omega
      rw [q0] at e0
      rw [q1] at e1
      rw [q2] at e2
      rw [q3] at e3
      rw [q4] at a4
      rw [q5] at a5
      rw [q6] at a6
      have C1 := fun W' (hW' : Later wr W') => IHx (K + 4) ((K : Int) + 1 + 1 + 1 + 1) W' S _ (by omega) (by rw [flat_len encV_len]) (by rw [← hN1]; omega) (a4.later hW')
      have C2 := fun W' (hW' : Later wr W') => heldStrs xc (K + 4 + N1) ((K + 4 + N1 : Nat) : Int) W' S _ rfl (by rw [flat_len encS_len]) (by rw [← hN2]; omega) (a5.later hW')
      have C3 := fun W' (hW' : Later wr W') => heldRowS xr (K + 4 + N1 + N2) ((K + 4 + N1 + N2 : Nat) : Int) W' S _ rfl (by rw [flat_len encR_len]) (by rw [← hN3]; omega) (a6.later hW')
      simp only [← hN1, ← hN2, ← hN3] at C1 C2 C3
      have CM := fun W => markTextX ((K : Int) + 1 + 1 + 1) (K + 3) (by omega) (by omega) W
      obtain ⟨M, hM⟩ : ∃ M, M = markB (K + 3) := ⟨_, rfl⟩
      rw [← hM] at CM e3
      have h7 : K + 4 + N1 + N2 + N3 = k + Dt.cnts (ds.take ((j + 1) * 7)) := by rw [show (j + 1) * 7 = j * 7 + 7 by omega]; omega
      have H7 := Lib.hid h7
      have HCM := Lib.hid CM
      have HC1 := Lib.hid C1; have HC2 := Lib.hid C2; have HC3 := Lib.hid C3
      have HW := Lib.hid hw
      have hji : (j : Int) < (l.length : Int) := by omega
      have hp1 : (0 : Int) ≤ ((K + 4 + N1 : Nat) : Int) := by omega
      have hp2 : (0 : Int) ≤ ((K + 4 + N1 + N2 : Nat) : Int) := by omega
      have hp3 : (0 : Int) ≤ ((K + 4 + N1 + N2 + N3 : Nat) : Int) := by omega
      simp only [← Nat.add_assoc] at e1 e2 e3 e4 e5 e6
      clear CM C1 C2 C3 hM h7 q0 q1 q2 q3 q4 q5 q6 s0 s1 s2 s3 s4 s5 s6 hle hN1 hN2 hN3 g0 g1 g2 g3 g4 g5 g6 hx IHx hat a4 a5 a6 hK hw
      go_wp2_with fail
      go_region_held3 (fun w' => w'.cell? ⟨b, off + j * 7 + 3, none⟩ = some (.string M))
        (first | exact e3 | exact kept_cell hb1 e3)
        (first | (go_at_call 103; refine (HCM.out _).mono ?_; rintro r w1 ⟨rfl, hb1⟩))
      have L1 := Lib.hid ((Later.rfl' wr).drew.trans hb1)
      have f4 := kept_cell L1.out e4
      have f5 := kept_cell L1.out e5
      have f6 := kept_cell L1.out e6
      clear hb1 e0 e1 e2 e3 e4 e5 e6 HCM
      go_wp2_with fail
      refine (HC1.out _ L1.out).mono ?_; rintro r w2 ⟨rfl, hb⟩
      have L2 := Lib.hid (L1.out.trans hb)
      have k5 := kept_cell hb f5
      have k6 := kept_cell hb f6
      clear hb f4 f5 f6 L1
      go_wp2_with fail
      refine (HC2.out _ L2.out).mono ?_; rintro r w3 ⟨rfl, hb⟩
      have L3 := Lib.hid (L2.out.trans hb)
      have n6 := kept_cell hb k6
      clear hb k5 k6 L2
      go_wp2_with fail
      refine (HC3.out _ L3.out).mono ?_; rintro r w4 ⟨rfl, hb⟩
      have L4 := Lib.hid (L3.out.trans hb)
      clear hb n6 L3
      go_wp2_with fail
      go_roundw
      case rel => exact ⟨j + 1, K + 4 + N1 + N2 + N3, by omega, by go_num, rfl, H7.out, HW.out.trans L4.out⟩
      case measure => simp [intOf]; omega
    · have e : j * 7 = ds.length := by have := HL.out; omega
      rw [e, List.take_length] at hK
      have HK := Lib.hid hK
      clear e hK
      go_wp2_with fail
      go_ret
      exact ⟨ret_int (by rw [HK.out]), hw⟩
theorem heldVQ : ∀ d, HeldVQ d := by
  refine Vl.ind fun k n s t l c r ih => ?_
  intro k' n' s' t' l' c' r' e
  simp only [Vl.mk.injEq] at e
  obtain ⟨_, _, _, _, rfl, _, _⟩ := e
  exact heldValueS_step l ih
theorem heldValueS (l : List Vl) : HeldsQ 106 7 l.length (l.flatMap encV) := heldValueS_step l fun x _ => heldVQ x
end Go.Proofs.Ytghemlokpfipoaa
