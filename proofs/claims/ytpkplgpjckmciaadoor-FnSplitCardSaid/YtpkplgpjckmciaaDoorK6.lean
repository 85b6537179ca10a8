/-
  The law FnSplit: the draws and its walk.
-/
import Derived.Test.YtpkplgpjckmciaaDoorK5
namespace Go.Proofs.YtpkplgpjckmciaaDoor
open Go.ChangeShapes Go.WideShapes Go.ChangeAt Go.RowKit
set_option linter.unusedVariables false
set_option linter.unusedSimpArgs false
set_option maxRecDepth 100000

theorem drawPickInt (g b : Nat) (xs : List Int) (hne : b ≠ g) (h0 : 0 < xs.length) (h1 : xs.length ≤ 256) (W : World) (hc : CurAt W g) (B : Box W b (xs.map (.int .i64))) :
    Calls Tryd.prog 11 #[.pointer (some ⟨g, 0, none⟩), .slice (some ⟨b, 0, none⟩) xs.length xs.length] W fun r w' => (∃ s, s ∈ xs ∧ r = .returned (.int .i64 s)) ∧ CurAt w' g ∧ Chg (onlyB g) W w' := by
  have HC := Lib.hid (drawBelow xs.length g h0 h1 W hc)
  have HB := Lib.hid B
  clear hc B h0 h1
  go_enter Tryd.func11, Tryd.ntmps11
  go_wp2_with fail
  refine HC.out.mono ?_; rintro e w1 ⟨⟨x, hx, rfl⟩, hcu, hch⟩
  have hcell := (HB.out.chg hch (fun e => hne e)).cell (j := x) (u := .int .i64 xs[x]) (by simp [hx])
  have hm : xs[x] ∈ xs := List.getElem_mem hx
  have hki : (x : Int) < (xs.length : Int) := by omega
  obtain ⟨s, hs⟩ : ∃ s, s = xs[x] := ⟨_, rfl⟩
  rw [← hs] at hcell hm
  have HM := Lib.hid hm
  have H1 := Lib.hid hcu; have H2 := Lib.hid hch
  clear hcu hch hs hm HC HB
  go_wp2_with fail
  go_ret
  exact ⟨⟨s, HM.out, rfl⟩, H1.out, H2.out⟩
def splitList : List ByteArray := [⟨#[]⟩, ⟨#[97]⟩, ⟨#[97, 44, 98]⟩, ⟨#[44]⟩, ⟨#[97, 44, 44, 98, 44]⟩, ⟨#[97, 10, 98, 10]⟩]
theorem splitList_small : ∀ s ∈ splitList, s.size ≤ 100 := by decide
theorem drawSplit (v : Value) (n : Nat) (W : World) (h : BytesAt W v n) (hn : n ≤ 1048576) : Calls Tryd.prog 5 #[v] W fun r w' => (∃ (s : ByteArray) (c : UInt8), r = .returned (.tuple #[.string s, .int .u8 (c.toNat : Int)]) ∧ s.size ≤ 100) ∧ Later W w' := by
  have HN := Lib.hid (drawNew v n W h hn)
  have CP := fun w b (g : Nat) (hb : b ≠ g) (hcu : CurAt w g) (B : Box w b (splitList.map .string)) => drawPick g b splitList hb (by decide) (by decide) w hcu B
  have CI := fun w b (g : Nat) (hb : b ≠ g) (hcu : CurAt w g) (B : Box w b (([44, 10] : List Int).map (.int .i64))) => drawPickInt g b [44, 10] hb (by decide) (by decide) w hcu B
  have HP := Lib.hid CP; have HI := Lib.hid CI
  clear CP CI h
  go_enter Tryd.func5, Tryd.ntmps5
  go_wp2_with fail
  refine HN.out.mono ?_; rintro e w1 ⟨⟨g, rfl, hg, hc⟩, hb1⟩
  have HCU := Lib.hid hc; have HG := Lib.hid hg; have L1 := Lib.hid hb1
  have hlt := hc.lt
  clear hc hg hb1 HN
  go_wp2_with fail
  refine (HP.out _ _ g (by omega) (HCU.out.later ((Later.rfl' _).alloc _)) (box_alloc _ _ _)).mono ?_; rintro e w2 ⟨⟨s, hs, rfl⟩, hcu, hch⟩
  have L2 := Lib.hid (Chg.later (L1.out.alloc _) hch fun k hk => by unfold onlyB at hk; have := HG.out; omega)
  have HCU2 := Lib.hid hcu; have HS := Lib.hid (splitList_small s hs)
  have hlt2 := hcu.lt
  clear hcu hch hs HP HCU
  go_wp2_with fail
  refine (HI.out _ _ g (by omega) (HCU2.out.later ((Later.rfl' _).alloc _)) (box_alloc _ _ _)).mono ?_; rintro e w3 ⟨⟨x, hx, rfl⟩, hcu, hch⟩
  have L3 := Lib.hid (Chg.later (L2.out.alloc _) hch fun k hk => by unfold onlyB at hk; have := HG.out; omega)
  have hx2 : x = 44 ∨ x = 10 := by simpa using hx
  clear hcu hch hx HI HCU2
  rcases hx2 with rfl | rfl
  · go_wp2_with fail
    exact bodyPost_ret (v := .tuple #[.string s, .int .u8 44]) (by simp [results, Tryd.results5, go_sem]) rfl ⟨⟨s, 44, rfl, HS.out⟩, L3.out⟩
  · go_wp2_with fail
    exact bodyPost_ret (v := .tuple #[.string s, .int .u8 10]) (by simp [results, Tryd.results5, go_sem]) rfl ⟨⟨s, 10, rfl, HS.out⟩, L3.out⟩

theorem costS_le {M : Nat} : ∀ {l : List ByteArray}, (∀ x ∈ l, x.size ≤ M) → costS l ≤ l.length * (M + 1)
  | [], _ => by simp [costS]
  | x :: l, h => by
    have h1 := costS_le (l := l) fun y hy => h y (List.mem_cons_of_mem _ hy)
    have h2 := h x List.mem_cons_self
    unfold costS at h1 ⊢
    simp only [List.map_cons, List.sum_cons, List.length_cons]
    rw [Nat.succ_mul]
    omega

set_option maxHeartbeats 4000000 in
theorem walk_FnSplit (v : Value) (n : Nat) (w : World) (h : BytesAt w v n) (hmax : MaxAt w) : Calls Tryd.prog 3 #[v] w fun r w' => r = .returned (.bool true) ∧ Later w w' := by
  by_cases hbig : 1048576 < n
  · have C0 := bigBytes v n w h
    rw [show decide (1048576 < n) = true by simp; omega] at C0
    have HB := Lib.hid C0
    clear C0 hbig h hmax
    go_enter Tryd.func3, Tryd.ntmps3
    go_wp2_with fail
    refine HB.out.mono ?_; rintro e w1 ⟨rfl, hb1⟩
    go_wp2_with fail
    go_ret
    exact ⟨rfl, hb1⟩
  · have C0 := bigBytes v n w h
    rw [show decide (1048576 < n) = false by simp; omega] at C0
    have hle : n ≤ 1048576 := by omega
    have C1 := fun W (hW : Later w W) => drawSplit v n W (BytesAt.later h hW) hle
    have HB := Lib.hid C0; have HD := Lib.hid C1; have HMAX := Lib.hid hmax
    clear C0 C1 hbig hle h hmax
    go_enter Tryd.func3, Tryd.ntmps3
    go_wp2_with fail
    refine HB.out.mono ?_; rintro e w1 ⟨rfl, hb⟩
    have L := Lib.hid hb; clear hb HB
    go_wp2_with fail
    refine (HD.out _ L.out).mono ?_; rintro e w2 ⟨⟨s, c, rfl, hs⟩, hb⟩
    replace L := Lib.hid (L.out.trans hb); clear hb HD
    have hsm : s.size ≤ 1048576 := by omega
    have hsp := sp_small c s
    have hcost : costS (spB c s) ≤ 33554432 := by
      have h1 := costS_le (M := 100) (l := spB c s) fun x hx => by have := hsp.2 x hx; omega
      have h2 : (spB c s).length * (100 + 1) ≤ 101 * 101 := Nat.mul_le_mul (by omega) (Nat.le_refl _)
      omega
    have CI := fun W (hW : Later w W) => implSplitByte s c hsm W (HMAX.out.later hW)
    have CS := fun W => specSplitByte s c hsm W
    have CJ := fun W v (hv : Strs W v (spB c s)) => implJoin v (spB c s) ⟨#[c]⟩ W hv hcost (show 1 ≤ 1048576 by omega)
    rw [joinB_spB] at CJ
    have CP := fun W (hW : Later w W) (x : ByteArray) (hx : x ∈ spB c s) => implSplitByte x c (by have := hsp.2 x hx; omega) W (HMAX.out.later hW)
    have hone : ∀ x ∈ spB c s, (spB c x).length = 1 := fun x hx => spB_part hx
    have hfk : ∀ x ∈ spB c s, x.size ≤ 9223372036854775807 := fun x hx => by have := hsp.2 x hx; omega
    have hlen := hsp.1
    obtain ⟨K, hK⟩ : ∃ K, K = spB c s := ⟨_, rfl⟩
    simp only [← hK] at CI CS CJ CP hone hfk hlen
    have HI := Lib.hid CI; have HS := Lib.hid CS; have HJ := Lib.hid CJ; have HP := Lib.hid CP; have HONE := Lib.hid hone; have HFK := Lib.hid hfk
    clear CI CS CJ CP hone hfk hK hsp hcost hsm HMAX
    go_wp2_with fail
    refine (HI.out _ L.out).mono ?_; rintro e w3 ⟨⟨p, rfl, ho⟩, hb⟩
    replace L := Lib.hid (L.out.trans hb)
    have hst := sl_strs ho.at_
    have HST := Lib.hid hst
    obtain ⟨_, A, cc, rfl, hlc, hcm, hcells⟩ := hst
    have HCE := Lib.hid hcells
    have hcv := conv_byte w3 c.toNat (UInt8.toNat_lt c)
    rw [show UInt8.ofNat c.toNat = c by simp] at hcv
    clear ho hb HI hcells
    go_wp2_with fail
    refine (HJ.out _ _ (HST.out.later ((Later.rfl' _).alloc _))).mono ?_; rintro e w4 ⟨rfl, hb⟩
    have hb34 := ((Later.rfl' w3).alloc _).trans hb
    replace L := Lib.hid (L.out.trans hb34)
    have H34 := Lib.hid hb34
    clear hb hb34 hcv HJ HST
    go_wp2_with fail
    refine (HS.out _).mono ?_; rintro e w5 ⟨⟨p2, rfl, ho2⟩, hb⟩
    obtain ⟨A2, c2, rfl, _, _⟩ := sl_parts ho2.at_
    replace L := Lib.hid (L.out.trans hb)
    have H35 := Lib.hid (H34.out.trans hb)
    clear hb ho2 H34 HS
    go_wp2_with fail
    go_loopw [6] (fun i wr => ∃ j : Nat, j ≤ K.length ∧ i = .int .i64 (j : Int) ∧ Later w5 wr) (fun i _ => K.length - (intOf i).toNat)
    case atStart => exact ⟨0, Nat.zero_le _, rfl, Later.rfl' _⟩
    case round =>
      obtain ⟨j, hj, rfl, hw⟩ := hrel
      by_cases hlt : j < K.length
      · obtain ⟨bb, off, rfl, hbb, e0⟩ := (HCE.out.later (H35.out.trans hw)).at_ (k := j) (by simpa using hlt)
        simp only [List.getElem_map] at e0
        have hm := List.getElem_mem hlt
        have h1 := HONE.out _ hm
        have C := fun W (hW : Later wr W) => HP.out W (L.out.trans (hw.trans hW)) _ hm
        obtain ⟨X, hX⟩ : ∃ x, x = K[j] := ⟨_, rfl⟩
        simp only [← hX] at e0 h1 C
        have HC := Lib.hid C; have H1 := Lib.hid h1; have HW := Lib.hid hw
        have hki : (j : Int) < (K.length : Int) := by omega
        clear C h1 hw hX hm
        go_wp2_with fail
        refine (HC.out _ (Later.rfl' _)).mono ?_; rintro e w6 ⟨⟨p3, rfl, ho3⟩, hb⟩
        obtain ⟨A3, c3, rfl, _, _⟩ := sl_parts ho3.at_
        have hlen1 := H1.out
        have HL2 := Lib.hid (HW.out.trans hb)
        rw [hlen1]
        clear ho3 hb
        go_wp2_with fail
        go_roundw
        case rel => exact ⟨j + 1, by omega, by go_num, HL2.out⟩
        case measure => simp [intOf]; omega
      · go_wp2_with fail
        go_ret
        exact ⟨rfl, L.out.trans hw⟩
end Go.Proofs.YtpkplgpjckmciaaDoor
