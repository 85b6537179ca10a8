/-
  The law FnValidNames: its walk.
-/
import Derived.Test.YtnfhbppmbpgfaaaK3
import Derived.Test.YtnfhbppmbpgfaaaA7
namespace Go.Proofs.Ytnfhbppmbpgfaaa
open Go.ChangeShapes Go.WideShapes Go.ChangeAt Go.RowKit
set_option linter.unusedVariables false
set_option linter.unusedSimpArgs false
set_option maxRecDepth 100000

theorem BytesAt.later {w w' : World} {v : Value} {n : Nat} (h : BytesAt w v n) (hW : Later w w') : BytesAt w' v n := by
  obtain ⟨A, c, rfl, h1, h2, h3⟩ := h
  refine ⟨A, c, rfl, h1, h2, fun h0 => ?_⟩
  obtain ⟨b, off, e, hl, hc⟩ := h3 h0
  exact ⟨b, off, e, Nat.lt_of_lt_of_le hl hW.size, fun i hi => by obtain ⟨x, hx, hcell⟩ := hc i hi; exact ⟨x, hx, kept_cell hW hcell⟩⟩
theorem own_row_strs {w : World} {lo e : Nat} {v : Value} {xs : List ByteArray} (h : w.ownsRow lo e 1 v xs.length (xs.map .string)) (hf : ∀ x ∈ xs, x.size ≤ 9223372036854775807) : Strs w v xs :=
  sl_strs (own_strs (S := anyB) h hf fun _ _ => trivial).at_
theorem SmallL.strs {lo : Nat} {w : World} {v : Value} {xs : List ByteArray} (h : SmallL lo w v xs) : Strs w v xs :=
  own_row_strs h.1 fun x hx => by have := h.2.2 x hx; omega
theorem SmallL.chg {lo g : Nat} {w w' : World} {v : Value} {xs : List ByteArray} (h : SmallL lo w v xs) (c : Chg (onlyB g) w w') (hg : g < lo) : SmallL lo w' v xs :=
  ⟨row_block h.1 fun k hk => c.block k (h.1.lt k hk).2 (by have := (h.1.lt k hk).1; unfold onlyB; omega), h.2⟩

theorem sameTextsC (xs : List ByteArray) (v u : Value) (W : World) (h : Strs W v xs) (h' : Strs W u xs) : Calls Try.prog 12 #[v, u] W fun e w' => e = .returned (.bool true) ∧ Later W w' := by
  obtain ⟨_, A, c, rfl, hlc, hcm, hc⟩ := h
  obtain ⟨_, A', c', rfl, hlc', hcm', hc'⟩ := h'
  have hle : ((xs.length : Int) != (xs.length : Int)) = false := by simp
  have HC := Lib.hid hc; have HC' := Lib.hid hc'
  clear hc hc'
  go_enter Try.func12, Try.ntmps12
  go_wp2_with fail
  go_loopw [5] (fun i wr => ∃ j : Nat, j ≤ xs.length ∧ i = .int .i64 j ∧ Later W wr) (fun i _ => xs.length - (intOf i).toNat)
  case atStart => exact ⟨0, Nat.zero_le _, rfl, Later.rfl' _⟩
  case round =>
    obtain ⟨j, hj, rfl, hw⟩ := hrel
    by_cases hlt : j < xs.length
    · obtain ⟨b, off, rfl, hb, e0⟩ := (HC.out.later hw).at_ (k := j) (by simpa using hlt)
      obtain ⟨b', off', rfl, hb', e1⟩ := (HC'.out.later hw).at_ (k := j) (by simpa using hlt)
      simp only [List.getElem_map] at e0 e1
      obtain ⟨X, hX⟩ : ∃ x, x = xs[j] := ⟨_, rfl⟩
      rw [← hX] at e0 e1
      have hki : (j : Int) < (xs.length : Int) := by omega
      have HW := Lib.hid hw
      clear hX hw
      go_wp2
      go_quiet (fail)
      go_wp2
      go_roundw
      case rel => exact ⟨j + 1, by omega, by go_num, HW.out.trans (Later.drewN _ _)⟩
      case measure => simp [intOf]; omega
    · go_wp2
      go_ret
      exact ⟨rfl, hw⟩

theorem drawValidName (v : Value) (n : Nat) (W : World) (h : BytesAt W v n) (hn : n ≤ 1048576) : Calls Try.prog 5 #[v] W fun r w' => (∃ s : ByteArray, s.size ≤ 100 ∧ r = .returned (.string s)) ∧ Later W w' := by
  have HC := Lib.hid (drawNew v n W h hn)
  clear h
  go_enter Try.func5, Try.ntmps5
  go_wp2_with fail
  refine HC.out.mono ?_; rintro e w1 ⟨⟨g, rfl, hg, hc⟩, hb1⟩
  have HCU := Lib.hid hc; have HG := Lib.hid hg; have L1 := Lib.hid hb1
  clear hc hg hb1
  go_wp2_with fail
  refine (drawAny g _ HCU.out).mono ?_; rintro e w2 ⟨⟨s, hs, rfl⟩, hcu, hch⟩
  have L2 := Lib.hid (Chg.later L1.out hch fun k hk => by unfold onlyB at hk; have := HG.out; omega)
  have HS := Lib.hid hs
  clear hcu hch hs
  go_wp2_with fail
  go_ret
  exact ⟨⟨s, HS.out, rfl⟩, L2.out⟩

theorem drawWithout (v : Value) (n : Nat) (W : World) (h : BytesAt W v n) (hn : n ≤ 1048576) : Calls Try.prog 9 #[v] W fun r w' => (∃ xs ys a b, r = .returned (.tuple #[a, b]) ∧ Strs w' a xs ∧ Strs w' b ys ∧ xs.length ≤ 6) ∧ Later W w' := by
  have HC := Lib.hid (drawNew v n W h hn)
  clear h
  go_enter Try.func9, Try.ntmps9
  go_wp2_with fail
  refine HC.out.mono ?_; rintro e w1 ⟨⟨g, rfl, hg, hc⟩, hb1⟩
  have HCU := Lib.hid hc; have HG := Lib.hid hg; have L1 := Lib.hid hb1
  have HG1 := Lib.hid hc.lt
  clear hc hg hb1
  go_wp2_with fail
  refine (drawNames g _ HCU.out).mono ?_; rintro e w2 ⟨⟨xs, a, rfl, hx⟩, hcu, hch⟩
  have L2 := Lib.hid (Chg.later L1.out hch fun k hk => by unfold onlyB at hk; have := HG.out; omega)
  have HX := Lib.hid hx; have HCU2 := Lib.hid hcu
  clear hcu hch hx
  go_wp2_with fail
  refine (drawNames g _ HCU2.out).mono ?_; rintro e w3 ⟨⟨ys, b, rfl, hy⟩, hcu, hch⟩
  have L3 := Lib.hid (Chg.later L2.out hch fun k hk => by unfold onlyB at hk; have := HG.out; omega)
  have HX2 := Lib.hid (HX.out.chg hch HG1.out); have HY := Lib.hid hy
  clear hcu hch hy
  go_wp2_with fail
  exact bodyPost_ret (v := .tuple #[a, b]) (by simp [results, Try.results9, go_sem]) rfl ⟨⟨xs, ys, a, b, rfl, HX2.out.strs, HY.out.strs, HX2.out.2.1⟩, L3.out⟩

theorem without_self (xs : List ByteArray) : withoutB xs xs = [] := by
  unfold withoutB
  rw [List.filter_eq_nil_iff]
  intro x hx
  have : hasB xs x = true := (hasB_iff xs x).2 (List.mem_map_of_mem hx)
  simp [this]
theorem without_again (xs ys : List ByteArray) : withoutB (withoutB xs ys) ys = withoutB xs ys := by
  unfold withoutB
  rw [List.filter_filter]
  simp
theorem without_index {xs ys : List ByteArray} {x : ByteArray} (h : x ∈ withoutB xs ys) : indexB ys x < 0 := by
  have h1 : hasB ys x = false := by
    have := (List.mem_filter.1 h).2
    simpa using this
  have := has_index ys x
  rw [h1] at this
  simp at this
  omega
theorem valid_not {s : ByteArray} (h : validName s = true) : isReserved s = false := by
  unfold validName at h
  simp at h
  exact h.2

set_option maxHeartbeats 4000000 in
theorem walk_FnValidNames (v : Value) (n : Nat) (w : World) (h : BytesAt w v n) : Calls Try.prog 3 #[v] w fun r w' => r = .returned (.bool true) ∧ Later w w' := by
  by_cases hbig : 1048576 < n
  · have C0 := bigBytes v n w h
    rw [show decide (1048576 < n) = true by simp; omega] at C0
    have HB := Lib.hid C0
    clear C0 hbig h
    go_enter Try.func3, Try.ntmps3
    go_wp2_with fail
    refine HB.out.mono ?_; rintro e w1 ⟨rfl, hb1⟩
    go_wp2_with fail
    go_ret
    exact ⟨rfl, hb1⟩
  · have C0 := bigBytes v n w h
    rw [show decide (1048576 < n) = false by simp; omega] at C0
    have hle : n ≤ 1048576 := by omega
    have hbl := fun W (hW : Later w W) => BytesAt.later h hW
    have C1 := fun W (hW : Later w W) => drawValidName v n W (hbl W hW) hle
    have C2 := fun W (hW : Later w W) => drawWithout v n W (hbl W hW) hle
    have HB := Lib.hid C0; have HD := Lib.hid C1; have HW := Lib.hid C2
    clear C0 C1 C2 hbig hle hbl h
    go_enter Try.func3, Try.ntmps3
    go_wp2_with fail
    refine HB.out.mono ?_; rintro e w1 ⟨rfl, hb⟩
    have L := Lib.hid hb; clear hb HB
    go_wp2_with fail
    refine (HD.out _ L.out).mono ?_; rintro e w2 ⟨⟨s, hs, rfl⟩, hb⟩
    replace L := Lib.hid (L.out.trans hb); clear hb HD
    have hsm : s.size ≤ maxLen := by unfold maxLen; omega
    have CI := fun W => implIsValidName s W hsm
    have CS := fun W => specIsValidName s W hsm
    have CR := fun W => implIsReserved s W hsm
    have hvr : validName s = true → isReserved s = false := valid_not
    obtain ⟨q, hq⟩ : ∃ q, q = validName s := ⟨_, rfl⟩
    simp only [← hq] at CI CS hvr
    have HI := Lib.hid CI; have HS := Lib.hid CS
    obtain ⟨q2, hq2⟩ : ∃ q, q = isReserved s := ⟨_, rfl⟩
    simp only [← hq2] at CR hvr
    clear CI CS hq hq2 hs hsm
    have REST : Hid (∀ wx, Later w wx → True) := fun _ _ => trivial
    go_wp2_with fail
    refine (HI.out _).mono ?_; rintro e w3 ⟨rfl, hb⟩
    replace L := Lib.hid (L.out.trans hb); clear hb
    go_wp2_with fail
    refine (HS.out _).mono ?_; rintro e w4 ⟨rfl, hb⟩
    replace L := Lib.hid (L.out.trans hb); clear hb
    cases q with
    | true =>
      have h2 := hvr rfl
      subst h2
      have HR := Lib.hid CR
      clear CR hvr
      go_wp2_with fail
      refine (HI.out _).mono ?_; rintro e w5 ⟨rfl, hb⟩
      replace L := Lib.hid (L.out.trans hb); clear hb
      go_wp2_with fail
      refine (HR.out _).mono ?_; rintro e w6 ⟨rfl, hb⟩
      replace L := Lib.hid (L.out.trans hb); clear hb HR HI HS
      go_wp2_with fail
      refine (HW.out _ L.out).mono ?_; rintro e w10 ⟨⟨xs, ys, a, b, rfl, hx, hy, hxl⟩, hb⟩
      replace L := Lib.hid (L.out.trans hb)
      have HX := Lib.hid hx; have HY := Lib.hid hy
      have hfx := hx.1.2
      have hn1 : xs.length ≤ 1048576 := by omega
      have hwl := without_le xs ys
      have hfo : ∀ x ∈ withoutB xs ys, x.size ≤ 9223372036854775807 := fun x hx => hfx x (List.mem_filter.1 hx).1
      have hidx : ∀ x ∈ withoutB xs ys, indexB ys x < 0 := fun x hx => without_index hx
      have CA := fun a b W (ha : Strs W a xs) (hb : Strs W b ys) => implWithout a b xs ys W ha hb hn1
      have CB := fun a b W (ha : Strs W a xs) (hb : Strs W b ys) => specWithout a b xs ys W ha hb hn1
      have CC := fun a b W (ha : Strs W a xs) (hb : Strs W b xs) => implWithout a b xs xs W ha hb hn1
      have CD := fun a b W (ha : Strs W a (withoutB xs ys)) (hb : Strs W b ys) => implWithout a b (withoutB xs ys) ys W ha hb (by omega)
      rw [without_self] at CC
      simp only [without_again] at CD
      have CE := fun (x : ByteArray) b W (hb : Strs W b ys) => specIndexOf b ys x W hb
      obtain ⟨O, hO⟩ : ∃ O, O = withoutB xs ys := ⟨_, rfl⟩
      simp only [← hO] at CA CB CD hfo hidx hwl
      have HA := Lib.hid CA; have HBB := Lib.hid CB; have HC := Lib.hid CC; have HD2 := Lib.hid CD; have HE := Lib.hid CE; have HFO := Lib.hid hfo; have HIDX := Lib.hid hidx; have HSAME := Lib.hid (sameTextsC O)
      clear CA CB CC CD CE hfo hidx hfx hx hy hb hO hn1 HW
      go_wp2_with fail
      refine (HA.out _ _ _ HX.out HY.out).mono ?_; rintro e w11 ⟨⟨o, rfl, ho⟩, hb⟩
      replace L := Lib.hid (L.out.trans hb); replace HX := Lib.hid (HX.out.later hb); replace HY := Lib.hid (HY.out.later hb)
      have HO := Lib.hid (own_row_strs ho HFO.out)
      clear ho hb HA
      obtain ⟨_, A, c, rfl, hlc, hcm, hcc⟩ := HO.out
      have HCC := Lib.hid hcc
      clear hcc
      go_wp2_with fail
      go_loopw [7] (fun i wr => ∃ j : Nat, j ≤ O.length ∧ i = .int .i64 j ∧ Later w11 wr) (fun i _ => O.length - (intOf i).toNat)
      case atStart => exact ⟨0, Nat.zero_le _, rfl, Later.rfl' _⟩
      case round =>
        obtain ⟨j, hj, rfl, hw⟩ := hrel
        by_cases hlt : j < O.length
        · obtain ⟨bb, off, rfl, hbb, e0⟩ := (HCC.out.later hw).at_ (k := j) (by simpa using hlt)
          simp only [List.getElem_map] at e0
          have hneg := HIDX.out _ (List.getElem_mem hlt)
          obtain ⟨X, hXX⟩ : ∃ x, x = O[j] := ⟨_, rfl⟩
          rw [← hXX] at e0 hneg
          have C := fun W (hW : Later wr W) => HE.out X _ W (HY.out.later (hw.trans hW))
          obtain ⟨I, hI⟩ : ∃ I, I = indexB ys X := ⟨_, rfl⟩
          simp only [← hI] at C hneg
          have hge : ¬ 0 ≤ I := by omega
          have HCI := Lib.hid C
          have HWW := Lib.hid hw
          have hki : (j : Int) < (O.length : Int) := by omega
          clear C hI hw hXX
          go_wp2_with fail
          refine (HCI.out _ (Later.rfl' _)).mono ?_; rintro e w12 ⟨rfl, hd⟩
          have HL2 := Lib.hid (HWW.out.trans hd.later)
          clear hd
          go_wp2_with fail
          go_roundw
          case rel => exact ⟨j + 1, by omega, by go_num, HL2.out⟩
          case measure => simp [intOf]; omega
        · have HX2 := Lib.hid (HX.out.later hw); have HY2 := Lib.hid (HY.out.later hw); have HO2 := Lib.hid (HO.out.later hw)
          have L2 := Lib.hid (L.out.trans hw)
          clear hw HX HY HO L HCC HE HIDX
          go_wp2_with fail
          refine (HBB.out _ _ _ HX2.out HY2.out).mono ?_; rintro e w13 ⟨⟨o2, rfl, ho2⟩, hb⟩
          replace L2 := Lib.hid (L2.out.trans hb); replace HX2 := Lib.hid (HX2.out.later hb); replace HY2 := Lib.hid (HY2.out.later hb); replace HO2 := Lib.hid (HO2.out.later hb)
          have HO3 := Lib.hid (own_row_strs ho2 HFO.out)
          clear ho2 hb HBB
          go_wp2_with fail
          refine (HSAME.out _ _ _ HO2.out HO3.out).mono ?_; rintro e w14 ⟨rfl, hb⟩
          replace L2 := Lib.hid (L2.out.trans hb); replace HX2 := Lib.hid (HX2.out.later hb); replace HY2 := Lib.hid (HY2.out.later hb); replace HO2 := Lib.hid (HO2.out.later hb)
          clear hb HO3
          go_wp2_with fail
          refine (HC.out _ _ _ HX2.out HX2.out).mono ?_; rintro e w15 ⟨⟨o3, rfl, ho3⟩, hb⟩
          replace L2 := Lib.hid (L2.out.trans hb); replace HY2 := Lib.hid (HY2.out.later hb); replace HO2 := Lib.hid (HO2.out.later hb)
          obtain ⟨A3, c3, rfl, _⟩ := row_shape ho3
          clear ho3 hb HC
          go_wp2_with fail
          refine (HD2.out _ _ _ HO2.out HY2.out).mono ?_; rintro e w16 ⟨⟨o4, rfl, ho4⟩, hb⟩
          replace L2 := Lib.hid (L2.out.trans hb); replace HO2 := Lib.hid (HO2.out.later hb)
          have HO4 := Lib.hid (own_row_strs ho4 HFO.out)
          clear ho4 hb HD2
          go_wp2_with fail
          refine (HSAME.out _ _ _ HO4.out HO2.out).mono ?_; rintro e w17 ⟨rfl, hb⟩
          go_wp2_with fail
          go_ret
          exact ⟨rfl, L2.out.trans hb⟩
    | false =>
      clear CR hvr
      go_wp2_with fail
      refine (HI.out _).mono ?_; rintro e w5 ⟨rfl, hb⟩
      replace L := Lib.hid (L.out.trans hb); clear hb HI HS
      go_wp2_with fail
      refine (HW.out _ L.out).mono ?_; rintro e w10 ⟨⟨xs, ys, a, b, rfl, hx, hy, hxl⟩, hb⟩
      replace L := Lib.hid (L.out.trans hb)
      have HX := Lib.hid hx; have HY := Lib.hid hy
      have hfx := hx.1.2
      have hn1 : xs.length ≤ 1048576 := by omega
      have hwl := without_le xs ys
      have hfo : ∀ x ∈ withoutB xs ys, x.size ≤ 9223372036854775807 := fun x hx => hfx x (List.mem_filter.1 hx).1
      have hidx : ∀ x ∈ withoutB xs ys, indexB ys x < 0 := fun x hx => without_index hx
      have CA := fun a b W (ha : Strs W a xs) (hb : Strs W b ys) => implWithout a b xs ys W ha hb hn1
      have CB := fun a b W (ha : Strs W a xs) (hb : Strs W b ys) => specWithout a b xs ys W ha hb hn1
      have CC := fun a b W (ha : Strs W a xs) (hb : Strs W b xs) => implWithout a b xs xs W ha hb hn1
      have CD := fun a b W (ha : Strs W a (withoutB xs ys)) (hb : Strs W b ys) => implWithout a b (withoutB xs ys) ys W ha hb (by omega)
      rw [without_self] at CC
      simp only [without_again] at CD
      have CE := fun (x : ByteArray) b W (hb : Strs W b ys) => specIndexOf b ys x W hb
      obtain ⟨O, hO⟩ : ∃ O, O = withoutB xs ys := ⟨_, rfl⟩
      simp only [← hO] at CA CB CD hfo hidx hwl
      have HA := Lib.hid CA; have HBB := Lib.hid CB; have HC := Lib.hid CC; have HD2 := Lib.hid CD; have HE := Lib.hid CE; have HFO := Lib.hid hfo; have HIDX := Lib.hid hidx; have HSAME := Lib.hid (sameTextsC O)
      clear CA CB CC CD CE hfo hidx hfx hx hy hb hO hn1 HW
      go_wp2_with fail
      refine (HA.out _ _ _ HX.out HY.out).mono ?_; rintro e w11 ⟨⟨o, rfl, ho⟩, hb⟩
      replace L := Lib.hid (L.out.trans hb); replace HX := Lib.hid (HX.out.later hb); replace HY := Lib.hid (HY.out.later hb)
      have HO := Lib.hid (own_row_strs ho HFO.out)
      clear ho hb HA
      obtain ⟨_, A, c, rfl, hlc, hcm, hcc⟩ := HO.out
      have HCC := Lib.hid hcc
      clear hcc
      go_wp2_with fail
      go_loopw [7] (fun i wr => ∃ j : Nat, j ≤ O.length ∧ i = .int .i64 j ∧ Later w11 wr) (fun i _ => O.length - (intOf i).toNat)
      case atStart => exact ⟨0, Nat.zero_le _, rfl, Later.rfl' _⟩
      case round =>
        obtain ⟨j, hj, rfl, hw⟩ := hrel
        by_cases hlt : j < O.length
        · obtain ⟨bb, off, rfl, hbb, e0⟩ := (HCC.out.later hw).at_ (k := j) (by simpa using hlt)
          simp only [List.getElem_map] at e0
          have hneg := HIDX.out _ (List.getElem_mem hlt)
          obtain ⟨X, hXX⟩ : ∃ x, x = O[j] := ⟨_, rfl⟩
          rw [← hXX] at e0 hneg
          have C := fun W (hW : Later wr W) => HE.out X _ W (HY.out.later (hw.trans hW))
          obtain ⟨I, hI⟩ : ∃ I, I = indexB ys X := ⟨_, rfl⟩
          simp only [← hI] at C hneg
          have hge : ¬ 0 ≤ I := by omega
          have HCI := Lib.hid C
          have HWW := Lib.hid hw
          have hki : (j : Int) < (O.length : Int) := by omega
          clear C hI hw hXX
          go_wp2_with fail
          refine (HCI.out _ (Later.rfl' _)).mono ?_; rintro e w12 ⟨rfl, hd⟩
          have HL2 := Lib.hid (HWW.out.trans hd.later)
          clear hd
          go_wp2_with fail
          go_roundw
          case rel => exact ⟨j + 1, by omega, by go_num, HL2.out⟩
          case measure => simp [intOf]; omega
        · have HX2 := Lib.hid (HX.out.later hw); have HY2 := Lib.hid (HY.out.later hw); have HO2 := Lib.hid (HO.out.later hw)
          have L2 := Lib.hid (L.out.trans hw)
          clear hw HX HY HO L HCC HE HIDX
          go_wp2_with fail
          refine (HBB.out _ _ _ HX2.out HY2.out).mono ?_; rintro e w13 ⟨⟨o2, rfl, ho2⟩, hb⟩
          replace L2 := Lib.hid (L2.out.trans hb); replace HX2 := Lib.hid (HX2.out.later hb); replace HY2 := Lib.hid (HY2.out.later hb); replace HO2 := Lib.hid (HO2.out.later hb)
          have HO3 := Lib.hid (own_row_strs ho2 HFO.out)
          clear ho2 hb HBB
          go_wp2_with fail
          refine (HSAME.out _ _ _ HO2.out HO3.out).mono ?_; rintro e w14 ⟨rfl, hb⟩
          replace L2 := Lib.hid (L2.out.trans hb); replace HX2 := Lib.hid (HX2.out.later hb); replace HY2 := Lib.hid (HY2.out.later hb); replace HO2 := Lib.hid (HO2.out.later hb)
          clear hb HO3
          go_wp2_with fail
          refine (HC.out _ _ _ HX2.out HX2.out).mono ?_; rintro e w15 ⟨⟨o3, rfl, ho3⟩, hb⟩
          replace L2 := Lib.hid (L2.out.trans hb); replace HY2 := Lib.hid (HY2.out.later hb); replace HO2 := Lib.hid (HO2.out.later hb)
          obtain ⟨A3, c3, rfl, _⟩ := row_shape ho3
          clear ho3 hb HC
          go_wp2_with fail
          refine (HD2.out _ _ _ HO2.out HY2.out).mono ?_; rintro e w16 ⟨⟨o4, rfl, ho4⟩, hb⟩
          replace L2 := Lib.hid (L2.out.trans hb); replace HO2 := Lib.hid (HO2.out.later hb)
          have HO4 := Lib.hid (own_row_strs ho4 HFO.out)
          clear ho4 hb HD2
          go_wp2_with fail
          refine (HSAME.out _ _ _ HO4.out HO2.out).mono ?_; rintro e w17 ⟨rfl, hb⟩
          go_wp2_with fail
          go_ret
          exact ⟨rfl, L2.out.trans hb⟩
end Go.Proofs.Ytnfhbppmbpgfaaa
