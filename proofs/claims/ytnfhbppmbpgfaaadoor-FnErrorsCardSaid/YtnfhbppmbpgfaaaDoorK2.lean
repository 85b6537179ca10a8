/-
  The law FnErrors: its walk.
-/
import Derived.Test.YtnfhbppmbpgfaaaDoorK1
import Derived.Test.YtnfhbppmbpgfaaaDoorErr
namespace Go.Proofs.YtnfhbppmbpgfaaaDoor
open Go.ChangeShapes Go.WideShapes Go.ChangeAt Go.RowKit
set_option linter.unusedVariables false
set_option linter.unusedSimpArgs false
set_option maxRecDepth 100000

theorem errList_nodup : errList.Nodup := by decide
theorem code_at {k : Nat} (hk : k < errList.length) : errCode errList[k] = (k : Int) + 1 := by
  unfold errCode
  rw [index_hit hk (by simp) fun j hj hlt => by
    rw [beq_toList]
    have := List.pairwise_iff_getElem.1 errList_nodup j k hj hk hlt
    simpa using this]
theorem code_none : errCode ⟨#[63]⟩ = 0 := by
  unfold errCode
  have h : ∀ x ∈ errList, x ≠ (⟨#[63]⟩ : ByteArray) := by decide
  rw [index_none fun j hj => by rw [beq_toList]; simpa using h _ (List.getElem_mem hj)]
  rfl
theorem bigBytes (v : Value) (n : Nat) (W : World) (h : BytesAt W v n) : Calls Tryd.prog 14 #[v] W fun r w' => r = .returned (.bool (decide (1048576 < n))) ∧ Later W w' := by
  obtain ⟨A, c, rfl, h1, h2, h3⟩ := h
  clear h3
  by_cases hb : 1048576 < n
  · have hd : decide ((1048576 : Int) < (n : Int)) = true := by simp; omega
    have hd2 : decide (1048576 < n) = true := by simp; omega
    have HD := Lib.hid hd2
    rw [hd2]
    clear hb hd2
    go_enter Tryd.func14, Tryd.ntmps14
    go_wp2
    go_ret
    exact ⟨ret_bool (by first | rfl | exact hd | simp [hd]), Later.rfl' _⟩
  · have hd : decide ((1048576 : Int) < (n : Int)) = false := by simp; omega
    have hd2 : decide (1048576 < n) = false := by simp; omega
    rw [hd2]
    clear hb hd2
    go_enter Tryd.func14, Tryd.ntmps14
    go_wp2
    go_ret
    exact ⟨ret_bool (by first | rfl | exact hd | simp [hd]), Later.rfl' _⟩
theorem drawErr (v : Value) (n : Nat) (W : World) (h : BytesAt W v n) (hn : n ≤ 1048576) : Calls Tryd.prog 15 #[v] W fun r w' => (∃ x : Nat, x < 10 ∧ r = .returned (.int .i64 (x : Int))) ∧ Later W w' := by
  have C := drawNew v n W h hn
  have HC := Lib.hid C
  clear C h
  go_enter Tryd.func15, Tryd.ntmps15
  go_wp2_with fail
  refine HC.out.mono ?_; rintro e w1 ⟨⟨g, rfl, hg, hc⟩, hb1⟩
  have HCU := Lib.hid hc
  have HG := Lib.hid hg
  have L1 := Lib.hid hb1
  clear hc hg hb1
  go_wp2_with fail
  refine (drawBelow 10 g (by omega) (by omega) _ HCU.out).mono ?_; rintro e w2 ⟨⟨x, hx, rfl⟩, hcu, hch⟩
  have L2 := Lib.hid (Chg.later L1.out hch fun k hk => by unfold onlyB at hk; have := HG.out; omega)
  have HX := Lib.hid hx
  clear hcu hch hx
  go_wp2_with fail
  go_ret
  exact ⟨⟨x, HX.out, rfl⟩, L2.out⟩
theorem implErrVal (n : Int) (W : World) : Calls Tryd.prog 20 #[.int .i64 n] W fun r w' => r = .returned (.agg #[.int .i64 6, .int .i64 n, .int .i64 0, .string ⟨#[]⟩, .slice none 0 0, .slice none 0 0, .slice none 0 0]) ∧ Later W w' := by
  go_enter Tryd.func20, Tryd.ntmps20
  go_wp2_with fail
  exact bodyPost_ret (v := .agg #[.int .i64 6, .int .i64 n, .int .i64 0, .string ⟨#[]⟩, .slice none 0 0, .slice none 0 0, .slice none 0 0]) (by simp [results, Tryd.results20, go_sem]) rfl ⟨rfl, (Later.rfl' _).alloc _⟩
theorem withinC (x lo hi : Int) (q : Bool) (hq : (decide (lo ≤ x) && decide (x ≤ hi)) = q) (W : World) : Calls Tryd.prog 42 #[.int .i64 x, .int .i64 lo, .int .i64 hi] W fun r w' => r = .returned (.bool q) ∧ W = w' := by
  have HQ := Lib.hid hq
  clear hq
  go_enter Tryd.func42, Tryd.ntmps42
  go_wp2
  all_goals
    go_ret
    exact ⟨ret_bool (by rw [← HQ.out]; simp <;> omega), rfl⟩
set_option maxHeartbeats 1000000 in
theorem implValidErr (n : Int) (W : World) : Calls Tryd.prog 19 #[.agg #[.int .i64 6, .int .i64 n, .int .i64 0, .string ⟨#[]⟩, .slice none 0 0, .slice none 0 0, .slice none 0 0]] W fun r w' => r = .returned (.bool (decide (1 ≤ n) && decide (n ≤ 8))) ∧ Later W w' := by
  obtain ⟨q, hq⟩ : ∃ q, q = (decide (1 ≤ n) && decide (n ≤ 8)) := ⟨_, rfl⟩
  have C := fun W => withinC n 1 8 q hq.symm W
  have HC := Lib.hid C
  rw [← hq]
  clear C hq
  go_enter Tryd.func19, Tryd.ntmps19
  go_wp2_with fail
  refine (HC.out _).mono ?_; rintro e w1 ⟨rfl, rfl⟩
  go_wp2_with fail
  go_ret
  exact ⟨rfl, (Later.rfl' _).alloc _⟩

set_option maxHeartbeats 4000000 in
theorem walk_FnErrors (v : Value) (n : Nat) (w : World) (h : BytesAt w v n) (he : ErrAt w) : Calls Tryd.prog 4 #[v] w fun r w' => r = .returned (.bool true) ∧ Later w w' := by
  have CB := fun W => bigBytes v n W
  by_cases hbig : 1048576 < n
  · have C0 := bigBytes v n w h
    rw [show decide (1048576 < n) = true by simp; omega] at C0
    have HB := Lib.hid C0
    clear CB C0 hbig he h
    go_enter Tryd.func4, Tryd.ntmps4
    go_wp2_with fail
    refine HB.out.mono ?_; rintro e w1 ⟨rfl, hb1⟩
    go_wp2_with fail
    go_ret
    exact ⟨rfl, hb1⟩
  · have C0 := bigBytes v n w h
    rw [show decide (1048576 < n) = false by simp; omega] at C0
    have hle : n ≤ 1048576 := by omega
    obtain ⟨A, c, rfl, h1, h2, h3⟩ := h
    have C1 := fun W (hW : Later w W) => drawErr (.slice A n c) n W ⟨A, c, rfl, h1, h2, fun h0 => by
      obtain ⟨b, off, e, hl, hc⟩ := h3 h0
      exact ⟨b, off, e, Nat.lt_of_lt_of_le hl hW.size, fun i hi => by obtain ⟨x, hx, hcell⟩ := hc i hi; exact ⟨x, hx, kept_cell hW hcell⟩⟩⟩ hle
    have HB := Lib.hid C0
    have HD := Lib.hid C1
    clear CB C0 C1 hbig h3 h1 h2 hle
    go_enter Tryd.func4, Tryd.ntmps4
    go_wp2_with fail
    refine HB.out.mono ?_; rintro e w1 ⟨rfl, hb1⟩
    have L1 := Lib.hid hb1
    clear hb1
    go_wp2_with fail
    refine (HD.out _ L1.out).mono ?_; rintro e w2 ⟨⟨x, hx, rfl⟩, hb2⟩
    have L2 := Lib.hid (L1.out.trans hb2)
    clear hb2
    have hx10 : x = 0 ∨ x = 1 ∨ x = 2 ∨ x = 3 ∨ x = 4 ∨ x = 5 ∨ x = 6 ∨ x = 7 ∨ x = 8 ∨ x = 9 := by omega
    clear hx HB HD
    rcases hx10 with rfl | rfl | rfl | rfl | rfl | rfl | rfl | rfl | rfl | rfl
    · have CN := fun W (hW : Later w W) => implErrorName 0 W (he.later hW)
      have CP := fun W => specErrorName 0 W
      have CC := fun W (hW : Later w W) => implErrorCode (⟨#[63]⟩) W (he.later hW)
      have CV := fun W => implValidErr 0 W
      simp only [show errName 0 = (⟨#[63]⟩ : ByteArray) from rfl] at CN CP
      have hcd : errCode (⟨#[63]⟩) = 0 := code_none
      rw [hcd] at CC
      simp only [show (decide ((1 : Int) ≤ 0) && decide ((0 : Int) ≤ 8)) = false by decide] at CV
      have HN := Lib.hid CN; have HP := Lib.hid CP; have HC := Lib.hid CC; have HV := Lib.hid CV
      clear CN CP CC CV hcd he
      go_wp2_with fail
      refine (HN.out _ L2.out).mono ?_; rintro e w3 ⟨rfl, hb⟩
      have L3 := Lib.hid (L2.out.trans hb); clear hb
      go_wp2_with fail
      refine (HP.out _).mono ?_; rintro e w4 ⟨rfl, hb⟩
      have L4 := Lib.hid (L3.out.trans hb); clear hb
      go_wp2_with fail
      refine (HC.out _ L4.out).mono ?_; rintro e w5 ⟨rfl, hb⟩
      have L5 := Lib.hid (L4.out.trans hb); clear hb
      go_wp2_with fail
      refine (implErrVal 0 _).mono ?_; rintro e w6 ⟨rfl, hb⟩
      have L6 := Lib.hid (L5.out.trans hb); clear hb
      go_wp2_with fail
      refine (HV.out _).mono ?_; rintro e w7 ⟨rfl, hb⟩
      go_wp2_with fail
      go_ret
      exact ⟨rfl, L6.out.trans hb⟩
    · have CN := fun W (hW : Later w W) => implErrorName 1 W (he.later hW)
      have CP := fun W => specErrorName 1 W
      have CC := fun W (hW : Later w W) => implErrorCode (⟨#[109, 105, 115, 115, 105, 110, 103]⟩) W (he.later hW)
      have CV := fun W => implValidErr 1 W
      simp only [show errName 1 = (⟨#[109, 105, 115, 115, 105, 110, 103]⟩ : ByteArray) from rfl] at CN CP
      have hcd : errCode (⟨#[109, 105, 115, 115, 105, 110, 103]⟩) = 1 := (code_at (k := 0) (by decide))
      rw [hcd] at CC
      simp only [show (decide ((1 : Int) ≤ 1) && decide ((1 : Int) ≤ 8)) = true by decide] at CV
      have HN := Lib.hid CN; have HP := Lib.hid CP; have HC := Lib.hid CC; have HV := Lib.hid CV
      clear CN CP CC CV hcd he
      go_wp2_with fail
      refine (HN.out _ L2.out).mono ?_; rintro e w3 ⟨rfl, hb⟩
      have L3 := Lib.hid (L2.out.trans hb); clear hb
      go_wp2_with fail
      refine (HP.out _).mono ?_; rintro e w4 ⟨rfl, hb⟩
      have L4 := Lib.hid (L3.out.trans hb); clear hb
      go_wp2_with fail
      refine (HC.out _ L4.out).mono ?_; rintro e w5 ⟨rfl, hb⟩
      have L5 := Lib.hid (L4.out.trans hb); clear hb
      go_wp2_with fail
      refine (implErrVal 1 _).mono ?_; rintro e w6 ⟨rfl, hb⟩
      have L6 := Lib.hid (L5.out.trans hb); clear hb
      go_wp2_with fail
      refine (HV.out _).mono ?_; rintro e w7 ⟨rfl, hb⟩
      go_wp2_with fail
      go_ret
      exact ⟨rfl, L6.out.trans hb⟩
    · have CN := fun W (hW : Later w W) => implErrorName 2 W (he.later hW)
      have CP := fun W => specErrorName 2 W
      have CC := fun W (hW : Later w W) => implErrorCode (⟨#[100, 117, 112, 108, 105, 99, 97, 116, 101]⟩) W (he.later hW)
      have CV := fun W => implValidErr 2 W
      simp only [show errName 2 = (⟨#[100, 117, 112, 108, 105, 99, 97, 116, 101]⟩ : ByteArray) from rfl] at CN CP
      have hcd : errCode (⟨#[100, 117, 112, 108, 105, 99, 97, 116, 101]⟩) = 2 := (code_at (k := 1) (by decide))
      rw [hcd] at CC
      simp only [show (decide ((1 : Int) ≤ 2) && decide ((2 : Int) ≤ 8)) = true by decide] at CV
      have HN := Lib.hid CN; have HP := Lib.hid CP; have HC := Lib.hid CC; have HV := Lib.hid CV
      clear CN CP CC CV hcd he
      go_wp2_with fail
      refine (HN.out _ L2.out).mono ?_; rintro e w3 ⟨rfl, hb⟩
      have L3 := Lib.hid (L2.out.trans hb); clear hb
      go_wp2_with fail
      refine (HP.out _).mono ?_; rintro e w4 ⟨rfl, hb⟩
      have L4 := Lib.hid (L3.out.trans hb); clear hb
      go_wp2_with fail
      refine (HC.out _ L4.out).mono ?_; rintro e w5 ⟨rfl, hb⟩
      have L5 := Lib.hid (L4.out.trans hb); clear hb
      go_wp2_with fail
      refine (implErrVal 2 _).mono ?_; rintro e w6 ⟨rfl, hb⟩
      have L6 := Lib.hid (L5.out.trans hb); clear hb
      go_wp2_with fail
      refine (HV.out _).mono ?_; rintro e w7 ⟨rfl, hb⟩
      go_wp2_with fail
      go_ret
      exact ⟨rfl, L6.out.trans hb⟩
    · have CN := fun W (hW : Later w W) => implErrorName 3 W (he.later hW)
      have CP := fun W => specErrorName 3 W
      have CC := fun W (hW : Later w W) => implErrorCode (⟨#[99, 121, 99, 108, 101]⟩) W (he.later hW)
      have CV := fun W => implValidErr 3 W
      simp only [show errName 3 = (⟨#[99, 121, 99, 108, 101]⟩ : ByteArray) from rfl] at CN CP
      have hcd : errCode (⟨#[99, 121, 99, 108, 101]⟩) = 3 := (code_at (k := 2) (by decide))
      rw [hcd] at CC
      simp only [show (decide ((1 : Int) ≤ 3) && decide ((3 : Int) ≤ 8)) = true by decide] at CV
      have HN := Lib.hid CN; have HP := Lib.hid CP; have HC := Lib.hid CC; have HV := Lib.hid CV
      clear CN CP CC CV hcd he
      go_wp2_with fail
      refine (HN.out _ L2.out).mono ?_; rintro e w3 ⟨rfl, hb⟩
      have L3 := Lib.hid (L2.out.trans hb); clear hb
      go_wp2_with fail
      refine (HP.out _).mono ?_; rintro e w4 ⟨rfl, hb⟩
      have L4 := Lib.hid (L3.out.trans hb); clear hb
      go_wp2_with fail
      refine (HC.out _ L4.out).mono ?_; rintro e w5 ⟨rfl, hb⟩
      have L5 := Lib.hid (L4.out.trans hb); clear hb
      go_wp2_with fail
      refine (implErrVal 3 _).mono ?_; rintro e w6 ⟨rfl, hb⟩
      have L6 := Lib.hid (L5.out.trans hb); clear hb
      go_wp2_with fail
      refine (HV.out _).mono ?_; rintro e w7 ⟨rfl, hb⟩
      go_wp2_with fail
      go_ret
      exact ⟨rfl, L6.out.trans hb⟩
    · have CN := fun W (hW : Later w W) => implErrorName 4 W (he.later hW)
      have CP := fun W => specErrorName 4 W
      have CC := fun W (hW : Later w W) => implErrorCode (⟨#[116, 121, 112, 101]⟩) W (he.later hW)
      have CV := fun W => implValidErr 4 W
      simp only [show errName 4 = (⟨#[116, 121, 112, 101]⟩ : ByteArray) from rfl] at CN CP
      have hcd : errCode (⟨#[116, 121, 112, 101]⟩) = 4 := (code_at (k := 3) (by decide))
      rw [hcd] at CC
      simp only [show (decide ((1 : Int) ≤ 4) && decide ((4 : Int) ≤ 8)) = true by decide] at CV
      have HN := Lib.hid CN; have HP := Lib.hid CP; have HC := Lib.hid CC; have HV := Lib.hid CV
      clear CN CP CC CV hcd he
      go_wp2_with fail
      refine (HN.out _ L2.out).mono ?_; rintro e w3 ⟨rfl, hb⟩
      have L3 := Lib.hid (L2.out.trans hb); clear hb
      go_wp2_with fail
      refine (HP.out _).mono ?_; rintro e w4 ⟨rfl, hb⟩
      have L4 := Lib.hid (L3.out.trans hb); clear hb
      go_wp2_with fail
      refine (HC.out _ L4.out).mono ?_; rintro e w5 ⟨rfl, hb⟩
      have L5 := Lib.hid (L4.out.trans hb); clear hb
      go_wp2_with fail
      refine (implErrVal 4 _).mono ?_; rintro e w6 ⟨rfl, hb⟩
      have L6 := Lib.hid (L5.out.trans hb); clear hb
      go_wp2_with fail
      refine (HV.out _).mono ?_; rintro e w7 ⟨rfl, hb⟩
      go_wp2_with fail
      go_ret
      exact ⟨rfl, L6.out.trans hb⟩
    · have CN := fun W (hW : Later w W) => implErrorName 5 W (he.later hW)
      have CP := fun W => specErrorName 5 W
      have CC := fun W (hW : Later w W) => implErrorCode (⟨#[114, 97, 110, 103, 101]⟩) W (he.later hW)
      have CV := fun W => implValidErr 5 W
      simp only [show errName 5 = (⟨#[114, 97, 110, 103, 101]⟩ : ByteArray) from rfl] at CN CP
      have hcd : errCode (⟨#[114, 97, 110, 103, 101]⟩) = 5 := (code_at (k := 4) (by decide))
      rw [hcd] at CC
      simp only [show (decide ((1 : Int) ≤ 5) && decide ((5 : Int) ≤ 8)) = true by decide] at CV
      have HN := Lib.hid CN; have HP := Lib.hid CP; have HC := Lib.hid CC; have HV := Lib.hid CV
      clear CN CP CC CV hcd he
      go_wp2_with fail
      refine (HN.out _ L2.out).mono ?_; rintro e w3 ⟨rfl, hb⟩
      have L3 := Lib.hid (L2.out.trans hb); clear hb
      go_wp2_with fail
      refine (HP.out _).mono ?_; rintro e w4 ⟨rfl, hb⟩
      have L4 := Lib.hid (L3.out.trans hb); clear hb
      go_wp2_with fail
      refine (HC.out _ L4.out).mono ?_; rintro e w5 ⟨rfl, hb⟩
      have L5 := Lib.hid (L4.out.trans hb); clear hb
      go_wp2_with fail
      refine (implErrVal 5 _).mono ?_; rintro e w6 ⟨rfl, hb⟩
      have L6 := Lib.hid (L5.out.trans hb); clear hb
      go_wp2_with fail
      refine (HV.out _).mono ?_; rintro e w7 ⟨rfl, hb⟩
      go_wp2_with fail
      go_ret
      exact ⟨rfl, L6.out.trans hb⟩
    · have CN := fun W (hW : Later w W) => implErrorName 6 W (he.later hW)
      have CP := fun W => specErrorName 6 W
      have CC := fun W (hW : Later w W) => implErrorCode (⟨#[108, 105, 109, 105, 116]⟩) W (he.later hW)
      have CV := fun W => implValidErr 6 W
      simp only [show errName 6 = (⟨#[108, 105, 109, 105, 116]⟩ : ByteArray) from rfl] at CN CP
      have hcd : errCode (⟨#[108, 105, 109, 105, 116]⟩) = 6 := (code_at (k := 5) (by decide))
      rw [hcd] at CC
      simp only [show (decide ((1 : Int) ≤ 6) && decide ((6 : Int) ≤ 8)) = true by decide] at CV
      have HN := Lib.hid CN; have HP := Lib.hid CP; have HC := Lib.hid CC; have HV := Lib.hid CV
      clear CN CP CC CV hcd he
      go_wp2_with fail
      refine (HN.out _ L2.out).mono ?_; rintro e w3 ⟨rfl, hb⟩
      have L3 := Lib.hid (L2.out.trans hb); clear hb
      go_wp2_with fail
      refine (HP.out _).mono ?_; rintro e w4 ⟨rfl, hb⟩
      have L4 := Lib.hid (L3.out.trans hb); clear hb
      go_wp2_with fail
      refine (HC.out _ L4.out).mono ?_; rintro e w5 ⟨rfl, hb⟩
      have L5 := Lib.hid (L4.out.trans hb); clear hb
      go_wp2_with fail
      refine (implErrVal 6 _).mono ?_; rintro e w6 ⟨rfl, hb⟩
      have L6 := Lib.hid (L5.out.trans hb); clear hb
      go_wp2_with fail
      refine (HV.out _).mono ?_; rintro e w7 ⟨rfl, hb⟩
      go_wp2_with fail
      go_ret
      exact ⟨rfl, L6.out.trans hb⟩
    · have CN := fun W (hW : Later w W) => implErrorName 7 W (he.later hW)
      have CP := fun W => specErrorName 7 W
      have CC := fun W (hW : Later w W) => implErrorCode (⟨#[99, 111, 108, 117, 109, 110]⟩) W (he.later hW)
      have CV := fun W => implValidErr 7 W
      simp only [show errName 7 = (⟨#[99, 111, 108, 117, 109, 110]⟩ : ByteArray) from rfl] at CN CP
      have hcd : errCode (⟨#[99, 111, 108, 117, 109, 110]⟩) = 7 := (code_at (k := 6) (by decide))
      rw [hcd] at CC
      simp only [show (decide ((1 : Int) ≤ 7) && decide ((7 : Int) ≤ 8)) = true by decide] at CV
      have HN := Lib.hid CN; have HP := Lib.hid CP; have HC := Lib.hid CC; have HV := Lib.hid CV
      clear CN CP CC CV hcd he
      go_wp2_with fail
      refine (HN.out _ L2.out).mono ?_; rintro e w3 ⟨rfl, hb⟩
      have L3 := Lib.hid (L2.out.trans hb); clear hb
      go_wp2_with fail
      refine (HP.out _).mono ?_; rintro e w4 ⟨rfl, hb⟩
      have L4 := Lib.hid (L3.out.trans hb); clear hb
      go_wp2_with fail
      refine (HC.out _ L4.out).mono ?_; rintro e w5 ⟨rfl, hb⟩
      have L5 := Lib.hid (L4.out.trans hb); clear hb
      go_wp2_with fail
      refine (implErrVal 7 _).mono ?_; rintro e w6 ⟨rfl, hb⟩
      have L6 := Lib.hid (L5.out.trans hb); clear hb
      go_wp2_with fail
      refine (HV.out _).mono ?_; rintro e w7 ⟨rfl, hb⟩
      go_wp2_with fail
      go_ret
      exact ⟨rfl, L6.out.trans hb⟩
    · have CN := fun W (hW : Later w W) => implErrorName 8 W (he.later hW)
      have CP := fun W => specErrorName 8 W
      have CC := fun W (hW : Later w W) => implErrorCode (⟨#[115, 121, 110, 116, 97, 120]⟩) W (he.later hW)
      have CV := fun W => implValidErr 8 W
      simp only [show errName 8 = (⟨#[115, 121, 110, 116, 97, 120]⟩ : ByteArray) from rfl] at CN CP
      have hcd : errCode (⟨#[115, 121, 110, 116, 97, 120]⟩) = 8 := (code_at (k := 7) (by decide))
      rw [hcd] at CC
      simp only [show (decide ((1 : Int) ≤ 8) && decide ((8 : Int) ≤ 8)) = true by decide] at CV
      have HN := Lib.hid CN; have HP := Lib.hid CP; have HC := Lib.hid CC; have HV := Lib.hid CV
      clear CN CP CC CV hcd he
      go_wp2_with fail
      refine (HN.out _ L2.out).mono ?_; rintro e w3 ⟨rfl, hb⟩
      have L3 := Lib.hid (L2.out.trans hb); clear hb
      go_wp2_with fail
      refine (HP.out _).mono ?_; rintro e w4 ⟨rfl, hb⟩
      have L4 := Lib.hid (L3.out.trans hb); clear hb
      go_wp2_with fail
      refine (HC.out _ L4.out).mono ?_; rintro e w5 ⟨rfl, hb⟩
      have L5 := Lib.hid (L4.out.trans hb); clear hb
      go_wp2_with fail
      refine (implErrVal 8 _).mono ?_; rintro e w6 ⟨rfl, hb⟩
      have L6 := Lib.hid (L5.out.trans hb); clear hb
      go_wp2_with fail
      refine (HV.out _).mono ?_; rintro e w7 ⟨rfl, hb⟩
      go_wp2_with fail
      go_ret
      exact ⟨rfl, L6.out.trans hb⟩
    · have CN := fun W (hW : Later w W) => implErrorName 9 W (he.later hW)
      have CP := fun W => specErrorName 9 W
      have CC := fun W (hW : Later w W) => implErrorCode (⟨#[63]⟩) W (he.later hW)
      have CV := fun W => implValidErr 9 W
      simp only [show errName 9 = (⟨#[63]⟩ : ByteArray) from rfl] at CN CP
      have hcd : errCode (⟨#[63]⟩) = 0 := code_none
      rw [hcd] at CC
      simp only [show (decide ((1 : Int) ≤ 9) && decide ((9 : Int) ≤ 8)) = false by decide] at CV
      have HN := Lib.hid CN; have HP := Lib.hid CP; have HC := Lib.hid CC; have HV := Lib.hid CV
      clear CN CP CC CV hcd he
      go_wp2_with fail
      refine (HN.out _ L2.out).mono ?_; rintro e w3 ⟨rfl, hb⟩
      have L3 := Lib.hid (L2.out.trans hb); clear hb
      go_wp2_with fail
      refine (HP.out _).mono ?_; rintro e w4 ⟨rfl, hb⟩
      have L4 := Lib.hid (L3.out.trans hb); clear hb
      go_wp2_with fail
      refine (HC.out _ L4.out).mono ?_; rintro e w5 ⟨rfl, hb⟩
      have L5 := Lib.hid (L4.out.trans hb); clear hb
      go_wp2_with fail
      refine (implErrVal 9 _).mono ?_; rintro e w6 ⟨rfl, hb⟩
      have L6 := Lib.hid (L5.out.trans hb); clear hb
      go_wp2_with fail
      refine (HV.out _).mono ?_; rintro e w7 ⟨rfl, hb⟩
      go_wp2_with fail
      go_ret
      exact ⟨rfl, L6.out.trans hb⟩
end Go.Proofs.YtnfhbppmbpgfaaaDoor
