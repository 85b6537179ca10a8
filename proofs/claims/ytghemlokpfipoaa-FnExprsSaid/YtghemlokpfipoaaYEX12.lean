/-
  The law FnExprs: its walk.
-/
import Derived.Test.YtghemlokpfipoaaYEX11
import Derived.Test.YtghemlokpfipoaaYE4
import Derived.Test.YtghemlokpfipoaaYE10
import Derived.Test.YtghemlokpfipoaaYMG1
namespace Go.Proofs.Ytghemlokpfipoaa
open Go.ChangeShapes Go.WideShapes Go.ChangeAt Go.RowKit
set_option linter.unusedVariables false
set_option linter.unusedSimpArgs false
set_option maxRecDepth 100000

/-- A variable of four cells, behind a world. -/
abbrev HeldX (X w : World) (g : Nat) (c0 c1 c2 c3 : Value) : Prop := Later X w ∧ w.cell? ⟨g, 0, none⟩ = some c0 ∧ w.cell? ⟨g, 1, none⟩ = some c1 ∧ w.cell? ⟨g, 2, none⟩ = some c2 ∧ w.cell? ⟨g, 3, none⟩ = some c3
theorem HeldX.on {X w w' : World} {g : Nat} {c0 c1 c2 c3 : Value} (hb : Later w w') (h : HeldX X w g c0 c1 c2 c3) : HeldX X w' g c0 c1 c2 c3 :=
  ⟨h.1.trans hb, kept_cell hb h.2.1, kept_cell hb h.2.2.1, kept_cell hb h.2.2.2.1, kept_cell hb h.2.2.2.2⟩
/-- Two such variables. -/
abbrev HeldXX (X w : World) (g f : Nat) (c0 c1 c2 c3 d0 d1 d2 d3 : Value) : Prop := Later X w ∧ (w.cell? ⟨g, 0, none⟩ = some c0 ∧ w.cell? ⟨g, 1, none⟩ = some c1 ∧ w.cell? ⟨g, 2, none⟩ = some c2 ∧ w.cell? ⟨g, 3, none⟩ = some c3) ∧ w.cell? ⟨f, 0, none⟩ = some d0 ∧ w.cell? ⟨f, 1, none⟩ = some d1 ∧ w.cell? ⟨f, 2, none⟩ = some d2 ∧ w.cell? ⟨f, 3, none⟩ = some d3
theorem HeldXX.on {X w w' : World} {g f : Nat} {c0 c1 c2 c3 d0 d1 d2 d3 : Value} (hb : Later w w') (h : HeldXX X w g f c0 c1 c2 c3 d0 d1 d2 d3) : HeldXX X w' g f c0 c1 c2 c3 d0 d1 d2 d3 :=
  ⟨h.1.trans hb, ⟨kept_cell hb h.2.1.1, kept_cell hb h.2.1.2.1, kept_cell hb h.2.1.2.2.1, kept_cell hb h.2.1.2.2.2⟩, kept_cell hb h.2.2.1, kept_cell hb h.2.2.2.1, kept_cell hb h.2.2.2.2.1, kept_cell hb h.2.2.2.2.2⟩
theorem app_one {Y W1 w6 : World} {e : Nat} {v1 : Value} (hl : Later Y W1) (he : Y.heap.size ≤ e) (hg : W1.grownBy w6 (some e)) (h4 : v1.ownBlock = some e ∨ v1.ownBlock = some W1.heap.size) :
    Chg (fun b => Y.heap.size ≤ b) Y w6 ∧ ∀ b, v1.ownBlock = some b → Y.heap.size ≤ b := by
  have hs := hl.size
  refine ⟨(hl.chg _).trans ((chg_grown hg).more fun b hb => by simp only [Option.some.injEq] at hb; omega), fun b hb => ?_⟩
  rw [hb] at h4
  simp only [Option.some.injEq] at h4
  omega
theorem app_two {Y w6 W2 w7 : World} {v1 : Value} (c : Chg (fun b => Y.heap.size ≤ b) Y w6) (hl : Later w6 W2) (hg : W2.grownBy w7 v1.ownBlock) (hlo : ∀ b, v1.ownBlock = some b → Y.heap.size ≤ b) : Chg (fun b => Y.heap.size ≤ b) Y w7 :=
  (c.trans (hl.chg _)).trans ((chg_grown hg).more fun b hb => hlo b hb.symm)
theorem box_grown {w w' : World} {f e : Nat} {xs : List Value} (B : Box w f xs) (hg : w.grownBy w' (some e)) (hne : f ≠ e) : Box w' f xs := B.chg (chg_grown hg) fun h => hne (by simpa using h)
theorem app_gg {Y w6 : World} {v1 : Value} {gg H : Nat} (c : Chg (fun b => Y.heap.size ≤ b) Y w6) (hlo : ∀ b, v1.ownBlock = some b → Y.heap.size ≤ b) (hat : v1.ownBlock = some gg ∨ gg = H) (hH : w6.heap.size ≤ H) : Y.heap.size ≤ gg := by
  have := c.size
  rcases hat with h | h
  · exact hlo gg h
  · omega
theorem more_end {X Y w7 : World} {f1 g1 gg cap : Nat} {k m : Int} {t : ByteArray} {args : List Ex} {A : Option Addr} {c : Nat} {us : List Value} (hX : Later X Y) (hat : Ats X anyB (encE (.mk k m t args)) [.int .i64 k, .int .i64 m, .string t, .slice A args.length c]) (hu1 : us.length = args.length * 4)
    (hu5 : ∀ (p : Nat) d u, (args.flatMap encE)[p]? = some d → us[p]? = some u → At X anyB d u)
    (hrow : w7.ownsRow 0 67 4 (.slice (some ⟨gg, 0, none⟩) (0 + args.length + 1) cap) (0 + args.length + 1) (([] ++ us) ++ [.int .i64 k, .int .i64 m, .string t, .slice A args.length c]))
    (hc : Chg (fun b => Y.heap.size ≤ b) Y w7) (hf : Box w7 f1 [.int .i64 k, .int .i64 m, .string t, .slice A args.length c]) (hg : Box w7 g1 [.int .i64 k, .int .i64 m, .string t, .slice A args.length c]) (hne : g1 ≠ f1) (hfx : X.heap.size ≤ f1) (hfl : f1 < Y.heap.size) (hgg : Y.heap.size ≤ gg) :
    HeldXX (w7.setCell ⟨f1, 3, none⟩ (.slice (some ⟨gg, 0, none⟩) (args.length + 1) cap)) (w7.setCell ⟨f1, 3, none⟩ (.slice (some ⟨gg, 0, none⟩) (args.length + 1) cap)) f1 g1 (.int .i64 k) (.int .i64 m) (.string t) (.slice (some ⟨gg, 0, none⟩) (args.length + 1) cap) (.int .i64 k) (.int .i64 m) (.string t) (.slice A args.length c) ∧
      Later X (w7.setCell ⟨f1, 3, none⟩ (.slice (some ⟨gg, 0, none⟩) (args.length + 1) cap)) ∧
      Ats (w7.setCell ⟨f1, 3, none⟩ (.slice (some ⟨gg, 0, none⟩) (args.length + 1) cap)) anyB (encE (.mk k m t (args ++ [.mk k m t args]))) [.int .i64 k, .int .i64 m, .string t, .slice (some ⟨gg, 0, none⟩) (args.length + 1) cap] := by
  rw [Nat.zero_add] at hrow
  obtain ⟨h0, h1, h2, h3, _⟩ := box_four (show Box _ f1 [.int .i64 k, .int .i64 m, .string t, .slice (some ⟨gg, 0, none⟩) (args.length + 1) cap] from hf.set 3 (.slice (some ⟨gg, 0, none⟩) (args.length + 1) cap))
  obtain ⟨e0, e1, e2, e3, _⟩ := box_four (hg.other 3 (.slice (some ⟨gg, 0, none⟩) (args.length + 1) cap) hne)
  have cs : Chg (fun b => b = f1) w7 (w7.setCell ⟨f1, 3, none⟩ (.slice (some ⟨gg, 0, none⟩) (args.length + 1) cap)) := (Chg.rfl' _ w7).set rfl
  have hs := hX.size
  have hL : Later X (w7.setCell ⟨f1, 3, none⟩ (.slice (some ⟨gg, 0, none⟩) (args.length + 1) cap)) := Chg.later hX ((hc.more fun k hk => (Or.inl hk : Y.heap.size ≤ k ∨ k = f1)).trans (cs.more fun k hk => .inr hk)) fun k hk => by omega
  have hrow2 := row_block hrow fun b hb => cs.block b (hrow.lt b hb).2 (by simp only [Value.ownBlock, Option.some.injEq] at hb; omega)
  have hfl4 : (args.flatMap encE).length = args.length * 4 := flat_len encE_len args
  obtain ⟨v, hv, b0, b1, b2, _⟩ := hat.ex
  refine ⟨⟨Later.rfl' _, ⟨h0, h1, h2, h3⟩, e0, e1, e2, e3⟩, hL, Ats.mkE b0 b1 b2 ?_⟩
  rw [List.length_append]
  refine at_row hrow2 (by rw [flat_len encE_len, List.length_append]) fun p d u hd hu => ?_
  rw [List.flatMap_append] at hd
  rw [List.nil_append] at hu
  by_cases hp : p < args.length * 4
  · rw [List.getElem?_append_left (by omega)] at hd hu
    exact (hu5 p d u hd hu).later hL
  · rw [List.getElem?_append_right (by omega), hfl4] at hd
    rw [List.getElem?_append_right (by omega), hu1] at hu
    have hd' : (encE (.mk k m t args))[p - args.length * 4]? = some d := by simpa using hd
    obtain ⟨x, hx, ha⟩ := hat.at_ hd'
    rw [hu] at hx
    cases hx
    exact ha.later hL
theorem valid_parts {e : Ex} (h : validE e = true) : e.count ≤ 40 ∧ e.depth ≤ 8 ∧ e.okAll = true := by
  unfold validE at h
  simpa using h
theorem valid_call {n : Int} {t : ByteArray} {args : List Ex} (h : validE (.mk 5 n t args) = true) : (args.length : Int) = argCount t := by
  have h1 := (valid_parts h).2.2
  rw [Ex.okAll] at h1
  simp [nodeOK] at h1
  exact h1.2.2
theorem not_valid_call {n : Int} {t : ByteArray} {args : List Ex} (e : Ex) (h : (args.length : Int) = argCount t) : validE (.mk 5 n t (args ++ [e])) = false := by
  unfold validE
  have : Ex.okAll (.mk 5 n t (args ++ [e])) = false := by
    rw [Ex.okAll]
    simp [nodeOK]
    intro _ _
    omega
  rw [this]
  simp
theorem eqv_more {k n : Int} {t : ByteArray} {args : List Ex} (e : Ex) : Ex.eqv (.mk k n t (args ++ [e])) (.mk k n t args) = false := by
  rw [eqv_same]
  exact eqvs_len (by rw [List.length_append]; simp)

set_option maxHeartbeats 40000000 in
theorem walk_FnExprs (v : Value) (n : Nat) (w : World) (h : BytesAt w v n) : Calls Try.prog 11 #[v] w fun r w' => r = .returned (.bool true) ∧ Later w w' := by
  by_cases hbig : 1048576 < n
  · have C0 := bigBytes v n w h
    rw [show decide (1048576 < n) = true by simp; omega] at C0
    have HB := Lib.hid C0
    clear C0 hbig h
    go_enter Try.func11, Try.ntmps11
    go_wp2_with fail
    refine HB.out.mono ?_; rintro e w1 ⟨rfl, hb1⟩
    go_wp2_with fail
    go_ret
    exact ⟨rfl, hb1⟩
  · have C0 := bigBytes v n w h
    rw [show decide (1048576 < n) = false by simp; omega] at C0
    have hle : n ≤ 1048576 := by omega
    have C1 := fun W (hW : Later w W) => drawValidExpr v n W (BytesAt.later h hW) hle
    obtain ⟨i0, hi, hz0, hz1, hz2⟩ := info_parts info_expr
    have HB := Lib.hid C0; have HD := Lib.hid C1
    clear C0 C1 hbig hle h
    go_enter Try.func11, Try.ntmps11
    go_wp2_with fail
    refine HB.out.mono ?_; rintro e w1 ⟨rfl, hb⟩
    have L := Lib.hid hb; clear hb HB
    go_wp2_with fail
    refine (HD.out _ L.out).mono ?_; rintro e w2 ⟨⟨k, m, t, args, A, c, rfl, hco, hat0⟩, hb⟩
    obtain ⟨X, hX⟩ : ∃ X, X = w2.alloc (.cells #[.int .i64 k, .int .i64 m, .string t, .slice A args.length c] 67) := ⟨_, rfl⟩
    obtain ⟨g1, hg1⟩ : ∃ g, g = w2.heap.size := ⟨_, rfl⟩
    have hB1 : Box X g1 [.int .i64 k, .int .i64 m, .string t, .slice A args.length c] := by rw [hX, hg1]; exact box_alloc w2 #[.int .i64 k, .int .i64 m, .string t, .slice A args.length c] 67
    have hl : Later w2 X := by rw [hX]; exact (Later.rfl' _).alloc _
    have hat := hat0.later hl
    have HL := Lib.hid ((L.out.trans hb).trans hl)
    have hce := count_le (Ex.mk k m t args)
    have hde := ex_depth_le (Ex.mk k m t args)
    obtain ⟨b, hb⟩ : ∃ b, b = validE (.mk k m t args) := ⟨_, rfl⟩
    obtain ⟨q, hq⟩ : ∃ q, q = (Ex.mk k m t args).count := ⟨_, rfl⟩
    obtain ⟨p, hp⟩ : ∃ p, p = (Ex.mk k m t args).depth := ⟨_, rfl⟩
    have CVI : Hid (∀ W', HeldX X W' g1 (.int .i64 k) (.int .i64 m) (.string t) (.slice A args.length c) → Calls Try.prog 55 #[.agg #[.int .i64 k, .int .i64 m, .string t, .slice A args.length c]] W' fun r w' => r = .returned (.bool b) ∧ Later W' w') := fun W' h => by rw [hb]; exact implIsValidExpr (exAt_of _ _ (hat.later h.1)) (by omega)
    have CVS : Hid (∀ W', HeldX X W' g1 (.int .i64 k) (.int .i64 m) (.string t) (.slice A args.length c) → Calls Try.prog 56 #[.agg #[.int .i64 k, .int .i64 m, .string t, .slice A args.length c]] W' fun r w' => r = .returned (.bool b) ∧ Later W' w') := fun W' h => by rw [hb]; exact specIsValidExpr (exAt_of _ _ (hat.later h.1)) (by omega)
    have CCI : Hid (∀ W', HeldX X W' g1 (.int .i64 k) (.int .i64 m) (.string t) (.slice A args.length c) → Calls Try.prog 57 #[.agg #[.int .i64 k, .int .i64 m, .string t, .slice A args.length c]] W' fun r w' => r = .returned (.int .i64 (q : Int)) ∧ Later W' w') := fun W' h => by rw [hq]; exact implNodeCount X anyB _ _ (exAt_of _ _ hat) (by omega) W' h.1
    have CCS : Hid (∀ W', HeldX X W' g1 (.int .i64 k) (.int .i64 m) (.string t) (.slice A args.length c) → Calls Try.prog 58 #[.agg #[.int .i64 k, .int .i64 m, .string t, .slice A args.length c]] W' fun r w' => r = .returned (.int .i64 (q : Int)) ∧ Later W' w') := fun W' h => by rw [hq]; exact specNodeCount X anyB _ _ (exAt_of _ _ hat) (by omega) W' h.1
    have CDI : Hid (∀ W', HeldX X W' g1 (.int .i64 k) (.int .i64 m) (.string t) (.slice A args.length c) → Calls Try.prog 60 #[.agg #[.int .i64 k, .int .i64 m, .string t, .slice A args.length c]] W' fun r w' => r = .returned (.int .i64 (p : Int)) ∧ Later W' w') := fun W' h => by rw [hp]; exact implNestingOf X anyB _ _ (exAt_of _ _ hat) (by omega) W' h.1
    have CEQ : Hid (∀ W', HeldX X W' g1 (.int .i64 k) (.int .i64 m) (.string t) (.slice A args.length c) → Calls Try.prog 59 #[.agg #[.int .i64 k, .int .i64 m, .string t, .slice A args.length c], .agg #[.int .i64 k, .int .i64 m, .string t, .slice A args.length c]] W' fun r w' => r = .returned (.bool true) ∧ Later W' w') := fun W' h => by have h2 := implEqualExpr X anyB _ _ (exAt_of _ _ hat) anyB _ _ (exAt_of _ _ hat) W' h.1; rw [eqv_self] at h2; exact h2
    have HVP : Hid (b = true → q ≤ 40 ∧ p ≤ 8) := fun h => by rw [hb] at h; rw [hq, hp]; exact ⟨(valid_parts h).1, (valid_parts h).2.1⟩
    have HBE := Lib.hid hb
    rw [← hq] at hce hde
    rw [← hp] at hde
    have hpq : (p : Int) ≤ (q : Int) := by omega
    have HAT := Lib.hid hat
    have HCO := Lib.hid hco
    have HP : Hid (HeldX X X g1 (.int .i64 k) (.int .i64 m) (.string t) (.slice A args.length c)) := by
      obtain ⟨h0, h1, h2, h3, _⟩ := box_four hB1
      exact ⟨Later.rfl' _, h0, h1, h2, h3⟩
    have HBX := Lib.hid hB1
    have HXX := Lib.hid hX; have HG1 := Lib.hid hg1
    clear hX hg1 hB1 hl hat hat0 hb L HD hco hq hp hce hde
    obtain ⟨_, va0, va1, va2, va3⟩ := HP.out
    go_wp2_with fail
    rw [← HXX.out, ← HG1.out]
    clear HXX HG1
    refine (CVI.out _ HP.out).mono ?_; rintro r w3 ⟨rfl, hb3⟩
    clear va0 va1 va2 va3
    replace HP := Lib.hid (HeldX.on hb3 HP.out)
    obtain ⟨_, va0, va1, va2, va3⟩ := HP.out
    clear hb3
    go_wp2_with fail
    go_region_held3 (fun w' => Later X w' ∧ w'.cell? ⟨g1, 0, none⟩ = some (.int .i64 k) ∧ w'.cell? ⟨g1, 1, none⟩ = some (.int .i64 m) ∧ w'.cell? ⟨g1, 2, none⟩ = some (.string t) ∧ w'.cell? ⟨g1, 3, none⟩ = some (.slice A args.length c))
      (first | with_reducible exact HeldX.on (Later.rfl' _).drew HP.out | with_reducible exact HeldX.on hbk (by assumption))
      (first | (go_at_call 56; (with_reducible refine (CVS.out _ (by assumption)).mono ?_); rintro r wk ⟨rfl, hbk⟩) | (go_at_call 57; (with_reducible refine (CCI.out _ (by assumption)).mono ?_); rintro r wk ⟨rfl, hbk⟩) | (go_at_call 58; (with_reducible refine (CCS.out _ (by assumption)).mono ?_); rintro r wk ⟨rfl, hbk⟩) | (go_at_call 59; (with_reducible refine (CEQ.out _ (by assumption)).mono ?_); rintro r wk ⟨rfl, hbk⟩))
    all_goals
      (rename_i hHL
       clear va0 va1 va2 va3
       replace HP : Hid (HeldX X _ g1 (.int .i64 k) (.int .i64 m) (.string t) (.slice A args.length c)) := hHL
       clear hHL
       obtain ⟨_, va0, va1, va2, va3⟩ := HP.out
       cases b with
       | false =>
         go_wp2_with fail
         go_region_held3 (fun w' => Later X w' ∧ w'.cell? ⟨g1, 0, none⟩ = some (.int .i64 k) ∧ w'.cell? ⟨g1, 1, none⟩ = some (.int .i64 m) ∧ w'.cell? ⟨g1, 2, none⟩ = some (.string t) ∧ w'.cell? ⟨g1, 3, none⟩ = some (.slice A args.length c))
           (first | with_reducible exact HeldX.on (Later.rfl' _).drew HP.out | with_reducible exact HeldX.on hbk (by assumption))
           (first | (go_at_call 60; (with_reducible refine (CDI.out _ (by assumption)).mono ?_); rintro r wk ⟨rfl, hbk⟩) | (go_at_call 57; (with_reducible refine (CCI.out _ (by assumption)).mono ?_); rintro r wk ⟨rfl, hbk⟩))
         all_goals
           (rename_i hHL
            have HE := Lib.hid hHL.1
            clear hHL va0 va1 va2 va3 HP
            go_wp2_with fail
            go_ret
            exact ⟨rfl, HL.out.trans HE.out⟩)
       | true =>
         obtain ⟨hq40, hp8⟩ := HVP.out rfl
         have hq4 : (q : Int) ≤ 40 := by omega
         have hp4 : (p : Int) ≤ 8 := by omega
         clear hq40 hp8 HVP
         go_wp2_with fail
         refine (CCI.out _ HP.out).mono ?_; rintro r w4 ⟨rfl, hb4⟩
         clear va0 va1 va2 va3
         replace HP := Lib.hid (HeldX.on hb4 HP.out)
         obtain ⟨_, va0, va1, va2, va3⟩ := HP.out
         clear hb4
         go_wp2_with fail
         refine (CDI.out _ HP.out).mono ?_; rintro r w5 ⟨rfl, hb5⟩
         clear va0 va1 va2 va3
         replace HP := Lib.hid (HeldX.on hb5 HP.out)
         obtain ⟨_, va0, va1, va2, va3⟩ := HP.out
         clear hb5
         by_cases hk5 : k = 5
         · have ek : (k == 5) = true := by simp [hk5]
           have HK5 := Lib.hid hk5
           clear hk5
           go_wp2_with fail
           obtain ⟨Y, hY⟩ : ∃ Y, Y = w5.alloc (.cells #[.int .i64 k, .int .i64 m, .string t, .slice A args.length c] 67) := ⟨_, rfl⟩
           obtain ⟨f1, hf1⟩ : ∃ g, g = w5.heap.size := ⟨_, rfl⟩
           have hlY : Later w5 Y := by rw [hY]; exact (Later.rfl' _).alloc _
           have hBX : Box Y f1 [.int .i64 k, .int .i64 m, .string t, .slice A args.length c] := by rw [hY, hf1]; exact box_alloc w5 #[.int .i64 k, .int .i64 m, .string t, .slice A args.length c] 67
           have hBE : Box Y g1 [.int .i64 k, .int .i64 m, .string t, .slice A args.length c] := HBX.out.later (HP.out.1.trans hlY)
           have hne : g1 ≠ f1 := by have := World.block_lt_of_cell? w5 _ va0; simp only at this; omega
           have HBXf := Lib.hid hBX; have HBXg := Lib.hid hBE
           have HLX := Lib.hid (HP.out.1.trans hlY)
           have HXF : Hid (X.heap.size ≤ f1) := by rw [hf1]; exact HP.out.1.size
           have HL2 := Lib.hid (HL.out.trans (HP.out.1.trans hlY))
           clear va0 va1 va2 va3 HP
           obtain ⟨va0, va1, va2, va3, _⟩ := box_four hBE
           obtain ⟨vb0, vb1, vb2, vb3, vf0, vf1, vf2, vf3⟩ := box_four hBX
           have hgl := hBE.lt
           have hfl := hBX.lt
           obtain ⟨_, ha⟩ : ∃ v, v = (1 : Nat) := ⟨_, rfl⟩
           have hsl : At X anyB (.sl 4 args.length (args.flatMap encE)) (.slice A args.length c) := by
             obtain ⟨_, e, _, _, _, h⟩ := HAT.out.ex
             simp only [List.cons.injEq, and_true, true_and] at e
             rw [e]
             exact h
           obtain ⟨us, hu1, hu2, hu3, hu4, hu5⟩ := any_cells hsl (by decide)
           have HU3 := Lib.hid hu3; have HU4 := Lib.hid hu4; have HU5 := Lib.hid hu5
           have hcl : args.length ≤ 363200 := by have := HCO.out; rw [costX] at this; omega
           have HOW1 : Hid ((Y.alloc (.cells #[] 67)).drew.ownsRow 0 67 4 (.slice (some ⟨Y.heap.size, 0, none⟩) 0 0) 0 []) := own_later (World.ownsRow_made Y #[] 0 (Nat.zero_le _) (Nat.zero_le _) rfl) (Later.rfl' _).drew
           have HOW2 : Hid (((Y.alloc (.cells #[] 67)).alloc (.cells #[.int .i64 k, .int .i64 m, .string t, .slice A args.length c] 67)).drew.ownsRow 0 67 4 (.slice (some ⟨Y.heap.size, 0, none⟩) 0 0) 0 []) := own_later (World.ownsRow_made Y #[] 0 (Nat.zero_le _) (Nat.zero_le _) rfl) ((Later.rfl' _).alloc _).drew
           have HOW3 : Hid (((Y.alloc (.cells #[.int .i64 k, .int .i64 m, .string t, .slice A args.length c] 67)).alloc (.cells #[] 67)).drew.ownsRow 0 67 4 (.slice (some ⟨(Y.alloc (.cells #[.int .i64 k, .int .i64 m, .string t, .slice A args.length c] 67)).heap.size, 0, none⟩) 0 0) 0 []) := own_later (World.ownsRow_made _ #[] 0 (Nat.zero_le _) (Nat.zero_le _) rfl) (Later.rfl' _).drew
           have HYY := Lib.hid hY; have HFF := Lib.hid hf1
           have hm1 : Hid (0 + args.length ≤ maxLen) := by unfold Hid maxLen; omega
           have hm2 : Hid ((0 + args.length) * 56 ≤ 140737488355328) := by unfold Hid; omega
           have hm3 : Hid (0 + args.length + 1 ≤ maxLen) := by unfold Hid maxLen; omega
           have hm4 : Hid ((0 + args.length + 1) * 56 ≤ 140737488355328) := by unfold Hid; omega
           have HLW1 : Hid (Later Y ((Y.alloc (.cells #[] 67)).drew)) := ((Later.rfl' Y).alloc (.cells #[] 67)).drew
           have HEM1 : Hid (Y.heap.size ≤ Y.heap.size) := by unfold Hid; first | exact Nat.le_refl _ | (rw [World.size_alloc]; omega)
           have HLW2 : Hid (Later Y (((Y.alloc (.cells #[] 67)).alloc (.cells #[.int .i64 k, .int .i64 m, .string t, .slice A args.length c] 67)).drew)) := (((Later.rfl' Y).alloc (.cells #[] 67)).alloc (.cells #[.int .i64 k, .int .i64 m, .string t, .slice A args.length c] 67)).drew
           have HEM2 : Hid (Y.heap.size ≤ Y.heap.size) := by unfold Hid; first | exact Nat.le_refl _ | (rw [World.size_alloc]; omega)
           have HLW3 : Hid (Later Y (((Y.alloc (.cells #[.int .i64 k, .int .i64 m, .string t, .slice A args.length c] 67)).alloc (.cells #[] 67)).drew)) := (((Later.rfl' Y).alloc (.cells #[.int .i64 k, .int .i64 m, .string t, .slice A args.length c] 67)).alloc (.cells #[] 67)).drew
           have HEM3 : Hid (Y.heap.size ≤ (Y.alloc (.cells #[.int .i64 k, .int .i64 m, .string t, .slice A args.length c] 67)).heap.size) := by unfold Hid; first | exact Nat.le_refl _ | (rw [World.size_alloc]; omega)
           have HBW2 : Hid (Box (((Y.alloc (.cells #[] 67)).alloc (.cells #[.int .i64 k, .int .i64 m, .string t, .slice A args.length c] 67)).drew) (Y.heap.size + 1) [.int .i64 k, .int .i64 m, .string t, .slice A args.length c]) := by have h := box_alloc (Y.alloc (.cells #[] 67)) #[.int .i64 k, .int .i64 m, .string t, .slice A args.length c] 67; rw [World.size_alloc] at h; exact h.later (Later.rfl' _).drew
           have HBW3 : Hid (Box (((Y.alloc (.cells #[.int .i64 k, .int .i64 m, .string t, .slice A args.length c] 67)).alloc (.cells #[] 67)).drew) Y.heap.size [.int .i64 k, .int .i64 m, .string t, .slice A args.length c]) := (box_alloc Y #[.int .i64 k, .int .i64 m, .string t, .slice A args.length c] 67).later ((Later.rfl' _).alloc _).drew
           have HNE2 : Hid (Y.heap.size + 1 ≠ Y.heap.size) := Nat.succ_ne_self _
           have HNE3 : Hid (Y.heap.size ≠ (Y.alloc (.cells #[.int .i64 k, .int .i64 m, .string t, .slice A args.length c] 67)).heap.size) := by unfold Hid; rw [World.size_alloc]; omega
           clear hY hf1 hlY hBX hBE hsl hu3 hu4 hu5 ha
           rw [← HYY.out, ← HFF.out]
           go_region_law (first
             | (have := HWAY1.out; with_reducible refine step_append_lies _ rfl (.tmp 50) (.tmp 52) 65 rfl 0 67 i0 (.agg #[.int .i64 0, .int .i64 0, .string ByteArray.empty, .slice none 0 0]) 4 56 Try.underlying65 hi hz0 hz1 hz2 rfl (by decide) _ (0 + args.length) ([] ++ us) (by simp [Act.eval, Act.put]) (own_later HROW.out ((Later.rfl' w6).alloc (.cells #[.int .i64 k, .int .i64 m, .string t, .slice A args.length c] 67))) ⟨w6.heap.size, 0, none⟩ 1 1 [.int .i64 k, .int .i64 m, .string t, .slice A args.length c] (by simp [Act.eval, Act.put]) rfl (World.news_of_block (heap_alloc_new w6 _)) (by simp [Value.oneCell']) (by decide) hm3.out hm4.out (Nat.zero_le _) (w6.heap.size + 1) (by simp) ?_; intro gg cap w7 ho7 hg7 hat7 hlt7; have hc7 := app_two HCY6.out ((Later.rfl' w6).alloc (.cells #[.int .i64 k, .int .i64 m, .string t, .slice A args.length c] 67)) hg7 HLO6.out; have HGG := Lib.hid (app_gg HCY6.out HLO6.out hat7 (Nat.le_succ _)); have HROW7 := Lib.hid ho7; have HBF7 := Lib.hid (HBXf.out.chg hc7 (Nat.not_le_of_lt hfl)); have HBG7 := Lib.hid (HBXg.out.chg hc7 (Nat.not_le_of_lt hgl)); have HCY7 := Lib.hid hc7; obtain ⟨x0, x1, x2, x3, g0, g1', g2, g3⟩ := box_four HBF7.out; have xl := HBF7.out.lt; clear ho7 hg7 hat7 hlt7 hc7)
             | (have := HWAY2.out; with_reducible refine step_append_lies _ rfl (.tmp 50) (.tmp 52) 65 rfl 0 67 i0 (.agg #[.int .i64 0, .int .i64 0, .string ByteArray.empty, .slice none 0 0]) 4 56 Try.underlying65 hi hz0 hz1 hz2 rfl (by decide) _ (0 + args.length) ([] ++ us) (by simp [Act.eval, Act.put]) HROW.out ⟨Y.heap.size + 1, 0, none⟩ 1 1 [.int .i64 k, .int .i64 m, .string t, .slice A args.length c] (by simp [Act.eval, Act.put]) rfl (fun j u hu => by rw [add_lit]; simp only [Nat.zero_add]; exact HBE6.out.cell hu) (by simp [Value.oneCell']) (by decide) hm3.out hm4.out (Nat.zero_le _) w6.heap.size rfl ?_; intro gg cap w7 ho7 hg7 hat7 hlt7; have hc7 := app_two HCY6.out (Later.rfl' w6) hg7 HLO6.out; have HGG := Lib.hid (app_gg HCY6.out HLO6.out hat7 (Nat.le_refl _)); have HROW7 := Lib.hid ho7; have HBF7 := Lib.hid (HBXf.out.chg hc7 (Nat.not_le_of_lt hfl)); have HBG7 := Lib.hid (HBXg.out.chg hc7 (Nat.not_le_of_lt hgl)); have HCY7 := Lib.hid hc7; obtain ⟨x0, x1, x2, x3, g0, g1', g2, g3⟩ := box_four HBF7.out; have xl := HBF7.out.lt; clear ho7 hg7 hat7 hlt7 hc7)
             | (have := HWAY3.out; with_reducible refine step_append_lies _ rfl (.tmp 50) (.tmp 52) 65 rfl 0 67 i0 (.agg #[.int .i64 0, .int .i64 0, .string ByteArray.empty, .slice none 0 0]) 4 56 Try.underlying65 hi hz0 hz1 hz2 rfl (by decide) _ (0 + args.length) ([] ++ us) (by simp [Act.eval, Act.put]) HROW.out ⟨Y.heap.size, 0, none⟩ 1 1 [.int .i64 k, .int .i64 m, .string t, .slice A args.length c] (by simp [Act.eval, Act.put]) rfl (fun j u hu => by rw [add_lit]; simp only [Nat.zero_add]; exact HBE6.out.cell hu) (by simp [Value.oneCell']) (by decide) hm3.out hm4.out (Nat.zero_le _) w6.heap.size rfl ?_; intro gg cap w7 ho7 hg7 hat7 hlt7; have hc7 := app_two HCY6.out (Later.rfl' w6) hg7 HLO6.out; have HGG := Lib.hid (app_gg HCY6.out HLO6.out hat7 (Nat.le_refl _)); have HROW7 := Lib.hid ho7; have HBF7 := Lib.hid (HBXf.out.chg hc7 (Nat.not_le_of_lt hfl)); have HBG7 := Lib.hid (HBXg.out.chg hc7 (Nat.not_le_of_lt hgl)); have HCY7 := Lib.hid hc7; obtain ⟨x0, x1, x2, x3, g0, g1', g2, g3⟩ := box_four HBF7.out; have xl := HBF7.out.lt; clear ho7 hg7 hat7 hlt7 hc7)
             | (with_reducible refine step_append_any _ rfl (.tmp 47) (.tmp 49) 65 rfl 67 i0 (.agg #[.int .i64 0, .int .i64 0, .string ByteArray.empty, .slice none 0 0]) 4 56 Try.underlying65 hi hz0 hz1 hz2 rfl (by decide) _ 0 [] (by simp [Act.eval, Act.put]) HOW1.out A args.length c us (by simp [Act.eval, Act.put]) hu1 hu2 (HU3.out _ (HLX.out.trans HLW1.out)) HU4.out hm1.out hm2.out ?_; intro v1 w6 h2 h3 h4; obtain ⟨hcy, hlo⟩ := app_one (e := Y.heap.size) HLW1.out HEM1.out h3 h4; have HCY6 := Lib.hid hcy; have HLO6 := Lib.hid hlo; have HBG6 := Lib.hid (HBXg.out.chg hcy (Nat.not_le_of_lt hgl)); have HBF6 := Lib.hid (HBXf.out.chg hcy (Nat.not_le_of_lt hfl)); have HROW := Lib.hid h2; have HWAY1 := Lib.hid trivial; obtain ⟨A6, c6, rfl, _⟩ := row_shape h2; obtain ⟨y0, y1, y2, y3, _⟩ := box_four HBG6.out; have yl := HBG6.out.lt; have zl := HBF6.out.lt; clear h2 h3 h4 hcy hlo)
             | (with_reducible refine step_append_any _ rfl (.tmp 47) (.tmp 49) 65 rfl 67 i0 (.agg #[.int .i64 0, .int .i64 0, .string ByteArray.empty, .slice none 0 0]) 4 56 Try.underlying65 hi hz0 hz1 hz2 rfl (by decide) _ 0 [] (by simp [Act.eval, Act.put]) HOW2.out A args.length c us (by simp [Act.eval, Act.put]) hu1 hu2 (HU3.out _ (HLX.out.trans HLW2.out)) HU4.out hm1.out hm2.out ?_; intro v1 w6 h2 h3 h4; obtain ⟨hcy, hlo⟩ := app_one (e := Y.heap.size) HLW2.out HEM2.out h3 h4; have HCY6 := Lib.hid hcy; have HLO6 := Lib.hid hlo; have HBG6 := Lib.hid (HBXg.out.chg hcy (Nat.not_le_of_lt hgl)); have HBF6 := Lib.hid (HBXf.out.chg hcy (Nat.not_le_of_lt hfl)); have HROW := Lib.hid h2; have HWAY2 := Lib.hid trivial; have HBE6 := Lib.hid (box_grown HBW2.out h3 HNE2.out); obtain ⟨A6, c6, rfl, _⟩ := row_shape h2; obtain ⟨y0, y1, y2, y3, _⟩ := box_four HBG6.out; have yl := HBG6.out.lt; have zl := HBF6.out.lt; clear h2 h3 h4 hcy hlo)
             | (with_reducible refine step_append_any _ rfl (.tmp 47) (.tmp 49) 65 rfl 67 i0 (.agg #[.int .i64 0, .int .i64 0, .string ByteArray.empty, .slice none 0 0]) 4 56 Try.underlying65 hi hz0 hz1 hz2 rfl (by decide) _ 0 [] (by simp [Act.eval, Act.put]) HOW3.out A args.length c us (by simp [Act.eval, Act.put]) hu1 hu2 (HU3.out _ (HLX.out.trans HLW3.out)) HU4.out hm1.out hm2.out ?_; intro v1 w6 h2 h3 h4; obtain ⟨hcy, hlo⟩ := app_one (e := (Y.alloc (.cells #[.int .i64 k, .int .i64 m, .string t, .slice A args.length c] 67)).heap.size) HLW3.out HEM3.out h3 h4; have HCY6 := Lib.hid hcy; have HLO6 := Lib.hid hlo; have HBG6 := Lib.hid (HBXg.out.chg hcy (Nat.not_le_of_lt hgl)); have HBF6 := Lib.hid (HBXf.out.chg hcy (Nat.not_le_of_lt hfl)); have HROW := Lib.hid h2; have HWAY3 := Lib.hid trivial; have HBE6 := Lib.hid (box_grown HBW3.out h3 HNE3.out); obtain ⟨A6, c6, rfl, _⟩ := row_shape h2; obtain ⟨y0, y1, y2, y3, _⟩ := box_four HBG6.out; have yl := HBG6.out.lt; have zl := HBF6.out.lt; clear h2 h3 h4 hcy hlo))
           all_goals
             (obtain ⟨z1, z2, z3⟩ := more_end HLX.out HAT.out hu1 HU5.out HROW7.out HCY7.out HBF7.out HBG7.out hne HXF.out hfl HGG.out
              obtain ⟨Z, hZ⟩ : ∃ Z, Z = w7.setCell ⟨f1, 3, none⟩ (.slice (some ⟨gg, 0, none⟩) (args.length + 1) cap) := ⟨_, rfl⟩
              rw [← hZ] at z1 z2 z3
              have HZ := Lib.hid hZ
              have HZ1 := Lib.hid z1
              have HL3 := Lib.hid (HL.out.trans z2)
              have hvt : validE (.mk 5 m t args) = true := by rw [← HK5.out]; exact HBE.out.symm
              have hac := valid_call hvt
              have CV : Hid (∀ W', Later Z W' → Calls Try.prog 55 #[.agg #[.int .i64 k, .int .i64 m, .string t, .slice (some ⟨gg, 0, none⟩) (args.length + 1) cap]] W' fun r w' => r = .returned (.bool false) ∧ Later W' w') := fun W' h => by
                have h2 := implIsValidExpr (exAt_of _ _ (z3.later h)) (by have := HCO.out; rw [costX] at *; rw [costs_snoc, List.length_append, costX]; simp only [List.length_cons, List.length_nil]; omega)
                rw [HK5.out, not_valid_call _ hac] at h2
                rw [HK5.out]
                exact h2
              have CA : Hid (∀ W', Calls Try.prog 61 #[.string t] W' fun r w' => r = .returned (.int .i64 (args.length : Int)) ∧ Later W' w') := fun W' => by
                rw [hac]
                exact implArgumentCount t W' (by have := HCO.out; rw [costX] at this; unfold maxLen; omega)
              have CE : Hid (∀ W', Later Z W' → Calls Try.prog 59 #[.agg #[.int .i64 k, .int .i64 m, .string t, .slice (some ⟨gg, 0, none⟩) (args.length + 1) cap], .agg #[.int .i64 k, .int .i64 m, .string t, .slice A args.length c]] W' fun r w' => r = .returned (.bool false) ∧ Later W' w') := fun W' h => by
                have h2 := implEqualExpr Z anyB _ _ (exAt_of _ _ z3) anyB _ _ (exAt_of _ _ (HAT.out.later z2)) W' h
                rw [eqv_more] at h2
                exact h2
              clear z1 z2 z3 hZ hvt hac x0 x1 x2 x3 g0 g1' g2 g3 xl y0 y1 y2 y3 yl zl va0 va1 va2 va3 vb0 vb1 vb2 vb3 vf0 vf1 vf2 vf3
              go_wp2_with fail
              rw [← HZ.out]
              go_region_held3 (fun w' => Later Z w' ∧ (w'.cell? ⟨f1, 0, none⟩ = some (.int .i64 k) ∧ w'.cell? ⟨f1, 1, none⟩ = some (.int .i64 m) ∧ w'.cell? ⟨f1, 2, none⟩ = some (.string t) ∧ w'.cell? ⟨f1, 3, none⟩ = some (.slice (some ⟨gg, 0, none⟩) (args.length + 1) cap)) ∧ w'.cell? ⟨g1, 0, none⟩ = some (.int .i64 k) ∧ w'.cell? ⟨g1, 1, none⟩ = some (.int .i64 m) ∧ w'.cell? ⟨g1, 2, none⟩ = some (.string t) ∧ w'.cell? ⟨g1, 3, none⟩ = some (.slice A args.length c))
                (first | with_reducible exact HeldXX.on (Later.rfl' _).drew HZ1.out | with_reducible exact HeldXX.on hbk (by assumption))
                (first | (go_at_call 55; (with_reducible refine (CV.out _ (And.left (by assumption))).mono ?_); rintro r wk ⟨rfl, hbk⟩) | (go_at_call 61; (with_reducible refine (CA.out _).mono ?_); rintro r wk ⟨rfl, hbk⟩) | (go_at_call 59; (with_reducible refine (CE.out _ (And.left (by assumption))).mono ?_); rintro r wk ⟨rfl, hbk⟩))
              all_goals
                (rename_i hHL
                 have HE := Lib.hid hHL.1
                 clear hHL
                 go_wp2_with fail
                 go_ret
                 exact ⟨rfl, HL3.out.trans HE.out⟩))
         · have ek : (k == 5) = false := by simpa using hk5
           clear hk5
           go_wp2_with fail
           go_region_held3 (fun w' => Later X w' ∧ w'.cell? ⟨g1, 0, none⟩ = some (.int .i64 k) ∧ w'.cell? ⟨g1, 1, none⟩ = some (.int .i64 m) ∧ w'.cell? ⟨g1, 2, none⟩ = some (.string t) ∧ w'.cell? ⟨g1, 3, none⟩ = some (.slice A args.length c))
             (first | with_reducible exact HeldX.on (Later.rfl' _).drew HP.out | with_reducible exact HeldX.on hbk (by assumption))
             (first | (go_at_call 60; (with_reducible refine (CDI.out _ (by assumption)).mono ?_); rintro r wk ⟨rfl, hbk⟩) | (go_at_call 57; (with_reducible refine (CCI.out _ (by assumption)).mono ?_); rintro r wk ⟨rfl, hbk⟩))
           all_goals
             (rename_i hHL
              have HE := Lib.hid hHL.1
              clear hHL va0 va1 va2 va3 HP
              go_wp2_with fail
              go_ret
              exact ⟨rfl, HL.out.trans HE.out⟩))

end Go.Proofs.Ytghemlokpfipoaa
