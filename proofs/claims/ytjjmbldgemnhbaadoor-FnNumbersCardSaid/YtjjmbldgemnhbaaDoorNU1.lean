/-
  The law FnNumbers: the draws and its walk.
-/
import Derived.Test.YtjjmbldgemnhbaaDoorPR3
import Derived.Test.YtjjmbldgemnhbaaDoorK3
namespace Go.Proofs.YtjjmbldgemnhbaaDoor
open Go.ChangeShapes Go.WideShapes Go.ChangeAt Go.RowKit
set_option linter.unusedVariables false
set_option linter.unusedSimpArgs false
set_option maxRecDepth 100000

theorem drawPickIntN (g b : Nat) (xs : List Int) (hne : b ≠ g) (h0 : 0 < xs.length) (h1 : xs.length ≤ 256) (W : World) (hc : CurAt W g) (B : Box W b (xs.map (.int .i64))) :
    Calls Tryd.prog 24 #[.pointer (some ⟨g, 0, none⟩), .slice (some ⟨b, 0, none⟩) xs.length xs.length] W fun r w' => (∃ s, s ∈ xs ∧ r = .returned (.int .i64 s)) ∧ CurAt w' g ∧ Chg (onlyB g) W w' := by
  have HC := Lib.hid (drawBelow xs.length g h0 h1 W hc)
  have HB := Lib.hid B
  clear hc B h0 h1
  go_enter Tryd.func24, Tryd.ntmps24
  go_wp2_with fail
  refine HC.out.mono ?_; rintro e w1 ⟨⟨x, hx, rfl⟩, hcu, hch⟩
  have hcell := (HB.out.chg hch (fun e => hne e)).cell (j := x) (u := .int .i64 xs[x]) (by simp [hx])
  have hm : xs[x] ∈ xs := List.getElem_mem hx
  have hki : (x : Int) < (xs.length : Int) := by omega
  obtain ⟨s, hs⟩ : ∃ s, s = xs[x] := ⟨_, rfl⟩
  rw [← hs] at hcell hm
  have HM := Lib.hid hm
  have H1 := Lib.hid hcu; have H2 := Lib.hid hch
  clear hcu hch hs hm HC HB
  go_wp2_with fail
  go_ret
  exact ⟨⟨s, HM.out, rfl⟩, H1.out, H2.out⟩
/-- A number below a million. -/
theorem drawMillion (g : Nat) (W : World) (hc : CurAt W g) : Calls Tryd.prog 23 #[.pointer (some ⟨g, 0, none⟩), .int .i64 1000000] W fun r w' => (∃ x : Nat, x < 1000000 ∧ r = .returned (.int .i64 (x : Int))) ∧ CurAt w' g ∧ Chg (onlyB g) W w' := by
  have HC := Lib.hid hc
  clear hc
  go_enter Tryd.func23, Tryd.ntmps23
  go_wp2_with fail
  refine (drawByte g _ HC.out).mono ?_; rintro e w1 ⟨⟨x, hx, rfl⟩, hcu, hch⟩
  have H1 := Lib.hid hcu; have C1 := Lib.hid hch; clear hcu hch
  go_wp2_with fail
  refine (drawByte g _ H1.out).mono ?_; rintro e w2 ⟨⟨y, hy, rfl⟩, hcu, hch⟩
  have H2 := Lib.hid hcu; have C2 := Lib.hid (C1.out.trans hch); clear hcu hch
  go_wp2_with fail
  refine (drawByte g _ H2.out).mono ?_; rintro e w3 ⟨⟨z, hz, rfl⟩, hcu, hch⟩
  have H3 := Lib.hid hcu; have C3 := Lib.hid (C2.out.trans hch); clear hcu hch
  go_wp2_with fail
  refine (drawByte g _ H3.out).mono ?_; rintro e w4 ⟨⟨u, hu, rfl⟩, hcu, hch⟩
  have H4 := Lib.hid hcu; have C4 := Lib.hid (C3.out.trans hch); clear hcu hch
  obtain ⟨q, hq, hq2⟩ : ∃ q : Nat, q < 1000000 ∧ ((x : Int) * 16777216 + (y : Int) * 65536 + (z : Int) * 256 + (u : Int)).tmod 1000000 = (q : Int) := by
    refine ⟨(x * 16777216 + y * 65536 + z * 256 + u) % 1000000, Nat.mod_lt _ (by omega), ?_⟩
    have e : (x : Int) * 16777216 + (y : Int) * 65536 + (z : Int) * 256 + (u : Int) = ((x * 16777216 + y * 65536 + z * 256 + u : Nat) : Int) := by omega
    rw [e]
    rfl
  have HQ := Lib.hid hq
  have hq3 : ((x : Int) * 16777216 + (y : Int) * 65536 + (z : Int) * 256 + (u : Int)) % 1000000 = (q : Int) := by
    rw [← hq2, Int.tmod_eq_emod_of_nonneg (by omega)]
  clear hq
  go_wp2_with fail
  go_ret
  exact ⟨⟨q, HQ.out, rfl⟩, H4.out, C4.out⟩

def wholeList : List Int := [0, 1, -1, 9, 10, 999999, 1000000, 999999999999, 1000000000000, -999999999999, 9223372036854775807, -9223372036854775808]
theorem wholeList_in : ∀ x ∈ wholeList, Between64 x := by unfold wholeList Between64; decide
theorem drawWhole (g : Nat) (W : World) (hc : CurAt W g) : Calls Tryd.prog 17 #[.pointer (some ⟨g, 0, none⟩)] W fun r w' => (∃ x : Int, Between64 x ∧ r = .returned (.int .i64 x)) ∧ CurAt w' g ∧ Chg (onlyB g) W w' := by
  have C := fun w b (hb : b ≠ g) (hcu : CurAt w g) (B : Box w b (wholeList.map (.int .i64))) => drawPickIntN g b wholeList hb (by decide) (by decide) w hcu B
  have HC := Lib.hid C
  have HO := Lib.hid (drawBelow 3 g (by omega) (by omega) W hc)
  clear C hc
  go_enter Tryd.func17, Tryd.ntmps17
  go_wp2_with fail
  refine HO.out.mono ?_; rintro e w1 ⟨⟨m, hm, rfl⟩, hcu, hch⟩
  have H1 := Lib.hid hcu; have H2 := Lib.hid hch
  have hlt := hcu.lt
  clear hcu hch HO
  have hm3 : m = 0 ∨ m = 1 ∨ m = 2 := by omega
  clear hm
  rcases hm3 with rfl | rfl | rfl
  · go_wp2_with fail
    refine (HC.out _ _ (by omega) (H1.out.later ((Later.rfl' _).alloc _)) (box_alloc _ _ _)).mono ?_; rintro e w2 ⟨⟨s, hs, rfl⟩, hcu, hch⟩
    have H3 := Lib.hid hcu; have H4 := Lib.hid (H2.out.trans ((((Later.rfl' w1).alloc _).chg (onlyB g)).trans hch)); have HM := Lib.hid (wholeList_in s hs)
    clear hcu hch hs
    go_wp2_with fail
    go_ret
    exact ⟨⟨s, HM.out, rfl⟩, H3.out, H4.out⟩
  · go_wp2_with fail
    refine (drawMillion g _ H1.out).mono ?_; rintro e w2 ⟨⟨x, hx, rfl⟩, hcu, hch⟩
    have H3 := Lib.hid hcu; have H4 := Lib.hid (H2.out.trans hch)
    clear hcu hch
    go_wp2_with fail
    go_ret
    exact ⟨⟨(x : Int) - 500000, by unfold Between64; omega, rfl⟩, H3.out, H4.out⟩
  · go_wp2_with fail
    refine (drawBelow 20 g (by omega) (by omega) _ H1.out).mono ?_; rintro e w2 ⟨⟨x, hx, rfl⟩, hcu, hch⟩
    have H3 := Lib.hid hcu; have H4 := Lib.hid (H2.out.trans hch)
    clear hcu hch
    go_wp2_with fail
    go_ret
    exact ⟨⟨(x : Int), by unfold Between64; omega, rfl⟩, H3.out, H4.out⟩
theorem drawFormatInt (v : Value) (n : Nat) (W : World) (h : BytesAt W v n) (hn : n ≤ 1048576) : Calls Tryd.prog 11 #[v] W fun r w' => (∃ x : Int, Between64 x ∧ r = .returned (.int .i64 x)) ∧ Later W w' := by
  have HN := Lib.hid (drawNew v n W h hn)
  clear h
  go_enter Tryd.func11, Tryd.ntmps11
  go_wp2_with fail
  refine HN.out.mono ?_; rintro e w1 ⟨⟨g, rfl, hg, hc⟩, hb1⟩
  have HCU := Lib.hid hc; have HG := Lib.hid hg; have L1 := Lib.hid hb1
  clear hc hg hb1 HN
  go_wp2_with fail
  refine (drawWhole g _ HCU.out).mono ?_; rintro e w2 ⟨⟨x, hx, rfl⟩, hcu, hch⟩
  have L2 := Lib.hid (Chg.later L1.out hch fun k hk => by unfold onlyB at hk; have := HG.out; omega)
  have HX := Lib.hid hx
  clear hcu hch hx
  go_wp2_with fail
  go_ret
  exact ⟨⟨x, HX.out, rfl⟩, L2.out⟩
def parseList : List ByteArray := [⟨#[]⟩, ⟨#[48, 48]⟩, ⟨#[48, 49]⟩, ⟨#[45, 49]⟩, ⟨#[43, 49]⟩, ⟨#[120]⟩, ⟨#[57, 57, 57, 57, 57, 57]⟩, ⟨#[49, 48, 48, 48, 48, 48, 48]⟩, ⟨#[45, 48]⟩, ⟨#[45]⟩, ⟨#[32, 49]⟩, ⟨#[49, 32]⟩]
theorem parseList_small : ∀ s ∈ parseList, s.size ≤ 100 := by decide
theorem itoa_small {n : Int} (h : Between64 n) : (itoaB n).size ≤ 100 := by
  have h2 : n.natAbs < 10 ^ 19 := by unfold Between64 at h; have : (10 : Nat) ^ 19 = 10000000000000000000 := rfl; omega
  have := itoa_len (by omega) h2
  rw [itoaB_eq]
  show (Lib.itoa n).toArray.size ≤ 100
  rw [List.size_toArray]
  omega
theorem drawParseNumber (v : Value) (n : Nat) (W : World) (h : BytesAt W v n) (hn : n ≤ 1048576) : Calls Tryd.prog 14 #[v] W fun r w' => (∃ s : ByteArray, s.size ≤ 100 ∧ r = .returned (.string s)) ∧ Later W w' := by
  have HN := Lib.hid (drawNew v n W h hn)
  have C := fun w b (g : Nat) (hb : b ≠ g) (hcu : CurAt w g) (B : Box w b (parseList.map .string)) => drawPick g b parseList hb (by decide) (by decide) w hcu B
  have HC := Lib.hid C
  clear h C
  go_enter Tryd.func14, Tryd.ntmps14
  go_wp2_with fail
  refine HN.out.mono ?_; rintro e w1 ⟨⟨g, rfl, hg, hc⟩, hb1⟩
  have HCU := Lib.hid hc; have HG := Lib.hid hg; have L1 := Lib.hid hb1
  clear hc hg hb1 HN
  go_wp2_with fail
  refine (drawOnce 2 g (by omega) (by omega) _ HCU.out).mono ?_; rintro e w2 ⟨⟨q, rfl⟩, hcu, hch⟩
  have L2 := Lib.hid (Chg.later L1.out hch fun k hk => by unfold onlyB at hk; have := HG.out; omega)
  have HCU2 := Lib.hid hcu
  have hlt := hcu.lt
  clear hcu hch HCU
  cases q with
  | true =>
    go_wp2_with fail
    refine (drawWhole g _ HCU2.out).mono ?_; rintro e w3 ⟨⟨x, hx, rfl⟩, hcu, hch⟩
    have L3 := Lib.hid (Chg.later L2.out hch fun k hk => by unfold onlyB at hk; have := HG.out; omega)
    have HX := Lib.hid hx
    clear hcu hch hx
    go_wp2_with fail
    refine (specFormatInt x HX.out _).mono ?_; rintro e w4 ⟨rfl, hb⟩
    have L4 := Lib.hid (L3.out.trans hb)
    clear hb
    go_wp2_with fail
    go_ret
    exact ⟨⟨_, itoa_small HX.out, rfl⟩, L4.out⟩
  | false =>
    go_wp2_with fail
    refine (HC.out _ _ g (by omega) (HCU2.out.later ((Later.rfl' _).alloc _)) (box_alloc _ _ _)).mono ?_; rintro e w3 ⟨⟨s, hs, rfl⟩, hcu, hch⟩
    have L3 := Lib.hid (Chg.later (L2.out.alloc _) hch fun k hk => by unfold onlyB at hk; have := HG.out; omega)
    have HM := Lib.hid (parseList_small s hs)
    clear hcu hch hs
    go_wp2_with fail
    go_ret
    exact ⟨⟨s, HM.out, rfl⟩, L3.out⟩

/-- A numeral's length. -/
theorem itoa_size (n : Int) : (0 ≤ n ∧ ((itoaB n).size ≤ 12 ↔ n < 1000000000000)) ∨ (n < 0 ∧ ((itoaB n).size ≤ 13 ↔ -1000000000000 < n)) := by
  have e : (itoaB n).size = (Lib.itoa n).length := by rw [itoaB_eq]; show (Lib.itoa n).toArray.size = _; rw [List.size_toArray]
  have h12 : (10 : Nat) ^ 12 = 1000000000000 := rfl
  have hd := dec_val n.natAbs
  rcases itoa_cases n with ⟨h, ei⟩ | ⟨h, ei⟩
  · refine .inr ⟨h, ?_⟩
    rw [e, ei, List.length_cons]
    constructor
    · intro hl
      have h1 := dec_lt _ _ _ hd
      have h2 : 10 ^ (Lib.decDigits n.natAbs).length ≤ 10 ^ 12 := Nat.pow_le_pow_right (by omega) (by omega)
      omega
    · intro hl
      have := dec_len (m := 12) (by omega) (u := n.natAbs) (by omega)
      omega
  · refine .inl ⟨h, ?_⟩
    rw [e, ei]
    constructor
    · intro hl
      have h1 := dec_lt _ _ _ hd
      have h2 : 10 ^ (Lib.decDigits n.natAbs).length ≤ 10 ^ 12 := Nat.pow_le_pow_right (by omega) (by omega)
      omega
    · intro hl
      exact dec_len (m := 12) (by omega) (u := n.natAbs) (by omega)
theorem parse_itoa (n : Int) : parseB (-999999999999) 999999999999 (itoaB n) = if -1000000000000 < n ∧ n < 1000000000000 then some n else none := by
  apply Option.ext
  intro k
  rw [parseB_iff (by omega) (by omega)]
  constructor
  · rintro ⟨h1, h2, h3⟩
    have e1 := itoaB_data h1
    have e2 := itoaB_data (rfl : itoaB n = itoaB n)
    have : k = n := by
      have a := atoi_itoa k
      have b := atoi_itoa n
      rw [← e1, e2, b] at a
      simpa using a.symm
    subst this
    rw [if_pos ⟨by omega, by omega⟩]
  · intro h
    split at h
    · simp only [Option.some.injEq] at h
      subst h
      exact ⟨rfl, by omega, by omega⟩
    · cases h


set_option maxHeartbeats 4000000 in
theorem walk_FnNumbers (v : Value) (n : Nat) (w : World) (h : BytesAt w v n) (hpa : ParseAt w) : Calls Tryd.prog 5 #[v] w fun r w' => r = .returned (.bool true) ∧ Later w w' := by
  by_cases hbig : 1048576 < n
  · have C0 := bigBytes v n w h
    rw [show decide (1048576 < n) = true by simp; omega] at C0
    have HB := Lib.hid C0
    clear C0 hbig h hpa
    go_enter Tryd.func5, Tryd.ntmps5
    go_wp2_with fail
    refine HB.out.mono ?_; rintro e w1 ⟨rfl, hb1⟩
    go_wp2_with fail
    go_ret
    exact ⟨rfl, hb1⟩
  · have C0 := bigBytes v n w h
    rw [show decide (1048576 < n) = false by simp; omega] at C0
    have hle : n ≤ 1048576 := by omega
    have C1 := fun W (hW : Later w W) => drawFormatInt v n W (BytesAt.later h hW) hle
    have C2 := fun W (hW : Later w W) => drawParseNumber v n W (BytesAt.later h hW) hle
    have HB := Lib.hid C0; have HD := Lib.hid C1; have HD2 := Lib.hid C2; have HPA := Lib.hid hpa
    clear C0 C1 C2 hbig hle h hpa
    go_enter Tryd.func5, Tryd.ntmps5
    go_wp2_with fail
    refine HB.out.mono ?_; rintro e w1 ⟨rfl, hb⟩
    have L := Lib.hid hb; clear hb HB
    go_wp2_with fail
    refine (HD.out _ L.out).mono ?_; rintro e w2 ⟨⟨x, hx, rfl⟩, hb⟩
    replace L := Lib.hid (L.out.trans hb); clear hb HD
    have hsz := itoa_size x
    have hsm := itoa_small hx
    have hp := parse_itoa x
    have CF := fun W (hW : Later w W) => implFormatInt x hx W (HPA.out.tab.later hW)
    have CS := fun W => specFormatInt x hx W
    have CI := fun W (hW : Later w W) => implParseInt (itoaB x) (by omega) W (HPA.out.later hW)
    obtain ⟨s, hs⟩ : ∃ s, s = itoaB x := ⟨_, rfl⟩
    simp only [← hs] at CF CS CI hp hsz hsm
    clear hs hx
    rcases hsz with ⟨h0, hsz⟩ | ⟨h0, hsz⟩
    · by_cases h1 : x < 1000000000000
      · rw [if_pos ⟨by omega, h1⟩] at hp
        rw [hp] at CI
        have hl : (s.size : Int) ≤ 12 := by have := hsz.2 h1; omega
        clear hsz hp hsm
        have HI := Lib.hid (CI : ∀ W, Later w W → _)
        have HFI := Lib.hid CF; have HSF := Lib.hid CS
        clear CI CF CS
        go_wp2_with fail
        refine (HFI.out _ L.out).mono ?_; rintro e w3 ⟨rfl, hb⟩
        replace L := Lib.hid (L.out.trans hb); clear hb
        go_wp2_with fail
        refine (HI.out _ L.out).mono ?_; rintro e w4 ⟨he, hb⟩
        replace L := Lib.hid (L.out.trans hb)
        simp only [optR] at he; subst he; clear hb
        go_wp2_with fail
        refine (HSF.out _).mono ?_; rintro e w4 ⟨rfl, hb⟩
        replace L := Lib.hid (L.out.trans hb); clear hb
        go_wp2_with fail
        refine (HD2.out _ L.out).mono ?_; rintro e w5 ⟨⟨t, ht, rfl⟩, hb⟩
        replace L := Lib.hid (L.out.trans hb); clear hb
        have CN := fun W (hW : Later w W) => implParseNumber t (by omega) W (HPA.out.later hW)
        have CM := fun W => specParseNumber t (by omega) W
        simp only [read_number] at CM
        have hpi := fun y => parseB_iff (lo := 0) (hi := 999999) (n := y) (s := t) (by omega) (by omega)
        obtain ⟨o, ho⟩ : ∃ o, o = parseB 0 999999 t := ⟨_, rfl⟩
        simp only [← ho] at CN CM hpi
        have HN := Lib.hid CN; have HM := Lib.hid CM
        clear CN CM ho
        cases o with
        | none =>
          clear hpi
          go_wp2_with fail
          refine (HN.out _ L.out).mono ?_; rintro e w6 ⟨he, hb⟩
          replace L := Lib.hid (L.out.trans hb)
          simp only [optR] at he; subst he; clear hb
          go_wp2_with fail
          refine (HM.out _).mono ?_; rintro e w7 ⟨he, hb⟩
          replace L := Lib.hid (L.out.trans hb)
          simp only [optR] at he; subst he; clear hb
          go_wp2_with fail
          go_ret
          exact ⟨rfl, L.out⟩
        | some y =>
          obtain ⟨hy1, hy2, hy3⟩ := (hpi y).1 rfl
          have HF := Lib.hid (fun W (hW : Later w W) => implFormatInt y (by unfold Between64; omega) W (HPA.out.tab.later hW))
          rw [hy1] at HF
          clear hpi hy1
          go_wp2_with fail
          refine (HN.out _ L.out).mono ?_; rintro e w6 ⟨he, hb⟩
          replace L := Lib.hid (L.out.trans hb)
          simp only [optR] at he; subst he; clear hb
          go_wp2_with fail
          refine (HM.out _).mono ?_; rintro e w7 ⟨he, hb⟩
          replace L := Lib.hid (L.out.trans hb)
          simp only [optR] at he; subst he; clear hb
          go_wp2_with fail
          refine (HF.out _ L.out).mono ?_; rintro e w8 ⟨rfl, hb⟩
          replace L := Lib.hid (L.out.trans hb); clear hb
          go_wp2_with fail
          go_ret
          exact ⟨rfl, L.out⟩
      · rw [if_neg (by omega)] at hp
        rw [hp] at CI
        have hl : (12 : Int) < (s.size : Int) := by
          have : ¬ s.size ≤ 12 := fun e => h1 (hsz.1 e)
          omega
        have hn0 : ¬ x < 0 := by omega
        clear hsz hp hsm h1
        have HI := Lib.hid (CI : ∀ W, Later w W → _)
        have HFI := Lib.hid CF; have HSF := Lib.hid CS
        clear CI CF CS
        go_wp2_with fail
        refine (HFI.out _ L.out).mono ?_; rintro e w3 ⟨rfl, hb⟩
        replace L := Lib.hid (L.out.trans hb); clear hb
        go_wp2_with fail
        refine (HI.out _ L.out).mono ?_; rintro e w4 ⟨he, hb⟩
        replace L := Lib.hid (L.out.trans hb)
        simp only [optR] at he; subst he; clear hb
        go_wp2_with fail
        refine (HSF.out _).mono ?_; rintro e w4 ⟨rfl, hb⟩
        replace L := Lib.hid (L.out.trans hb); clear hb
        go_wp2_with fail
        refine (HD2.out _ L.out).mono ?_; rintro e w5 ⟨⟨t, ht, rfl⟩, hb⟩
        replace L := Lib.hid (L.out.trans hb); clear hb
        have CN := fun W (hW : Later w W) => implParseNumber t (by omega) W (HPA.out.later hW)
        have CM := fun W => specParseNumber t (by omega) W
        simp only [read_number] at CM
        have hpi := fun y => parseB_iff (lo := 0) (hi := 999999) (n := y) (s := t) (by omega) (by omega)
        obtain ⟨o, ho⟩ : ∃ o, o = parseB 0 999999 t := ⟨_, rfl⟩
        simp only [← ho] at CN CM hpi
        have HN := Lib.hid CN; have HM := Lib.hid CM
        clear CN CM ho
        cases o with
        | none =>
          clear hpi
          go_wp2_with fail
          refine (HN.out _ L.out).mono ?_; rintro e w6 ⟨he, hb⟩
          replace L := Lib.hid (L.out.trans hb)
          simp only [optR] at he; subst he; clear hb
          go_wp2_with fail
          refine (HM.out _).mono ?_; rintro e w7 ⟨he, hb⟩
          replace L := Lib.hid (L.out.trans hb)
          simp only [optR] at he; subst he; clear hb
          go_wp2_with fail
          go_ret
          exact ⟨rfl, L.out⟩
        | some y =>
          obtain ⟨hy1, hy2, hy3⟩ := (hpi y).1 rfl
          have HF := Lib.hid (fun W (hW : Later w W) => implFormatInt y (by unfold Between64; omega) W (HPA.out.tab.later hW))
          rw [hy1] at HF
          clear hpi hy1
          go_wp2_with fail
          refine (HN.out _ L.out).mono ?_; rintro e w6 ⟨he, hb⟩
          replace L := Lib.hid (L.out.trans hb)
          simp only [optR] at he; subst he; clear hb
          go_wp2_with fail
          refine (HM.out _).mono ?_; rintro e w7 ⟨he, hb⟩
          replace L := Lib.hid (L.out.trans hb)
          simp only [optR] at he; subst he; clear hb
          go_wp2_with fail
          refine (HF.out _ L.out).mono ?_; rintro e w8 ⟨rfl, hb⟩
          replace L := Lib.hid (L.out.trans hb); clear hb
          go_wp2_with fail
          go_ret
          exact ⟨rfl, L.out⟩
    · by_cases h1 : -1000000000000 < x
      · rw [if_pos ⟨h1, by omega⟩] at hp
        rw [hp] at CI
        have hl : (s.size : Int) ≤ 13 := by have := hsz.2 h1; omega
        clear hsz hp hsm
        by_cases hl2 : (s.size : Int) ≤ 12
        · clear hl
          have HI := Lib.hid (CI : ∀ W, Later w W → _)
          have HFI := Lib.hid CF; have HSF := Lib.hid CS
          clear CI CF CS
          go_wp2_with fail
          refine (HFI.out _ L.out).mono ?_; rintro e w3 ⟨rfl, hb⟩
          replace L := Lib.hid (L.out.trans hb); clear hb
          go_wp2_with fail
          refine (HI.out _ L.out).mono ?_; rintro e w4 ⟨he, hb⟩
          replace L := Lib.hid (L.out.trans hb)
          simp only [optR] at he; subst he; clear hb
          go_wp2_with fail
          refine (HSF.out _).mono ?_; rintro e w4 ⟨rfl, hb⟩
          replace L := Lib.hid (L.out.trans hb); clear hb
          go_wp2_with fail
          refine (HD2.out _ L.out).mono ?_; rintro e w5 ⟨⟨t, ht, rfl⟩, hb⟩
          replace L := Lib.hid (L.out.trans hb); clear hb
          have CN := fun W (hW : Later w W) => implParseNumber t (by omega) W (HPA.out.later hW)
          have CM := fun W => specParseNumber t (by omega) W
          simp only [read_number] at CM
          have hpi := fun y => parseB_iff (lo := 0) (hi := 999999) (n := y) (s := t) (by omega) (by omega)
          obtain ⟨o, ho⟩ : ∃ o, o = parseB 0 999999 t := ⟨_, rfl⟩
          simp only [← ho] at CN CM hpi
          have HN := Lib.hid CN; have HM := Lib.hid CM
          clear CN CM ho
          cases o with
          | none =>
            clear hpi
            go_wp2_with fail
            refine (HN.out _ L.out).mono ?_; rintro e w6 ⟨he, hb⟩
            replace L := Lib.hid (L.out.trans hb)
            simp only [optR] at he; subst he; clear hb
            go_wp2_with fail
            refine (HM.out _).mono ?_; rintro e w7 ⟨he, hb⟩
            replace L := Lib.hid (L.out.trans hb)
            simp only [optR] at he; subst he; clear hb
            go_wp2_with fail
            go_ret
            exact ⟨rfl, L.out⟩
          | some y =>
            obtain ⟨hy1, hy2, hy3⟩ := (hpi y).1 rfl
            have HF := Lib.hid (fun W (hW : Later w W) => implFormatInt y (by unfold Between64; omega) W (HPA.out.tab.later hW))
            rw [hy1] at HF
            clear hpi hy1
            go_wp2_with fail
            refine (HN.out _ L.out).mono ?_; rintro e w6 ⟨he, hb⟩
            replace L := Lib.hid (L.out.trans hb)
            simp only [optR] at he; subst he; clear hb
            go_wp2_with fail
            refine (HM.out _).mono ?_; rintro e w7 ⟨he, hb⟩
            replace L := Lib.hid (L.out.trans hb)
            simp only [optR] at he; subst he; clear hb
            go_wp2_with fail
            refine (HF.out _ L.out).mono ?_; rintro e w8 ⟨rfl, hb⟩
            replace L := Lib.hid (L.out.trans hb); clear hb
            go_wp2_with fail
            go_ret
            exact ⟨rfl, L.out⟩
        · have hl3 : (12 : Int) < (s.size : Int) := by omega
          clear hl2
          have HI := Lib.hid (CI : ∀ W, Later w W → _)
          have HFI := Lib.hid CF; have HSF := Lib.hid CS
          clear CI CF CS
          go_wp2_with fail
          refine (HFI.out _ L.out).mono ?_; rintro e w3 ⟨rfl, hb⟩
          replace L := Lib.hid (L.out.trans hb); clear hb
          go_wp2_with fail
          refine (HI.out _ L.out).mono ?_; rintro e w4 ⟨he, hb⟩
          replace L := Lib.hid (L.out.trans hb)
          simp only [optR] at he; subst he; clear hb
          go_wp2_with fail
          refine (HSF.out _).mono ?_; rintro e w4 ⟨rfl, hb⟩
          replace L := Lib.hid (L.out.trans hb); clear hb
          go_wp2_with fail
          refine (HD2.out _ L.out).mono ?_; rintro e w5 ⟨⟨t, ht, rfl⟩, hb⟩
          replace L := Lib.hid (L.out.trans hb); clear hb
          have CN := fun W (hW : Later w W) => implParseNumber t (by omega) W (HPA.out.later hW)
          have CM := fun W => specParseNumber t (by omega) W
          simp only [read_number] at CM
          have hpi := fun y => parseB_iff (lo := 0) (hi := 999999) (n := y) (s := t) (by omega) (by omega)
          obtain ⟨o, ho⟩ : ∃ o, o = parseB 0 999999 t := ⟨_, rfl⟩
          simp only [← ho] at CN CM hpi
          have HN := Lib.hid CN; have HM := Lib.hid CM
          clear CN CM ho
          cases o with
          | none =>
            clear hpi
            go_wp2_with fail
            refine (HN.out _ L.out).mono ?_; rintro e w6 ⟨he, hb⟩
            replace L := Lib.hid (L.out.trans hb)
            simp only [optR] at he; subst he; clear hb
            go_wp2_with fail
            refine (HM.out _).mono ?_; rintro e w7 ⟨he, hb⟩
            replace L := Lib.hid (L.out.trans hb)
            simp only [optR] at he; subst he; clear hb
            go_wp2_with fail
            go_ret
            exact ⟨rfl, L.out⟩
          | some y =>
            obtain ⟨hy1, hy2, hy3⟩ := (hpi y).1 rfl
            have HF := Lib.hid (fun W (hW : Later w W) => implFormatInt y (by unfold Between64; omega) W (HPA.out.tab.later hW))
            rw [hy1] at HF
            clear hpi hy1
            go_wp2_with fail
            refine (HN.out _ L.out).mono ?_; rintro e w6 ⟨he, hb⟩
            replace L := Lib.hid (L.out.trans hb)
            simp only [optR] at he; subst he; clear hb
            go_wp2_with fail
            refine (HM.out _).mono ?_; rintro e w7 ⟨he, hb⟩
            replace L := Lib.hid (L.out.trans hb)
            simp only [optR] at he; subst he; clear hb
            go_wp2_with fail
            refine (HF.out _ L.out).mono ?_; rintro e w8 ⟨rfl, hb⟩
            replace L := Lib.hid (L.out.trans hb); clear hb
            go_wp2_with fail
            go_ret
            exact ⟨rfl, L.out⟩
      · rw [if_neg (by omega)] at hp
        rw [hp] at CI
        have hl : (13 : Int) < (s.size : Int) := by
          have : ¬ s.size ≤ 13 := fun e => h1 (hsz.1 e)
          omega
        have hl3 : (12 : Int) < (s.size : Int) := by omega
        clear hsz hp hsm h1
        have HI := Lib.hid (CI : ∀ W, Later w W → _)
        have HFI := Lib.hid CF; have HSF := Lib.hid CS
        clear CI CF CS
        go_wp2_with fail
        refine (HFI.out _ L.out).mono ?_; rintro e w3 ⟨rfl, hb⟩
        replace L := Lib.hid (L.out.trans hb); clear hb
        go_wp2_with fail
        refine (HI.out _ L.out).mono ?_; rintro e w4 ⟨he, hb⟩
        replace L := Lib.hid (L.out.trans hb)
        simp only [optR] at he; subst he; clear hb
        go_wp2_with fail
        refine (HSF.out _).mono ?_; rintro e w4 ⟨rfl, hb⟩
        replace L := Lib.hid (L.out.trans hb); clear hb
        go_wp2_with fail
        refine (HD2.out _ L.out).mono ?_; rintro e w5 ⟨⟨t, ht, rfl⟩, hb⟩
        replace L := Lib.hid (L.out.trans hb); clear hb
        have CN := fun W (hW : Later w W) => implParseNumber t (by omega) W (HPA.out.later hW)
        have CM := fun W => specParseNumber t (by omega) W
        simp only [read_number] at CM
        have hpi := fun y => parseB_iff (lo := 0) (hi := 999999) (n := y) (s := t) (by omega) (by omega)
        obtain ⟨o, ho⟩ : ∃ o, o = parseB 0 999999 t := ⟨_, rfl⟩
        simp only [← ho] at CN CM hpi
        have HN := Lib.hid CN; have HM := Lib.hid CM
        clear CN CM ho
        cases o with
        | none =>
          clear hpi
          go_wp2_with fail
          refine (HN.out _ L.out).mono ?_; rintro e w6 ⟨he, hb⟩
          replace L := Lib.hid (L.out.trans hb)
          simp only [optR] at he; subst he; clear hb
          go_wp2_with fail
          refine (HM.out _).mono ?_; rintro e w7 ⟨he, hb⟩
          replace L := Lib.hid (L.out.trans hb)
          simp only [optR] at he; subst he; clear hb
          go_wp2_with fail
          go_ret
          exact ⟨rfl, L.out⟩
        | some y =>
          obtain ⟨hy1, hy2, hy3⟩ := (hpi y).1 rfl
          have HF := Lib.hid (fun W (hW : Later w W) => implFormatInt y (by unfold Between64; omega) W (HPA.out.tab.later hW))
          rw [hy1] at HF
          clear hpi hy1
          go_wp2_with fail
          refine (HN.out _ L.out).mono ?_; rintro e w6 ⟨he, hb⟩
          replace L := Lib.hid (L.out.trans hb)
          simp only [optR] at he; subst he; clear hb
          go_wp2_with fail
          refine (HM.out _).mono ?_; rintro e w7 ⟨he, hb⟩
          replace L := Lib.hid (L.out.trans hb)
          simp only [optR] at he; subst he; clear hb
          go_wp2_with fail
          refine (HF.out _ L.out).mono ?_; rintro e w8 ⟨rfl, hb⟩
          replace L := Lib.hid (L.out.trans hb); clear hb
          go_wp2_with fail
          go_ret
          exact ⟨rfl, L.out⟩

end Go.Proofs.YtjjmbldgemnhbaaDoor
