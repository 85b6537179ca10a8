/-
  FormatTokens: the walks and the law's walk.
-/
import Derived.Test.YtghemlokpfipoaaDoorYTA
import Derived.Test.YtghemlokpfipoaaDoorYG1
import Derived.Test.YtghemlokpfipoaaDoorYJB3
namespace Go.Proofs.YtghemlokpfipoaaDoor
open Go.ChangeShapes Go.WideShapes Go.ChangeAt Go.RowKit
set_option linter.unusedVariables false
set_option linter.unusedSimpArgs false
set_option maxRecDepth 100000

def tkB (d : Tk) : ByteArray := if d.kind = 1 then d.text else if d.kind = 4 then d.text else if d.kind = 2 then itoaB d.n else if d.kind = 3 then ⟨#[34]⟩ ++ d.text ++ ⟨#[34]⟩ else ⟨#[]⟩
theorem size_itoaB {n : Int} (hn : Between64 n) : (itoaB n).size ≤ 21 := by
  unfold itoaB
  unfold Between64 at hn
  split
  · decide
  · split
    · rw [ByteArray.size_append]
      have := size_digB_le 20 n.natAbs (by omega)
      have e : (ByteArray.mk #[45]).size = 1 := rfl
      omega
    · have := size_digB_le 20 n.natAbs (by omega)
      omega
theorem size_tkB (d : Tk) (hn : Between64 d.n) : (tkB d).size ≤ d.text.size + 21 := by
  have h := size_itoaB hn
  unfold tkB
  split
  · omega
  · split
    · omega
    · split
      · omega
      · split
        · rw [ByteArray.size_append, ByteArray.size_append]
          have e : (ByteArray.mk #[34]).size = 1 := rfl
          omega
        · have e : (ByteArray.mk #[]).size = 0 := rfl
          omega
theorem costS_tk (l : List Tk) (hn : ∀ d, d ∈ l → Between64 d.n) : costS (l.map tkB) ≤ 22 * l.length + sumN Tk.cost l := by
  unfold costS
  rw [List.length_map]
  have : ((l.map tkB).map ByteArray.size).sum ≤ 21 * l.length + sumN Tk.cost l := by
    induction l with
    | nil => simp [sumN]
    | cons d l ih =>
      have h1 := ih fun x hx => hn x (List.mem_cons_of_mem _ hx)
      have h2 := size_tkB d (hn d List.mem_cons_self)
      have h3 : sumN Tk.cost (d :: l) = d.text.size + sumN Tk.cost l := by simp [sumN, Tk.cost]
      rw [h3]
      simp only [List.map_cons, List.sum_cons, List.length_cons]
      omega
  omega

set_option maxHeartbeats 1000000 in
theorem specFormatTk (k n a : Int) (t : ByteArray) (hn : Between64 n) (hs : t.size ≤ 1048576) (W : World) : Calls Tryd.prog 44 #[.agg #[.int .i64 k, .int .i64 n, .int .i64 a, .string t]] W fun r w' => r = .returned (.string (tkB ⟨k, n, a, t⟩)) ∧ Later W w' := by
  have C := fun W' (hW' : Later W W') => specFormatInt n hn W'
  have HC := Lib.hid C
  clear C hn
  by_cases k1 : k = 1
  · subst k1
    have HV : Hid (tkB ⟨1, n, a, t⟩ = t) := rfl
    go_enter Tryd.func44, Tryd.ntmps44
    go_wp2_with fail
    go_ret
    exact ⟨ret_str HV.out.symm, (Later.rfl' _).alloc _⟩
  by_cases k4 : k = 4
  · subst k4
    have HV : Hid (tkB ⟨4, n, a, t⟩ = t) := rfl
    clear k1
    go_enter Tryd.func44, Tryd.ntmps44
    go_wp2_with fail
    go_ret
    exact ⟨ret_str HV.out.symm, (Later.rfl' _).alloc _⟩
  by_cases k2 : k = 2
  · subst k2
    have HV : Hid (tkB ⟨2, n, a, t⟩ = itoaB n) := rfl
    clear k1
    clear k4
    go_enter Tryd.func44, Tryd.ntmps44
    go_wp2_with fail
    refine (HC.out _ ((Later.rfl' _).alloc _)).mono ?_; rintro e w1 ⟨rfl, hb1⟩
    go_wp2_with fail
    go_ret
    exact ⟨ret_str HV.out.symm, ((Later.rfl' _).alloc _).trans hb1⟩
  by_cases k3 : k = 3
  · subst k3
    have HV : Hid (tkB ⟨3, n, a, t⟩ = ⟨#[34]⟩ ++ t ++ ⟨#[34]⟩) := rfl
    clear k1
    clear k4
    clear k2
    go_enter Tryd.func44, Tryd.ntmps44
    go_wp2_with fail
    go_ret
    exact ⟨ret_str HV.out.symm, (Later.rfl' _).alloc _⟩
  have HV : Hid (tkB ⟨k, n, a, t⟩ = ⟨#[]⟩) := by unfold Hid tkB; simp only [k1, k4, k2, k3, if_false]
  have e1 : (k == 1) = false := by simpa using k1
  have e4 : (k == 4) = false := by simpa using k4
  have e2 : (k == 2) = false := by simpa using k2
  have e3 : (k == 3) = false := by simpa using k3
  clear k1 k4 k2 k3
  go_enter Tryd.func44, Tryd.ntmps44
  go_wp2_with fail
  go_ret
  exact ⟨ret_str HV.out.symm, (Later.rfl' _).alloc _⟩

set_option maxHeartbeats 1000000 in
theorem implFormatTk (k n a : Int) (t : ByteArray) (hn : Between64 n) (hs : t.size ≤ 1048576) (W : World) (ht : TabAt W) : Calls Tryd.prog 12 #[.agg #[.int .i64 k, .int .i64 n, .int .i64 a, .string t]] W fun r w' => r = .returned (.string (tkB ⟨k, n, a, t⟩)) ∧ Later W w' := by
  have C := fun W' (hW' : Later W W') => implFormatInt n hn W' (ht.later hW')
  have HC := Lib.hid C
  clear C hn ht
  by_cases k1 : k = 1
  · subst k1
    have HV : Hid (tkB ⟨1, n, a, t⟩ = t) := rfl
    go_enter Tryd.func12, Tryd.ntmps12
    go_wp2_with fail
    go_ret
    exact ⟨ret_str HV.out.symm, (Later.rfl' _).alloc _⟩
  by_cases k4 : k = 4
  · subst k4
    have HV : Hid (tkB ⟨4, n, a, t⟩ = t) := rfl
    clear k1
    go_enter Tryd.func12, Tryd.ntmps12
    go_wp2_with fail
    go_ret
    exact ⟨ret_str HV.out.symm, (Later.rfl' _).alloc _⟩
  by_cases k2 : k = 2
  · subst k2
    have HV : Hid (tkB ⟨2, n, a, t⟩ = itoaB n) := rfl
    clear k1
    clear k4
    go_enter Tryd.func12, Tryd.ntmps12
    go_wp2_with fail
    refine (HC.out _ ((Later.rfl' _).alloc _)).mono ?_; rintro e w1 ⟨rfl, hb1⟩
    go_wp2_with fail
    go_ret
    exact ⟨ret_str HV.out.symm, ((Later.rfl' _).alloc _).trans hb1⟩
  by_cases k3 : k = 3
  · subst k3
    have HV : Hid (tkB ⟨3, n, a, t⟩ = ⟨#[34]⟩ ++ t ++ ⟨#[34]⟩) := rfl
    clear k1
    clear k4
    clear k2
    go_enter Tryd.func12, Tryd.ntmps12
    go_wp2_with fail
    go_ret
    exact ⟨ret_str HV.out.symm, (Later.rfl' _).alloc _⟩
  have HV : Hid (tkB ⟨k, n, a, t⟩ = ⟨#[]⟩) := by unfold Hid tkB; simp only [k1, k4, k2, k3, if_false]
  have e1 : (k == 1) = false := by simpa using k1
  have e4 : (k == 4) = false := by simpa using k4
  have e2 : (k == 2) = false := by simpa using k2
  have e3 : (k == 3) = false := by simpa using k3
  clear k1 k4 k2 k3
  go_enter Tryd.func12, Tryd.ntmps12
  go_wp2_with fail
  go_ret
  exact ⟨ret_str HV.out.symm, (Later.rfl' _).alloc _⟩

set_option maxHeartbeats 2000000 in
theorem specFormatTokens (l : List Tk) (W : World) (S : Nat → Prop) (v : Value) (h : SlAt W S 4 encT l v) (hc : l.length + sumN Tk.cost l ≤ 1048576) : Calls Tryd.prog 33 #[v] W fun r w' => r = .returned (.string ⟨(joinB (l.map tkB) ⟨#[32]⟩).toArray⟩) ∧ Later W w' := by
  obtain ⟨A, c, rfl, hlc, hcm⟩ := sl_parts h
  have hN : ∀ d, d ∈ l → Between64 d.n := by
    intro d hd
    obtain ⟨j, hj, rfl⟩ := List.getElem_of_mem hd
    obtain ⟨_, _, _, _, _, _, _, _, _, _, hb, _⟩ := h.tokAt hj
    exact hb
  have hcost := costS_tk l hN
  have hln : l.length ≤ 1048576 := by omega
  have hsz : ∀ d, d ∈ l → d.text.size ≤ 1048576 := fun d hd => by have := sumN_mem Tk.cost hd; have e : Tk.cost d = d.text.size := rfl; omega
  have CJ := fun w v (hv : Strs w v (l.map tkB)) => specJoin v (l.map tkB) ⟨#[32]⟩ w hv (by omega) (by decide)
  have HE := Lib.hid h; have HN := Lib.hid hN; have HSZ := Lib.hid hsz; have HJ := Lib.hid CJ
  skip
  obtain ⟨i0, hi, hz0, hz1, hz2⟩ := info_parts info_string
  clear h hN hcost hsz CJ hc
  go_enter Tryd.func33, Tryd.ntmps33
  go_wp2_with fail
  go_loopw [3, 4] (fun o i wr => ∃ j : Nat, j ≤ l.length ∧ i = .int .i64 (j : Int) ∧ wr.ownsRow W.heap.size 9 1 o ((l.take j).map tkB).length (((l.take j).map tkB).map .string) ∧ Later W wr) (fun _ i _ => l.length - (intOf i).toNat)
  case atStart => exact ⟨0, Nat.zero_le _, rfl, World.ownsRow_made W #[] 0 (Nat.le_refl _) (Nat.zero_le _) rfl, (Later.rfl' _).alloc _⟩
  case round =>
    obtain ⟨j, hj, rfl, hown, hw⟩ := hrel
    by_cases hlt : j < l.length
    · obtain ⟨b, off, rfl, hb, _, e0, e1, e2, e3, _, hbn, _, _⟩ := (HE.out.later hw).tokAt hlt
      have hts := HSZ.out _ (List.getElem_mem hlt)
      have htk : (l.take (j + 1)).map tkB = (l.take j).map tkB ++ [tkB l[j]] := by rw [List.take_succ_eq_append_getElem hlt, List.map_append]; rfl
      have hlen : ((l.take j).map tkB).length = j := by rw [List.length_map, List.length_take]; omega
      obtain ⟨⟨y0, y1, y2, y3⟩, hX⟩ : ∃ X, X = l[j] := ⟨_, rfl⟩
      rw [← hX] at e0 e1 e2 e3 hbn hts htk
      simp only at e0 e1 e2 e3 hbn hts
      have C := fun W' (hW' : Later wr W') => specFormatTk y0 y1 y2 y3 hbn hts W'
      obtain ⟨s, hs⟩ : ∃ s, s = tkB ⟨y0, y1, y2, y3⟩ := ⟨_, rfl⟩
      simp only [← hs] at C htk
      obtain ⟨K, hK⟩ : ∃ K, K = (l.take j).map tkB := ⟨_, rfl⟩
      rw [← hK] at hown htk hlen
      have HC := Lib.hid C; have HW := Lib.hid hw; have HOWN := Lib.hid hown; have HTK := Lib.hid htk; have HLEN := Lib.hid hlen
      have hki : (j : Int) < (l.length : Int) := by omega
      clear C hX hs hK hown hw htk hlen hbn hts
      go_wp2_with fail
      refine (HC.out _ (Later.rfl' _)).mono ?_; rintro r w1 ⟨rfl, hb1⟩
      replace hb1 := (Later.rfl' _).trans hb1
      have hown1 := own_later HOWN.out hb1
      have hw1 := HW.out.trans hb1
      have hs1 := hw1.size
      have hlen := HLEN.out
      clear hb1 e0 e1 e2 e3
      go_wp2_with (at_builtin; refine wpList_append_own _ rfl _ _ 45 rfl W.heap.size 9 i0 (.string ByteArray.empty) 1 16 Tryd.underlying45 hi hz0 hz1 hz2 rfl (by decide) _ _ _ rfl (hown1.alloc _) ⟨w1.heap.size, 0, none⟩ 1 1 [.string s] rfl rfl ?c1 ?c2 ?c3 ?c4 ?c5 ?_)
      case c1 =>
        intro j' u hj
        match j', hj with
        | 0, hj => simp at hj; subst hj; simp [Addr.add]
      case c2 => intro u hu; simp at hu; subst hu; rfl
      case c3 => unfold maxLen; omega
      case c4 => omega
      case c5 => simp; omega
      · intro v' w2 hown2 hgrow2 _
        have hl2 := later_append (hw1.alloc _) (hown1.alloc _) hgrow2
        have HR : Hid (w2.ownsRow W.heap.size 9 1 v' ((l.take (j + 1)).map tkB).length (((l.take (j + 1)).map tkB).map .string)) := by
          unfold Hid
          rw [HTK.out, List.map_append, List.length_append]
          first | exact hown2 | (rw [hlen]; exact hown2)
        have HL := Lib.hid hl2
        clear hown2 hgrow2 hown1 hw1 hl2 hs1 hlen
        go_wp2_with fail
        go_roundw
        case rel => exact ⟨j + 1, by omega, by go_num, HR.out, HL.out⟩
        case measure => simp [intOf]; omega
    · have e : l.take j = l := List.take_of_length_le (by omega)
      rw [e] at hown
      have hst : Strs wr _ (l.map tkB) := sl_strs (own_strs (S := anyB) hown (fun x hx => by
        obtain ⟨d, hd, rfl⟩ := List.mem_map.1 hx
        have := size_tkB d (HN.out d hd)
        have := HSZ.out d hd
        omega) fun _ _ => trivial).at_
      have HST := Lib.hid hst; have HW := Lib.hid hw
      clear hst hown hw e
      go_wp2_with fail
      refine (HJ.out _ _ HST.out).mono ?_; rintro r w1 ⟨rfl, hb1⟩
      go_wp2_with fail
      go_ret
      exact ⟨rfl, HW.out.trans hb1⟩

set_option maxHeartbeats 2000000 in
theorem implFormatTokens (l : List Tk) (W : World) (ht : TabAt W) (S : Nat → Prop) (v : Value) (h : SlAt W S 4 encT l v) (hc : l.length + sumN Tk.cost l ≤ 1048576) : Calls Tryd.prog 13 #[v] W fun r w' => r = .returned (.string ⟨(joinB (l.map tkB) ⟨#[32]⟩).toArray⟩) ∧ Later W w' := by
  obtain ⟨A, c, rfl, hlc, hcm⟩ := sl_parts h
  have hN : ∀ d, d ∈ l → Between64 d.n := by
    intro d hd
    obtain ⟨j, hj, rfl⟩ := List.getElem_of_mem hd
    obtain ⟨_, _, _, _, _, _, _, _, _, _, hb, _⟩ := h.tokAt hj
    exact hb
  have hcost := costS_tk l hN
  have hln : l.length ≤ 1048576 := by omega
  have hsz : ∀ d, d ∈ l → d.text.size ≤ 1048576 := fun d hd => by have := sumN_mem Tk.cost hd; have e : Tk.cost d = d.text.size := rfl; omega
  have CJ := fun w v (hv : Strs w v (l.map tkB)) => implJoin v (l.map tkB) ⟨#[32]⟩ w hv (by omega) (by decide)
  have HE := Lib.hid h; have HN := Lib.hid hN; have HSZ := Lib.hid hsz; have HJ := Lib.hid CJ
  have HT := Lib.hid ht
  clear ht
  obtain ⟨i0, hi, hz0, hz1, hz2⟩ := info_parts info_string
  clear h hN hcost hsz CJ hc
  go_enter Tryd.func13, Tryd.ntmps13
  go_wp2_with fail
  go_loopw [3, 9] (fun o i wr => ∃ j : Nat, j ≤ l.length ∧ i = .int .i64 (j : Int) ∧ wr.ownsRow W.heap.size 9 1 o ((l.take j).map tkB).length (((l.take j).map tkB).map .string) ∧ Later W wr) (fun _ i _ => l.length - (intOf i).toNat)
  case atStart => exact ⟨0, Nat.zero_le _, rfl, World.ownsRow_made W #[] 0 (Nat.le_refl _) (Nat.zero_le _) rfl, (Later.rfl' _).alloc _⟩
  case round =>
    obtain ⟨j, hj, rfl, hown, hw⟩ := hrel
    by_cases hlt : j < l.length
    · obtain ⟨b, off, rfl, hb, _, e0, e1, e2, e3, _, hbn, _, _⟩ := (HE.out.later hw).tokAt hlt
      have hts := HSZ.out _ (List.getElem_mem hlt)
      have htk : (l.take (j + 1)).map tkB = (l.take j).map tkB ++ [tkB l[j]] := by rw [List.take_succ_eq_append_getElem hlt, List.map_append]; rfl
      have hlen : ((l.take j).map tkB).length = j := by rw [List.length_map, List.length_take]; omega
      obtain ⟨⟨y0, y1, y2, y3⟩, hX⟩ : ∃ X, X = l[j] := ⟨_, rfl⟩
      rw [← hX] at e0 e1 e2 e3 hbn hts htk
      simp only at e0 e1 e2 e3 hbn hts
      have C := fun W' (hW' : Later wr W') => implFormatTk y0 y1 y2 y3 hbn hts W' (HT.out.later (hw.trans hW'))
      obtain ⟨s, hs⟩ : ∃ s, s = tkB ⟨y0, y1, y2, y3⟩ := ⟨_, rfl⟩
      simp only [← hs] at C htk
      obtain ⟨K, hK⟩ : ∃ K, K = (l.take j).map tkB := ⟨_, rfl⟩
      rw [← hK] at hown htk hlen
      have HC := Lib.hid C; have HW := Lib.hid hw; have HOWN := Lib.hid hown; have HTK := Lib.hid htk; have HLEN := Lib.hid hlen
      have hki : (j : Int) < (l.length : Int) := by omega
      clear C hX hs hK hown hw htk hlen hbn hts
      go_wp2_with fail
      refine (HC.out _ ((Later.rfl' _).alloc _)).mono ?_; rintro r w1 ⟨rfl, hb1⟩
      replace hb1 := ((Later.rfl' wr).alloc _).trans hb1
      have hown1 := own_later HOWN.out hb1
      have hw1 := HW.out.trans hb1
      have hs1 := hw1.size
      have hlen := HLEN.out
      clear hb1 e0 e1 e2 e3
      go_wp2_with (at_builtin; refine wpList_append_own _ rfl _ _ 45 rfl W.heap.size 9 i0 (.string ByteArray.empty) 1 16 Tryd.underlying45 hi hz0 hz1 hz2 rfl (by decide) _ _ _ rfl (hown1.alloc _) ⟨w1.heap.size, 0, none⟩ 1 1 [.string s] rfl rfl ?c1 ?c2 ?c3 ?c4 ?c5 ?_)
      case c1 =>
        intro j' u hj
        match j', hj with
        | 0, hj => simp at hj; subst hj; simp [Addr.add]
      case c2 => intro u hu; simp at hu; subst hu; rfl
      case c3 => unfold maxLen; omega
      case c4 => omega
      case c5 => simp; omega
      · intro v' w2 hown2 hgrow2 _
        have hl2 := later_append (hw1.alloc _) (hown1.alloc _) hgrow2
        have HR : Hid (w2.ownsRow W.heap.size 9 1 v' ((l.take (j + 1)).map tkB).length (((l.take (j + 1)).map tkB).map .string)) := by
          unfold Hid
          rw [HTK.out, List.map_append, List.length_append]
          first | exact hown2 | (rw [hlen]; exact hown2)
        have HL := Lib.hid hl2
        clear hown2 hgrow2 hown1 hw1 hl2 hs1 hlen
        go_wp2_with fail
        go_roundw
        case rel => exact ⟨j + 1, by omega, by go_num, HR.out, HL.out⟩
        case measure => simp [intOf]; omega
    · have e : l.take j = l := List.take_of_length_le (by omega)
      rw [e] at hown
      have hst : Strs wr _ (l.map tkB) := sl_strs (own_strs (S := anyB) hown (fun x hx => by
        obtain ⟨d, hd, rfl⟩ := List.mem_map.1 hx
        have := size_tkB d (HN.out d hd)
        have := HSZ.out d hd
        omega) fun _ _ => trivial).at_
      have HST := Lib.hid hst; have HW := Lib.hid hw
      clear hst hown hw e
      go_wp2_with fail
      refine (HJ.out _ _ HST.out).mono ?_; rintro r w1 ⟨rfl, hb1⟩
      go_wp2_with fail
      go_ret
      exact ⟨rfl, HW.out.trans hb1⟩

end Go.Proofs.YtghemlokpfipoaaDoor
