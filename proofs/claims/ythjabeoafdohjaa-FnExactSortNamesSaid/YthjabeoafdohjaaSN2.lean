/-
  spec.SortNames: the walk: insertion in place.
-/
import Derived.Test.YthjabeoafdohjaaSN1
import Derived.Test.YthjabeoafdohjaaSA
import Derived.Test.YthjabeoafdohjaaPU2
import Derived.Test.YthjabeoafdohjaaW1
namespace Go.Proofs.Ythjabeoafdohjaa
open Go.ChangeShapes Go.WideShapes Go.ChangeAt Go.RowKit
set_option linter.unusedVariables false
set_option linter.unusedSimpArgs false
set_option maxRecDepth 100000

theorem string_one {l : List ByteArray} : ∀ u ∈ l.map Value.string, u.oneCell' = true := fun u hu => by
  obtain ⟨x, _, rfl⟩ := List.mem_map.1 hu
  rfl
theorem sortB_nil : sortB [] = [] := List.eq_nil_of_length_eq_zero (by rw [length_sortB]; rfl)
theorem sort_le (xs : List ByteArray) : (sortB xs).length ≤ xs.length := by rw [length_sortB]; exact firsts_le xs
set_option maxHeartbeats 4000000 in
theorem specSortNames (v : Value) (xs : List ByteArray) (w : World) (h : Strs w v xs) (hn : xs.length ≤ 1048576) :
    Calls Try.prog 57 #[v] w fun e w' => OwnS w w' (sortB xs) e ∧ Later w w' := by
  obtain ⟨_, A, c, rfl, hlc, hcm, hc⟩ := h
  obtain ⟨i0, hi, hz0, hz1, hz2⟩ := info_parts info_string
  have HCC := Lib.hid hc
  clear hc
  go_enter Try.func57, Try.ntmps57
  go_wp2_with fail
  go_loopw [3, 4] (fun o i wr => ∃ k : Nat, k ≤ xs.length ∧ i = .int .i64 k ∧ wr.ownsRow w.heap.size 9 1 o (sortB (xs.take k)).length ((sortB (xs.take k)).map .string) ∧ o ≠ .slice none 0 0 ∧ Later w wr) (fun _ i _ => xs.length - (intOf i).toNat)
  case atStart => exact ⟨0, Nat.zero_le _, rfl, by rw [List.take_zero, sortB_nil]; exact World.ownsRow_made w #[] 0 (Nat.le_refl _) (Nat.zero_le _) rfl, by simp, (Later.rfl' _).alloc _⟩
  case round =>
    obtain ⟨k, hk, rfl, hown, hnn, hw⟩ := hrel
    obtain ⟨wo, rfl⟩ : ∃ W, W = wr := ⟨_, rfl⟩
    by_cases hlt : k < xs.length
    · have hki : (k : Int) < (xs.length : Int) := by omega
      have hle : (sortB (xs.take k)).length ≤ 1048576 := by have := sort_le (xs.take k); rw [List.length_take] at this; omega
      obtain ⟨x, hx⟩ : ∃ x, x = xs[k] := ⟨_, rfl⟩
      have htk : xs.take (k + 1) = xs.take k ++ [x] := by rw [List.take_succ_eq_append_getElem hlt, hx]
      have hdup := sort_dup (xs := xs.take k) (x := x)
      have hins := fun p => sort_ins (xs := xs.take k) (x := x) (p := p)
      rw [← htk] at hdup hins
      obtain ⟨K, hK⟩ : ∃ K, K = sortB (xs.take k) := ⟨_, rfl⟩
      rw [← hK] at hown hle hdup hins
      obtain ⟨g, cap, rfl, hg0, hg1, hcap, hcap2⟩ := row_form hown hnn
      have hcell : ∀ wr2, Later wo wr2 → ∃ b off, A = some ⟨b, off, none⟩ ∧ wr2.cell? ⟨b, off + k, none⟩ = some (.string x) := fun wr2 h2 => by
        obtain ⟨b, off, rfl, hb, hcell⟩ := (HCC.out.later (hw.trans h2)).at_ (k := k) (by simpa using hlt)
        simp only [List.getElem_map] at hcell
        exact ⟨b, off, rfl, by rw [hx]; exact hcell⟩
      obtain ⟨b, off, rfl, _⟩ := hcell wo (Later.rfl' _)
      have hcell : ∀ wr2, Later wo wr2 → wr2.cell? ⟨b, off + k, none⟩ = some (.string x) := fun wr2 h2 => by
        obtain ⟨b', off', e, hc⟩ := hcell wr2 h2
        simp only [Option.some.injEq, Addr.mk.injEq, and_true] at e
        obtain ⟨rfl, rfl⟩ := e
        exact hc
      have HCELL := Lib.hid hcell; have HOWN := Lib.hid hown; have HW := Lib.hid hw; have HDUP := Lib.hid hdup; have HINS := Lib.hid hins; have HTK := Lib.hid htk
      clear hcell hown hw hdup hins htk hx hK hnn
      go_wp2_with fail
      go_loopw [5] (fun a wr2 => ∃ p : Nat, p ≤ K.length ∧ a = .int .i64 p ∧ (∀ j (hj : j < K.length), j < p → keyB K[j] < keyB x) ∧ Later wo wr2) (fun a _ => K.length - (intOf a).toNat)
      case atStart => exact ⟨0, Nat.zero_le _, rfl, fun j _ h => absurd h (by omega), Later.rfl' _⟩
      case round =>
        obtain ⟨p, hp, rfl, hall, hw2⟩ := hrel
        have HALL := Lib.hid hall; have HW2 := Lib.hid hw2
        have hc1 := HCELL.out _ hw2
        clear hall
        by_cases hpl : p < K.length
        · have hpi : (p : Int) < (K.length : Int) := by omega
          have hc2 : wr.cell? ⟨g, p, none⟩ = some (.string K[p]) := by
            have := (own_later HOWN.out hw2).cells (g := g) rfl p (.string K[p]) (by simp [hpl])
            rw [add_lit, Nat.zero_add] at this
            exact this
          have HKP : Hid (∀ hj : p < K.length, K[p] = K[p]) := fun _ => rfl
          obtain ⟨y, hy⟩ : ∃ y, y = K[p] := ⟨_, rfl⟩
          rw [← hy] at hc2
          have HY := Lib.hid hy
          clear hy HKP hw2
          cases hq : Op.bytesLess y.toList x.toList with
          | true =>
            have HLT := Lib.hid (less_keys.1 hq)
            go_wp2
            go_quiet (fail)
            go_wp2
            go_roundw
            case rel => exact ⟨p + 1, by omega, by go_num, fun j hj hjp => if e : j = p then by subst e; rw [← HY.out]; exact HLT.out else HALL.out j hj (by omega), HW2.out.trans (Later.drewN _ _)⟩
            case measure => simp [intOf]; omega
          | false =>
            cases hq2 : (y.toList == x.toList) with
            | true =>
              have HEQ : Hid (sortB (xs.take (k + 1)) = K) := HDUP.out (by have e := toList_inj.1 (by simpa using hq2 : y.toList = x.toList); rw [← e, HY.out]; exact List.getElem_mem hpl)
              go_wp2
              go_quiet (fail)
              go_wp2
              go_quiet (fail)
              go_wp2
              go_roundw
              case rel => exact ⟨k + 1, by omega, by go_num, by rw [HEQ.out]; exact own_later (own_later HOWN.out HW2.out) (Later.drewN _ _), by simp, (HW.out.trans HW2.out).trans (Later.drewN _ _)⟩
              case measure => simp [intOf]; omega
            | false =>
              have HEQ : Hid (sortB (xs.take (k + 1)) = K.take p ++ x :: K.drop p) := HINS.out p hp HALL.out fun hj => by rw [← HY.out]; exact keys_total hq hq2
              have hlp : (p : Int) ≤ (K.length : Int) := by omega
              have hcl : (K.length : Int) ≤ (cap : Int) := by omega
              have hsz0 := HW2.out.size
              have hcb : ∀ N, ((wr.drewN N).alloc (.cells #[] 9)).ownsRow wr.heap.size 9 1 (.slice (some ⟨wr.heap.size, 0, none⟩) 0 0) 0 [] := fun N => World.ownsRow_made (wr.drewN N) #[] 0 (Nat.le_refl _) (Nat.zero_le _) rfl
              have hsrc : ∀ N j u, ((K.drop p).map Value.string)[j]? = some u → ((wr.drewN N).alloc (.cells #[] 9)).cell? ((⟨g, p, none⟩ : Addr).add j) = some u := fun N j u hu =>
                row_drop_cells (own_later HOWN.out (HW2.out.trans ((Later.drewN wr N).alloc _))) j u (by rw [← List.map_drop]; exact hu)
              have HCB := Lib.hid hcb; have HSRC := Lib.hid hsrc
              clear hcb hsrc
              go_wp2
              go_quiet (fail)
              go_wp2
              go_quiet (fail)
              go_wp2_with (at_builtin; refine wpList_append_own_at _ rfl _ _ 25 rfl wr.heap.size 9 i0 (.string ByteArray.empty) 1 16 Try.underlying25 hi hz0 hz1 hz2 rfl (by decide) _ _ _ rfl (HCB.out _) ⟨g, p, none⟩ (K.length - p) (cap - p) ((K.drop p).map .string) rfl ?c1 ?c2 ?c3 ?c4 ?c5 ?c6 ?_)
              case c1 => simp
              case c2 => exact HSRC.out _
              case c3 => exact string_one
              case c4 => unfold maxLen; omega
              case c5 => omega
              case c6 => simp
              intro v6 w3 hown6 hgrow6 hnil6 hat6
              rw [← List.map_drop] at hown6
              have L3 : Later wr w3 := Below.grown ((Later.drewN wr _).alloc _) hgrow6 (by simp) (fun k hk => ((HCB.out 0).lt k hk).1)
              obtain ⟨g6, cap6, rfl, hg6, hg6l, _, hc6⟩ := row_form hown6 hnil6
              have HO3 := Lib.hid (row_take (own_later HOWN.out (HW2.out.trans L3)) hp)
              have HO6 := Lib.hid hown6; have HL3 := Lib.hid L3
              have hcx := HCELL.out _ (HW2.out.trans L3)
              have hgg : g6 ≠ g := by omega
              have hcp : (p : Int) ≤ (cap : Int) := by omega
              clear hown6 hgrow6 hnil6 hat6 L3 HCB HSRC
              go_wp2_with fail
              obtain ⟨B, hB⟩ : ∃ B, B = (w3.alloc (.cells #[.string x] 9)).drew := ⟨_, rfl⟩
              have h59 : B.ownsRow w.heap.size 9 1 (.slice (some ⟨g, 0, none⟩) p cap) p ((K.take p).map .string) := by
                have h := own_later (HO3.out.alloc (.cells #[.string x] 9)) ((Later.rfl' _).drew)
                rw [Nat.mul_one, ← List.map_take, ← hB] at h
                exact h
              have n59 : ∀ j u, [Value.string x][j]? = some u → B.cell? ((⟨w3.heap.size, 0, none⟩ : Addr).add j) = some u := by rw [hB]; exact World.news_of_block (heap_alloc_new w3 _)
              have LB : Later w B := by rw [hB]; exact (((HW.out.trans HW2.out).trans HL3.out).alloc _).drew
              have hBg : B.heap[g6]? = w3.heap[g6]? := by rw [hB]; exact Below.block ((Later.rfl' w3).alloc _) g6 hg6l
              have hBs : w3.heap.size ≤ B.heap.size := by rw [hB]; show w3.heap.size ≤ (w3.alloc _).heap.size; simp
              have hpost : ∀ v7 w4, w4.ownsRow w.heap.size 9 1 v7 (p + 1) ((K.take p).map .string ++ [.string x]) → B.grownBy w4 (some g) → (v7 = .slice none 0 0 ↔ Value.slice (some ⟨g, 0, none⟩) p cap = .slice none 0 0 ∧ 1 = 0) →
                  v7 ≠ .slice none 0 0 ∧ w4.ownsRow wr.heap.size 9 1 (.slice (some ⟨g6, 0, none⟩) (K.length - p) cap6) (K.length - p) ((K.drop p).map .string) ∧ Later w w4 := by
                intro v7 w4 h1 h2 h3
                refine ⟨fun h => by have := (h3.1 h).2; omega, row_block HO6.out fun g' hg' => ?_, Below.grown LB h2 LB.size fun k hk => ?_⟩
                · simp only [Value.ownBlock, Option.some.injEq] at hg'
                  subst hg'
                  exact (h2.block g6 (by omega) (by simp; exact hgg)).trans hBg
                · simp only [Option.some.injEq] at hk; omega
              have LBs := LB.size
              have H59 := Lib.hid h59; have N59 := Lib.hid n59; have HPOST := Lib.hid hpost
              clear h59 n59 hpost LB hBg
              subst hB
              go_region_law (first
                | (refine step_append_at _ rfl (.tmp 53) (.tmp 58) 25 rfl w.heap.size 9 i0 (.string ByteArray.empty) 1 16 Try.underlying25 hi hz0 hz1 hz2 rfl (by decide) (.slice (some ⟨g, 0, none⟩) p cap) p ((K.take p).map .string) (by simp [Act.eval, Act.put]) H59.out ⟨w3.heap.size, 0, none⟩ 1 1 [.string x] (by simp [Act.eval, Act.put]) rfl N59.out (fun u hu => by simp at hu; subst hu; rfl) (by unfold maxLen; omega) (by omega) LBs ?_; intro v7 w4 hown7 hgrow7 hnil7 hat7; obtain ⟨hn7, ho46, hl4⟩ := HPOST.out v7 w4 hown7 hgrow7 hnil7; have HO7 := Lib.hid hown7; have HN7 := Lib.hid hn7; have HO46 := Lib.hid ho46; have HL4 := Lib.hid hl4; clear hown7 hgrow7 hnil7 hat7 hn7 ho46 hl4)
                | (refine step_append_at _ rfl (.tmp 59) (.tmp 60) 25 rfl w.heap.size 9 i0 (.string ByteArray.empty) 1 16 Try.underlying25 hi hz0 hz1 hz2 rfl (by decide) v7 (p + 1) ((K.take p).map .string ++ [.string x]) (by simp [Act.eval, Act.put]) HO7.out ⟨g6, 0, none⟩ (K.length - p) cap6 ((K.drop p).map .string) (by simp [Act.eval, Act.put]) (by simp) (HO46.out.cells (g := g6) rfl) string_one (by unfold maxLen; omega) (by omega) HL4.out.size ?_; intro v8 w5 hown8 hgrow8 hnil8 hat8; have HO8 := Lib.hid hown8; have HN8 := Lib.hid (fun h => HN7.out (hnil8.1 h).1 : v8 ≠ .slice none 0 0); have HL5 := Lib.hid (Below.grown HL4.out hgrow8 HL4.out.size (fun k hk => (HO7.out.lt k hk).1) : Later w w5); clear hown8 hgrow8 hnil8 hat8))
              all_goals
                (have HR : Hid (w5.ownsRow w.heap.size 9 1 v8 (sortB (xs.take (k + 1))).length ((sortB (xs.take (k + 1))).map .string)) := by
                   unfold Hid
                   have h := HO8.out
                   rw [HEQ.out, List.map_append, List.map_cons, List.length_append, List.length_cons, List.length_take, List.length_drop, Nat.min_eq_left hp]
                   rw [List.append_assoc] at h
                   rw [show p + (K.length - p + 1) = p + 1 + (K.length - p) by omega]
                   exact h
                 clear hcx hgg hg6 hg6l
                 go_wp2_with fail
                 go_roundw
                 case rel => exact ⟨k + 1, by omega, by go_num, HR.out, HN8.out, HL5.out⟩
                 case measure => simp [intOf]; omega)
        · have hpe : p = K.length := by omega
          have HEQ : Hid (sortB (xs.take (k + 1)) = K.take p ++ x :: K.drop p) := HINS.out p hp HALL.out fun hj => absurd hj hpl
          have hpf : decide ((p : Int) < (K.length : Int)) = false := by simp; omega
          have hpf2 : ¬ ((p : Int) < (K.length : Int)) := by omega
          have hdn : (K.drop p).map Value.string = [] := by rw [List.drop_eq_nil_of_le (by omega)]; rfl
          clear hpe
          by_cases hcpe : cap = p
          all_goals
            skip
            have hlp : (p : Int) ≤ (K.length : Int) := by omega
            have hcl : (K.length : Int) ≤ (cap : Int) := by omega
            have hsz0 := HW2.out.size
            have hcb : ∀ N, ((wr.drewN N).alloc (.cells #[] 9)).ownsRow wr.heap.size 9 1 (.slice (some ⟨wr.heap.size, 0, none⟩) 0 0) 0 [] := fun N => World.ownsRow_made (wr.drewN N) #[] 0 (Nat.le_refl _) (Nat.zero_le _) rfl
            have hsrc : ∀ N j u, ((K.drop p).map Value.string)[j]? = some u → ((wr.drewN N).alloc (.cells #[] 9)).cell? ((⟨g, p, none⟩ : Addr).add j) = some u := fun N j u hu =>
              row_drop_cells (own_later HOWN.out (HW2.out.trans ((Later.drewN wr N).alloc _))) j u (by rw [← List.map_drop]; exact hu)
            have HCB := Lib.hid hcb; have HSRC := Lib.hid hsrc
            clear hcb hsrc
            go_wp2
            go_quiet (fail)
            go_wp2
            go_quiet (fail)
            go_wp2_with (at_builtin; refine wpList_append_own_at _ rfl _ _ 25 rfl wr.heap.size 9 i0 (.string ByteArray.empty) 1 16 Try.underlying25 hi hz0 hz1 hz2 rfl (by decide) _ _ _ rfl (HCB.out _) _ (K.length - p) _ ((K.drop p).map .string) rfl ?c1 ?c2 ?c3 ?c4 ?c5 ?c6 ?_)
            case c1 => simp
            case c2 => intro j u hu; exfalso; have hh := (List.getElem?_eq_some_iff.1 hu).1; simp at hh; omega
            case c3 => exact string_one
            case c4 => unfold maxLen; omega
            case c5 => omega
            case c6 => simp
            intro v6 w3 hown6 hgrow6 hnil6 hat6
            rw [← hdn] at hown6
            have L3 : Later wr w3 := Below.grown ((Later.drewN wr _).alloc _) hgrow6 (by simp) (fun k hk => ((HCB.out 0).lt k hk).1)
            obtain ⟨g6, cap6, rfl, hg6, hg6l, _, hc6⟩ := row_form hown6 hnil6
            have HO3 := Lib.hid (row_take (own_later HOWN.out (HW2.out.trans L3)) hp)
            have HO6 := Lib.hid hown6; have HL3 := Lib.hid L3
            have hcx := HCELL.out _ (HW2.out.trans L3)
            have hgg : g6 ≠ g := by omega
            have hcp : (p : Int) ≤ (cap : Int) := by omega
            clear hown6 hgrow6 hnil6 hat6 L3 HCB HSRC
            go_wp2_with fail
            obtain ⟨B, hB⟩ : ∃ B, B = (w3.alloc (.cells #[.string x] 9)).drew := ⟨_, rfl⟩
            have h59 : B.ownsRow w.heap.size 9 1 (.slice (some ⟨g, 0, none⟩) p cap) p ((K.take p).map .string) := by
              have h := own_later (HO3.out.alloc (.cells #[.string x] 9)) ((Later.rfl' _).drew)
              rw [Nat.mul_one, ← List.map_take, ← hB] at h
              exact h
            have n59 : ∀ j u, [Value.string x][j]? = some u → B.cell? ((⟨w3.heap.size, 0, none⟩ : Addr).add j) = some u := by rw [hB]; exact World.news_of_block (heap_alloc_new w3 _)
            have LB : Later w B := by rw [hB]; exact (((HW.out.trans HW2.out).trans HL3.out).alloc _).drew
            have hBg : B.heap[g6]? = w3.heap[g6]? := by rw [hB]; exact Below.block ((Later.rfl' w3).alloc _) g6 hg6l
            have hBs : w3.heap.size ≤ B.heap.size := by rw [hB]; show w3.heap.size ≤ (w3.alloc _).heap.size; simp
            have hpost : ∀ v7 w4, w4.ownsRow w.heap.size 9 1 v7 (p + 1) ((K.take p).map .string ++ [.string x]) → B.grownBy w4 (some g) → (v7 = .slice none 0 0 ↔ Value.slice (some ⟨g, 0, none⟩) p cap = .slice none 0 0 ∧ 1 = 0) →
                v7 ≠ .slice none 0 0 ∧ w4.ownsRow wr.heap.size 9 1 (.slice (some ⟨g6, 0, none⟩) (K.length - p) cap6) (K.length - p) ((K.drop p).map .string) ∧ Later w w4 := by
              intro v7 w4 h1 h2 h3
              refine ⟨fun h => by have := (h3.1 h).2; omega, row_block HO6.out fun g' hg' => ?_, Below.grown LB h2 LB.size fun k hk => ?_⟩
              · simp only [Value.ownBlock, Option.some.injEq] at hg'
                subst hg'
                exact (h2.block g6 (by omega) (by simp; exact hgg)).trans hBg
              · simp only [Option.some.injEq] at hk; omega
            have LBs := LB.size
            have H59 := Lib.hid h59; have N59 := Lib.hid n59; have HPOST := Lib.hid hpost
            clear h59 n59 hpost LB hBg
            subst hB
            go_region_law (first
              | (refine step_append_at _ rfl (.tmp 53) (.tmp 58) 25 rfl w.heap.size 9 i0 (.string ByteArray.empty) 1 16 Try.underlying25 hi hz0 hz1 hz2 rfl (by decide) (.slice (some ⟨g, 0, none⟩) p cap) p ((K.take p).map .string) (by simp [Act.eval, Act.put] <;> omega) H59.out ⟨w3.heap.size, 0, none⟩ 1 1 [.string x] (by simp [Act.eval, Act.put]) rfl N59.out (fun u hu => by simp at hu; subst hu; rfl) (by unfold maxLen; omega) (by omega) LBs ?_; intro v7 w4 hown7 hgrow7 hnil7 hat7; obtain ⟨hn7, ho46, hl4⟩ := HPOST.out v7 w4 hown7 hgrow7 hnil7; have HO7 := Lib.hid hown7; have HN7 := Lib.hid hn7; have HO46 := Lib.hid ho46; have HL4 := Lib.hid hl4; clear hown7 hgrow7 hnil7 hat7 hn7 ho46 hl4)
              | (refine step_append_at _ rfl (.tmp 59) (.tmp 60) 25 rfl w.heap.size 9 i0 (.string ByteArray.empty) 1 16 Try.underlying25 hi hz0 hz1 hz2 rfl (by decide) v7 (p + 1) ((K.take p).map .string ++ [.string x]) (by simp [Act.eval, Act.put]) HO7.out ⟨g6, 0, none⟩ (K.length - p) cap6 ((K.drop p).map .string) (by simp [Act.eval, Act.put]) (by simp) (HO46.out.cells (g := g6) rfl) string_one (by unfold maxLen; omega) (by omega) HL4.out.size ?_; intro v8 w5 hown8 hgrow8 hnil8 hat8; have HO8 := Lib.hid hown8; have HN8 := Lib.hid (fun h => HN7.out (hnil8.1 h).1 : v8 ≠ .slice none 0 0); have HL5 := Lib.hid (Below.grown HL4.out hgrow8 HL4.out.size (fun k hk => (HO7.out.lt k hk).1) : Later w w5); clear hown8 hgrow8 hnil8 hat8))
            all_goals
              (have HR : Hid (w5.ownsRow w.heap.size 9 1 v8 (sortB (xs.take (k + 1))).length ((sortB (xs.take (k + 1))).map .string)) := by
                 unfold Hid
                 have h := HO8.out
                 rw [HEQ.out, List.map_append, List.map_cons, List.length_append, List.length_cons, List.length_take, List.length_drop, Nat.min_eq_left hp]
                 rw [List.append_assoc] at h
                 rw [show p + (K.length - p + 1) = p + 1 + (K.length - p) by omega]
                 exact h
               clear hcx hgg hg6 hg6l
               go_wp2_with fail
               go_roundw
               case rel => exact ⟨k + 1, by omega, by go_num, HR.out, HN8.out, HL5.out⟩
               case measure => simp [intOf]; omega)
    · have e : xs.take k = xs := List.take_of_length_le (by omega)
      rw [e] at hown
      have HO := Lib.hid hown
      clear e hown hnn
      go_wp2_with fail
      go_ret
      exact ⟨⟨_, rfl, HO.out⟩, hw⟩
end Go.Proofs.Ythjabeoafdohjaa
