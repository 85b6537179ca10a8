/-
  Words that the exact laws share: arguments of several kinds, their costs and marks.
-/
import Derived.Test.YtjjmbldgemnhbaaYMD
import Derived.Test.YtjjmbldgemnhbaaYV5
namespace Go.Proofs.Ytjjmbldgemnhbaa
open Go.ChangeShapes Go.WideShapes Go.ChangeAt Go.RowKit
set_option linter.unusedVariables false
set_option linter.unusedSimpArgs false

theorem Ats.orig2 {w : World} {S : Nat → Prop} {a b : Int} {cs : List Value} (h : Ats w S (encO (a, b)) cs) : cs = [.int .i64 a, .int .i64 b] := by
  cases h with | cons h0 t => cases t with | cons h1 t => cases t with | nil =>
  obtain ⟨rfl, _⟩ := h0.int_inv
  obtain ⟨rfl, _⟩ := h1.int_inv
  rfl
theorem strs_sl {w : World} {v : Value} {xs : List ByteArray} (h : Strs w v xs) : SlAt w anyB 1 encS xs v := by
  obtain ⟨⟨hm, hf⟩, A, c, rfl, hlc, hcm, hc⟩ := h
  refine At.make (by rw [flat_len encS_len]) hlc (by omega) fun hn => ?_
  have hl : 0 < xs.length := by
    cases xs with
    | nil => exact absurd rfl hn
    | cons a l => simp
  obtain ⟨b, off, rfl, hb, hcell⟩ := hc.at_ (k := 0) (by simpa using hl)
  refine ⟨b, off, rfl, hb, trivial, fun i d hd => ?_⟩
  rw [flat_strs, List.getElem?_map] at hd
  obtain ⟨x, hx, rfl⟩ := Option.map_eq_some_iff.1 hd
  obtain ⟨hi, rfl⟩ := List.getElem?_eq_some_iff.1 hx
  obtain ⟨b', off', eg, _, hcell'⟩ := hc.at_ (k := i) (by simpa using hi)
  simp only [Option.some.injEq, Addr.mk.injEq, and_true] at eg
  obtain ⟨rfl, rfl⟩ := eg
  exact ⟨_, hcell', by rw [List.getElem_map]; exact .str _ (hf _ (List.getElem_mem hi))⟩
theorem OrigsAt.later {w w' : World} {v : Value} {l : List Org} (h : OrigsAt w v l) (hb : Later w w') : OrigsAt w' v l := At.later h hb
theorem ValsAt.later {w w' : World} {v : Value} {l : List Vl} (h : ValsAt w v l) (hb : Later w w') : ValsAt w' v l := At.later h hb
theorem szOrigs (l : List Org) (W : World) (S : Nat → Prop) (v : Value) (h : SlAt W S 2 encO l v) (left : Int) (h0 : 0 ≤ left) (h1 : left ≤ 1048576) : Calls Try.prog 5 #[v, .int .i64 left] W fun r w' => r = .returned (.int .i64 (szR left l.length)) ∧ Later W w' := by
  obtain ⟨A, c, rfl, hlc, hcm⟩ := sl_parts h
  exact szOriginS A l.length c left W (by omega) h0 h1
theorem cntL_le : ∀ l : List Vl, cntL l ≤ 4 * (l.length + sumN Vl.cost l)
  | [] => by simp [cntL, Dt.cnts]
  | v :: l => by
    have h1 := cntL_cons v l
    have h2 := cntL_le l
    have h3 := topN_le v
    have h4 : sumN Vl.cost (v :: l) = v.cost + sumN Vl.cost l := by simp [sumN]
    rw [h1, h4, List.length_cons]
    omega
end Go.Proofs.Ytjjmbldgemnhbaa
