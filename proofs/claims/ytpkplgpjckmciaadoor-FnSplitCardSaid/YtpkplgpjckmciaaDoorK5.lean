/-
  The law FnSplit: its walk.
-/
import Derived.Test.YtpkplgpjckmciaaDoorK3
import Derived.Test.YtpkplgpjckmciaaDoorSB2
import Derived.Test.YtpkplgpjckmciaaDoorJB3
namespace Go.Proofs.YtpkplgpjckmciaaDoor
open Go.ChangeShapes Go.WideShapes Go.ChangeAt Go.RowKit
set_option linter.unusedVariables false
set_option linter.unusedSimpArgs false
set_option maxRecDepth 100000

theorem join_consHead (b c : UInt8) : ∀ {ps : List (List UInt8)}, ps ≠ [] → Lib.join (consHead b ps) [c] = b :: Lib.join ps [c]
  | [], h => absurd rfl h
  | h :: t, _ => by
    simp only [consHead, Lib.join_cons, List.cons_append]
theorem sp_ne (c : UInt8) : ∀ l : List UInt8, sp c l ≠ []
  | [] => by simp [sp]
  | b :: t => by
    rw [sp]
    split
    · simp
    · cases h : sp c t with
      | nil => exact absurd h (sp_ne c t)
      | cons x r => simp [consHead]
theorem join_sp (c : UInt8) : ∀ l : List UInt8, Lib.join (sp c l) [c] = l
  | [] => by simp [sp, Lib.join_one]
  | b :: t => by
    rw [sp]
    split
    · rename_i h
      subst h
      cases hs : sp b t with
      | nil => exact absurd hs (sp_ne b t)
      | cons x r =>
        have := join_sp b t
        rw [hs, Lib.join_cons] at this
        rw [Lib.join_cons]
        simp only [Lib.joinTail] at this ⊢
        simpa using this
    · rw [join_consHead b c (sp_ne c t), join_sp c t]
theorem parts_none (c : UInt8) : ∀ (l : List UInt8) (x : List UInt8), x ∈ sp c l → ∀ y ∈ x, y ≠ c
  | [], x, hx, y, hy => by simp [sp] at hx; subst hx; simp at hy
  | b :: t, x, hx, y, hy => by
    rw [sp] at hx
    split at hx
    · rcases List.mem_cons.1 hx with rfl | hx
      · simp at hy
      · exact parts_none c t x hx y hy
    · rename_i hb
      cases hs : sp c t with
      | nil => exact absurd hs (sp_ne c t)
      | cons h r =>
        rw [hs] at hx
        simp only [consHead] at hx
        rcases List.mem_cons.1 hx with rfl | hx
        · rcases List.mem_cons.1 hy with rfl | hy
          · exact hb
          · exact parts_none c t h (by rw [hs]; exact List.mem_cons_self) y hy
        · exact parts_none c t x (by rw [hs]; exact List.mem_cons_of_mem _ hx) y hy
theorem joinB_spB (c : UInt8) (s : ByteArray) : (⟨(joinB (spB c s) ⟨#[c]⟩).toArray⟩ : ByteArray) = s := by
  have e : (spB c s).map (·.data.toList) = sp c s.data.toList := by
    unfold spB
    rw [List.map_map]
    conv => rhs; rw [← List.map_id (sp c s.data.toList)]
    exact List.map_congr_left fun x _ => by simp
  unfold joinB
  rw [e, join_sp]
theorem spB_part {c : UInt8} {s x : ByteArray} (h : x ∈ spB c s) : (spB c x).length = 1 := by
  unfold spB at h ⊢
  obtain ⟨l, hl, rfl⟩ := List.mem_map.1 h
  have := sp_none (parts_none c _ l hl)
  simp [this]
end Go.Proofs.YtpkplgpjckmciaaDoor
