/-
  SplitByte: the walks.
-/
import Derived.Test.YtpkplgpjckmciaaDoorSB1
import Derived.Test.YtpkplgpjckmciaaDoorS3
import Derived.Test.YtpkplgpjckmciaaDoorMk
import Derived.Test.YtpkplgpjckmciaaDoorD9
import Derived.Test.YtpkplgpjckmciaaDoorD11
import Derived.Test.YtpkplgpjckmciaaDoorD7
namespace Go.Proofs.YtpkplgpjckmciaaDoor
open Go.ChangeShapes Go.WideShapes Go.ChangeAt Go.RowKit
set_option linter.unusedVariables false
set_option linter.unusedSimpArgs false
set_option maxRecDepth 100000

theorem byte_get {s : ByteArray} {i : Nat} (hi : i < s.size) : s.data.toList[i]? = some (s[i]'hi) := by
  rw [List.getElem?_eq_getElem (by simpa using hi)]
  rfl
theorem sp_small (c : UInt8) (s : ByteArray) : (spB c s).length ≤ s.size + 1 ∧ ∀ x ∈ spB c s, x.size ≤ s.size := by
  have h : ∀ l : List UInt8, (sp c l).length ≤ l.length + 1 ∧ 1 ≤ (sp c l).length ∧ ∀ x ∈ sp c l, x.length ≤ l.length := by
    intro l
    induction l with
    | nil => simp [sp]
    | cons b t ih =>
      rw [sp]
      obtain ⟨h1, h2, h3⟩ := ih
      split
      · refine ⟨by simp; omega, by simp, fun x hx => ?_⟩
        rcases List.mem_cons.1 hx with rfl | hx
        · simp
        · have := h3 x hx; simp; omega
      · cases hsp : sp c t with
        | nil => rw [hsp] at h2; simp at h2
        | cons h r =>
          rw [hsp] at h1 h3
          refine ⟨by simp [consHead] at h1 ⊢; omega, by simp [consHead], fun x hx => ?_⟩
          simp only [consHead] at hx
          rcases List.mem_cons.1 hx with rfl | hx
          · have := h3 h List.mem_cons_self; simp; omega
          · have := h3 x (List.mem_cons_of_mem _ hx); simp; omega
  obtain ⟨h1, _, h3⟩ := h s.data.toList
  have hl : s.data.toList.length = s.size := by simp
  unfold spB
  refine ⟨by rw [List.length_map]; omega, fun x hx => ?_⟩
  obtain ⟨l, hl2, rfl⟩ := List.mem_map.1 hx
  have := h3 l hl2
  have e : (ByteArray.mk l.toArray).size = l.length := by simp [ByteArray.size]
  omega


set_option maxHeartbeats 2000000 in
theorem specSplitByte (s : ByteArray) (c : UInt8) (hs : s.size ≤ 1048576) (W : World) : Calls Tryd.prog 8 #[.string s, .int .u8 (c.toNat : Int)] W fun r w' => CopyS W w' 1 encS (spB c s) r ∧ Later W w' := by
  obtain ⟨i0, hi0, hz0, hz1, hz2⟩ := info_parts info_string
  have HSM := Lib.hid (sp_small c s)
  go_enter Tryd.func8, Tryd.ntmps8
  go_wp2_with fail
  go_loopw [5, 6, 7] (fun o f i wr => ∃ (out : List ByteArray) (fi ii : Nat), f = .int .i64 (fi : Int) ∧ i = .int .i64 (ii : Int) ∧ True ∧ wr.ownsRow W.heap.size 9 1 o out.length (out.map .string) ∧ SplitInv c s out fi ii ∧ Later W wr) (fun _ _ i _ => s.size + 1 - (intOf i).toNat)
  case atStart => exact ⟨[], 0, 0, rfl, rfl, trivial, World.ownsRow_made W #[] 0 (Nat.le_refl _) (Nat.zero_le _) rfl, ⟨Nat.zero_le _, fun x hx => by simp at hx, .inl ⟨Nat.zero_le _, Nat.le_refl _, fun j h1 h2 => by omega, by simp⟩⟩, (Later.rfl' _).alloc _⟩
  case round =>
    obtain ⟨out, f, i, rfl, rfl, _, hown, hinv, hw⟩ := hrel
    have hol := hinv.1
    by_cases hgt : s.size < i
    · have hend : i = s.size + 1 ∧ out = spB c s := by
        obtain ⟨_, _, ⟨h, _⟩ | h⟩ := hinv
        · omega
        · exact h
      obtain ⟨rfl, rfl⟩ := hend
      have HR := Lib.hid (own_strs (S := fun b => W.heap.size ≤ b ∧ b < wr.heap.size) hown (fun x hx => by have := HSM.out.2 x hx; omega) fun g hg => hown.lt g hg)
      have HW := Lib.hid hw
      have hle : ¬ (((s.size + 1 : Nat) : Int) ≤ (s.size : Int)) := by omega
      clear hown hinv hw hol
      go_wp2_with fail
      go_ret
      exact ⟨⟨_, rfl, HR.out⟩, HW.out⟩
    · have hil : i ≤ s.size := by omega
      have hile : (i : Int) ≤ (s.size : Int) := by omega
      by_cases hie : i = s.size
      · have h2 := SplitInv.last (hie ▸ hinv)
        have HINV : Hid (SplitInv c s (out ++ [s.extract f s.size]) (i + 1) (i + 1)) := by rw [hie]; exact h2.2
        have hfi : f ≤ i := by rw [hie]; exact h2.1
        have hee : ((i : Int) == (s.size : Int)) = true := by simp [hie]
        obtain ⟨P, hP⟩ : ∃ P, P = s.extract f i := ⟨_, rfl⟩
        have HP : Hid (P = s.extract f s.size) := by unfold Hid; rw [hP, hie]
        have HW := Lib.hid hw
        have hs1 := hw.size
        have hPs : s.extract f i = P := hP.symm
        clear hinv h2 hw hie hP
        go_wp2_with (at_builtin; refine wpList_append_own _ rfl _ _ 26 rfl W.heap.size 9 i0 (.string ByteArray.empty) 1 16 Tryd.underlying26 hi0 hz0 hz1 hz2 rfl (by decide) _ _ _ rfl (hown.alloc _) ⟨wr.heap.size, 0, none⟩ 1 1 [.string P] rfl rfl ?c1 ?c2 ?c3 ?c4 ?c5 ?_)
        case c1 =>
          intro j' u hj
          match j', hj with
          | 0, hj => simp at hj; subst hj; simp [Addr.add]
        case c2 => intro u hu; simp at hu; subst hu; rfl
        case c3 => unfold maxLen; omega
        case c4 => omega
        case c5 => simp; omega
        · intro v' w2 hown2 hgrow2 _
          have hl2 := later_append (HW.out.alloc _) (hown.alloc _) hgrow2
          have HR : Hid (w2.ownsRow W.heap.size 9 1 v' (out ++ [P]).length ((out ++ [P]).map .string)) := by
            unfold Hid
            rw [List.map_append, List.length_append]
            exact hown2
          have HL := Lib.hid hl2
          clear hown2 hgrow2 hl2 hown hs1
          go_wp2_with fail
          go_roundw
          case rel => exact ⟨out ++ [P], i + 1, i + 1, by go_num, by go_num, trivial, HR.out, by rw [HP.out]; exact HINV.out, HL.out⟩
          case measure => simp [intOf]; omega
      · have hlt : i < s.size := by omega
        have hltI : (i : Int) < (s.size : Int) := by omega
        have hee : ((i : Int) == (s.size : Int)) = false := by simp; omega
        have hget := byte_get hlt
        by_cases hc : s[i]'hlt = c
        · have h2 := SplitInv.hit hinv hlt (by rw [hget, hc])
          have hbe : (((s[i]'hlt).toNat : Int) == (c.toNat : Int)) = true := by simp [hc]
          obtain ⟨P, hP⟩ : ∃ P, P = s.extract f i := ⟨_, rfl⟩
          have hfi : f ≤ i := h2.1
          have HP : Hid (P = s.extract f i) := hP
          have HINV := Lib.hid h2.2
          have HW := Lib.hid hw
          have hs1 := hw.size
          have hPs : s.extract f i = P := hP.symm
          clear hinv h2 hw hie hP hget hc
          go_wp2_with (at_builtin; refine wpList_append_own _ rfl _ _ 26 rfl W.heap.size 9 i0 (.string ByteArray.empty) 1 16 Tryd.underlying26 hi0 hz0 hz1 hz2 rfl (by decide) _ _ _ rfl (hown.alloc _) ⟨wr.heap.size, 0, none⟩ 1 1 [.string P] rfl rfl ?c1 ?c2 ?c3 ?c4 ?c5 ?_)
          case c1 =>
            intro j' u hj
            match j', hj with
            | 0, hj => simp at hj; subst hj; simp [Addr.add]
          case c2 => intro u hu; simp at hu; subst hu; rfl
          case c3 => unfold maxLen; omega
          case c4 => omega
          case c5 => simp; omega
          · intro v' w2 hown2 hgrow2 _
            have hl2 := later_append (HW.out.alloc _) (hown.alloc _) hgrow2
            have HR : Hid (w2.ownsRow W.heap.size 9 1 v' (out ++ [P]).length ((out ++ [P]).map .string)) := by
              unfold Hid
              rw [List.map_append, List.length_append]
              exact hown2
            have HL := Lib.hid hl2
            clear hown2 hgrow2 hl2 hown hs1
            go_wp2_with fail
            go_roundw
            case rel => exact ⟨out ++ [P], i + 1, i + 1, by go_num, by go_num, trivial, HR.out, by rw [HP.out]; exact HINV.out, HL.out⟩
            case measure => simp [intOf]; omega
        · have HINV := Lib.hid (hinv.step hlt (by rw [hget]; simpa using hc))
          have hbe : (((s[i]'hlt).toNat : Int) == (c.toNat : Int)) = false := by
            simp only [beq_eq_false_iff_ne, ne_eq]
            intro e
            exact hc (UInt8.toNat_inj.1 (by omega))
          have HOWN := Lib.hid hown
          have HW := Lib.hid hw
          clear hinv hown hw hie hget hc
          go_wp2_with fail
          go_roundw
          case rel => exact ⟨out, f, i + 1, rfl, by go_num, trivial, HOWN.out, HINV.out, HW.out⟩
          case measure => simp [intOf]; omega

/-- The length that the library's search goes by. -/
def MaxAt (w : World) : Prop := ∃ m, w.cell? ⟨0, 0, none⟩ = some (.int .i64 m)
theorem MaxAt.later {w w' : World} (h : MaxAt w) (hb : Later w w') : MaxAt w' := by
  obtain ⟨m, hm⟩ := h
  exact ⟨m, kept_cell hb hm⟩
theorem implSplitByte (s : ByteArray) (c : UInt8) (hs : s.size ≤ 1048576) (W : World) (h : MaxAt W) : Calls Tryd.prog 6 #[.string s, .int .u8 (c.toNat : Int)] W fun r w' => CopyS W w' 1 encS (spB c s) r ∧ Later W w' := by
  have hsm := sp_small c s
  have hlen : (spB c s).length = Lib.countB s ⟨#[c]⟩ + 1 := by rw [← splitB_sp]; exact Lib.splitB_all ⟨#[c]⟩ (show 1 ≤ (ByteArray.mk #[c]).size from Nat.le_refl _) 0 _ s rfl
  have C := fun w (m : Int) (hm : w.cell? ⟨0, 0, none⟩ = some (.int .i64 m)) => Tryd.strings_Split s ⟨#[c]⟩ m w (by omega) hm (show 1 ≤ (ByteArray.mk #[c]).size from Nat.le_refl _)
  simp only [splitB_sp, ← hlen] at C
  obtain ⟨K, hK⟩ : ∃ K, K = spB c s := ⟨_, rfl⟩
  rw [← hK] at hsm ⊢
  simp only [← hK] at C
  have HC := Lib.hid C
  have HSM := Lib.hid hsm
  have hcv := conv_byte W c.toNat (UInt8.toNat_lt c)
  rw [show UInt8.ofNat c.toNat = c by simp] at hcv
  obtain ⟨m, hm⟩ := (h.later ((Later.rfl' W).alloc (.cells #[.int .u8 (c.toNat : Int)] 5)))
  have HM := Lib.hid hm
  clear C hsm hlen hK hm h
  go_enter Tryd.func6, Tryd.ntmps6
  go_wp2_with fail
  refine (HC.out _ _ HM.out).mono ?_; rintro e w1 ⟨rfl, rfl⟩
  have hrow : ((W.alloc (.cells #[.int .u8 (c.toNat : Int)] 5)).alloc (.cells (K.map Value.string).toArray 9)).ownsRow W.heap.size 9 1 (.slice (some ⟨W.heap.size + 1, 0, none⟩) K.length K.length) K.length (K.map .string) := by
    have hg := heap_alloc_new (W.alloc (.cells #[.int .u8 (c.toNat : Int)] 5)) (.cells (K.map Value.string).toArray 9)
    rw [show (W.alloc (.cells #[.int .u8 (c.toNat : Int)] 5)).heap.size = W.heap.size + 1 by simp] at hg
    have hl := HSM.out.1
    exact ⟨by simp, .inr ⟨W.heap.size + 1, K.length, (K.map Value.string).toArray, rfl, Nat.le_succ _, hg, Nat.le_refl _, by unfold maxLen; omega, by simp, by rw [Nat.mul_one]; exact List.take_of_length_le (by simp)⟩⟩
  have HR := Lib.hid (own_strs (S := fun b => W.heap.size ≤ b ∧ b < ((W.alloc (.cells #[.int .u8 (c.toNat : Int)] 5)).alloc (.cells (K.map Value.string).toArray 9)).heap.size) hrow (fun x hx => by have := HSM.out.2 x hx; omega) fun g hg => hrow.lt g hg)
  clear hrow
  go_wp2_with fail
  go_ret
  exact ⟨⟨_, rfl, HR.out⟩, ((Later.rfl' _).alloc _).alloc _⟩
end Go.Proofs.YtpkplgpjckmciaaDoor
