/-
  Draws of expressions: l10Bent, DrawIsValidExpr: the walks.
-/
import Derived.Test.YtghemlokpfipoaaYEX8
namespace Go.Proofs.Ytghemlokpfipoaa
open Go.ChangeShapes Go.WideShapes Go.ChangeAt Go.RowKit
set_option linter.unusedVariables false
set_option linter.unusedSimpArgs false
set_option maxRecDepth 100000

/-- A slice of expressions that lies in new memory, not in block f. -/
def LieX (lo f : Nat) (w : World) (args : List Ex) (v : Value) : Prop := At w (fun b => lo ≤ b ∧ b ≠ f) (.sl 4 args.length (args.flatMap encE)) v
theorem LieX.chg {lo f : Nat} {w w' : World} {args : List Ex} {v : Value} {C : Nat → Prop} (h : LieX lo f w args v) (c : Chg C w w') (hC : ∀ b, lo ≤ b → b ≠ f → ¬ C b) : LieX lo f w' args v := At.chg h c fun b h1 h2 => hC b h1.1 h1.2 h2
theorem LieX.later {lo f : Nat} {w w' : World} {args : List Ex} {v : Value} (h : LieX lo f w args v) (hb : Later w w') : LieX lo f w' args v := At.later h hb
theorem LieX.ats {lo f : Nat} {w : World} {k n : Int} {t : ByteArray} {args : List Ex} {v : Value} (h : LieX lo f w args v) (hs : SmallE k n t) : Ats w (fun b => lo ≤ b ∧ b ≠ f) (encE (.mk k n t args)) [.int .i64 k, .int .i64 n, .string t, v] :=
  Ats.mkE hs.between.1 hs.between.2.1 hs.between.2.2 h
theorem TopE.lie {lo f : Nat} {w : World} {args : List Ex} {v : Value} (h : TopE lo w args v) (hf : w.heap.size ≤ f) : LieX lo f w args v := At.more h.at_ fun b hb => ⟨hb.1, by omega⟩
theorem LieX.nil (lo f : Nat) (w : World) : LieX lo f w [] (.slice none 0 0) := At.make (by simp) (Nat.le_refl _) (by omega) fun h => absurd rfl h
/-- What l10Bent returns. -/
def BentX (M g : Nat) (W w' : World) (r : Ending) : Prop :=
  (∃ k n t args A c, r = .returned (.agg #[.int .i64 k, .int .i64 n, .string t, .slice A (args : List Ex).length c]) ∧ (Ex.mk k n t args).cost ≤ M ∧ Ats w' (fun b => W.heap.size ≤ b) (encE (.mk k n t args)) [.int .i64 k, .int .i64 n, .string t, .slice A args.length c]) ∧ CurAt w' g ∧ Chg (onlyB g) W w'
theorem bent_end {W wr : World} {g M f : Nat} {k n : Int} {t : ByteArray} {args : List Ex} {A : Option Addr} {c : Nat} {r : Ending} (hr : r = .returned (.agg #[.int .i64 k, .int .i64 n, .string t, .slice A args.length c])) (hd : LieX (W.heap.size + 1) f wr args (.slice A args.length c)) (hs : SmallE k n t) (hcost : (Ex.mk k n t args).cost ≤ M)
    (hcu : CurAt wr g) (hch : Chg (freshB g W.heap.size) W wr) (hlt : g < W.heap.size) (vs : List Value) : BentX M g W (setFrom wr W.heap.size 0 vs) r := by
  have cg := chg_setFrom (g := W.heap.size) vs wr 0
  exact ⟨⟨k, n, t, args, A, c, hr, hcost, ((hd.chg cg fun b h1 h2 h3 => by omega).ats hs).more fun b hb => Nat.le_of_succ_le hb.1⟩, hcu.chg cg fun b hb h => by omega, chg_only (hch.trans (cg.more fun k hk => .inr (by omega)))⟩
theorem bent_box {w : World} {g : Nat} {a0 a1 a2 a3 : Value} (h : Box w g [a0, a1, a2, a3]) : Box w g [a0, a1, a2, a3] := h
theorem specOpA (op : Int) (a b : Ex) (ca cb : List Value) (S : Nat → Prop) (W : World) (hS : ∀ x, W.heap.size ≤ x → S x) (ha : Ats W S (encE a) ca) (hb : Ats W S (encE b) cb) :
    Calls Try.prog 161 #[.int .i64 op, .agg ca.toArray, .agg cb.toArray] W fun r w' => (∃ A c, r = .returned (.agg #[.int .i64 6, .int .i64 op, .string ⟨#[]⟩, .slice A 2 c]) ∧ At w' S (.sl 4 2 ([a, b].flatMap encE)) (.slice A 2 c)) ∧ Later W w' := by
  obtain ⟨k, n, t, xa, rfl⟩ := Ex.shape a
  obtain ⟨k', n', t', xb, rfl⟩ := Ex.shape b
  obtain ⟨v, rfl, _, _, _, hv⟩ := ha.ex
  obtain ⟨v', rfl, _, _, _, hv'⟩ := hb.ex
  obtain ⟨A, c, rfl, _⟩ := hv.sl_inv
  obtain ⟨B, d, rfl, _⟩ := hv'.sl_inv
  have HA := Lib.hid ha; have HB := Lib.hid hb; have HS := Lib.hid hS
  clear ha hb hv hv' hS
  go_enter Try.func161, Try.ntmps161
  go_wp2_with fail
  have L : Later W (((W.alloc (.cells #[.int .i64 k, .int .i64 n, .string t, .slice A xa.length c] 67)).alloc (.cells #[.int .i64 k', .int .i64 n', .string t', .slice B xb.length d] 67)).alloc (.cells #[.int .i64 6, .int .i64 op, .string ⟨#[]⟩, .slice (some ⟨W.heap.size + 1 + 1 + 1, 0, none⟩) 2 2] 67)) := (((Later.rfl' W).alloc _).alloc _).alloc _
  have hat := (HA.out.append HB.out).later (L.alloc (.cells #[.int .i64 k, .int .i64 n, .string t, .slice A xa.length c, .int .i64 k', .int .i64 n', .string t', .slice B xb.length d] 67))
  have hbx := box_alloc (((W.alloc (.cells #[.int .i64 k, .int .i64 n, .string t, .slice A xa.length c] 67)).alloc (.cells #[.int .i64 k', .int .i64 n', .string t', .slice B xb.length d] 67)).alloc (.cells #[.int .i64 6, .int .i64 op, .string ⟨#[]⟩, .slice (some ⟨W.heap.size + 1 + 1 + 1, 0, none⟩) 2 2] 67)) #[.int .i64 k, .int .i64 n, .string t, .slice A xa.length c, .int .i64 k', .int .i64 n', .string t', .slice B xb.length d] 67
  simp only [World.size_alloc] at hbx
  have hT : At ((((W.alloc (.cells #[.int .i64 k, .int .i64 n, .string t, .slice A xa.length c] 67)).alloc (.cells #[.int .i64 k', .int .i64 n', .string t', .slice B xb.length d] 67)).alloc (.cells #[.int .i64 6, .int .i64 op, .string ⟨#[]⟩, .slice (some ⟨W.heap.size + 1 + 1 + 1, 0, none⟩) 2 2] 67)).alloc (.cells #[.int .i64 k, .int .i64 n, .string t, .slice A xa.length c, .int .i64 k', .int .i64 n', .string t', .slice B xb.length d] 67)) S (.sl 4 2 ([Ex.mk k n t xa, Ex.mk k' n' t' xb].flatMap encE)) (.slice (some ⟨W.heap.size + 1 + 1 + 1, 0, none⟩) 2 2) := by
    refine At.make (by rw [flat_len encE_len]; rfl) (Nat.le_refl _) (by omega) fun _ => ⟨W.heap.size + 1 + 1 + 1, 0, rfl, hbx.lt, HS.out _ (by omega), fun i dd hdd => ?_⟩
    simp only [List.flatMap_cons, List.flatMap_nil, List.append_nil] at hdd
    obtain ⟨u, hu, hua⟩ := hat.at_ hdd
    exact ⟨u, by rw [Nat.zero_add]; exact hbx.cell hu, hua⟩
  exact bodyPost_ret (v := .agg #[.int .i64 6, .int .i64 op, .string ⟨#[]⟩, .slice (some ⟨W.heap.size + 1 + 1 + 1, 0, none⟩) 2 2]) (by simp [results, Try.results161, go_sem]) rfl ⟨⟨_, _, rfl, hT⟩, L.alloc _⟩
/-- One more argument, onto the slice of a drawn expression that stands in the variable f. -/
theorem TopE.more {lo f : Nat} {w w1 : World} {l : List Ex} {v : Value} (h : TopE lo w l v) (hf : f = w.heap.size) (hb : ∀ b, b < w.heap.size → lo ≤ b → w1.heap[b]? = w.heap[b]?) (hs : w.heap.size < w1.heap.size) (hlo : lo ≤ w.heap.size) {x : Ex} {us : List Value} (ho : Ats w1 (fun b => w.heap.size < b ∧ b < w1.heap.size) (encE x) us) (tt : TypeId) :
    ∃ xs, (w1.alloc (.cells us.toArray tt)).ownsRow lo 67 4 v l.length xs ∧ us.length = 1 * 4 ∧ (∀ u ∈ us, u.oneCell' = true) ∧ (∀ j u, us[j]? = some u → (w1.alloc (.cells us.toArray tt)).cell? ((⟨w1.heap.size, 0, none⟩ : Addr).add j) = some u) ∧ lo ≤ (w1.alloc (.cells us.toArray tt)).heap.size ∧ (∀ b, v.ownBlock = some b → lo ≤ b ∧ b < f) ∧
      ∀ g cap w2, w2.ownsRow lo 67 4 (.slice (some ⟨g, 0, none⟩) (l.length + 1) cap) (l.length + 1) (xs ++ us) → (w1.alloc (.cells us.toArray tt)).grownBy w2 v.ownBlock → (v.ownBlock = some g ∨ g = w1.heap.size + 1) →
        LieX lo f w2 (l ++ [x]) (.slice (some ⟨g, 0, none⟩) (l.length + 1) cap) ∧ g ≠ f := by
  subst hf
  obtain ⟨xs, h1, h2⟩ := h
  have hxl : xs.length = l.length * 4 := h1.1
  have hfl : (l.flatMap encE).length = l.length * 4 := flat_len encE_len l
  have hus : us.length = 1 * 4 := by rw [ho.len, encE_len]
  refine ⟨xs, row_block h1 fun g hg => ?_, hus, ho.one, World.news_of_block (heap_alloc_new w1 _), by rw [World.size_alloc]; omega, fun b hb => h1.lt b hb, fun g cap w2 hr hg hat => ?_⟩
  · have hl := h1.lt g hg
    exact (Below.block ((Later.rfl' w1).alloc (.cells us.toArray tt)) g (by omega)).trans (hb g hl.2 hl.1)
  have hs2 := hg.size
  rw [World.size_alloc] at hs2
  have hgf : g ≠ w.heap.size := by
    rcases hat with h | h
    · have := (h1.lt g h).2; omega
    · omega
  have hglo : lo ≤ g := (hr.lt g rfl).1
  have key : ∀ b, b < w.heap.size → lo ≤ b → v.ownBlock ≠ some b → w2.heap[b]? = w.heap[b]? := fun b hb1 hb2 hne => ((hg.block b (by rw [World.size_alloc]; omega) (fun e => hne e.symm)).trans (Below.block ((Later.rfl' w1).alloc (.cells us.toArray tt)) b (by omega))).trans (hb b hb1 hb2)
  refine ⟨?_, hgf⟩
  unfold LieX
  rw [List.length_append]
  refine row_at hr (by rw [flat_len encE_len, List.length_append]) (fun b hb => by simp only [Value.ownBlock, Option.some.injEq] at hb; omega) fun p d u hd hu => ?_
  rw [List.flatMap_append] at hd
  by_cases hp : p < l.length * 4
  · rw [List.getElem?_append_left (by omega)] at hd hu
    exact (h2 p d u hd hu).keep fun b hT hlt => ⟨⟨hT.1, by omega⟩, by omega, key b hlt hT.1 hT.2⟩
  · rw [List.getElem?_append_right (by omega), hfl] at hd
    rw [List.getElem?_append_right (by omega), hxl] at hu
    have hd' : (encE x)[p - l.length * 4]? = some d := by simpa using hd
    obtain ⟨c, hc, ha⟩ := ho.at_ hd'
    rw [hu] at hc
    cases hc
    exact ha.keep fun b hT hlt => ⟨⟨by omega, by omega⟩, by omega, (hg.block b (by rw [World.size_alloc]; omega) (fun e => by have := (h1.lt b e.symm).2; omega)).trans (Below.block ((Later.rfl' w1).alloc (.cells us.toArray tt)) b hlt)⟩
end Go.Proofs.Ytghemlokpfipoaa
