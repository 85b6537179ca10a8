/-
  Values, rows, origins: what they are, how they lie in memory, as arguments.
-/
import Derived.Test.YtjjmbldgemnhbaaYD1
import Derived.Test.YtjjmbldgemnhbaaYPlain
import Derived.Test.YtjjmbldgemnhbaaYFrame
import Derived.Test.YtjjmbldgemnhbaaYTrod
namespace Go.Proofs.Ytjjmbldgemnhbaa
open Go.RowKit Go.ChangeShapes Go.WideShapes
set_option linter.unusedVariables false
set_option linter.unusedSimpArgs false

/-- Cells, one by one. -/
inductive Ats (w : World) (S : Nat → Prop) : List Dt → List Value → Prop
  | nil : Ats w S [] []
  | cons {d : Dt} {ds : List Dt} {c : Value} {cs : List Value} (h : At w S d c) (t : Ats w S ds cs) : Ats w S (d :: ds) (c :: cs)
theorem Ats.keep {w w' : World} {S S' : Nat → Prop} {ds : List Dt} {cs : List Value} (h : Ats w S ds cs) (hb : ∀ b, S b → b < w.heap.size → S' b ∧ b < w'.heap.size ∧ w'.heap[b]? = w.heap[b]?) : Ats w' S' ds cs := by
  induction h with
  | nil => exact .nil
  | cons h t ih => exact .cons (h.keep hb) ih
theorem Ats.later {w w' : World} {S : Nat → Prop} {ds : List Dt} {cs : List Value} (h : Ats w S ds cs) (hb : Later w w') : Ats w' S ds cs :=
  h.keep fun b hs hl => ⟨hs, Nat.lt_of_lt_of_le hl hb.size, Below.block hb b hl⟩
theorem Ats.more {w : World} {S S' : Nat → Prop} {ds : List Dt} {cs : List Value} (h : Ats w S ds cs) (hS : ∀ b, S b → S' b) : Ats w S' ds cs :=
  h.keep fun b hs hl => ⟨hS b hs, hl, rfl⟩
theorem Ats.any {w : World} {S : Nat → Prop} {ds : List Dt} {cs : List Value} (h : Ats w S ds cs) : Ats w anyB ds cs := h.more fun _ _ => trivial
theorem Ats.chg {w w' : World} {S S' : Nat → Prop} {ds : List Dt} {cs : List Value} (h : Ats w S ds cs) (c : Chg S' w w') (hd : ∀ b, S b → S' b → False) : Ats w' S ds cs :=
  h.keep fun b hs hl => ⟨hs, Nat.lt_of_lt_of_le hl c.size, c.block b hl fun e => hd b hs e⟩
theorem Ats.len {w : World} {S : Nat → Prop} {ds : List Dt} {cs : List Value} (h : Ats w S ds cs) : cs.length = ds.length := by
  induction h with
  | nil => rfl
  | cons h t ih => simp [ih]
theorem Ats.at_ {w : World} {S : Nat → Prop} {ds : List Dt} {cs : List Value} (h : Ats w S ds cs) : ∀ {i : Nat} {d : Dt}, ds[i]? = some d → ∃ c, cs[i]? = some c ∧ At w S d c := by
  induction h with
  | nil => intro i d h; simp at h
  | cons h t ih =>
    intro i d hd
    match i with
    | 0 => simp at hd; subst hd; exact ⟨_, rfl, h⟩
    | i + 1 => exact ih (by simpa using hd)

/-- What the call owns, cell by cell. -/
def Owns (w : World) (S : Nat → Prop) (ds : List Dt) (cs : List Value) : Prop :=
  cs.length = ds.length ∧ ∃ T : Nat → Nat → Prop, (∀ i b, T i b → S b) ∧ (∀ i j, i ≠ j → ∀ b, T i b → T j b → False) ∧ ∀ (i : Nat) d u, ds[i]? = some d → cs[i]? = some u → Own w (T i) d u
theorem Owns.later {w w' : World} {S : Nat → Prop} {ds : List Dt} {cs : List Value} (h : Owns w S ds cs) (hb : Later w w') : Owns w' S ds cs := by
  obtain ⟨hl, T, h1, h2, h3⟩ := h
  exact ⟨hl, T, h1, h2, fun i d u hd hu => (h3 i d u hd hu).later hb⟩
theorem Owns.chg {w w' : World} {S S' : Nat → Prop} {ds : List Dt} {cs : List Value} (h : Owns w S ds cs) (c : Chg S' w w') (hd : ∀ b, S b → S' b → False) : Owns w' S ds cs := by
  obtain ⟨hl, T, h1, h2, h3⟩ := h
  exact ⟨hl, T, h1, h2, fun i d u hd' hu => (h3 i d u hd' hu).chg c fun b h4 h5 => hd b (h1 i b h4) h5⟩
theorem Owns.more {w : World} {S S' : Nat → Prop} {ds : List Dt} {cs : List Value} (h : Owns w S ds cs) (hS : ∀ b, S b → S' b) : Owns w S' ds cs := by
  obtain ⟨hl, T, h1, h2, h3⟩ := h
  exact ⟨hl, T, fun i b h => hS b (h1 i b h), h2, h3⟩
theorem ats_of {w : World} {S : Nat → Prop} : ∀ {ds : List Dt} {cs : List Value}, cs.length = ds.length → (∀ (i : Nat) d u, ds[i]? = some d → cs[i]? = some u → At w S d u) → Ats w S ds cs
  | [], [], _, _ => .nil
  | [], _ :: _, h, _ => by simp at h
  | _ :: _, [], h, _ => by simp at h
  | d :: ds, c :: cs, hl, h => .cons (h 0 d c rfl rfl) (ats_of (by simpa using hl) fun i d' u h1 h2 => h (i + 1) d' u (by simpa using h1) (by simpa using h2))
theorem Owns.ats {w : World} {S : Nat → Prop} {ds : List Dt} {cs : List Value} (h : Owns w S ds cs) : Ats w S ds cs := by
  obtain ⟨hl, T, h1, h2, h3⟩ := h
  exact ats_of hl fun i d u hd hu => (h3 i d u hd hu).at_.more fun b hb => h1 i b hb

abbrev Org := Int × Int
structure Rw where
  cells : List Int
  from_ : List Org
inductive Vl where
  | mk (kind n step : Int) (text : ByteArray) (list : List Vl) (cols : List ByteArray) (rows : List Rw)
structure Tk where
  kind : Int
  n : Int
  at_ : Int
  text : ByteArray

def encI (n : Int) : List Dt := [.int n]
def encS (s : ByteArray) : List Dt := [.str s]
def encO (o : Org) : List Dt := [.int o.1, .int o.2]
def encR (r : Rw) : List Dt := [.sl 1 r.cells.length (r.cells.flatMap encI), .sl 2 r.from_.length (r.from_.flatMap encO)]
def encT (t : Tk) : List Dt := [.int t.kind, .int t.n, .int t.at_, .str t.text]
mutual
def encV : Vl → List Dt
  | .mk k n s t l c r => [.int k, .int n, .int s, .str t, .sl 7 l.length (encVs l), .sl 1 c.length (c.flatMap encS), .sl 2 r.length (r.flatMap encR)]
def encVs : List Vl → List Dt
  | [] => []
  | v :: vs => encV v ++ encVs vs
end
theorem encVs_eq : ∀ l : List Vl, encVs l = l.flatMap encV
  | [] => rfl
  | v :: vs => by rw [encVs, encVs_eq vs, List.flatMap_cons]
theorem encI_len (n : Int) : (encI n).length = 1 := rfl
theorem encS_len (n : ByteArray) : (encS n).length = 1 := rfl
theorem encO_len (n : Org) : (encO n).length = 2 := rfl
theorem encR_len (n : Rw) : (encR n).length = 2 := rfl
theorem encT_len (n : Tk) : (encT n).length = 4 := rfl
theorem encV_len : ∀ v : Vl, (encV v).length = 7
  | .mk .. => by rw [encV]; rfl
instance : Inhabited Rw := ⟨⟨[], []⟩⟩
instance : Inhabited Tk := ⟨⟨0, 0, 0, ByteArray.empty⟩⟩
instance : Inhabited Vl := ⟨.mk 0 0 0 ByteArray.empty [] [] []⟩

mutual
theorem Vl.ind {Q : Vl → Prop} (h : ∀ k n s t l c r, (∀ x, x ∈ l → Q x) → Q (.mk k n s t l c r)) : ∀ d, Q d
  | .mk k n s t l c r => h k n s t l c r (Vl.inds h l)
theorem Vl.inds {Q : Vl → Prop} (h : ∀ k n s t l c r, (∀ x, x ∈ l → Q x) → Q (.mk k n s t l c r)) : ∀ (l : List Vl) x, x ∈ l → Q x
  | [], x, hx => by simp at hx
  | v :: vs, x, hx => by
    rcases List.mem_cons.1 hx with e | e
    · rw [e]; exact Vl.ind h v
    · exact Vl.inds h vs x e
end

def ValAt (w : World) (v : Value) (d : Vl) : Prop := ∃ cs, v = .agg cs.toArray ∧ Ats w anyB (encV d) cs
def OrigAt (w : World) (v : Value) (o : Org) : Prop := ∃ cs, v = .agg cs.toArray ∧ Ats w anyB (encO o) cs
def TokAt (w : World) (v : Value) (o : Tk) : Prop := ∃ cs, v = .agg cs.toArray ∧ Ats w anyB (encT o) cs
def ValsAt (w : World) (v : Value) (l : List Vl) : Prop := SlAt w anyB 7 encV l v
def OrigsAt (w : World) (v : Value) (l : List Org) : Prop := SlAt w anyB 2 encO l v
def ToksAt (w : World) (v : Value) (l : List Tk) : Prop := SlAt w anyB 4 encT l v

section
variable {H : Type} {enc : TypeId × Value → H} {P : Program} {w : World} {sp : Nat → Bool} {held : Bool}
theorem cell_int {t : TypeId} (ht : P.underlying t = some (.int .i64)) {m : Nat} {c : Value} {y : DataW H × List MemPlace} (h : DataW.trod enc P w 0 sp held m t [c] = some y) : ∃ n, At w anyB (.int n) c := by
  obtain ⟨a, ea, _, wa⟩ := DataW.trod_int ht h
  simp only [List.cons.injEq, and_true] at ea
  subst ea
  exact ⟨a, .int a (i64_of_wf wa)⟩
theorem cell_str {t : TypeId} (ht : P.underlying t = some .string) {m : Nat} {c : Value} {y : DataW H × List MemPlace} (h : DataW.trod enc P w 0 sp held m t [c] = some y) : ∃ s, At w anyB (.str s) c := by
  obtain ⟨a, ea, _, wa⟩ := DataW.trod_string ht h
  simp only [List.cons.injEq, and_true] at ea
  subst ea
  exact ⟨a, .str a (by simp only [maxLen] at wa; omega)⟩
theorem cell_sl {α : Type} [Inhabited α] {en : α → List Dt} {s : Nat} (hs : ∀ a, (en a).length = s) (h0 : 0 < s) {t e : TypeId} (ht : P.underlying t = some (.slice e)) (hC : P.cellsOf e = s) {m : Nat}
    (hel : ∀ m', m' < m → ∀ cs x, DataW.trod enc P w 0 sp held m' e cs = some x → ∃ a, Ats w anyB (en a) cs) {c : Value} {y : DataW H × List MemPlace} (h : DataW.trod enc P w 0 sp held m t [c] = some y) : ∃ l : List α, SlAt w anyB s en l c := by
  rcases DataW.trod_slice ht h with ⟨hcs, _⟩ | ⟨ad, len, cap, elems, rest, m', hm', hcs, _, _, hl, hmx, hlen, hx, _⟩
  · simp only [List.cons.injEq, and_true] at hcs
    subst hcs
    exact ⟨[], At.make (by simp) (Nat.le_refl _) (by omega) fun hn => absurd rfl hn⟩
  · simp only [List.cons.injEq, and_true] at hcs
    subst hcs
    rw [hC] at hx
    have hall : ∀ i, i < len → ∃ ec : α × List Value, (∀ j, j < s → w.cell? ((ad.add (i * s)).add j) = ec.2[j]?) ∧ Ats w anyB (en ec.1) ec.2 := by
      intro i hi
      have hx := hx i hi
      rw [List.getElem?_eq_getElem (by omega)] at hx
      simp only [Option.bind_eq_some_iff] at hx
      obtain ⟨cs', hc, hd⟩ := hx
      obtain ⟨_, hcl, hat⟩ := World.cells?_some hc
      obtain ⟨a, ha⟩ := hel m' (by omega) cs' _ hd
      exact ⟨(a, cs'), hat, ha⟩
    obtain ⟨G, hG⟩ := Go.Deep.choose_lt hall
    have hlen' : ((List.range len).map fun i => (G i).1).length = len := by simp
    refine ⟨(List.range len).map fun i => (G i).1, ?_⟩
    unfold SlAt
    rw [hlen']
    refine At.make (by rw [flat_len hs, hlen']) hl (by simp only [maxLen] at hmx; omega) fun hn => ?_
    have hn0 : 0 < len := by
      rcases Nat.eq_zero_or_pos len with h1 | h1
      · subst h1; simp at hn
      · exact h1
    have get : ∀ i j, i < len → j < s → ∀ d, (en (G i).1)[j]? = some d → ∃ u, w.cell? ((ad.add (i * s)).add j) = some u ∧ At w anyB d u := by
      intro i j hi hj d hd
      obtain ⟨u, h1, h2⟩ := (hG i hi).2.at_ hd
      exact ⟨u, ((hG i hi).1 j hj).trans h1, h2⟩
    obtain ⟨u0, hu0, _⟩ := get 0 0 hn0 h0 _ (List.getElem?_eq_getElem (by rw [hs]; exact h0))
    have hu0' : w.cell? ad = some u0 := by simpa [Addr.add] using hu0
    have hsp := spot_none hu0'
    refine ⟨ad.block, ad.off, by rw [← hsp], World.block_lt_of_cell? w _ hu0', trivial, fun p d hd => ?_⟩
    have hp : p < len * s := by
      have := (List.getElem?_eq_some_iff.1 hd).1
      rw [flat_len hs, hlen'] at this
      exact this
    have hi : p / s < len := (Nat.div_lt_iff_lt_mul h0).2 hp
    have hj : p % s < s := Nat.mod_lt _ h0
    have hpe : p / s * s + p % s = p := Nat.div_add_mod' p s
    have hd2 := flat_get hs ((List.range len).map fun i => (G i).1) (i := p / s) (j := p % s) (by rw [hlen']; exact hi) hj
    rw [hpe, hd] at hd2
    have hd3 : (en (G (p / s)).1)[p % s]? = some d := by rw [hd2]; simp
    obtain ⟨u, h1, h2⟩ := get (p / s) (p % s) hi hj d hd3
    refine ⟨u, ?_, h2⟩
    rw [hsp, add_lit, add_lit, Nat.add_assoc, hpe] at h1
    exact h1
theorem cell_ints {t e : TypeId} (ht : P.underlying t = some (.slice e)) (he : P.underlying e = some (.int .i64)) (hC : P.cellsOf e = 1) {m : Nat} {c : Value} {y : DataW H × List MemPlace} (h : DataW.trod enc P w 0 sp held m t [c] = some y) : ∃ l : List Int, SlAt w anyB 1 encI l c := by
  refine cell_sl encI_len (by omega) ht hC (fun m' _ cs x hx => ?_) h
  obtain ⟨a, ea, _, wa⟩ := DataW.trod_int he hx
  subst ea
  exact ⟨a, .cons (.int a (i64_of_wf wa)) .nil⟩
theorem cell_strs {t e : TypeId} (ht : P.underlying t = some (.slice e)) (he : P.underlying e = some .string) (hC : P.cellsOf e = 1) {m : Nat} {c : Value} {y : DataW H × List MemPlace} (h : DataW.trod enc P w 0 sp held m t [c] = some y) : ∃ l : List ByteArray, SlAt w anyB 1 encS l c := by
  refine cell_sl encS_len (by omega) ht hC (fun m' _ cs x hx => ?_) h
  obtain ⟨a, ea, _, wa⟩ := DataW.trod_string he hx
  subst ea
  exact ⟨a, .cons (.str a (by simp only [maxLen] at wa; omega)) .nil⟩
end
section
variable {H : Type} {enc : TypeId × Value → H} {w : World} {sp : Nat → Bool} {held : Bool}
theorem elem_orig {m : Nat} {cs : List Value} {x : DataW H × List MemPlace} (h : DataW.trod enc Try.prog w 0 sp held m 49 cs = some x) : ∃ o, Ats w anyB (encO o) cs := by
  obtain ⟨m', hm, hl, hf⟩ := struct_cells Try.underlying49 (by kernel_rfl) (by kernel_rfl) h
  match cs, hl with
  | [c0, c1], _ =>
    obtain ⟨_, y0, e0, h0⟩ := hf 0 _ rfl
    obtain ⟨_, y1, e1, h1⟩ := hf 1 _ rfl
    simp only [List.getElem?_cons_zero, List.getElem?_cons_succ, Option.some.injEq] at e0 e1
    subst e0 e1
    obtain ⟨a, ha⟩ := cell_int Try.underlying3 h0
    obtain ⟨b, hb⟩ := cell_int Try.underlying3 h1
    exact ⟨(a, b), .cons ha (.cons hb .nil)⟩
theorem lawsOrig_of_trod {fuel : Nat} {c : Array Value} {x : DataW H × List MemPlace} (h : DataW.trod enc Try.prog w 0 sp held fuel 49 (Value.agg c).cells.toList = some x) : ∃ o, OrigAt w (.agg c) o := by
  obtain ⟨o, ho⟩ := elem_orig h
  exact ⟨o, _, by simp [Value.cells], ho⟩
theorem lawsOrigs_of_trod {fuel : Nat} {A : Option Addr} {n c : Nat} {x : DataW H × List MemPlace} (h : DataW.trod enc Try.prog w 0 sp held fuel 22 [.slice A n c] = some x) : ∃ l, OrigsAt w (.slice A n c) l :=
  cell_sl encO_len (by omega) Try.underlying22 (by kernel_rfl) (fun m' _ cs x hx => elem_orig hx) h
theorem elem_row {m : Nat} {cs : List Value} {x : DataW H × List MemPlace} (h : DataW.trod enc Try.prog w 0 sp held m 83 cs = some x) : ∃ o, Ats w anyB (encR o) cs := by
  obtain ⟨m', hm, hl, hf⟩ := struct_cells Try.underlying83 (by kernel_rfl) (by kernel_rfl) h
  match cs, hl with
  | [c0, c1], _ =>
    obtain ⟨_, y0, e0, h0⟩ := hf 0 _ rfl
    obtain ⟨_, y1, e1, h1⟩ := hf 1 _ rfl
    simp only [List.getElem?_cons_zero, List.getElem?_cons_succ, Option.some.injEq] at e0 e1
    subst e0 e1
    obtain ⟨a, ha⟩ := cell_ints Try.underlying57 Try.underlying3 (by kernel_rfl) h0
    obtain ⟨b, hb⟩ := cell_sl encO_len (by omega) Try.underlying22 (by kernel_rfl) (fun m' _ cs x hx => elem_orig hx) h1
    exact ⟨⟨a, b⟩, .cons ha (.cons hb .nil)⟩
theorem cell_rows {m : Nat} {c : Value} {x : DataW H × List MemPlace} (h : DataW.trod enc Try.prog w 0 sp held m 32 [c] = some x) : ∃ l, SlAt w anyB 2 encR l c :=
  cell_sl encR_len (by omega) Try.underlying32 (by kernel_rfl) (fun m' _ cs x hx => elem_row hx) h
theorem elem_val : ∀ (m : Nat) (cs : List Value) (x : DataW H × List MemPlace), DataW.trod enc Try.prog w 0 sp held m 34 cs = some x → ∃ o, Ats w anyB (encV o) cs := by
  intro m
  induction m using Nat.strongRecOn with
  | _ m ih =>
  intro cs x h
  obtain ⟨m', hm, hl, hf⟩ := struct_cells Try.underlying34 (by kernel_rfl) (by kernel_rfl) h
  match cs, hl with
  | [c0, c1, c2, c3, c4, c5, c6], _ =>
    obtain ⟨_, y0, e0, h0⟩ := hf 0 _ rfl
    obtain ⟨_, y1, e1, h1⟩ := hf 1 _ rfl
    obtain ⟨_, y2, e2, h2⟩ := hf 2 _ rfl
    obtain ⟨_, y3, e3, h3⟩ := hf 3 _ rfl
    obtain ⟨_, y4, e4, h4⟩ := hf 4 _ rfl
    obtain ⟨_, y5, e5, h5⟩ := hf 5 _ rfl
    obtain ⟨_, y6, e6, h6⟩ := hf 6 _ rfl
    simp only [List.getElem?_cons_zero, List.getElem?_cons_succ, Option.some.injEq] at e0 e1 e2 e3 e4 e5 e6
    subst e0 e1 e2 e3 e4 e5 e6
    obtain ⟨a0, g0⟩ := cell_int Try.underlying3 h0
    obtain ⟨a1, g1⟩ := cell_int Try.underlying3 h1
    obtain ⟨a2, g2⟩ := cell_int Try.underlying3 h2
    obtain ⟨a3, g3⟩ := cell_str Try.underlying9 h3
    obtain ⟨a4, g4⟩ := cell_sl (en := encV) encV_len (by omega) Try.underlying30 (by kernel_rfl) (fun m'' hlt cs x hx => ih m'' (by omega) cs x hx) h4
    obtain ⟨a5, g5⟩ := cell_strs Try.underlying31 Try.underlying9 (by kernel_rfl) h5
    obtain ⟨a6, g6⟩ := cell_rows h6
    unfold SlAt at g4
    rw [← encVs_eq] at g4
    refine ⟨.mk a0 a1 a2 a3 a4 a5 a6, ?_⟩
    rw [encV]
    exact .cons g0 (.cons g1 (.cons g2 (.cons g3 (.cons g4 (.cons g5 (.cons g6 .nil))))))
theorem lawsVal_of_trod {fuel : Nat} {c : Array Value} {x : DataW H × List MemPlace} (h : DataW.trod enc Try.prog w 0 sp held fuel 34 (Value.agg c).cells.toList = some x) : ∃ o, ValAt w (.agg c) o := by
  obtain ⟨o, ho⟩ := elem_val _ _ _ h
  exact ⟨o, _, by simp [Value.cells], ho⟩
theorem lawsVals_of_trod {fuel : Nat} {A : Option Addr} {n c : Nat} {x : DataW H × List MemPlace} (h : DataW.trod enc Try.prog w 0 sp held fuel 30 [.slice A n c] = some x) : ∃ l, ValsAt w (.slice A n c) l :=
  cell_sl encV_len (by omega) Try.underlying30 (by kernel_rfl) (fun m' _ cs x hx => elem_val _ _ _ hx) h
end
end Go.Proofs.Ytjjmbldgemnhbaa
