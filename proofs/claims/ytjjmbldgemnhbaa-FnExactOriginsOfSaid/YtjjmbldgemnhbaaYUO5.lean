/-
  The program's UnionOrigins: its walk.
-/
import Derived.Test.YtjjmbldgemnhbaaYUO4
namespace Go.Proofs.Ytjjmbldgemnhbaa
open Go.ChangeShapes Go.WideShapes Go.ChangeAt Go.RowKit
open Go.Maps (Keyed)
set_option linter.unusedVariables false
set_option linter.unusedSimpArgs false
set_option maxRecDepth 100000

theorem wpList_append_any {P : Program} (w : World) {ops : Array Oper} {rest : List Oper} {o : Oper} {a : Act} {Q : Exit → Act → World → Prop} (hgd : o.guard = none) (s x : Operand) (t : TypeId)
    (ho : o.op = .call { callee := .builtin .append, args := #[s, x], argTypes := #[t, t] })
    (e : TypeId) (i : TypeInfo) (z : Value) (size bytes : Nat) (ht : P.underlying t = some (.slice e)) (hi : P.info? e = some i) (hz : i.zero = some z)
    (hsize : i.size = size) (hby : i.bytes = bytes) (hzs : z.cells.size = size) (hsz : 0 < size) (base : Nat)
    (v : Value) (n : Nat) (xs : List Value) (hs : a.eval s = v) (hown : w.ownsRow base e size v n xs)
    (A : Option Addr) (m c : Nat) (news : List Value) (hx : a.eval x = .slice A m c) (hl : news.length = m * size) (hA : A = none → m = 0) (hnews : ∀ ad, A = some ad → ∀ j u, news[j]? = some u → w.cell? (ad.add j) = some u) (h1 : ∀ u ∈ news, u.oneCell' = true)
    (h63 : n + m ≤ maxLen) (hbytes : (n + m) * bytes ≤ 140737488355328) (hbase : base ≤ w.heap.size)
    (h : ∀ v' w', w'.ownsRow base e size v' (n + m) (xs ++ news) → w.grownBy w' v.ownBlock → (v'.ownBlock = v.ownBlock ∨ v'.ownBlock = some w.heap.size) → wpList P ops Q rest (a.put o.dst v') w') : wpList P ops Q (o :: rest) a w := by
  refine wpList_plain hgd fun K' hK' => ?_
  obtain ⟨v', w', hr, h2, h3, h4⟩ := run_append_any (P := P) w base t o.type e i z size bytes ht hi hz hsize hby hzs hsz v n xs hown A m c news hl hA hnews h1 h63 hbytes hbase
  unfold Oper.wp execOp
  simp only [ho, resolve, invoke, builtin, Sem.run_bind, Sem.run_pure, Result.andThen_ok, List.map_toArray, List.map_cons, List.map_nil, hs, hx, hr]
  exact hK' _ _ (h v' w' h2 h3 h4)
/-- The cells of a slice of origins that lies. -/
theorem orig_cells {w : World} {S : Nat → Prop} {l : List Org} {c : Nat} {A : Option Addr} (h : SlAt w S 2 encO l (.slice A l.length c)) :
    (A = none → l.length = 0) ∧ ∀ W', Later w W' → ∀ ad, A = some ad → ∀ j u, (l.flatMap cellsO)[j]? = some u → W'.cell? (ad.add j) = some u := by
  obtain ⟨us, l1, N1, K1, O1, M1⟩ := any_cells h (by omega)
  have e : us = l.flatMap cellsO := by
    apply List.ext_getElem?
    intro j
    by_cases hj : j < l.length * 2
    · have h1 : us[j]? = some (us[j]'(by omega)) := List.getElem?_eq_getElem _
      have h2 : (l.flatMap cellsO)[j]? = some ((l.flatMap cellsO)[j]'(by rw [flat_cells_len]; exact hj)) := List.getElem?_eq_getElem _
      have h3 : (l.flatMap encO)[j]? = some ((l.flatMap encO)[j]'(by rw [flat_len encO_len]; exact hj)) := List.getElem?_eq_getElem _
      obtain ⟨n, e1, e2, _⟩ := flat_orgs_get l h3 h2
      have h4 := M1 _ _ _ h3 h1
      rw [e1] at h4
      rw [h1, h2, e2, h4.int_inv.1]
    · rw [List.getElem?_eq_none (by omega), List.getElem?_eq_none (by rw [flat_cells_len]; omega)]
  subst e
  exact ⟨N1, K1⟩

set_option maxHeartbeats 4000000 in
theorem implUnion (a b : List Org) (hl : a.length + b.length ≤ 1048576) (W : World) (S T : Nat → Prop) (v u : Value) (ha : SlAt W S 2 encO a v) (hb : SlAt W T 2 encO b u) : Calls Try.prog 8 #[v, u] W fun r w' => CopyS W w' 2 encO (unionO a b) r ∧ Later W w' := by
  have hf : Orgs64 (a ++ b) := fun x hx => (List.mem_append.1 hx).elim (orgs_64 ha x) (orgs_64 hb x)
  obtain ⟨A, c, rfl, hlc, hcm⟩ := sl_parts ha
  obtain ⟨B, d, rfl, hld, hdm⟩ := sl_parts hb
  obtain ⟨NA, KA⟩ := orig_cells ha
  obtain ⟨NB, KB⟩ := orig_cells hb
  have HF := Lib.hid hf
  have HKA := Lib.hid KA; have HKB := Lib.hid KB; have HNA := Lib.hid NA; have HNB := Lib.hid NB
  clear ha hb hf KA KB NA NB
  obtain ⟨i0, hi, hz0, hz1, hz2⟩ := info_parts info_orig
  have hmm := @run_makeMap Try.prog
  go_enter Try.func8, Try.ntmps8
  go_wp2_with (at_builtin; refine wpList_append_any _ rfl _ _ 24 rfl 47 i0 (.agg #[.int .i64 0, .int .i64 0]) 2 16 Try.underlying24 hi hz0 hz1 hz2 rfl (by decide) (W.heap.size + 3) (.slice (some ⟨W.heap.size + 3, 0, none⟩) 0 0) 0 [] rfl ?o1 A a.length c (a.flatMap cellsO) rfl (flat_cells_len a) HNA.out ?k1 (flat_cells_one a) ?s1 ?s2 ?s3 ?_)
  case o1 =>
    have H0 := World.ownsRow_made (base := W.heap.size + 3) (e := 47) (size := 2) (startW W) #[] 0 (by simp [startW]) (Nat.zero_le _) rfl
    simpa [startW] using H0
  case k1 => exact HKA.out _ ((((Later.rfl' W).alloc _).alloc _).alloc _ |>.alloc _)
  case s1 => unfold maxLen; omega
  case s2 => omega
  case s3 => simp
  intro v1 w1 hown1 hgrow1 hat1
  have hL1 : Later (startW W) w1 := later_push (lo := W.heap.size + 3) ((Later.rfl' (startW W)).alloc (.cells #[] 47)) (by
    have H0 := World.ownsRow_made (base := W.heap.size + 3) (e := 47) (size := 2) (startW W) #[] 0 (by simp [startW]) (Nat.zero_le _) rfl
    simpa [startW] using H0) hgrow1 (by simp [startW])
  have hW1 : Later W w1 := ((((Later.rfl' W).alloc _).alloc _).alloc _).trans hL1
  have HL1 := Lib.hid hL1; have HW1 := Lib.hid hW1; have HO1 := Lib.hid hown1
  have hz1' := hL1.size
  simp only [startW, World.size_alloc] at hz1'
  clear hgrow1 hat1 hL1 hW1 hown1
  go_wp2_with (at_builtin; refine wpList_append_any _ rfl _ _ 24 rfl 47 i0 (.agg #[.int .i64 0, .int .i64 0]) 2 16 Try.underlying24 hi hz0 hz1 hz2 rfl (by decide) (W.heap.size + 3) v1 a.length (a.flatMap cellsO) rfl HO1.out B b.length d (b.flatMap cellsO) rfl (flat_cells_len b) HNB.out ?k1 (flat_cells_one b) ?s1 ?s2 ?s3 ?_)
  case k1 => exact HKB.out _ HW1.out
  case s1 => unfold maxLen; omega
  case s2 => omega
  case s3 => omega
  intro v2 w2 hown2 hgrow2 hat2
  have hL2 := later_push HL1.out HO1.out hgrow2 (by simp [startW])
  obtain ⟨xs, hxs⟩ : ∃ xs, xs = a ++ b := ⟨_, rfl⟩
  have hxl : xs.length ≤ 1048576 := by rw [hxs, List.length_append]; omega
  have hrow : ORow (W.heap.size + 3) w2 v2 xs := by
    unfold ORow
    rw [hxs, List.flatMap_append, List.length_append]
    simpa using hown2
  have HU0 := Lib.hid (UAt.start hL2 hrow)
  have HXS := Lib.hid hxs
  have HFX : Hid (Orgs64 xs) := by unfold Hid; rw [hxs]; exact HF.out
  have hpl : a.length + b.length = xs.length := by rw [hxs, List.length_append]
  obtain ⟨A2, c2, rfl, _, _, hA2⟩ := row_shape hrow
  have HA2 := Lib.hid hA2
  clear hown2 hgrow2 hat2 hL2 hrow hA2 HL1 HW1 HO1 HKA HKB HNA HNB HF hxs
  go_wp2_with fail
  go_loopw [17] (fun iv wr => ∃ (k g c : Nat), iv = .int .i64 k ∧ k ≤ xs.length ∧ UAt W (.slice A2 xs.length c2) xs k wr g c) (fun iv _ => xs.length - (intOf iv).toNat)
  case atStart => exact ⟨0, _, 0, rfl, Nat.zero_le _, HU0.out⟩
  case round =>
    obtain ⟨k, g, c, rfl, hk, hu⟩ := hrel
    have HU := Lib.hid hu
    clear HU0
    by_cases hlt : k < xs.length
    · have hA := HA2.out (by omega)
      obtain ⟨rb, rfl, hob⟩ := hA
      obtain ⟨q0, q1⟩ := flat_cells_at xs hlt
      have e0 := (World.ownsRow.cellAt hu.src (k * 2) (by omega)).trans q0
      have e1 := (World.ownsRow.cellAt hu.src (k * 2 + 1) (by omega)).trans q1
      have hx64 := HFX.out _ (List.getElem_mem hlt)
      have hkey := key_orig hx64
      obtain ⟨ks, hset, hks⟩ := hu.keys
      have hfl : (firstsO (xs.take k)).length ≤ 1048576 := by have := firstsO_le (xs.take k); rw [List.length_take] at this; omega
      obtain ⟨⟨x0, x1⟩, hX⟩ : ∃ x, x = xs[k] := ⟨_, rfl⟩
      have HX := Lib.hid hX
      rw [← hX] at e0 e1 hkey
      simp only [keyV] at e0 e1 hkey
      have hset1 := hset.keep (Below.block ((Later.rfl' wr).alloc (.cells #[.int .i64 x0, .int .i64 x1] 47)) _ hset.lt)
      have hz : W.heap.size + 2 < wr.heap.size := World.block_lt_of_cell? wr _ hu.cell
      have HKS := Lib.hid hks
      have hki : (k : Int) < (xs.length : Int) := by omega
      have b0 := (box_alloc wr #[.int .i64 x0, .int .i64 x1] 47).cell (j := 0) rfl
      have b1 := (box_alloc wr #[.int .i64 x0, .int .i64 x1] 47).cell (j := 1) rfl
      clear hX hset hks q0 q1 hu hx64 hob
      go_wp2_with (at_lookup; refine wpList_lookup_set _ rfl _ _ 50 rfl 47 4 keyed_orig Try.underlying50 (zero_bool _) W.heap.size ks rfl hset1 (.agg #[.int .i64 x0, .int .i64 x1]) _ rfl hkey ?_)
      refine ⟨fun hnin => ?_, fun hin => ?_⟩
      rotate_left
      · have hm : xs[k] ∈ xs.take k := (HKS.out _).1 (by rw [← HX.out]; exact hin)
        have HH := Lib.hid ((HU.out.hit hlt hm).on ((Later.rfl' wr).alloc (.cells #[.int .i64 x0, .int .i64 x1] 47)))
        clear hm hin hset1 e0 e1
        go_wp2_with fail
        go_roundw
        case rel => exact ⟨k + 1, g, c, by go_num, by omega, HH.out⟩
        case measure => simp [intOf]; omega
      · have hm : xs[k] ∉ xs.take k := fun h => hnin (by have := (HKS.out _).2 h; rw [← HX.out] at this; exact this)
        have HM := Lib.hid hm
        clear hm e0 e1
        go_wp2_with (at_mapUpdate; refine wpList_update_set _ rfl _ _ _ 50 rfl 47 4 keyed_orig Try.underlying50 W.heap.size ks rfl hset1 (.agg #[.int .i64 x0, .int .i64 x1]) _ rfl rfl hkey hnin ?_)
        intro w3 hs3 hg3
        have hu1 := HU.out.on ((Later.rfl' wr).alloc (.cells #[.int .i64 x0, .int .i64 x1] 47))
        have hs3' : SetAt w3 Try.prog 47 W.heap.size (keyV xs[k] :: ks) := by rw [← HX.out]; exact hs3
        have hum := hu1.put hlt HKS.out hs3' hg3
        have f0 : w3.cell? ⟨wr.heap.size, 0, none⟩ = some (.int .i64 x0) := (World.cell?_of_block (w := wr.alloc (.cells #[.int .i64 x0, .int .i64 x1] 47)) (a := ⟨_, _, none⟩) (hg3.block wr.heap.size (by simp) (by simp; omega))).trans b0
        have f1 : w3.cell? ⟨wr.heap.size, 1, none⟩ = some (.int .i64 x1) := (World.cell?_of_block (w := wr.alloc (.cells #[.int .i64 x0, .int .i64 x1] 47)) (a := ⟨_, _, none⟩) (hg3.block wr.heap.size (by simp) (by simp; omega))).trans b1
        have fP := hum.cell
        have HUM := Lib.hid hum
        clear hs3 hg3 hs3' hu1 hset1 hnin b0 b1 hum
        have hz3 : W.heap.size + 2 < w3.heap.size := World.block_lt_of_cell? w3 _ HUM.out.cell
        go_wp2_with (at_builtin; refine wpList_append_lies _ rfl _ _ 24 rfl (W.heap.size + 1) 47 i0 (.agg #[.int .i64 0, .int .i64 0]) 2 16 Try.underlying24 hi hz0 hz1 hz2 rfl (by decide) (.slice (some ⟨g, 0, none⟩) (firstsO (xs.take k)).length c) (firstsO (xs.take k)).length ((firstsO (xs.take k)).flatMap cellsO) rfl ?own ⟨w3.heap.size, 0, none⟩ 1 1 [.int .i64 x0, .int .i64 x1] rfl rfl ?c1 one_two (by omega) ?c3 ?c4 ?c5 (w3.heap.size + 1) (by simp) ?_)
        case own => exact ORow.at HUM.out.row (Later.rfl' _) _
        case c1 => exact news_two _ _ _ _
        case c3 => unfold maxLen; omega
        case c4 => omega
        case c5 => simp; omega
        intro g' c' w4 hown4 hgrow4 hat4 hlt4
        have hum4 := HUM.out.on ((Later.rfl' w3).alloc (.cells #[.int .i64 x0, .int .i64 x1] 47))
        have HN := Lib.hid (hum4.push hlt HM.out HX.out.symm hown4 hgrow4 (by simpa [Value.ownBlock] using hat4))
        obtain ⟨fc, ff⟩ := hum4.box hgrow4
        clear hum4 hown4 hgrow4 hat4 f0 f1 fP
        go_wp2_with fail
        go_roundw
        case rel => exact ⟨k + 1, g', c', by go_num, by omega, HN.out⟩
        case measure => simp [intOf]; omega
    · have e : xs.take k = xs := List.take_of_length_le (by omega)
      have hc := hu.cell
      have hrow := hu.row
      have hap := hu.apart
      rw [e] at hc hrow
      have hfl : (firstsO xs).length ≤ 1048576 := by have := firstsO_le xs; omega
      have hgl := (World.ownsRow.lt hrow g rfl).2
      have hH := holds_of_row hrow
      obtain ⟨K, hK⟩ : ∃ K, K = firstsO xs := ⟨_, rfl⟩
      rw [← hK] at hc hrow hfl hH
      have hpl : W.heap.size + 2 ≠ g := fun e => hap.2.1 e.symm
      have CSL := sqSlice (W := wr) (blk := g) (n := K.length) (c := c) (g := 21) (lb := #[.pointer (some ⟨W.heap.size + 2, 0, none⟩)]) (enters_of Try.func21 (by kernel_rfl) rfl) (by omega) hgl K.toArray (by simp) hH
        (fun W1 d1 hs i j hi hj => lessU (hs.cell hc hpl) hs.row hs.size (by omega) i j hi hj)
      have HC := Lib.hid CSL
      have HROW := Lib.hid hrow
      have HCELL := Lib.hid hc
      have HK := Lib.hid hK
      have HU2 := Lib.hid hu.later
      have hki : ¬ (k : Int) < (xs.length : Int) := by omega
      have hgW := hap.1
      clear CSL hrow hK e hap hH
      go_wp2_with fail
      refine HC.out.mono ?_; rintro r w3 ⟨rfl, d', hs, hp, hsd⟩
      have hc3 := hs.cell hc hpl
      have hl3 : Later W w3 := Chg.later HU2.out hs.chg fun q hq => by omega
      have hr3 := row_of_holds HROW.out rfl hs
      have hpm := perm_of rfl hp
      rw [HK.out, HXS.out] at hpm
      have hun := sorted_unionO hpm (sorted_of hs.size hsd)
      have hdl : d'.toList.length = K.length := by rw [Array.length_toList, hs.size]
      have h64 : Orgs64 (unionO a b) := fun x hx => HFX.out x (by rw [HXS.out, List.mem_append]; exact mem_unionO.1 hx)
      have hwz := HU2.out.size
      have HRES : Hid (NewO W w3 (unionO a b) (.slice (some ⟨g, 0, none⟩) K.length c)) := by
        rw [hun] at hr3
        exact ORow.own hr3 h64 (fun q hq => by have := (World.ownsRow.lt hr3 q hq); omega)
      have HL3 := Lib.hid hl3
      clear hs hp hsd hr3 hpm hun hdl h64 hl3 hc
      go_wp2_with fail
      go_ret
      exact ⟨⟨_, rfl, HRES.out⟩, HL3.out⟩
end Go.Proofs.Ytjjmbldgemnhbaa
