/-
  An api.Item, an api.Card as arguments, opened. Plain.
-/
import Derived.Test.YtniidkkldoijcaaDoorMOpen
import Derived.Test.YtniidkkldoijcaaDoorMItems
import Derived.Test.YtniidkkldoijcaaDoorBig
namespace Go.Proofs.YtniidkkldoijcaaDoor
open Go.RowKit Go.ChangeShapes Go.WideShapes
set_option linter.unusedVariables false
set_option linter.unusedSimpArgs false

theorem in_int {n : Int} (h : (Lit.int .i64 n).wf = true) : -9223372036854775808 ≤ n ∧ n ≤ 9223372036854775807 := by
  simpa [Lit.wf, IntKind.min, IntKind.max, IntKind.signed, IntKind.bits] using h
instance : Inhabited It := ⟨⟨[], [], [], ⟨0, [], [], St0, 0⟩⟩⟩
theorem mem_sum {l : List Nat} {a : Nat} (h : a ∈ l) : a ≤ l.sum := by
  induction l with
  | nil => cases h
  | cons b l ih =>
    rw [List.sum_cons]
    rcases List.mem_cons.1 h with rfl | h
    · omega
    · have := ih h; omega
/-- so much has an item -/
def lenI (x : It) : Nat := x.g.length + x.n.length + wideN x.ps + x.v.tx.length + sumP x.v.ps
theorem lim_of {x : It} (h : lenI x ≤ 1048576) : Lim x := by unfold lenI at h; exact ⟨by omega, by omega, by omega, by omega, by omega⟩
section
variable {H : Type} {enc : TypeId × Value → H} {w : World}
set_option maxRecDepth 100000 in
set_option maxHeartbeats 1000000 in
theorem open_vl {fuel : Nat} {cs : List Value} {x : DataW H × List MemPlace} (h : DataW.trod enc Tryd.prog w 0 (fun _ => true) true fuel 30 cs = some x) :
    ∃ (y : Vl) (lv : Value), cs = y.cells lv ∧ IsLists w lv y.ps ∧ y.tx.length + sumP y.ps ≤ Rows.uptoBulk x.1 ∧ (-9223372036854775808 ≤ y.st.y ∧ y.st.y ≤ 9223372036854775807) ∧ (-9223372036854775808 ≤ y.ty ∧ y.ty ≤ 9223372036854775807) := by
  obtain ⟨xs, n, _, hx, hl, hlen, hfs⟩ := DataW.trod_struct Tryd.underlying30 h
  have h12 : cs.length = 12 := hl.trans (by kernel_rfl)
  have hxl : xs.length = 5 := hlen
  match cs, h12 with
  | [c0, c1, c2, c3, c4, c5, c6, c7, c8, c9, c10, c11], _ =>
  match xs, hxl with
  | [x0, x1, x2, x3, x4], _ =>
  have k0 := hfs 0 _ rfl
  have k1 := hfs 1 _ rfl
  have k2 := hfs 2 _ rfl
  have k3 := hfs 3 _ rfl
  have k4 := hfs 4 _ rfl
  obtain ⟨a0, e0, f0, w0⟩ := DataW.trod_int Tryd.underlying3 k0
  obtain ⟨l, e1, z1⟩ := open_str Tryd.underlying9 k1
  obtain ⟨pv, ls, e2, hL, z2⟩ := open_lists Tryd.underlying26 Tryd.underlying43 Tryd.underlying9 (by kernel_rfl) (by kernel_rfl) k2
  obtain ⟨ys, n', _, hy, hl', hlen', hgs⟩ := DataW.trod_struct Tryd.underlying28 k3
  obtain ⟨a4, e4, f4, w4⟩ := DataW.trod_int Tryd.underlying3 k4
  have hyl : ys.length = 8 := hlen'
  match ys, hyl with
  | [y0, y1, y2, y3, y4, y5, y6, y7], _ =>
  have q0 := hgs 0 _ rfl
  have q1 := hgs 1 _ rfl
  have q2 := hgs 2 _ rfl
  have q3 := hgs 3 _ rfl
  have q4 := hgs 4 _ rfl
  have q5 := hgs 5 _ rfl
  have q6 := hgs 6 _ rfl
  have q7 := hgs 7 _ rfl
  obtain ⟨b0', m0, _, v0⟩ := DataW.trod_int Tryd.underlying3 q0
  obtain ⟨b1, m1, _, _⟩ := DataW.trod_int Tryd.underlying3 q1
  obtain ⟨b2, m2, _, _⟩ := DataW.trod_int Tryd.underlying3 q2
  obtain ⟨b3, m3, _, _⟩ := DataW.trod_int Tryd.underlying3 q3
  obtain ⟨b4, m4, _, _⟩ := DataW.trod_int Tryd.underlying3 q4
  obtain ⟨b5, m5, _, _⟩ := DataW.trod_int Tryd.underlying3 q5
  obtain ⟨b6, m6, _⟩ := DataW.trod_bool Tryd.underlying4 q6
  obtain ⟨b7, m7, _, _⟩ := DataW.trod_int Tryd.underlying3 q7
  have g0 : c0 = .int .i64 a0 := (List.cons.inj e0).1
  have g1 : c1 = .string (S l) := (List.cons.inj e1).1
  have g2 : c2 = pv := (List.cons.inj e2).1
  have g3 : c3 = .int .i64 b0' := (List.cons.inj m0).1
  have g4 : c4 = .int .i64 b1 := (List.cons.inj m1).1
  have g5 : c5 = .int .i64 b2 := (List.cons.inj m2).1
  have g6 : c6 = .int .i64 b3 := (List.cons.inj m3).1
  have g7 : c7 = .int .i64 b4 := (List.cons.inj m4).1
  have g8 : c8 = .int .i64 b5 := (List.cons.inj m5).1
  have g9 : c9 = .bool b6 := (List.cons.inj m6).1
  have g10 : c10 = .int .i64 b7 := (List.cons.inj m7).1
  have g11 : c11 = .int .i64 a4 := (List.cons.inj e4).1
  subst g0 g1 g2 g3 g4 g5 g6 g7 g8 g9 g10 g11
  have hd : x.1 = .agg [x0.1, x1.1, x2.1, x3.1, x4.1] := (Prod.mk.injEq _ _ _ _ ▸ hx).1
  refine ⟨⟨a0, l, ls, ⟨b0', b1, b2, b3, b4, b5, b6, b7⟩, a4⟩, _, rfl, hL, ?_, in_int v0, in_int w0⟩
  rw [hd]
  simp only [Rows.uptoBulk, Rows.uptoBulkAll]
  omega
set_option maxRecDepth 100000 in
set_option maxHeartbeats 1000000 in
theorem open_item {fuel : Nat} {cs : List Value} {x : DataW H × List MemPlace} (h : DataW.trod enc Tryd.prog w 0 (fun _ => true) true fuel 32 cs = some x) :
    ∃ (y : It) (pv lv : Value), cs = y.cells pv lv ∧ ItOk w y pv lv ∧ lenI y + 1 ≤ Rows.uptoBulk x.1 := by
  obtain ⟨xs, n, _, hx, hl, hlen, hfs⟩ := DataW.trod_struct Tryd.underlying32 h
  have hxl : xs.length = 4 := hlen
  have h2 : cs.length = 15 := hl.trans (by kernel_rfl)
  match cs, h2 with
  | [c0, c1, c2, c3, c4, c5, c6, c7, c8, c9, c10, c11, c12, c13, c14], _ =>
  match xs, hxl with
  | [x0, x1, x2, x3], _ =>
  have k0 := hfs 0 _ rfl
  have k1 := hfs 1 _ rfl
  have k2 := hfs 2 _ rfl
  have k3 := hfs 3 _ rfl
  obtain ⟨l0, e0, z0⟩ := open_str Tryd.underlying9 k0
  obtain ⟨l1, e1, z1⟩ := open_str Tryd.underlying9 k1
  obtain ⟨v2, ps, e2, hP, z2⟩ := open_params k2
  obtain ⟨v2', e2', hf⟩ := open_params_form k2
  obtain ⟨y, lv, e3, hL, z3, hy, ht⟩ := open_vl k3
  have g0 : c0 = .string (S l0) := (List.cons.inj e0).1
  have g1 : c1 = .string (S l1) := (List.cons.inj e1).1
  have g2 : c2 = v2 := (List.cons.inj e2).1
  have g2' : c2 = v2' := (List.cons.inj e2').1
  have g3 : [c3, c4, c5, c6, c7, c8, c9, c10, c11, c12, c13, c14] = y.cells lv := e3
  subst g0 g1 g2
  subst g2'
  refine ⟨⟨l0, l1, ps, y⟩, _, lv, ?_, ⟨hP, hL, hf, hy, ht⟩, ?_⟩
  · show _ :: _ :: _ :: [c3, c4, c5, c6, c7, c8, c9, c10, c11, c12, c13, c14] = _
    rw [g3]; rfl
  · have hd : x.1 = .agg [x0.1, x1.1, x2.1, x3.1] := (Prod.mk.injEq _ _ _ _ ▸ hx).1
    rw [hd]
    unfold lenI
    simp only [Rows.uptoBulk, Rows.uptoBulkAll]
    omega
set_option maxRecDepth 100000 in
set_option maxHeartbeats 1000000 in
theorem open_items {fuel : Nat} {cs : List Value} {x : DataW H × List MemPlace} (h : DataW.trod enc Tryd.prog w 0 (fun _ => true) true fuel 22 cs = some x) :
    ∃ v xs, cs = [v] ∧ IsItems w v xs ∧ (v = .slice none 0 0 ∨ ∃ a n c, v = .slice (some a) n c) ∧ xs.length + 1 ≤ Rows.uptoBulk x.1 ∧ ∀ y ∈ xs, lenI y ≤ Rows.uptoBulk x.1 := by
  obtain ⟨v, n, m, CS, D, rfl, hrow, hcap, hel, hb⟩ := open_rows (k := 15) Tryd.underlying22 (by kernel_rfl) (by omega) (fun m cs y hy u hu => by
    obtain ⟨p, pv, lv, rfl, hs, _⟩ := open_item hy
    exact hs.one u hu) h
  obtain ⟨L, hL⟩ := Deep.choose_lt (α := It) (p := fun i p => ∃ pv lv, CS i = p.cells pv lv ∧ ItOk w p pv lv ∧ lenI p + 1 ≤ Rows.uptoBulk (D i)) (fun i hi => by
    obtain ⟨_, Pl, hp⟩ := hel i hi
    exact open_item hp)
  obtain ⟨hlen, hone, hr⟩ := hrow
  have hll : ((List.range n).map L).length = n := by simp
  have h4 := sum_le_sum (fun i => lenI (L i) + 1) (fun i => Rows.uptoBulk (D i)) n fun i hi => by obtain ⟨_, _, _, _, h⟩ := hL i hi; omega
  have h5 : ((List.range n).map fun i => lenI (L i) + 1).sum = n + ((List.range n).map fun i => lenI (L i)).sum := by
    clear h4 hll hr hone hlen hb hel h hL
    induction n with
    | zero => rfl
    | succ n ih => rw [List.range_succ, List.map_append, List.map_append, List.sum_append, List.sum_append, ih]; simp; omega
  refine ⟨v, (List.range n).map L, rfl, ?_, ?_, by rw [hll]; omega, fun y hy => ?_⟩
  · rcases hr with ⟨rfl, hv⟩ | ⟨b, off, cap, rfl, hbl, hn, hc⟩
    · rcases hv with rfl | ⟨a, c, rfl⟩
      · exact items_nil _ _ _
      · exact items_nil _ _ _
    · refine ⟨_, _, by rw [hll], by rw [hll]; exact hcap, fun _ => ⟨b, off, rfl, hbl, fun i p hp => ?_⟩⟩
      obtain ⟨hi, rfl⟩ := range_map_get L n i p hp
      obtain ⟨pv, lv, e1, e2, _⟩ := hL i hi
      refine ⟨pv, lv, fun j u hu => ?_, e2⟩
      rw [← e1] at hu
      have hj : j < 15 := by
        have := (List.getElem?_eq_some_iff.1 hu).1
        rw [(hel i hi).1] at this; exact this
      have h1 := flat_at CS n (fun i hi => (hel i hi).1) i hi j hj
      have h3 : i * 15 + j < ((List.range n).flatMap CS).length := by rw [hlen]; omega
      have h2 := hc (i * 15 + j) h3
      rw [Nat.add_assoc, h2, ← List.getElem?_eq_getElem h3, h1]
      exact hu
  · rcases hr with ⟨_, hv | ⟨a, c, hv⟩⟩ | ⟨b, off, cap, hv, _⟩
    · exact .inl hv
    · exact .inr ⟨_, _, _, hv⟩
    · exact .inr ⟨_, _, _, hv⟩
  · obtain ⟨i, hi, rfl⟩ := List.mem_map.1 hy
    have := List.mem_range.1 hi
    obtain ⟨_, _, _, _, h6⟩ := hL i this
    have h7 : Rows.uptoBulk (D i) ≤ ((List.range n).map fun i => Rows.uptoBulk (D i)).sum := mem_sum (List.mem_map.2 ⟨i, hi, rfl⟩)
    omega
end
set_option maxRecDepth 100000 in
set_option maxHeartbeats 400000 in
theorem open_itemV {H : Type} {enc : TypeId × Value → H} {W : World} {r : Reach} {b0 : Nat} {v : Value} {d : DataW H} {ps : List MemPlace}
    (hval : Value.okWide Tryd.prog W r b0 32 v) (hd : DataW.Trod enc Tryd.prog W 0 (fun _ => true) true 32 v d ps) :
    ∃ (y : It) (pv lv : Value), v = y.val pv lv ∧ ItOk W y pv lv ∧ lenI y + 1 ≤ Rows.uptoBulk d := by
  obtain ⟨cs, rfl, hcs⟩ := okWide_struct Tryd.underlying32 hval
  obtain ⟨fuel, hf⟩ := hd
  obtain ⟨y, pv, lv, e, hP, hb⟩ := open_item hf
  refine ⟨y, pv, lv, ?_, hP, hb⟩
  obtain ⟨cs⟩ := cs
  have e' : cs = y.cells pv lv := e
  rw [e']
  rfl
set_option maxRecDepth 100000 in
set_option maxHeartbeats 400000 in
theorem open_cardV {H : Type} {enc : TypeId × Value → H} {W : World} {r : Reach} {b0 : Nat} {v : Value} {d : DataW H} {ps : List MemPlace}
    (hval : Value.okWide Tryd.prog W r b0 24 v) (hd : DataW.Trod enc Tryd.prog W 0 (fun _ => true) true 24 v d ps) :
    ∃ (ver : Int) (iv : Value) (xs : List It), v = cardV ver iv ∧ IsItems W iv xs ∧ (iv = .slice none 0 0 ∨ ∃ a n c, iv = .slice (some a) n c) ∧ xs.length ≤ Rows.uptoBulk d ∧ (∀ y ∈ xs, lenI y ≤ Rows.uptoBulk d) ∧ (-9223372036854775808 ≤ ver ∧ ver ≤ 9223372036854775807) := by
  obtain ⟨cs, rfl, hcs⟩ := okWide_struct Tryd.underlying24 hval
  obtain ⟨fuel, hf⟩ := hd
  obtain ⟨xs, n, _, hx, hl, hlen, hfs⟩ := DataW.trod_struct Tryd.underlying24 hf
  have h2 : cs.size = 2 := hcs.trans (by kernel_rfl)
  have hxl : xs.length = 2 := hlen
  obtain ⟨cs⟩ := cs
  simp only [List.size_toArray] at h2
  match cs, h2 with
  | [c0, c1], _ =>
  match xs, hxl with
  | [x0, x1], _ =>
  have k0 := hfs 0 _ rfl
  have k1 := hfs 1 _ rfl
  obtain ⟨a0, e0, f0, w0⟩ := DataW.trod_int Tryd.underlying3 k0
  obtain ⟨iv, ys, e1, hI, hform, hn, hm⟩ := open_items k1
  have g0 : c0 = .int .i64 a0 := (List.cons.inj e0).1
  have g1 : c1 = iv := (List.cons.inj e1).1
  subst g0 g1
  have hd : d = .agg [x0.1, x1.1] := (Prod.mk.injEq _ _ _ _ ▸ hx).1
  have hbd : Rows.uptoBulk x1.1 ≤ Rows.uptoBulk d := by rw [hd]; simp only [Rows.uptoBulk, Rows.uptoBulkAll]; omega
  exact ⟨a0, _, ys, rfl, hI, hform, by omega, fun y hy => Nat.le_trans (hm y hy) hbd, in_int w0⟩

end Go.Proofs.YtniidkkldoijcaaDoor
