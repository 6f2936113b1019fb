/-
  Texts merged into one: Open, OpenLists, OpenParams.
-/
import Derived.Test.YtniidkkldoijcaaDoorSplit
import Derived.Deep.Slices
import Derived.Carry
import Derived.Test.YtniidkkldoijcaaDoorIsLists
import Derived.Test.YtniidkkldoijcaaDoorMWide
import Derived.ChangeArms
import Derived.ChangeSame
import Derived.WideShapes
namespace Go.Proofs.YtniidkkldoijcaaDoor
open Go.RowKit Go.ChangeShapes Go.WideShapes
set_option linter.unusedVariables false
set_option linter.unusedSimpArgs false

theorem flat_length {α : Type} {k : Nat} (CS : Nat → List α) : ∀ n, (∀ i, i < n → (CS i).length = k) → ((List.range n).flatMap CS).length = n * k := by
  intro n
  induction n with
  | zero => intro _; simp
  | succ n ih =>
    intro h
    rw [List.range_succ, List.flatMap_append, List.length_append, ih fun i hi => h i (by omega)]
    simp [h n (by omega), Nat.succ_mul]
theorem flat_at {α : Type} {k : Nat} (CS : Nat → List α) : ∀ n, (∀ i, i < n → (CS i).length = k) → ∀ i, i < n → ∀ j, j < k → ((List.range n).flatMap CS)[i * k + j]? = (CS i)[j]? := by
  intro n
  induction n with
  | zero => intro _ i hi; omega
  | succ n ih =>
    intro h i hi j hj
    have hl := flat_length CS n fun i hi => h i (by omega)
    rw [List.range_succ, List.flatMap_append]
    rcases Nat.lt_or_ge i n with hlt | hge
    · have : i * k + j < n * k := by
        have : (i + 1) * k ≤ n * k := Nat.mul_le_mul_right k hlt
        rw [Nat.succ_mul] at this; omega
      rw [List.getElem?_append_left (by omega)]
      exact ih (fun i hi => h i (by omega)) i hlt j hj
    · obtain rfl : i = n := by omega
      rw [List.getElem?_append_right (by omega), hl]
      simp
theorem lt_of_cell {w : World} {p : Addr} {v : Value} (h : w.cell? p = some v) : p.block < w.heap.size := World.block_lt_of_cell? w p h
theorem spot_of_cell {w : World} {p : Addr} {v : Value} (h : w.cell? p = some v) : p = ⟨p.block, p.off, none⟩ := by
  obtain ⟨b, o, s⟩ := p
  cases s with
  | none => rfl
  | some s =>
    unfold World.cell? at h
    split at h
    · simp at h
    · cases h

theorem addNone (b o j : Nat) : (⟨b, o, none⟩ : Addr).add j = ⟨b, o + j, none⟩ := by unfold Addr.add; split <;> simp_all
section
variable {H : Type} {enc : TypeId × Value → H} {w : World}
theorem bulkAll_range (D : Nat → DataW H) (n : Nat) : Rows.uptoBulkAll ((List.range n).map D) = ((List.range n).map fun i => Rows.uptoBulk (D i)).sum := by
  have key : ∀ l : List (DataW H), Rows.uptoBulkAll l = (l.map Rows.uptoBulk).sum := by
    intro l
    induction l with
    | nil => simp [Rows.uptoBulkAll]
    | cons a l ih => simp [Rows.uptoBulkAll, ih]
  rw [key, List.map_map]; rfl
theorem open_rows {t e : TypeId} {k fuel : Nat} {cs : List Value} {x : DataW H × List MemPlace} (ht : Tryd.prog.underlying t = some (.slice e)) (hk : Tryd.prog.cellsOf e = k) (hk0 : 0 < k)
    (hone : ∀ (m : Nat) (cs : List Value) (y : DataW H × List MemPlace), DataW.trod enc Tryd.prog w 0 (fun _ => true) true m e cs = some y → ∀ u ∈ cs, u.oneCell' = true)
    (h : DataW.trod enc Tryd.prog w 0 (fun _ => true) true fuel t cs = some x) :
    ∃ (v : Value) (n m : Nat) (CS : Nat → List Value) (D : Nat → DataW H), cs = [v] ∧ IsRow k w v n ((List.range n).flatMap CS) ∧ capOk v
      ∧ (∀ i, i < n → (CS i).length = k ∧ ∃ Pl, DataW.trod enc Tryd.prog w 0 (fun _ => true) true m e (CS i) = some (D i, Pl))
      ∧ 1 + ((List.range n).map fun i => Rows.uptoBulk (D i)).sum ≤ Rows.uptoBulk x.1 := by
  rcases Deep.open_slice ht h with ⟨rfl, rfl⟩ | ⟨a, len, cap, m, n, D, Pl, rfl, _, hl, hm, hmm, rfl, hx⟩
  · exact ⟨_, 0, 0, fun _ => [], fun _ => .nil, rfl, ⟨by simp, by simp, .inl ⟨rfl, .inl rfl⟩⟩, Nat.le_refl _, by omega, by simp [Rows.uptoBulk]⟩
  · have hmc : m = cap := by simpa using hmm
    subst hmc
    rw [hk] at hx
    obtain ⟨CS, hCS⟩ := Deep.choose_lt (α := List Value) (p := fun i c => w.cells? 0 (a.add (i * k)) k = some c ∧ DataW.trod enc Tryd.prog w 0 (fun _ => true) true n e c = some (D i, Pl i)) hx
    have hlen : ∀ i, i < len → (CS i).length = k := fun i hi => (World.cells?_some (hCS i (by omega)).1).2.1
    have hcell : ∀ i, i < len → ∀ j, j < k → w.cell? (a.add (i * k + j)) = (CS i)[j]? := fun i hi j hj => by
      have := (World.cells?_some (hCS i (by omega)).1).2.2 j hj
      rwa [Deep.add_add] at this
    have hbulk : 1 + ((List.range len).map fun i => Rows.uptoBulk (D i)).sum ≤ Rows.uptoBulk (DataW.slice ((List.range len).map D) ((List.range (m - len)).map fun j => D (len + j))) := by
      simp only [Rows.uptoBulk, bulkAll_range]; omega
    refine ⟨_, len, n, CS, D, rfl, ⟨flat_length CS len hlen, ?_, ?_⟩, hl, fun i hi => ⟨hlen i hi, Pl i, (hCS i (by omega)).2⟩, hbulk⟩
    · intro u hu
      obtain ⟨i, hi, hu⟩ := List.mem_flatMap.1 hu
      exact hone n (CS i) _ (hCS i (by have := List.mem_range.1 hi; omega)).2 u hu
    · rcases Nat.eq_zero_or_pos len with h0 | h0
      · subst h0; exact .inl ⟨rfl, .inr ⟨_, _, rfl⟩⟩
      · right
        have h1 := hcell 0 h0 0 hk0
        rw [List.getElem?_eq_getElem (by rw [hlen 0 h0]; exact hk0)] at h1
        have e0 : a.add (0 * k + 0) = a := by simp [Addr.add]
        rw [e0] at h1
        have hs := spot_of_cell h1
        refine ⟨a.block, a.off, m, by rw [← hs], lt_of_cell h1, h0, fun q hq => ?_⟩
        have hql : q < len * k := by rw [flat_length CS len hlen] at hq; exact hq
        have hi : q / k < len := Nat.div_lt_of_lt_mul (by rw [Nat.mul_comm]; exact hql)
        have hj : q % k < k := Nat.mod_lt _ hk0
        have e : q / k * k + q % k = q := by rw [Nat.mul_comm]; exact Nat.div_add_mod q k
        have c1 := hcell _ hi _ hj
        have c2 := flat_at CS len hlen _ hi _ hj
        rw [e] at c1 c2
        rw [List.getElem?_eq_getElem hq] at c2
        rw [← c2] at c1
        rw [← c1, hs, addNone]
theorem open_str {t : TypeId} {fuel : Nat} {cs : List Value} {x : DataW H × List MemPlace} (ht : Tryd.prog.underlying t = some .string) (h : DataW.trod enc Tryd.prog w 0 (fun _ => true) true fuel t cs = some x) : ∃ l, cs = [.string (S l)] ∧ l.length + 1 = Rows.uptoBulk x.1 := by
  obtain ⟨s, rfl, rfl, _⟩ := DataW.trod_string ht h
  obtain ⟨l, rfl⟩ := S_of s
  exact ⟨l, rfl, by simp [Rows.uptoBulk]⟩
theorem range_map_get {α : Type} (L : Nat → α) (n i : Nat) (x : α) (h : ((List.range n).map L)[i]? = some x) : i < n ∧ L i = x := by
  rw [List.getElem?_map] at h
  rcases Nat.lt_or_ge i n with hi | hi
  · rw [List.getElem?_range hi] at h
    exact ⟨hi, by simpa using h⟩
  · rw [List.getElem?_eq_none (by simpa using hi)] at h; cases h
theorem flat_one (CS : Nat → List Value) (V : Nat → Value) (n : Nat) (h : ∀ i, i < n → CS i = [V i]) : (List.range n).flatMap CS = (List.range n).map V := by
  induction n with
  | zero => rfl
  | succ n ih => rw [List.range_succ, List.flatMap_append, List.map_append, ih fun i hi => h i (by omega)]; simp [h n (by omega)]
theorem sum_le_sum (f g : Nat → Nat) (n : Nat) (h : ∀ i, i < n → f i ≤ g i) : ((List.range n).map f).sum ≤ ((List.range n).map g).sum := by
  induction n with
  | zero => simp
  | succ n ih =>
    rw [List.range_succ, List.map_append, List.map_append, List.sum_append, List.sum_append]
    have := ih fun i hi => h i (by omega)
    have := h n (by omega)
    simp; omega
/-- so many values and letters, at least -/
def lensL (ls : List (List UInt8)) : Nat := (ls.map fun l => l.length + 1).sum
theorem open_strs {t e : TypeId} {fuel : Nat} {cs : List Value} {x : DataW H × List MemPlace} (ht : Tryd.prog.underlying t = some (.slice e)) (he : Tryd.prog.underlying e = some .string) (hk : Tryd.prog.cellsOf e = 1)
    (h : DataW.trod enc Tryd.prog w 0 (fun _ => true) true fuel t cs = some x) : ∃ v ls, cs = [v] ∧ IsStrs w v ls ∧ lensL ls + 1 ≤ Rows.uptoBulk x.1 := by
  obtain ⟨v, n, m, CS, D, rfl, hrow, hcap, hel, hb⟩ := open_rows ht hk (by omega) (fun m cs y hy u hu => by
    obtain ⟨l, rfl, _⟩ := open_str he hy
    rw [List.mem_singleton.1 hu]; rfl) h
  obtain ⟨L, hL⟩ := Deep.choose_lt (α := List UInt8) (p := fun i l => CS i = [.string (S l)] ∧ l.length + 1 = Rows.uptoBulk (D i)) (fun i hi => by
    obtain ⟨_, Pl, hp⟩ := hel i hi
    exact open_str he hp)
  rw [flat_one CS (fun i => .string (S (L i))) n fun i hi => (hL i hi).1] at hrow
  refine ⟨v, (List.range n).map L, rfl, ⟨?_, hcap⟩, ?_⟩
  · have e1 : ((List.range n).map L).length = n := by simp
    have e2 : (((List.range n).map L).map fun l => Value.string (S l)) = (List.range n).map fun i => Value.string (S (L i)) := by rw [List.map_map]; rfl
    rw [e1, e2]; exact hrow
  · have e3 : lensL ((List.range n).map L) = ((List.range n).map fun i => (L i).length + 1).sum := by unfold lensL; rw [List.map_map]; rfl
    have := sum_le_sum (fun i => (L i).length + 1) (fun i => Rows.uptoBulk (D i)) n fun i hi => Nat.le_of_eq (hL i hi).2
    rw [e3]; omega
theorem sum_bulk {d : List (DataW H)} (hk : Rows.uptoSmall H d = true) : Rows.uptoBulkAll d ≤ 1048576 := of_decide_eq_true hk
end

end Go.Proofs.YtniidkkldoijcaaDoor

namespace Go.Proofs.YtniidkkldoijcaaDoor
open Go.RowKit Go.ChangeShapes Go.WideShapes
set_option linter.unusedVariables false
set_option linter.unusedSimpArgs false

section
variable {H : Type} {enc : TypeId × Value → H} {w : World}
theorem open_lists {t e s : TypeId} {fuel : Nat} {cs : List Value} {x : DataW H × List MemPlace} (ht : Tryd.prog.underlying t = some (.slice e)) (he : Tryd.prog.underlying e = some (.slice s)) (hs : Tryd.prog.underlying s = some .string) (hk : Tryd.prog.cellsOf e = 1) (hk1 : Tryd.prog.cellsOf s = 1)
    (h : DataW.trod enc Tryd.prog w 0 (fun _ => true) true fuel t cs = some x) : ∃ v ls, cs = [v] ∧ IsLists w v ls ∧ sumP ls + 1 ≤ Rows.uptoBulk x.1 := by
  obtain ⟨v, n, m, CS, D, rfl, hrow, hcap, hel, hb⟩ := open_rows ht hk (by omega) (fun m cs y hy u hu => by
    obtain ⟨v, l, rfl, hl, _⟩ := open_strs he hs hk1 hy
    obtain ⟨a, c, e, _⟩ := hl.len
    rw [List.mem_singleton.1 hu, e]; rfl) h
  obtain ⟨V, hV⟩ := Deep.choose_lt (α := Value) (p := fun i v => ∃ ls, CS i = [v] ∧ IsStrs w v ls ∧ lensL ls + 1 ≤ Rows.uptoBulk (D i)) (fun i hi => by
    obtain ⟨_, Pl, hp⟩ := hel i hi
    exact open_strs he hs hk1 hp)
  obtain ⟨L, hL⟩ := Deep.choose_lt (α := List (List UInt8)) (p := fun i ls => CS i = [V i] ∧ IsStrs w (V i) ls ∧ lensL ls + 1 ≤ Rows.uptoBulk (D i)) hV
  rw [flat_one CS V n fun i hi => (hL i hi).1] at hrow
  refine ⟨v, (List.range n).map L, rfl, ⟨(List.range n).map V, by simpa using hrow, hcap, fun i l hl => ?_⟩, ?_⟩
  · obtain ⟨hi, rfl⟩ := range_map_get L n i l hl
    exact ⟨V i, by simp [List.getElem?_range hi], (hL i hi).2.1⟩
  · have e3 : sumP ((List.range n).map L) = ((List.range n).map fun i => lensL (L i) + 1).sum := by unfold sumP; rw [List.map_map]; rfl
    have := sum_le_sum (fun i => lensL (L i) + 1) (fun i => Rows.uptoBulk (D i)) n fun i hi => (hL i hi).2.2
    rw [e3]; omega
end

end Go.Proofs.YtniidkkldoijcaaDoor

namespace Go.Proofs.YtniidkkldoijcaaDoor
open Go.RowKit Go.ChangeShapes Go.WideShapes
set_option linter.unusedVariables false
set_option linter.unusedSimpArgs false

theorem lensL_split (x : List (List UInt8)) : lensL x = x.length + (x.map List.length).sum := by
  unfold lensL
  induction x with
  | nil => rfl
  | cons a x ih => simp only [List.map_cons, List.sum_cons, List.length_cons, ih]; omega
section
variable {H : Type} {enc : TypeId × Value → H} {w : World}
set_option maxRecDepth 100000 in
set_option maxHeartbeats 400000 in
theorem open_param {fuel : Nat} {cs : List Value} {x : DataW H × List MemPlace} (h : DataW.trod enc Tryd.prog w 0 (fun _ => true) true fuel 52 cs = some x) :
    ∃ (p : Pm) (sv : Value), cs = [.string (S p.1), sv] ∧ IsStrs w sv p.2 ∧ lensP p + 2 ≤ Rows.uptoBulk x.1 := by
  obtain ⟨xs, n, _, hx, hl, hlen, hfs⟩ := DataW.trod_struct Tryd.underlying52 h
  have hxl : xs.length = 2 := hlen
  have h2 : cs.length = 2 := hl.trans (by kernel_rfl)
  match cs, h2 with
  | [c0, c1], _ =>
  match xs, hxl with
  | [x0, x1], _ =>
  have k0 := hfs 0 _ rfl
  have k1 := hfs 1 _ rfl
  obtain ⟨l, e0, z0⟩ := open_str Tryd.underlying9 k0
  obtain ⟨sv, ls, e1, hL, z1⟩ := open_strs Tryd.underlying43 Tryd.underlying9 (by kernel_rfl) k1
  have g0 : c0 = .string (S l) := (List.cons.inj e0).1
  have g1 : c1 = sv := (List.cons.inj e1).1
  subst g0 g1
  refine ⟨(l, ls), _, rfl, hL, ?_⟩
  have hd : x.1 = .agg [x0.1, x1.1] := (Prod.mk.injEq _ _ _ _ ▸ hx).1
  rw [hd]
  have := lensL_split ls
  simp only [Rows.uptoBulk, Rows.uptoBulkAll, lensP]
  omega
theorem open_params_form {fuel : Nat} {cs : List Value} {x : DataW H × List MemPlace} (h : DataW.trod enc Tryd.prog w 0 (fun _ => true) true fuel 25 cs = some x) :
    ∃ v, cs = [v] ∧ (v = .slice none 0 0 ∨ ∃ a n c, v = .slice (some a) n c) := by
  obtain ⟨v, n, m, CS, D, rfl, hrow, hcap, hel, hb⟩ := open_rows (k := 2) Tryd.underlying25 (by kernel_rfl) (by omega) (fun m cs y hy u hu => by
    obtain ⟨p, sv, rfl, hs, _⟩ := open_param hy
    obtain ⟨a, c, e, _⟩ := hs.len
    simp only [List.mem_cons, List.mem_nil_iff, or_false] at hu
    rcases hu with rfl | rfl
    · rfl
    · rw [e]; rfl) h
  obtain ⟨_, _, hr⟩ := hrow
  refine ⟨v, rfl, ?_⟩
  rcases hr with ⟨_, hv | ⟨a, c, hv⟩⟩ | ⟨b, off, cap, hv, _⟩
  · exact .inl hv
  · exact .inr ⟨_, _, _, hv⟩
  · exact .inr ⟨_, _, _, hv⟩
theorem open_params {fuel : Nat} {cs : List Value} {x : DataW H × List MemPlace} (h : DataW.trod enc Tryd.prog w 0 (fun _ => true) true fuel 25 cs = some x) :
    ∃ v ps, cs = [v] ∧ IsParams w v ps ∧ wideN ps + 1 ≤ Rows.uptoBulk x.1 := by
  obtain ⟨v, n, m, CS, D, rfl, hrow, hcap, hel, hb⟩ := open_rows (k := 2) Tryd.underlying25 (by kernel_rfl) (by omega) (fun m cs y hy u hu => by
    obtain ⟨p, sv, rfl, hs, _⟩ := open_param hy
    obtain ⟨a, c, e, _⟩ := hs.len
    simp only [List.mem_cons, List.mem_nil_iff, or_false] at hu
    rcases hu with rfl | rfl
    · rfl
    · rw [e]; rfl) h
  obtain ⟨L, hL⟩ := Deep.choose_lt (α := Pm) (p := fun i p => ∃ sv, CS i = [.string (S p.1), sv] ∧ IsStrs w sv p.2 ∧ lensP p + 2 ≤ Rows.uptoBulk (D i)) (fun i hi => by
    obtain ⟨_, Pl, hp⟩ := hel i hi
    exact open_param hp)
  obtain ⟨hlen, hone, hr⟩ := hrow
  have hll : ((List.range n).map L).length = n := by simp
  refine ⟨v, (List.range n).map L, rfl, ?_, ?_⟩
  · rcases hr with ⟨rfl, hv⟩ | ⟨b, off, cap, rfl, hbl, hn, hc⟩
    · rcases hv with rfl | ⟨a, c, rfl⟩
      · exact ⟨_, _, rfl, by simp, fun h => absurd rfl h⟩
      · exact ⟨_, _, rfl, by simp, fun h => absurd rfl h⟩
    · refine ⟨_, _, by rw [hll], by rw [hll]; exact hcap, fun _ => ⟨b, off, rfl, hbl, fun i p hp => ?_⟩⟩
      obtain ⟨hi, rfl⟩ := range_map_get L n i p hp
      obtain ⟨sv, e1, e2, _⟩ := hL i hi
      have hcell : ∀ j, j < 2 → w.cell? ⟨b, off + (i * 2 + j), none⟩ = (CS i)[j]? := fun j hj => by
        have h1 := flat_at CS n (fun i hi => (hel i hi).1) i hi j hj
        have h3 : i * 2 + j < ((List.range n).flatMap CS).length := by rw [hlen]; omega
        have h2 := hc (i * 2 + j) h3
        rw [h2, ← h1, List.getElem?_eq_getElem h3]
      have h0 := hcell 0 (by decide)
      have h1 := hcell 1 (by decide)
      rw [e1] at h0 h1
      exact ⟨sv, by simpa using h0, by simpa [Nat.add_assoc] using h1, e2⟩
  · have e3 : wideN ((List.range n).map L) = n + ((List.range n).map fun i => lensP (L i)).sum := by unfold wideN; rw [List.map_map, hll]; rfl
    have h4 := sum_le_sum (fun i => lensP (L i) + 1) (fun i => Rows.uptoBulk (D i)) n fun i hi => by obtain ⟨sv, _, _, h⟩ := hL i hi; omega
    have h5 : ((List.range n).map fun i => lensP (L i) + 1).sum = n + ((List.range n).map fun i => lensP (L i)).sum := by
      clear h4 e3 hll hr hone hlen hb hel h hL
      induction n with
      | zero => rfl
      | succ n ih => rw [List.range_succ, List.map_append, List.map_append, List.sum_append, List.sum_append, ih]; simp; omega
    rw [e3]; omega
end

set_option maxRecDepth 100000 in
set_option maxHeartbeats 400000 in
theorem open_paramV {H : Type} {enc : TypeId × Value → H} {W : World} {r : Reach} {b0 : Nat} {v : Value} {d : DataW H} {ps : List MemPlace}
    (hval : Value.okWide Tryd.prog W r b0 52 v) (hd : DataW.Trod enc Tryd.prog W 0 (fun _ => true) true 52 v d ps) :
    ∃ (p : Pm) (sv : Value), v = .agg #[.string (S p.1), sv] ∧ IsStrs W sv p.2 ∧ lensP p + 2 ≤ Rows.uptoBulk d := by
  obtain ⟨cs, rfl, hcs⟩ := okWide_struct Tryd.underlying52 hval
  obtain ⟨fuel, hf⟩ := hd
  obtain ⟨p, sv, e, hs, hb⟩ := open_param hf
  refine ⟨p, sv, ?_, hs, hb⟩
  obtain ⟨cs⟩ := cs
  have e' : cs = [.string (S p.1), sv] := e
  rw [e']

end Go.Proofs.YtniidkkldoijcaaDoor
