/-
  An api.Param, and a slice of these, as arguments, opened. Plain.
-/
import Derived.Test.YtpfenaeaegdeaaaDoorOpen
import Derived.Test.YtpfenaeaegdeaaaDoorWide
import Derived.ChangeArms
import Derived.ChangeSame
import Derived.WideShapes
import Derived.Carry
namespace Go.Proofs.YtpfenaeaegdeaaaDoor
open Go.RowKit Go.ChangeShapes Go.WideShapes
set_option linter.unusedVariables false
set_option linter.unusedSimpArgs false

theorem lensL_split (x : List (List UInt8)) : lensL x = x.length + (x.map List.length).sum := by
  unfold lensL
  induction x with
  | nil => rfl
  | cons a x ih => simp only [List.map_cons, List.sum_cons, List.length_cons, ih]; omega
section
variable {H : Type} {enc : TypeId × Value → H} {w : World}
set_option maxRecDepth 100000 in
set_option maxHeartbeats 400000 in
theorem open_param {fuel : Nat} {cs : List Value} {x : DataW H × List MemPlace} (h : DataW.trod enc Tryd.prog w 0 (fun _ => true) true fuel 35 cs = some x) :
    ∃ (p : Pm) (sv : Value), cs = [.string (S p.1), sv] ∧ IsStrs w sv p.2 ∧ lensP p + 2 ≤ Rows.uptoBulk x.1 := by
  obtain ⟨xs, n, _, hx, hl, hlen, hfs⟩ := DataW.trod_struct Tryd.underlying35 h
  have hxl : xs.length = 2 := hlen
  have h2 : cs.length = 2 := hl.trans (by kernel_rfl)
  match cs, h2 with
  | [c0, c1], _ =>
  match xs, hxl with
  | [x0, x1], _ =>
  have k0 := hfs 0 _ rfl
  have k1 := hfs 1 _ rfl
  obtain ⟨l, e0, z0⟩ := open_str Tryd.underlying9 k0
  obtain ⟨sv, ls, e1, hL, z1⟩ := open_strs Tryd.underlying33 Tryd.underlying9 (by kernel_rfl) k1
  have g0 : c0 = .string (S l) := (List.cons.inj e0).1
  have g1 : c1 = sv := (List.cons.inj e1).1
  subst g0 g1
  refine ⟨(l, ls), _, rfl, hL, ?_⟩
  have hd : x.1 = .agg [x0.1, x1.1] := (Prod.mk.injEq _ _ _ _ ▸ hx).1
  rw [hd]
  have := lensL_split ls
  simp only [Rows.uptoBulk, Rows.uptoBulkAll, lensP]
  omega
theorem open_params_form {fuel : Nat} {cs : List Value} {x : DataW H × List MemPlace} (h : DataW.trod enc Tryd.prog w 0 (fun _ => true) true fuel 36 cs = some x) :
    ∃ v, cs = [v] ∧ (v = .slice none 0 0 ∨ ∃ a n c, v = .slice (some a) n c) := by
  obtain ⟨v, n, m, CS, D, rfl, hrow, hcap, hel, hb⟩ := open_rows (k := 2) Tryd.underlying36 (by kernel_rfl) (by omega) (fun m cs y hy u hu => by
    obtain ⟨p, sv, rfl, hs, _⟩ := open_param hy
    obtain ⟨a, c, e, _⟩ := hs.len
    simp only [List.mem_cons, List.mem_nil_iff, or_false] at hu
    rcases hu with rfl | rfl
    · rfl
    · rw [e]; rfl) h
  obtain ⟨_, _, hr⟩ := hrow
  refine ⟨v, rfl, ?_⟩
  rcases hr with ⟨_, hv | ⟨a, c, hv⟩⟩ | ⟨b, off, cap, hv, _⟩
  · exact .inl hv
  · exact .inr ⟨_, _, _, hv⟩
  · exact .inr ⟨_, _, _, hv⟩
theorem open_params {fuel : Nat} {cs : List Value} {x : DataW H × List MemPlace} (h : DataW.trod enc Tryd.prog w 0 (fun _ => true) true fuel 36 cs = some x) :
    ∃ v ps, cs = [v] ∧ IsParams w v ps ∧ wideN ps + 1 ≤ Rows.uptoBulk x.1 := by
  obtain ⟨v, n, m, CS, D, rfl, hrow, hcap, hel, hb⟩ := open_rows (k := 2) Tryd.underlying36 (by kernel_rfl) (by omega) (fun m cs y hy u hu => by
    obtain ⟨p, sv, rfl, hs, _⟩ := open_param hy
    obtain ⟨a, c, e, _⟩ := hs.len
    simp only [List.mem_cons, List.mem_nil_iff, or_false] at hu
    rcases hu with rfl | rfl
    · rfl
    · rw [e]; rfl) h
  obtain ⟨L, hL⟩ := Deep.choose_lt (α := Pm) (p := fun i p => ∃ sv, CS i = [.string (S p.1), sv] ∧ IsStrs w sv p.2 ∧ lensP p + 2 ≤ Rows.uptoBulk (D i)) (fun i hi => by
    obtain ⟨_, Pl, hp⟩ := hel i hi
    exact open_param hp)
  obtain ⟨hlen, hone, hr⟩ := hrow
  have hll : ((List.range n).map L).length = n := by simp
  refine ⟨v, (List.range n).map L, rfl, ?_, ?_⟩
  · rcases hr with ⟨rfl, hv⟩ | ⟨b, off, cap, rfl, hbl, hn, hc⟩
    · rcases hv with rfl | ⟨a, c, rfl⟩
      · exact ⟨_, _, rfl, by simp, fun h => absurd rfl h⟩
      · exact ⟨_, _, rfl, by simp, fun h => absurd rfl h⟩
    · refine ⟨_, _, by rw [hll], by rw [hll]; exact hcap, fun _ => ⟨b, off, rfl, hbl, fun i p hp => ?_⟩⟩
      obtain ⟨hi, rfl⟩ := range_map_get L n i p hp
      obtain ⟨sv, e1, e2, _⟩ := hL i hi
      have hcell : ∀ j, j < 2 → w.cell? ⟨b, off + (i * 2 + j), none⟩ = (CS i)[j]? := fun j hj => by
        have h1 := flat_at CS n (fun i hi => (hel i hi).1) i hi j hj
        have h3 : i * 2 + j < ((List.range n).flatMap CS).length := by rw [hlen]; omega
        have h2 := hc (i * 2 + j) h3
        rw [h2, ← h1, List.getElem?_eq_getElem h3]
      have h0 := hcell 0 (by decide)
      have h1 := hcell 1 (by decide)
      rw [e1] at h0 h1
      exact ⟨sv, by simpa using h0, by simpa [Nat.add_assoc] using h1, e2⟩
  · have e3 : wideN ((List.range n).map L) = n + ((List.range n).map fun i => lensP (L i)).sum := by unfold wideN; rw [List.map_map, hll]; rfl
    have h4 := sum_le_sum (fun i => lensP (L i) + 1) (fun i => Rows.uptoBulk (D i)) n fun i hi => by obtain ⟨sv, _, _, h⟩ := hL i hi; omega
    have h5 : ((List.range n).map fun i => lensP (L i) + 1).sum = n + ((List.range n).map fun i => lensP (L i)).sum := by
      clear h4 e3 hll hr hone hlen hb hel h hL
      induction n with
      | zero => rfl
      | succ n ih => rw [List.range_succ, List.map_append, List.map_append, List.sum_append, List.sum_append, ih]; simp; omega
    rw [e3]; omega
end

set_option maxRecDepth 100000 in
set_option maxHeartbeats 400000 in
theorem open_paramV {H : Type} {enc : TypeId × Value → H} {W : World} {r : Reach} {b0 : Nat} {v : Value} {d : DataW H} {ps : List MemPlace}
    (hval : Value.okWide Tryd.prog W r b0 35 v) (hd : DataW.Trod enc Tryd.prog W 0 (fun _ => true) true 35 v d ps) :
    ∃ (p : Pm) (sv : Value), v = .agg #[.string (S p.1), sv] ∧ IsStrs W sv p.2 ∧ lensP p + 2 ≤ Rows.uptoBulk d := by
  obtain ⟨cs, rfl, hcs⟩ := okWide_struct Tryd.underlying35 hval
  obtain ⟨fuel, hf⟩ := hd
  obtain ⟨p, sv, e, hs, hb⟩ := open_param hf
  refine ⟨p, sv, ?_, hs, hb⟩
  obtain ⟨cs⟩ := cs
  have e' : cs = [.string (S p.1), sv] := e
  rw [e']

end Go.Proofs.YtpfenaeaegdeaaaDoor
