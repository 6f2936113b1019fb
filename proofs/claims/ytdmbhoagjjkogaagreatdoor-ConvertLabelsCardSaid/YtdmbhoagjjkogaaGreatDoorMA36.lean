/-
  Texts merged into one: Params, Items, RulesOf.
-/
import Derived.Test.YtdmbhoagjjkogaaGreatDoorMA44
import Derived.Test.YtdmbhoagjjkogaaGreatDoorMA56
import Derived.Test.YtdmbhoagjjkogaaGreatDoorMA40
import Derived.Shelf.SlicesQ.Load
import Derived.LoopIn
import Derived.RangeFuncBound
import Derived.RangeFuncCalls
import Derived.Lib.AppendIntMem
import Derived.TacticsIn
import Derived.RegionIn
import Derived.Shelf.RegionOpen
namespace Go.Proofs.YtdmbhoagjjkogaaGreatDoor
open Go.RowKit
set_option linter.unusedVariables false
set_option linter.unusedSimpArgs false
abbrev Pm := List UInt8 × List (List UInt8)
def IsParams (w : World) (v : Value) (ps : List Pm) : Prop :=
  ∃ a cap, v = .slice a ps.length cap ∧ ps.length ≤ cap ∧ (ps ≠ [] → ∃ b off, a = some ⟨b, off, none⟩ ∧ b < w.heap.size ∧
    ∀ (i : Nat) (p : Pm), ps[i]? = some p → ∃ sv, w.cell? ⟨b, off + i * 2, none⟩ = some (.string (S p.1)) ∧ w.cell? ⟨b, off + i * 2 + 1, none⟩ = some sv ∧ IsStrs w sv p.2)
theorem IsParams.grow {w w' : World} {v : Value} {ps : List Pm} (h : IsParams w v ps) (g : G w w') : IsParams w' v ps := by
  obtain ⟨a, cap, e, hc, h⟩ := h
  refine ⟨a, cap, e, hc, fun h0 => ?_⟩
  obtain ⟨b, off, e2, hb, h⟩ := h h0
  refine ⟨b, off, e2, Nat.lt_of_lt_of_le hb g.size, fun i p hp => ?_⟩
  obtain ⟨sv, h1, h2, h3⟩ := h i p hp
  exact ⟨sv, by rw [g.cell hb]; exact h1, by rw [g.cell hb]; exact h2, h3.grow g⟩
def findL (ps : List Pm) (s : List UInt8) : Option Nat := ps.findIdx? fun p => sameL p.1 s
def findV (o : Option Nat) : Int := match o with | none => -1 | some k => (k : Int)
theorem find_at {ps : List Pm} {s : List UInt8} {k : Nat} (h : k < ps.length) (hp : sameL (ps[k]).1 s = true) (hn : ∀ j (h : j < k), sameL (ps[j]'(by omega)).1 s = false) : findL ps s = some k := by
  unfold findL
  rw [List.findIdx?_eq_some_iff_getElem]
  exact ⟨h, hp, fun j hj => by simp [hn j hj]⟩
theorem find_none {ps : List Pm} {s : List UInt8} (hn : ∀ j (h : j < ps.length), sameL (ps[j]).1 s = false) : findL ps s = none := by
  unfold findL
  rw [List.findIdx?_eq_none_iff]
  intro p hp
  obtain ⟨j, hj, rfl⟩ := List.mem_iff_getElem.1 hp
  exact hn j hj
set_option maxRecDepth 100000 in
set_option maxHeartbeats 1000000 in
theorem find_any (v : Value) (ps : List Pm) (s : List UInt8) (w : World) (h : IsParams w v ps) (hl : ps.length ≤ 1000000) (hp : ∀ p ∈ ps, p.1.length ≤ 1000000) (hs : s.length ≤ 1000000) : Gives 13 #[v, .string (S s)] w (.int .i64 (findV (findL ps s))) := by
  have H := hid h
  obtain ⟨a, cap, rfl, _, _⟩ := h
  have HP := hid hp
  clear hp
  go_enter Tryz.func13, Tryz.ntmps13
  go_wp2_with fail
  go_loopw [9] (fun i wr => ∃ k : Nat, k ≤ ps.length ∧ i = .int .i64 k ∧ (∀ j (h : j < ps.length), j < k → sameL (ps[j]).1 s = false) ∧ G w wr) (fun i _ => ps.length - (intOf i).toNat)
  case atStart => exact ⟨0, Nat.zero_le _, rfl, fun j _ h => by omega, G.refl _⟩
  case round =>
    obtain ⟨k, hk, rfl, hn, gr⟩ := hrel
    have HN := hid hn
    have GR := hid gr
    clear hn gr
    by_cases hlt : k < ps.length
    · obtain ⟨a2, cap2, e1, _, hc⟩ := (H.out.grow GR.out)
      obtain ⟨b, off, e2, hb, hcc⟩ := hc (by rintro rfl; simp at hlt)
      clear hc
      simp only [Value.slice.injEq, true_and] at e1
      obtain ⟨rfl, rfl⟩ := e1
      subst e2
      obtain ⟨sv, c1, c2, c3⟩ := hcc k _ (List.getElem?_eq_getElem hlt)
      have hpl := HP.out _ (List.getElem_mem hlt)
      obtain ⟨p, hpe⟩ : ∃ p, ps[k] = p := ⟨_, rfl⟩
      have HPE := hid hpe
      rw [hpe] at c1 c3 hpl
      have hone := c3.len
      obtain ⟨sa, sc, rfl, _⟩ := hone
      clear hcc c3 hpe
      go_wp2_with fail
      refine (same_any p.1 s _ (by omega) (by omega)).use ?_
      intro w2 g2
      have G2 : Hid (G w w2) := hid (GR.out.trans (G.trans ((G.refl _).alloc _) g2))
      clear g2
      cases hsm : sameL p.1 s with
      | true =>
        have HF : Hid (findL ps s = some k) := hid (find_at hlt (by rw [HPE.out]; exact hsm) fun j hj => HN.out j (by omega) hj)
        go_wp2_with fail
        go_ret
        exact ⟨ret_int (by rw [HF.out]; rfl), G2.out⟩
      | false =>
        have HF : Hid (∀ j (h : j < ps.length), j < k + 1 → sameL (ps[j]).1 s = false) := hid (fun j h hj => by
          rcases Nat.lt_or_ge j k with h1 | h1
          · exact HN.out j h h1
          · obtain rfl : j = k := by omega
            rw [HPE.out]; exact hsm)
        clear hsm
        go_wp2_with fail
        go_roundw
        case rel => exact ⟨k + 1, by omega, by go_num, HF.out, G2.out⟩
        case measure => simp [intOf]; omega
    · obtain rfl : k = ps.length := by omega
      have HF : Hid (findL ps s = none) := hid (find_none fun j h => HN.out j h h)
      go_wp2_with fail
      go_ret
      exact ⟨ret_int (by rw [HF.out]; rfl), GR.out⟩
end Go.Proofs.YtdmbhoagjjkogaaGreatDoor

namespace Go.Proofs.YtdmbhoagjjkogaaGreatDoor
open Go.RowKit
set_option linter.unusedVariables false
set_option linter.unusedSimpArgs false
structure It where
  g : List UInt8
  n : List UInt8
  ps : List Pm
  v : Vl
def Vl.cells (x : Vl) (lv : Value) : List Value := [.int .i64 x.ty, .string (S x.tx), lv, .int .i64 x.st.y, .int .i64 x.st.m, .int .i64 x.st.d, .int .i64 x.st.h, .int .i64 x.st.n, .int .i64 x.st.s, .bool x.st.zd, .int .i64 x.st.zn, .int .i64 x.n]
def It.cells (x : It) (pv lv : Value) : List Value := [.string (S x.g), .string (S x.n), pv, .int .i64 x.v.ty, .string (S x.v.tx), lv, .int .i64 x.v.st.y, .int .i64 x.v.st.m, .int .i64 x.v.st.d, .int .i64 x.v.st.h, .int .i64 x.v.st.n, .int .i64 x.v.st.s, .bool x.v.st.zd, .int .i64 x.v.st.zn, .int .i64 x.v.n]
abbrev It.val (x : It) (pv lv : Value) : Value := .agg #[.string (S x.g), .string (S x.n), pv, .int .i64 x.v.ty, .string (S x.v.tx), lv, .int .i64 x.v.st.y, .int .i64 x.v.st.m, .int .i64 x.v.st.d, .int .i64 x.v.st.h, .int .i64 x.v.st.n, .int .i64 x.v.st.s, .bool x.v.st.zd, .int .i64 x.v.st.zn, .int .i64 x.v.n]
structure ItOk (w : World) (x : It) (pv lv : Value) : Prop where
  p : IsParams w pv x.ps
  l : IsLists w lv x.v.ps
  f : pv = .slice none 0 0 ∨ ∃ a n c, pv = .slice (some a) n c
  y : -9223372036854775808 ≤ x.v.st.y ∧ x.v.st.y ≤ 9223372036854775807
  t : -9223372036854775808 ≤ x.v.ty ∧ x.v.ty ≤ 9223372036854775807
theorem ItOk.grow {w w' : World} {x : It} {pv lv : Value} (h : ItOk w x pv lv) (g : G w w') : ItOk w' x pv lv := ⟨h.p.grow g, h.l.grow g, h.f, h.y, h.t⟩
theorem ItOk.pv {w : World} {x : It} {pv lv : Value} (h : ItOk w x pv lv) : ∃ a c, pv = .slice a x.ps.length c := by obtain ⟨a, c, e, _⟩ := h.p; exact ⟨a, c, e⟩
theorem ItOk.lv {w : World} {x : It} {pv lv : Value} (h : ItOk w x pv lv) : ∃ a c, lv = .slice a x.v.ps.length c := by obtain ⟨a, c, e, _⟩ := h.l.len; exact ⟨a, c, e⟩
structure ItAt (w : World) (b o : Nat) (x : It) (pv lv : Value) : Prop where
  c : ∀ (j : Nat) (u : Value), (x.cells pv lv)[j]? = some u → w.cell? ⟨b, o + j, none⟩ = some u
  ok : ItOk w x pv lv
theorem ItAt.grow {w w' : World} {b o : Nat} {x : It} {pv lv : Value} (h : ItAt w b o x pv lv) (hb : b < w.heap.size) (g : G w w') : ItAt w' b o x pv lv :=
  ⟨fun j u hu => by rw [g.cell hb]; exact h.c j u hu, h.ok.grow g⟩
theorem ItAt.e {w : World} {b o : Nat} {x : It} {pv lv : Value} (h : ItAt w b o x pv lv) : w.cell? ⟨b, o, none⟩ = some (.string (S x.g)) ∧ w.cell? ⟨b, o + 1, none⟩ = some (.string (S x.n)) ∧ w.cell? ⟨b, o + 2, none⟩ = some (pv) ∧ w.cell? ⟨b, o + 3, none⟩ = some (.int .i64 x.v.ty) ∧ w.cell? ⟨b, o + 4, none⟩ = some (.string (S x.v.tx)) ∧ w.cell? ⟨b, o + 5, none⟩ = some (lv) ∧ w.cell? ⟨b, o + 6, none⟩ = some (.int .i64 x.v.st.y) ∧ w.cell? ⟨b, o + 7, none⟩ = some (.int .i64 x.v.st.m) ∧ w.cell? ⟨b, o + 8, none⟩ = some (.int .i64 x.v.st.d) ∧ w.cell? ⟨b, o + 9, none⟩ = some (.int .i64 x.v.st.h) ∧ w.cell? ⟨b, o + 10, none⟩ = some (.int .i64 x.v.st.n) ∧ w.cell? ⟨b, o + 11, none⟩ = some (.int .i64 x.v.st.s) ∧ w.cell? ⟨b, o + 12, none⟩ = some (.bool x.v.st.zd) ∧ w.cell? ⟨b, o + 13, none⟩ = some (.int .i64 x.v.st.zn) ∧ w.cell? ⟨b, o + 14, none⟩ = some (.int .i64 x.v.n) :=
  ⟨h.c 0 _ rfl, h.c 1 _ rfl, h.c 2 _ rfl, h.c 3 _ rfl, h.c 4 _ rfl, h.c 5 _ rfl, h.c 6 _ rfl, h.c 7 _ rfl, h.c 8 _ rfl, h.c 9 _ rfl, h.c 10 _ rfl, h.c 11 _ rfl, h.c 12 _ rfl, h.c 13 _ rfl, h.c 14 _ rfl⟩
def IsItems (w : World) (v : Value) (xs : List It) : Prop :=
  ∃ a cap, v = .slice a xs.length cap ∧ xs.length ≤ cap ∧ (xs ≠ [] → ∃ b off, a = some ⟨b, off, none⟩ ∧ b < w.heap.size ∧ ∀ (i : Nat) (x : It), xs[i]? = some x → ∃ pv lv, ItAt w b (off + i * 15) x pv lv)
theorem IsItems.grow {w w' : World} {v : Value} {xs : List It} (h : IsItems w v xs) (g : G w w') : IsItems w' v xs := by
  obtain ⟨a, cap, e, hc, h⟩ := h
  refine ⟨a, cap, e, hc, fun h0 => ?_⟩
  obtain ⟨b, off, e2, hb, h⟩ := h h0
  refine ⟨b, off, e2, Nat.lt_of_lt_of_le hb g.size, fun i x hx => ?_⟩
  obtain ⟨pv, lv, h1⟩ := h i x hx
  exact ⟨pv, lv, h1.grow hb g⟩
theorem IsItems.len {w : World} {v : Value} {xs : List It} (h : IsItems w v xs) : ∃ a c, v = .slice a xs.length c ∧ xs.length ≤ c := by
  obtain ⟨a, c, e, h1, _⟩ := h
  exact ⟨a, c, e, h1⟩
def It.big (x : It) : Nat := x.g.length + x.n.length + (x.ps.map fun p => p.1.length + (p.2.map fun s => s.length + 1).sum + 1).sum + x.v.tx.length + sumP x.v.ps
def cardV (ver : Int) (iv : Value) : Value := .agg #[.int .i64 ver, iv]
end Go.Proofs.YtdmbhoagjjkogaaGreatDoor

namespace Go.Proofs.YtdmbhoagjjkogaaGreatDoor
open Go.RowKit Go.Shelf
attribute [local go_sem] Oper.semAt_some
set_option linter.unusedVariables false
set_option linter.unusedSimpArgs false
theorem tab_facts (v : Int) : ∃ p ps, (tabT v).map Ent.text = p :: ps ∧ textT (tabT v) = joinS [124] p ps ∧ (∀ q ∈ p :: ps, (124 : UInt8) ∉ q) ∧ (joinS [124] p ps).length ≤ 1000000 := by
  unfold tabT
  split
  · exact ⟨_, _, rfl, rfl, by decide +kernel, by decide +kernel⟩
  · exact ⟨_, _, rfl, rfl, by decide +kernel, by decide +kernel⟩
theorem ent_fields (v : Int) : ∀ e ∈ tabT v, Lib.fields e.text = [e.name, [UInt8.ofNat (48 + e.ty)], [UInt8.ofNat (48 + e.least)], [UInt8.ofNat (48 + e.most)], [UInt8.ofNat (48 + e.parts)]] ∧ e.ty < 10 ∧ e.least < 10 ∧ e.most < 10 ∧ e.parts < 10 ∧ e.text.length < 100 ∧ ∀ b ∈ e.text, b.toNat < 128 := by
  unfold tabT
  split
  · decide +kernel
  · decide +kernel
theorem kpSeq_t {Bp B1 Bz : Nat} {X Y Z : World} (h : KpSeq Bp B1 Bz X Y) (k : KpSeq Bp B1 Bz Y Z) : KpSeq Bp B1 Bz X Z := ⟨k.1.trans h.1, k.2.1.trans h.2.1, k.2.2.1.trans h.2.2.1, k.2.2.2.trans h.2.2.2⟩
theorem kpSeq_below {Bp B1 Bz n : Nat} {W W' : World} (h : Below n W W') (h1 : Bp < n) (h2 : B1 < n) (h3 : Bz < n) : KpSeq Bp B1 Bz W W' :=
  ⟨h.cell (p := ⟨Bp, 0, none⟩) h1, h.cell (p := ⟨B1, 0, none⟩) h2, h.cell (p := ⟨Bz, 0, none⟩) h3, h.frozen (p := ⟨B1, 0, none⟩) h2⟩
structure OfAt (b : Nat) (s : List UInt8) (r : Int × Int × Int × Int) (W : World) : Prop where
  c0 : W.cell? ⟨b, 0, none⟩ = some (.string (S s))
  r0 : W.cell? ⟨b + 1, 0, none⟩ = some (.int .i64 r.1)
  r1 : W.cell? ⟨b + 1, 1, none⟩ = some (.int .i64 r.2.1)
  r2 : W.cell? ⟨b + 1, 2, none⟩ = some (.int .i64 r.2.2.1)
  r3 : W.cell? ⟨b + 1, 3, none⟩ = some (.int .i64 r.2.2.2)
  er : W.cell? ⟨b + 2, 0, none⟩ = some .nilIface
  f0 : W.frozen? ⟨b + 1, 0, none⟩ = false
  f1 : W.frozen? ⟨b + 1, 1, none⟩ = false
  f2 : W.frozen? ⟨b + 1, 2, none⟩ = false
  f3 : W.frozen? ⟨b + 1, 3, none⟩ = false
  fe : W.frozen? ⟨b + 2, 0, none⟩ = false
theorem OfAt.own (b : Nat) (s : List UInt8) (r : Int × Int × Int × Int) : Own (fun (_ : List (List UInt8)) W => OfAt b s r W) :=
  fun x A B row h hg hr => ⟨cell_kept h.c0 hg hr, cell_kept h.r0 hg hr, cell_kept h.r1 hg hr, cell_kept h.r2 hg hr, cell_kept h.r3 hg hr, cell_kept h.er hg hr,
    (frozen_kept h.r0 hg hr).trans h.f0, (frozen_kept h.r1 hg hr).trans h.f1, (frozen_kept h.r2 hg hr).trans h.f2, (frozen_kept h.r3 hg hr).trans h.f3, (frozen_kept h.er hg hr).trans h.fe⟩
theorem OfAt.set {b : Nat} {s : List UInt8} {r : Int × Int × Int × Int} {W : World} (h : OfAt b s r W) (B : Nat) (v : Value) (h0 : b + 2 < B) : OfAt b s r (W.setCell ⟨B, 0, none⟩ v) := by
  refine ⟨?_, ?_, ?_, ?_, ?_, ?_, ?_, ?_, ?_, ?_, ?_⟩
  · rw [World.cell?_setCell_other _ _ _ _ (by first | (simp; done) | (simp; omega))]; exact h.c0
  · rw [World.cell?_setCell_other _ _ _ _ (by first | (simp; done) | (simp; omega))]; exact h.r0
  · rw [World.cell?_setCell_other _ _ _ _ (by first | (simp; done) | (simp; omega))]; exact h.r1
  · rw [World.cell?_setCell_other _ _ _ _ (by first | (simp; done) | (simp; omega))]; exact h.r2
  · rw [World.cell?_setCell_other _ _ _ _ (by first | (simp; done) | (simp; omega))]; exact h.r3
  · rw [World.cell?_setCell_other _ _ _ _ (by first | (simp; done) | (simp; omega))]; exact h.er
  · rw [World.frozen?_setCell]; exact h.f0
  · rw [World.frozen?_setCell]; exact h.f1
  · rw [World.frozen?_setCell]; exact h.f2
  · rw [World.frozen?_setCell]; exact h.f3
  · rw [World.frozen?_setCell]; exact h.fe
theorem keepsFrom_below {B : Nat} {W W' : World} (h : Below W.heap.size W W') : KeepsFrom B W W' := ⟨h.size, fun k o _ hk _ => (h.block k (Array.getElem?_eq_some_iff.1 hk).1).trans hk⟩
theorem OfAt.below {b n : Nat} {s : List UInt8} {r : Int × Int × Int × Int} {W W' : World} (h : OfAt b s r W) (g : Below n W W') (hn : b + 2 < n) : OfAt b s r W' :=
  ⟨(g.cell (p := ⟨b, 0, none⟩) (by simp; omega)).trans h.c0, (g.cell (p := ⟨b + 1, 0, none⟩) (by simp; omega)).trans h.r0, (g.cell (p := ⟨b + 1, 1, none⟩) (by simp; omega)).trans h.r1, (g.cell (p := ⟨b + 1, 2, none⟩) (by simp; omega)).trans h.r2,
    (g.cell (p := ⟨b + 1, 3, none⟩) (by simp; omega)).trans h.r3, (g.cell (p := ⟨b + 2, 0, none⟩) (by simp; omega)).trans h.er,
    (g.frozen (p := ⟨b + 1, 0, none⟩) (by simp; omega)).trans h.f0, (g.frozen (p := ⟨b + 1, 1, none⟩) (by simp; omega)).trans h.f1, (g.frozen (p := ⟨b + 1, 2, none⟩) (by simp; omega)).trans h.f2, (g.frozen (p := ⟨b + 1, 3, none⟩) (by simp; omega)).trans h.f3, (g.frozen (p := ⟨b + 2, 0, none⟩) (by simp; omega)).trans h.fe⟩
theorem text_name {v : Int} {e e' : Ent} (h : e ∈ tabT v) (h' : e' ∈ tabT v) (ht : e'.text = e.text) : e'.name = e.name := by
  have a := (ent_fields v e h).1
  have b := (ent_fields v e' h').1
  rw [ht, a] at b
  exact (List.cons.inj b).1.symm
theorem OfAt.put {b : Nat} {s : List UInt8} {r : Int × Int × Int × Int} {W : World} (h : OfAt b s r W) (x0 x1 x2 x3 : Int) : OfAt b s (x0, x1, x2, x3) (((((W.setCell ⟨b + 1, 0, none⟩ (.int .i64 x0)).setCell ⟨b + 1, 1, none⟩ (.int .i64 x1)).setCell ⟨b + 1, 2, none⟩ (.int .i64 x2)).setCell ⟨b + 1, 3, none⟩ (.int .i64 x3)).setCell ⟨b + 2, 0, none⟩ .nilIface) := by
  refine ⟨?_, ?_, ?_, ?_, ?_, ?_, ?_, ?_, ?_, ?_, ?_⟩
  · (repeat rw [World.cell?_setCell_other _ _ _ _ (by first | (simp; done) | (simp; omega))])
    exact h.c0
  · (repeat rw [World.cell?_setCell_other _ _ _ _ (by first | (simp; done) | (simp; omega))])
    exact World.cell?_setCell_same' _ _ _ (by (repeat rw [World.cell?_setCell_other _ _ _ _ (by first | (simp; done) | (simp; omega))]); rw [h.r0]; rfl)
  · (repeat rw [World.cell?_setCell_other _ _ _ _ (by first | (simp; done) | (simp; omega))])
    exact World.cell?_setCell_same' _ _ _ (by (repeat rw [World.cell?_setCell_other _ _ _ _ (by first | (simp; done) | (simp; omega))]); rw [h.r1]; rfl)
  · (repeat rw [World.cell?_setCell_other _ _ _ _ (by first | (simp; done) | (simp; omega))])
    exact World.cell?_setCell_same' _ _ _ (by (repeat rw [World.cell?_setCell_other _ _ _ _ (by first | (simp; done) | (simp; omega))]); rw [h.r2]; rfl)
  · (repeat rw [World.cell?_setCell_other _ _ _ _ (by first | (simp; done) | (simp; omega))])
    exact World.cell?_setCell_same' _ _ _ (by (repeat rw [World.cell?_setCell_other _ _ _ _ (by first | (simp; done) | (simp; omega))]); rw [h.r3]; rfl)
  · (repeat rw [World.cell?_setCell_other _ _ _ _ (by first | (simp; done) | (simp; omega))])
    exact World.cell?_setCell_same' _ _ _ (by (repeat rw [World.cell?_setCell_other _ _ _ _ (by first | (simp; done) | (simp; omega))]); rw [h.er]; rfl)
  · simp only [World.frozen?_setCell]; exact h.f0
  · simp only [World.frozen?_setCell]; exact h.f1
  · simp only [World.frozen?_setCell]; exact h.f2
  · simp only [World.frozen?_setCell]; exact h.f3
  · simp only [World.frozen?_setCell]; exact h.fe
theorem names_once (v : Int) : ((tabT v).map Ent.name).Nodup := by
  unfold tabT
  split
  · decide +kernel
  · decide +kernel
theorem find_name (T : List Ent) (h : (T.map Ent.name).Nodup) (e : Ent) (he : e ∈ T) : T.find? (fun x => x.name == e.name) = some e := by
  induction T with
  | nil => cases he
  | cons a T ih =>
    rw [List.map_cons, List.nodup_cons] at h
    rcases List.mem_cons.1 he with rfl | he
    · simp
    · have hne : a.name ≠ e.name := fun hc => h.1 (by rw [hc]; exact List.mem_map_of_mem he)
      rw [List.find?_cons_of_neg (by simpa using hne)]
      exact ih h.2 he
theorem rule_at {v : Int} {e : Ent} {u : List UInt8} (he : e ∈ tabT v) (hn : e.name = u) : ruleOf (tabT v) u = ((e.ty : Int), (e.least : Int), (e.most : Int), (e.parts : Int)) := by
  unfold ruleOf
  rw [← hn, find_name _ (names_once v) e he]
structure Dig (B : Nat) (e : Ent) (k : Nat) (w : World) : Prop where
  c0 : w.cell? ⟨B, 0, none⟩ = some (.int .i64 (if 0 < k then e.ty else 0))
  c1 : w.cell? ⟨B, 1, none⟩ = some (.int .i64 (if 1 < k then e.least else 0))
  c2 : w.cell? ⟨B, 2, none⟩ = some (.int .i64 (if 2 < k then e.most else 0))
  c3 : w.cell? ⟨B, 3, none⟩ = some (.int .i64 (if 3 < k then e.parts else 0))
  f0 : w.frozen? ⟨B, 0, none⟩ = false
  f1 : w.frozen? ⟨B, 1, none⟩ = false
  f2 : w.frozen? ⟨B, 2, none⟩ = false
  f3 : w.frozen? ⟨B, 3, none⟩ = false
theorem Dig.grow {B : Nat} {e : Ent} {k : Nat} {w w' : World} (h : Dig B e k w) (g : G w w') : Dig B e k w' := by
  have hb : B < w.heap.size := World.block_lt_of_cell? _ _ h.c0
  exact ⟨(g.cell hb).trans h.c0, (g.cell hb).trans h.c1, (g.cell hb).trans h.c2, (g.cell hb).trans h.c3, (g.below.frozen hb).trans h.f0, (g.below.frozen hb).trans h.f1, (g.below.frozen hb).trans h.f2, (g.below.frozen hb).trans h.f3⟩
theorem Dig.set {B : Nat} {e : Ent} {k : Nat} {w : World} (h : Dig B e k w) (hk : k < 4) : Dig B e (k + 1) (w.setCell ⟨B, k, none⟩ (.int .i64 (match k with | 0 => e.ty | 1 => e.least | 2 => e.most | _ => e.parts : Nat))) := by
  have h1 : k = 0 ∨ k = 1 ∨ k = 2 ∨ k = 3 := by omega
  obtain ⟨a0, a1, a2, a3, b0, b1, b2, b3⟩ := h
  rcases h1 with rfl | rfl | rfl | rfl
  all_goals
    refine ⟨?_, ?_, ?_, ?_, ?_, ?_, ?_, ?_⟩
    all_goals first
      | (rw [World.frozen?_setCell]; assumption)
      | (rw [World.cell?_setCell_other _ _ _ _ (by simp)]; assumption)
      | (refine World.cell?_setCell_same' _ _ _ ?_; simp [*])
end Go.Proofs.YtdmbhoagjjkogaaGreatDoor
