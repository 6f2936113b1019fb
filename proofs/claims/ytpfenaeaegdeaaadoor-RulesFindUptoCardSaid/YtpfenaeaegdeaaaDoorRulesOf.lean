/-
  CONTRACT of rules.Of (under way).
-/
import Derived.Test.YtpfenaeaegdeaaaDoorRulesTab
import Derived.Test.YtpfenaeaegdeaaaDoorAtoi
import Derived.LoopIn
import Derived.Test.YtpfenaeaegdeaaaDoorName
import Derived.RangeFuncBound
import Derived.RangeFuncCalls
import Derived.Lib.AppendIntMem
import Derived.TacticsIn
import Derived.RegionIn
import Derived.Shelf.RegionOpen
namespace Go.Proofs.YtpfenaeaegdeaaaDoor
open Go.RowKit Go.Shelf
attribute [local go_sem] Oper.semAt_some
set_option linter.unusedVariables false
set_option linter.unusedSimpArgs false

theorem tab_facts (v : Int) : ∃ p ps, (tabT v).map Ent.text = p :: ps ∧ textT (tabT v) = joinS [124] p ps ∧ (∀ q ∈ p :: ps, (124 : UInt8) ∉ q) ∧ (joinS [124] p ps).length ≤ 1000000 := by
  unfold tabT
  split
  · exact ⟨_, _, rfl, rfl, by decide +kernel, by decide +kernel⟩
  · exact ⟨_, _, rfl, rfl, by decide +kernel, by decide +kernel⟩
theorem ent_fields (v : Int) : ∀ e ∈ tabT v, Lib.fields e.text = [e.name, [UInt8.ofNat (48 + e.ty)], [UInt8.ofNat (48 + e.least)], [UInt8.ofNat (48 + e.most)], [UInt8.ofNat (48 + e.parts)]] ∧ e.ty < 10 ∧ e.least < 10 ∧ e.most < 10 ∧ e.parts < 10 ∧ e.text.length < 100 ∧ ∀ b ∈ e.text, b.toNat < 128 := by
  unfold tabT
  split
  · decide +kernel
  · decide +kernel
theorem kpSeq_t {Bp B1 Bz : Nat} {X Y Z : World} (h : KpSeq Bp B1 Bz X Y) (k : KpSeq Bp B1 Bz Y Z) : KpSeq Bp B1 Bz X Z := ⟨k.1.trans h.1, k.2.1.trans h.2.1, k.2.2.1.trans h.2.2.1, k.2.2.2.trans h.2.2.2⟩
theorem kpSeq_below {Bp B1 Bz n : Nat} {W W' : World} (h : Below n W W') (h1 : Bp < n) (h2 : B1 < n) (h3 : Bz < n) : KpSeq Bp B1 Bz W W' :=
  ⟨h.cell (p := ⟨Bp, 0, none⟩) h1, h.cell (p := ⟨B1, 0, none⟩) h2, h.cell (p := ⟨Bz, 0, none⟩) h3, h.frozen (p := ⟨B1, 0, none⟩) h2⟩
/-- the frame of rules.Of between two rounds: the name's box, the result's cells (those of the rule: r), the error's -/
structure OfAt (b : Nat) (s : List UInt8) (r : Int × Int × Int × Int) (W : World) : Prop where
  c0 : W.cell? ⟨b, 0, none⟩ = some (.string (S s))
  r0 : W.cell? ⟨b + 1, 0, none⟩ = some (.int .i64 r.1)
  r1 : W.cell? ⟨b + 1, 1, none⟩ = some (.int .i64 r.2.1)
  r2 : W.cell? ⟨b + 1, 2, none⟩ = some (.int .i64 r.2.2.1)
  r3 : W.cell? ⟨b + 1, 3, none⟩ = some (.int .i64 r.2.2.2)
  er : W.cell? ⟨b + 2, 0, none⟩ = some .nilIface
  f0 : W.frozen? ⟨b + 1, 0, none⟩ = false
  f1 : W.frozen? ⟨b + 1, 1, none⟩ = false
  f2 : W.frozen? ⟨b + 1, 2, none⟩ = false
  f3 : W.frozen? ⟨b + 1, 3, none⟩ = false
  fe : W.frozen? ⟨b + 2, 0, none⟩ = false
theorem OfAt.own (b : Nat) (s : List UInt8) (r : Int × Int × Int × Int) : Own (fun (_ : List (List UInt8)) W => OfAt b s r W) :=
  fun x A B row h hg hr => ⟨cell_kept h.c0 hg hr, cell_kept h.r0 hg hr, cell_kept h.r1 hg hr, cell_kept h.r2 hg hr, cell_kept h.r3 hg hr, cell_kept h.er hg hr,
    (frozen_kept h.r0 hg hr).trans h.f0, (frozen_kept h.r1 hg hr).trans h.f1, (frozen_kept h.r2 hg hr).trans h.f2, (frozen_kept h.r3 hg hr).trans h.f3, (frozen_kept h.er hg hr).trans h.fe⟩
theorem OfAt.set {b : Nat} {s : List UInt8} {r : Int × Int × Int × Int} {W : World} (h : OfAt b s r W) (B : Nat) (v : Value) (h0 : b + 2 < B) : OfAt b s r (W.setCell ⟨B, 0, none⟩ v) := by
  refine ⟨?_, ?_, ?_, ?_, ?_, ?_, ?_, ?_, ?_, ?_, ?_⟩
  · rw [World.cell?_setCell_other _ _ _ _ (by first | (simp; done) | (simp; omega))]; exact h.c0
  · rw [World.cell?_setCell_other _ _ _ _ (by first | (simp; done) | (simp; omega))]; exact h.r0
  · rw [World.cell?_setCell_other _ _ _ _ (by first | (simp; done) | (simp; omega))]; exact h.r1
  · rw [World.cell?_setCell_other _ _ _ _ (by first | (simp; done) | (simp; omega))]; exact h.r2
  · rw [World.cell?_setCell_other _ _ _ _ (by first | (simp; done) | (simp; omega))]; exact h.r3
  · rw [World.cell?_setCell_other _ _ _ _ (by first | (simp; done) | (simp; omega))]; exact h.er
  · rw [World.frozen?_setCell]; exact h.f0
  · rw [World.frozen?_setCell]; exact h.f1
  · rw [World.frozen?_setCell]; exact h.f2
  · rw [World.frozen?_setCell]; exact h.f3
  · rw [World.frozen?_setCell]; exact h.fe
theorem keepsFrom_below {B : Nat} {W W' : World} (h : Below W.heap.size W W') : KeepsFrom B W W' := ⟨h.size, fun k o _ hk _ => (h.block k (Array.getElem?_eq_some_iff.1 hk).1).trans hk⟩
theorem OfAt.below {b n : Nat} {s : List UInt8} {r : Int × Int × Int × Int} {W W' : World} (h : OfAt b s r W) (g : Below n W W') (hn : b + 2 < n) : OfAt b s r W' :=
  ⟨(g.cell (p := ⟨b, 0, none⟩) (by simp; omega)).trans h.c0, (g.cell (p := ⟨b + 1, 0, none⟩) (by simp; omega)).trans h.r0, (g.cell (p := ⟨b + 1, 1, none⟩) (by simp; omega)).trans h.r1, (g.cell (p := ⟨b + 1, 2, none⟩) (by simp; omega)).trans h.r2,
    (g.cell (p := ⟨b + 1, 3, none⟩) (by simp; omega)).trans h.r3, (g.cell (p := ⟨b + 2, 0, none⟩) (by simp; omega)).trans h.er,
    (g.frozen (p := ⟨b + 1, 0, none⟩) (by simp; omega)).trans h.f0, (g.frozen (p := ⟨b + 1, 1, none⟩) (by simp; omega)).trans h.f1, (g.frozen (p := ⟨b + 1, 2, none⟩) (by simp; omega)).trans h.f2, (g.frozen (p := ⟨b + 1, 3, none⟩) (by simp; omega)).trans h.f3, (g.frozen (p := ⟨b + 2, 0, none⟩) (by simp; omega)).trans h.fe⟩
theorem text_name {v : Int} {e e' : Ent} (h : e ∈ tabT v) (h' : e' ∈ tabT v) (ht : e'.text = e.text) : e'.name = e.name := by
  have a := (ent_fields v e h).1
  have b := (ent_fields v e' h').1
  rw [ht, a] at b
  exact (List.cons.inj b).1.symm
theorem OfAt.put {b : Nat} {s : List UInt8} {r : Int × Int × Int × Int} {W : World} (h : OfAt b s r W) (x0 x1 x2 x3 : Int) : OfAt b s (x0, x1, x2, x3) (((((W.setCell ⟨b + 1, 0, none⟩ (.int .i64 x0)).setCell ⟨b + 1, 1, none⟩ (.int .i64 x1)).setCell ⟨b + 1, 2, none⟩ (.int .i64 x2)).setCell ⟨b + 1, 3, none⟩ (.int .i64 x3)).setCell ⟨b + 2, 0, none⟩ .nilIface) := by
  refine ⟨?_, ?_, ?_, ?_, ?_, ?_, ?_, ?_, ?_, ?_, ?_⟩
  · (repeat rw [World.cell?_setCell_other _ _ _ _ (by first | (simp; done) | (simp; omega))])
    exact h.c0
  · (repeat rw [World.cell?_setCell_other _ _ _ _ (by first | (simp; done) | (simp; omega))])
    exact World.cell?_setCell_same' _ _ _ (by (repeat rw [World.cell?_setCell_other _ _ _ _ (by first | (simp; done) | (simp; omega))]); rw [h.r0]; rfl)
  · (repeat rw [World.cell?_setCell_other _ _ _ _ (by first | (simp; done) | (simp; omega))])
    exact World.cell?_setCell_same' _ _ _ (by (repeat rw [World.cell?_setCell_other _ _ _ _ (by first | (simp; done) | (simp; omega))]); rw [h.r1]; rfl)
  · (repeat rw [World.cell?_setCell_other _ _ _ _ (by first | (simp; done) | (simp; omega))])
    exact World.cell?_setCell_same' _ _ _ (by (repeat rw [World.cell?_setCell_other _ _ _ _ (by first | (simp; done) | (simp; omega))]); rw [h.r2]; rfl)
  · (repeat rw [World.cell?_setCell_other _ _ _ _ (by first | (simp; done) | (simp; omega))])
    exact World.cell?_setCell_same' _ _ _ (by (repeat rw [World.cell?_setCell_other _ _ _ _ (by first | (simp; done) | (simp; omega))]); rw [h.r3]; rfl)
  · (repeat rw [World.cell?_setCell_other _ _ _ _ (by first | (simp; done) | (simp; omega))])
    exact World.cell?_setCell_same' _ _ _ (by (repeat rw [World.cell?_setCell_other _ _ _ _ (by first | (simp; done) | (simp; omega))]); rw [h.er]; rfl)
  · simp only [World.frozen?_setCell]; exact h.f0
  · simp only [World.frozen?_setCell]; exact h.f1
  · simp only [World.frozen?_setCell]; exact h.f2
  · simp only [World.frozen?_setCell]; exact h.f3
  · simp only [World.frozen?_setCell]; exact h.fe
theorem names_once (v : Int) : ((tabT v).map Ent.name).Nodup := by
  unfold tabT
  split
  · decide +kernel
  · decide +kernel
theorem find_name (T : List Ent) (h : (T.map Ent.name).Nodup) (e : Ent) (he : e ∈ T) : T.find? (fun x => x.name == e.name) = some e := by
  induction T with
  | nil => cases he
  | cons a T ih =>
    rw [List.map_cons, List.nodup_cons] at h
    rcases List.mem_cons.1 he with rfl | he
    · simp
    · have hne : a.name ≠ e.name := fun hc => h.1 (by rw [hc]; exact List.mem_map_of_mem he)
      rw [List.find?_cons_of_neg (by simpa using hne)]
      exact ih h.2 he
theorem rule_at {v : Int} {e : Ent} {u : List UInt8} (he : e ∈ tabT v) (hn : e.name = u) : ruleOf (tabT v) u = ((e.ty : Int), (e.least : Int), (e.most : Int), (e.parts : Int)) := by
  unfold ruleOf
  rw [← hn, find_name _ (names_once v) e he]
/-- the four numbers of an entry, the first k read -/
structure Dig (B : Nat) (e : Ent) (k : Nat) (w : World) : Prop where
  c0 : w.cell? ⟨B, 0, none⟩ = some (.int .i64 (if 0 < k then e.ty else 0))
  c1 : w.cell? ⟨B, 1, none⟩ = some (.int .i64 (if 1 < k then e.least else 0))
  c2 : w.cell? ⟨B, 2, none⟩ = some (.int .i64 (if 2 < k then e.most else 0))
  c3 : w.cell? ⟨B, 3, none⟩ = some (.int .i64 (if 3 < k then e.parts else 0))
  f0 : w.frozen? ⟨B, 0, none⟩ = false
  f1 : w.frozen? ⟨B, 1, none⟩ = false
  f2 : w.frozen? ⟨B, 2, none⟩ = false
  f3 : w.frozen? ⟨B, 3, none⟩ = false
theorem Dig.grow {B : Nat} {e : Ent} {k : Nat} {w w' : World} (h : Dig B e k w) (g : G w w') : Dig B e k w' := by
  have hb : B < w.heap.size := World.block_lt_of_cell? _ _ h.c0
  exact ⟨(g.cell hb).trans h.c0, (g.cell hb).trans h.c1, (g.cell hb).trans h.c2, (g.cell hb).trans h.c3, (g.below.frozen hb).trans h.f0, (g.below.frozen hb).trans h.f1, (g.below.frozen hb).trans h.f2, (g.below.frozen hb).trans h.f3⟩
theorem Dig.set {B : Nat} {e : Ent} {k : Nat} {w : World} (h : Dig B e k w) (hk : k < 4) : Dig B e (k + 1) (w.setCell ⟨B, k, none⟩ (.int .i64 (match k with | 0 => e.ty | 1 => e.least | 2 => e.most | _ => e.parts : Nat))) := by
  have h1 : k = 0 ∨ k = 1 ∨ k = 2 ∨ k = 3 := by omega
  obtain ⟨a0, a1, a2, a3, b0, b1, b2, b3⟩ := h
  rcases h1 with rfl | rfl | rfl | rfl
  all_goals
    refine ⟨?_, ?_, ?_, ?_, ?_, ?_, ?_, ?_⟩
    all_goals first
      | (rw [World.frozen?_setCell]; assumption)
      | (rw [World.cell?_setCell_other _ _ _ _ (by simp)]; assumption)
      | (refine World.cell?_setCell_same' _ _ _ ?_; simp [*])
theorem atoi_digit : ∀ n : Nat, n < 10 → Lib.atoi [UInt8.ofNat (48 + n)] = some (n : Int) := by decide +kernel

end Go.Proofs.YtpfenaeaegdeaaaDoor
