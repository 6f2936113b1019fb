/-
  Texts merged into one: RulesTab, RulesOf, B64, B64Dec.
-/
import Derived.Test.YtfadckackdmbnaaGreatDoorMA46
import Derived.LoopIn
import Derived.Test.YtfadckackdmbnaaGreatDoorMA60
import Derived.RangeFuncBound
import Derived.RangeFuncCalls
import Derived.Lib.AppendIntMem
import Derived.TacticsIn
import Derived.RegionIn
import Derived.Shelf.RegionOpen
import Derived.Test.YtfadckackdmbnaaGreatDoorMPieces
namespace Go.Proofs.YtfadckackdmbnaaGreatDoor
open Go.RowKit
set_option linter.unusedVariables false
set_option linter.unusedSimpArgs false
structure Ent where
  name : List UInt8
  ty : Nat
  least : Nat
  most : Nat
  parts : Nat
def Ent.text (e : Ent) : List UInt8 := e.name ++ [32, UInt8.ofNat (48 + e.ty), 32, UInt8.ofNat (48 + e.least), 32, UInt8.ofNat (48 + e.most), 32, UInt8.ofNat (48 + e.parts)]
def oldT : List Ent := [⟨[70, 78], 1, 1, 1, 0⟩, ⟨[78], 3, 1, 1, 5⟩, ⟨[78, 73, 67, 75, 78, 65, 77, 69], 2, 0, 0, 0⟩, ⟨[80, 72, 79, 84, 79], 8, 0, 0, 0⟩, ⟨[66, 68, 65, 89], 5, 0, 1, 0⟩, ⟨[65, 68, 82], 3, 0, 0, 7⟩, ⟨[76, 65, 66, 69, 76], 1, 0, 0, 0⟩, ⟨[84, 69, 76], 1, 0, 0, 0⟩, ⟨[69, 77, 65, 73, 76], 1, 0, 0, 0⟩, ⟨[77, 65, 73, 76, 69, 82], 1, 0, 0, 0⟩, ⟨[84, 90], 6, 0, 1, 0⟩, ⟨[71, 69, 79], 3, 0, 1, 2⟩, ⟨[84, 73, 84, 76, 69], 1, 0, 0, 0⟩, ⟨[82, 79, 76, 69], 1, 0, 0, 0⟩, ⟨[76, 79, 71, 79], 8, 0, 0, 0⟩, ⟨[65, 71, 69, 78, 84], 1, 0, 0, 0⟩, ⟨[79, 82, 71], 3, 0, 0, 0⟩, ⟨[67, 65, 84, 69, 71, 79, 82, 73, 69, 83], 2, 0, 0, 0⟩, ⟨[78, 79, 84, 69], 1, 0, 0, 0⟩, ⟨[80, 82, 79, 68, 73, 68], 1, 0, 1, 0⟩, ⟨[82, 69, 86], 5, 0, 1, 0⟩, ⟨[83, 79, 82, 84, 45, 83, 84, 82, 73, 78, 71], 1, 0, 1, 0⟩, ⟨[83, 79, 85, 78, 68], 8, 0, 0, 0⟩, ⟨[85, 73, 68], 1, 0, 1, 0⟩, ⟨[85, 82, 76], 4, 0, 0, 0⟩, ⟨[67, 76, 65, 83, 83], 1, 0, 1, 0⟩, ⟨[75, 69, 89], 8, 0, 0, 0⟩, ⟨[78, 65, 77, 69], 1, 0, 1, 0⟩, ⟨[83, 79, 85, 82, 67, 69], 4, 0, 0, 0⟩]
def newT : List Ent := [⟨[70, 78], 1, 1, 0, 0⟩, ⟨[78], 3, 0, 1, 5⟩, ⟨[78, 73, 67, 75, 78, 65, 77, 69], 2, 0, 0, 0⟩, ⟨[80, 72, 79, 84, 79], 4, 0, 0, 0⟩, ⟨[66, 68, 65, 89], 5, 0, 1, 0⟩, ⟨[65, 78, 78, 73, 86, 69, 82, 83, 65, 82, 89], 5, 0, 1, 0⟩, ⟨[71, 69, 78, 68, 69, 82], 3, 0, 1, 2⟩, ⟨[65, 68, 82], 3, 0, 0, 7⟩, ⟨[84, 69, 76], 1, 0, 0, 0⟩, ⟨[69, 77, 65, 73, 76], 1, 0, 0, 0⟩, ⟨[73, 77, 80, 80], 4, 0, 0, 0⟩, ⟨[76, 65, 78, 71], 7, 0, 0, 0⟩, ⟨[84, 90], 1, 0, 0, 0⟩, ⟨[71, 69, 79], 4, 0, 0, 0⟩, ⟨[84, 73, 84, 76, 69], 1, 0, 0, 0⟩, ⟨[82, 79, 76, 69], 1, 0, 0, 0⟩, ⟨[76, 79, 71, 79], 4, 0, 0, 0⟩, ⟨[79, 82, 71], 3, 0, 0, 0⟩, ⟨[77, 69, 77, 66, 69, 82], 4, 0, 0, 0⟩, ⟨[82, 69, 76, 65, 84, 69, 68], 4, 0, 0, 0⟩, ⟨[67, 65, 84, 69, 71, 79, 82, 73, 69, 83], 2, 0, 0, 0⟩, ⟨[78, 79, 84, 69], 1, 0, 0, 0⟩, ⟨[80, 82, 79, 68, 73, 68], 1, 0, 1, 0⟩, ⟨[82, 69, 86], 5, 0, 1, 0⟩, ⟨[83, 79, 85, 78, 68], 4, 0, 0, 0⟩, ⟨[85, 73, 68], 4, 0, 1, 0⟩, ⟨[85, 82, 76], 4, 0, 0, 0⟩, ⟨[75, 73, 78, 68], 1, 0, 1, 0⟩, ⟨[75, 69, 89], 4, 0, 0, 0⟩, ⟨[83, 79, 85, 82, 67, 69], 4, 0, 0, 0⟩]
def tabT (v : Int) : List Ent := if v = 3 then oldT else newT
def textT (T : List Ent) : List UInt8 := match T.map Ent.text with | [] => [] | p :: ps => joinS [124] p ps
def ruleOf (T : List Ent) (u : List UInt8) : Int × Int × Int × Int := match T.find? (fun e => e.name == u) with | some e => ((e.ty : Int), (e.least : Int), (e.most : Int), (e.parts : Int)) | none => (8, 0, 0, 0)
set_option maxRecDepth 100000 in
set_option maxHeartbeats 1000000 in
theorem table_any (v : Int) (w : World) : Pure 71 #[.int .i64 v] w (.string (S (textT (tabT v)))) := by
  by_cases h : v = 3
  · subst h
    go_enter Tryz.func71, Tryz.ntmps71
    go_wp2
    go_ret
    exact ⟨by rfl, rfl⟩
  · have ht : tabT v = newT := if_neg h
    rw [ht]
    go_enter Tryz.func71, Tryz.ntmps71
    go_wp2
    go_ret
    exact ⟨by rfl, rfl⟩
set_option maxRecDepth 100000 in
set_option maxHeartbeats 400000 in
theorem splitSeq_any (t sep : List UInt8) (w : World) : Calls Tryz.prog 116 #[.string (S t), .string (S sep), .int .i64 0] w fun e w' => e = .returned (.func (.func 162) #[] #[.pointer (some ⟨w.heap.size + 1, 0, none⟩), .pointer (some ⟨w.heap.size, 0, none⟩), .pointer (some ⟨w.heap.size + 2, 0, none⟩)]) ∧
    w' = ((w.alloc (.cells #[.string (S t)] 9)).alloc (.cells #[.string (S sep)] 9)).alloc (.cells #[.int .i64 0] 3) := by
  have hmf : ∀ (fn : Fn) (first cap : Array Value) (w : World), (Instr.makeFunc fn first cap).run Tryz.prog w = .ok (.func fn first cap) w := fun _ _ _ _ => rfl
  go_enter Tryz.func116, Tryz.ntmps116
  go_wp2
  go_ret
  exact ⟨by simp, rfl⟩
set_option maxRecDepth 100000 in
set_option maxHeartbeats 400000 in
theorem SplitSeq_any (t sep : List UInt8) (w : World) : Calls Tryz.prog 70 #[.string (S t), .string (S sep)] w fun e w' => e = .returned (.func (.func 162) #[] #[.pointer (some ⟨w.heap.size + 1, 0, none⟩), .pointer (some ⟨w.heap.size, 0, none⟩), .pointer (some ⟨w.heap.size + 2, 0, none⟩)]) ∧
    w' = ((w.alloc (.cells #[.string (S t)] 9)).alloc (.cells #[.string (S sep)] 9)).alloc (.cells #[.int .i64 0] 3) := by
  go_enter Tryz.func70, Tryz.ntmps70
  go_wp2_with (go_at_call 116; refine (splitSeq_any t sep _).mono ?_; rintro e w' ⟨rfl, rfl⟩)
  go_ret
  exact ⟨rfl, rfl⟩
end Go.Proofs.YtfadckackdmbnaaGreatDoor

namespace Go.Proofs.YtfadckackdmbnaaGreatDoor
open Go.RowKit Go.Shelf
attribute [local go_sem] Oper.semAt_some
set_option linter.unusedVariables false
set_option linter.unusedSimpArgs false
theorem tab_facts (v : Int) : ∃ p ps, (tabT v).map Ent.text = p :: ps ∧ textT (tabT v) = joinS [124] p ps ∧ (∀ q ∈ p :: ps, (124 : UInt8) ∉ q) ∧ (joinS [124] p ps).length ≤ 1000000 := by
  unfold tabT
  split
  · exact ⟨_, _, rfl, rfl, by decide +kernel, by decide +kernel⟩
  · exact ⟨_, _, rfl, rfl, by decide +kernel, by decide +kernel⟩
theorem ent_fields (v : Int) : ∀ e ∈ tabT v, Lib.fields e.text = [e.name, [UInt8.ofNat (48 + e.ty)], [UInt8.ofNat (48 + e.least)], [UInt8.ofNat (48 + e.most)], [UInt8.ofNat (48 + e.parts)]] ∧ e.ty < 10 ∧ e.least < 10 ∧ e.most < 10 ∧ e.parts < 10 ∧ e.text.length < 100 ∧ ∀ b ∈ e.text, b.toNat < 128 := by
  unfold tabT
  split
  · decide +kernel
  · decide +kernel
theorem kpSeq_t {Bp B1 Bz : Nat} {X Y Z : World} (h : KpSeq Bp B1 Bz X Y) (k : KpSeq Bp B1 Bz Y Z) : KpSeq Bp B1 Bz X Z := ⟨k.1.trans h.1, k.2.1.trans h.2.1, k.2.2.1.trans h.2.2.1, k.2.2.2.trans h.2.2.2⟩
theorem kpSeq_below {Bp B1 Bz n : Nat} {W W' : World} (h : Below n W W') (h1 : Bp < n) (h2 : B1 < n) (h3 : Bz < n) : KpSeq Bp B1 Bz W W' :=
  ⟨h.cell (p := ⟨Bp, 0, none⟩) h1, h.cell (p := ⟨B1, 0, none⟩) h2, h.cell (p := ⟨Bz, 0, none⟩) h3, h.frozen (p := ⟨B1, 0, none⟩) h2⟩
structure OfAt (b : Nat) (s : List UInt8) (r : Int × Int × Int × Int) (W : World) : Prop where
  c0 : W.cell? ⟨b, 0, none⟩ = some (.string (S s))
  r0 : W.cell? ⟨b + 1, 0, none⟩ = some (.int .i64 r.1)
  r1 : W.cell? ⟨b + 1, 1, none⟩ = some (.int .i64 r.2.1)
  r2 : W.cell? ⟨b + 1, 2, none⟩ = some (.int .i64 r.2.2.1)
  r3 : W.cell? ⟨b + 1, 3, none⟩ = some (.int .i64 r.2.2.2)
  er : W.cell? ⟨b + 2, 0, none⟩ = some .nilIface
  f0 : W.frozen? ⟨b + 1, 0, none⟩ = false
  f1 : W.frozen? ⟨b + 1, 1, none⟩ = false
  f2 : W.frozen? ⟨b + 1, 2, none⟩ = false
  f3 : W.frozen? ⟨b + 1, 3, none⟩ = false
  fe : W.frozen? ⟨b + 2, 0, none⟩ = false
theorem OfAt.own (b : Nat) (s : List UInt8) (r : Int × Int × Int × Int) : Own (fun (_ : List (List UInt8)) W => OfAt b s r W) :=
  fun x A B row h hg hr => ⟨cell_kept h.c0 hg hr, cell_kept h.r0 hg hr, cell_kept h.r1 hg hr, cell_kept h.r2 hg hr, cell_kept h.r3 hg hr, cell_kept h.er hg hr,
    (frozen_kept h.r0 hg hr).trans h.f0, (frozen_kept h.r1 hg hr).trans h.f1, (frozen_kept h.r2 hg hr).trans h.f2, (frozen_kept h.r3 hg hr).trans h.f3, (frozen_kept h.er hg hr).trans h.fe⟩
theorem OfAt.set {b : Nat} {s : List UInt8} {r : Int × Int × Int × Int} {W : World} (h : OfAt b s r W) (B : Nat) (v : Value) (h0 : b + 2 < B) : OfAt b s r (W.setCell ⟨B, 0, none⟩ v) := by
  refine ⟨?_, ?_, ?_, ?_, ?_, ?_, ?_, ?_, ?_, ?_, ?_⟩
  · rw [World.cell?_setCell_other _ _ _ _ (by first | (simp; done) | (simp; omega))]; exact h.c0
  · rw [World.cell?_setCell_other _ _ _ _ (by first | (simp; done) | (simp; omega))]; exact h.r0
  · rw [World.cell?_setCell_other _ _ _ _ (by first | (simp; done) | (simp; omega))]; exact h.r1
  · rw [World.cell?_setCell_other _ _ _ _ (by first | (simp; done) | (simp; omega))]; exact h.r2
  · rw [World.cell?_setCell_other _ _ _ _ (by first | (simp; done) | (simp; omega))]; exact h.r3
  · rw [World.cell?_setCell_other _ _ _ _ (by first | (simp; done) | (simp; omega))]; exact h.er
  · rw [World.frozen?_setCell]; exact h.f0
  · rw [World.frozen?_setCell]; exact h.f1
  · rw [World.frozen?_setCell]; exact h.f2
  · rw [World.frozen?_setCell]; exact h.f3
  · rw [World.frozen?_setCell]; exact h.fe
theorem keepsFrom_below {B : Nat} {W W' : World} (h : Below W.heap.size W W') : KeepsFrom B W W' := ⟨h.size, fun k o _ hk _ => (h.block k (Array.getElem?_eq_some_iff.1 hk).1).trans hk⟩
theorem OfAt.below {b n : Nat} {s : List UInt8} {r : Int × Int × Int × Int} {W W' : World} (h : OfAt b s r W) (g : Below n W W') (hn : b + 2 < n) : OfAt b s r W' :=
  ⟨(g.cell (p := ⟨b, 0, none⟩) (by simp; omega)).trans h.c0, (g.cell (p := ⟨b + 1, 0, none⟩) (by simp; omega)).trans h.r0, (g.cell (p := ⟨b + 1, 1, none⟩) (by simp; omega)).trans h.r1, (g.cell (p := ⟨b + 1, 2, none⟩) (by simp; omega)).trans h.r2,
    (g.cell (p := ⟨b + 1, 3, none⟩) (by simp; omega)).trans h.r3, (g.cell (p := ⟨b + 2, 0, none⟩) (by simp; omega)).trans h.er,
    (g.frozen (p := ⟨b + 1, 0, none⟩) (by simp; omega)).trans h.f0, (g.frozen (p := ⟨b + 1, 1, none⟩) (by simp; omega)).trans h.f1, (g.frozen (p := ⟨b + 1, 2, none⟩) (by simp; omega)).trans h.f2, (g.frozen (p := ⟨b + 1, 3, none⟩) (by simp; omega)).trans h.f3, (g.frozen (p := ⟨b + 2, 0, none⟩) (by simp; omega)).trans h.fe⟩
theorem text_name {v : Int} {e e' : Ent} (h : e ∈ tabT v) (h' : e' ∈ tabT v) (ht : e'.text = e.text) : e'.name = e.name := by
  have a := (ent_fields v e h).1
  have b := (ent_fields v e' h').1
  rw [ht, a] at b
  exact (List.cons.inj b).1.symm
theorem OfAt.put {b : Nat} {s : List UInt8} {r : Int × Int × Int × Int} {W : World} (h : OfAt b s r W) (x0 x1 x2 x3 : Int) : OfAt b s (x0, x1, x2, x3) (((((W.setCell ⟨b + 1, 0, none⟩ (.int .i64 x0)).setCell ⟨b + 1, 1, none⟩ (.int .i64 x1)).setCell ⟨b + 1, 2, none⟩ (.int .i64 x2)).setCell ⟨b + 1, 3, none⟩ (.int .i64 x3)).setCell ⟨b + 2, 0, none⟩ .nilIface) := by
  refine ⟨?_, ?_, ?_, ?_, ?_, ?_, ?_, ?_, ?_, ?_, ?_⟩
  · (repeat rw [World.cell?_setCell_other _ _ _ _ (by first | (simp; done) | (simp; omega))])
    exact h.c0
  · (repeat rw [World.cell?_setCell_other _ _ _ _ (by first | (simp; done) | (simp; omega))])
    exact World.cell?_setCell_same' _ _ _ (by (repeat rw [World.cell?_setCell_other _ _ _ _ (by first | (simp; done) | (simp; omega))]); rw [h.r0]; rfl)
  · (repeat rw [World.cell?_setCell_other _ _ _ _ (by first | (simp; done) | (simp; omega))])
    exact World.cell?_setCell_same' _ _ _ (by (repeat rw [World.cell?_setCell_other _ _ _ _ (by first | (simp; done) | (simp; omega))]); rw [h.r1]; rfl)
  · (repeat rw [World.cell?_setCell_other _ _ _ _ (by first | (simp; done) | (simp; omega))])
    exact World.cell?_setCell_same' _ _ _ (by (repeat rw [World.cell?_setCell_other _ _ _ _ (by first | (simp; done) | (simp; omega))]); rw [h.r2]; rfl)
  · (repeat rw [World.cell?_setCell_other _ _ _ _ (by first | (simp; done) | (simp; omega))])
    exact World.cell?_setCell_same' _ _ _ (by (repeat rw [World.cell?_setCell_other _ _ _ _ (by first | (simp; done) | (simp; omega))]); rw [h.r3]; rfl)
  · (repeat rw [World.cell?_setCell_other _ _ _ _ (by first | (simp; done) | (simp; omega))])
    exact World.cell?_setCell_same' _ _ _ (by (repeat rw [World.cell?_setCell_other _ _ _ _ (by first | (simp; done) | (simp; omega))]); rw [h.er]; rfl)
  · simp only [World.frozen?_setCell]; exact h.f0
  · simp only [World.frozen?_setCell]; exact h.f1
  · simp only [World.frozen?_setCell]; exact h.f2
  · simp only [World.frozen?_setCell]; exact h.f3
  · simp only [World.frozen?_setCell]; exact h.fe
theorem names_once (v : Int) : ((tabT v).map Ent.name).Nodup := by
  unfold tabT
  split
  · decide +kernel
  · decide +kernel
theorem find_name (T : List Ent) (h : (T.map Ent.name).Nodup) (e : Ent) (he : e ∈ T) : T.find? (fun x => x.name == e.name) = some e := by
  induction T with
  | nil => cases he
  | cons a T ih =>
    rw [List.map_cons, List.nodup_cons] at h
    rcases List.mem_cons.1 he with rfl | he
    · simp
    · have hne : a.name ≠ e.name := fun hc => h.1 (by rw [hc]; exact List.mem_map_of_mem he)
      rw [List.find?_cons_of_neg (by simpa using hne)]
      exact ih h.2 he
theorem rule_at {v : Int} {e : Ent} {u : List UInt8} (he : e ∈ tabT v) (hn : e.name = u) : ruleOf (tabT v) u = ((e.ty : Int), (e.least : Int), (e.most : Int), (e.parts : Int)) := by
  unfold ruleOf
  rw [← hn, find_name _ (names_once v) e he]
structure Dig (B : Nat) (e : Ent) (k : Nat) (w : World) : Prop where
  c0 : w.cell? ⟨B, 0, none⟩ = some (.int .i64 (if 0 < k then e.ty else 0))
  c1 : w.cell? ⟨B, 1, none⟩ = some (.int .i64 (if 1 < k then e.least else 0))
  c2 : w.cell? ⟨B, 2, none⟩ = some (.int .i64 (if 2 < k then e.most else 0))
  c3 : w.cell? ⟨B, 3, none⟩ = some (.int .i64 (if 3 < k then e.parts else 0))
  f0 : w.frozen? ⟨B, 0, none⟩ = false
  f1 : w.frozen? ⟨B, 1, none⟩ = false
  f2 : w.frozen? ⟨B, 2, none⟩ = false
  f3 : w.frozen? ⟨B, 3, none⟩ = false
theorem Dig.grow {B : Nat} {e : Ent} {k : Nat} {w w' : World} (h : Dig B e k w) (g : G w w') : Dig B e k w' := by
  have hb : B < w.heap.size := World.block_lt_of_cell? _ _ h.c0
  exact ⟨(g.cell hb).trans h.c0, (g.cell hb).trans h.c1, (g.cell hb).trans h.c2, (g.cell hb).trans h.c3, (g.below.frozen hb).trans h.f0, (g.below.frozen hb).trans h.f1, (g.below.frozen hb).trans h.f2, (g.below.frozen hb).trans h.f3⟩
theorem Dig.set {B : Nat} {e : Ent} {k : Nat} {w : World} (h : Dig B e k w) (hk : k < 4) : Dig B e (k + 1) (w.setCell ⟨B, k, none⟩ (.int .i64 (match k with | 0 => e.ty | 1 => e.least | 2 => e.most | _ => e.parts : Nat))) := by
  have h1 : k = 0 ∨ k = 1 ∨ k = 2 ∨ k = 3 := by omega
  obtain ⟨a0, a1, a2, a3, b0, b1, b2, b3⟩ := h
  rcases h1 with rfl | rfl | rfl | rfl
  all_goals
    refine ⟨?_, ?_, ?_, ?_, ?_, ?_, ?_, ?_⟩
    all_goals first
      | (rw [World.frozen?_setCell]; assumption)
      | (rw [World.cell?_setCell_other _ _ _ _ (by simp)]; assumption)
      | (refine World.cell?_setCell_same' _ _ _ ?_; simp [*])
end Go.Proofs.YtfadckackdmbnaaGreatDoor

namespace Go.Proofs.YtfadckackdmbnaaGreatDoor
open Go.RowKit
set_option linter.unusedVariables false
set_option linter.unusedSimpArgs false
def lettersL : List UInt8 := [65, 66, 67, 68, 69, 70, 71, 72, 73, 74, 75, 76, 77, 78, 79, 80, 81, 82, 83, 84, 85, 86, 87, 88, 89, 90, 97, 98, 99, 100, 101, 102, 103, 104, 105, 106, 107, 108, 109, 110, 111, 112, 113, 114, 115, 116, 117, 118, 119, 120, 121, 122, 48, 49, 50, 51, 52, 53, 54, 55, 56, 57, 43, 47]
theorem letters_len : lettersL.length = 64 := by decide
def letB (k : Int) : Int := ((lettersL.getD k.toNat 0).toNat : Int)
theorem letB_range (k : Int) : 0 ≤ letB k ∧ letB k < 256 := by
  unfold letB; have := (lettersL.getD k.toNat 0).toNat_lt; omega
theorem run_letter (k : Int) (h0 : 0 ≤ k) (h1 : k < 64) (w : World) : (Instr.index 9 (.string ⟨#[65, 66, 67, 68, 69, 70, 71, 72, 73, 74, 75, 76, 77, 78, 79, 80, 81, 82, 83, 84, 85, 86, 87, 88, 89, 90, 97, 98, 99, 100, 101, 102, 103, 104, 105, 106, 107, 108, 109, 110, 111, 112, 113, 114, 115, 116, 117, 118, 119, 120, 121, 122, 48, 49, 50, 51, 52, 53, 54, 55, 56, 57, 43, 47]⟩) (.int .i64 k)).run Tryz.prog w = .ok (.int .u8 (letB k)) w := by
  have h := run_index_string (P := Tryz.prog) w 9 (S lettersL) .i64 k Tryz.underlying9
  have hs : (S lettersL).size = 64 := by rw [S_size, letters_len]
  rw [dif_pos ⟨h0, by rw [hs]; omega⟩] at h
  have e : (⟨#[65, 66, 67, 68, 69, 70, 71, 72, 73, 74, 75, 76, 77, 78, 79, 80, 81, 82, 83, 84, 85, 86, 87, 88, 89, 90, 97, 98, 99, 100, 101, 102, 103, 104, 105, 106, 107, 108, 109, 110, 111, 112, 113, 114, 115, 116, 117, 118, 119, 120, 121, 122, 48, 49, 50, 51, 52, 53, 54, 55, 56, 57, 43, 47]⟩ : ByteArray) = S lettersL := rfl
  rw [e, h]
  unfold letB
  rw [S_get]
  have hk : k.toNat < lettersL.length := by rw [letters_len]; omega
  simp [List.getD, List.getElem?_eq_getElem hk]
def quadL (n : Int) : List UInt8 := [byteOf (letB (n / 262144 % 64)), byteOf (letB (n / 4096 % 64)), byteOf (letB (n / 64 % 64)), byteOf (letB (n % 64))]
def num3 (a b c : UInt8) : Int := ((a.toNat : Int) * 256 + b.toNat) * 256 + c.toNat
def b64E : List UInt8 → List UInt8
  | [] => []
  | [a] => (quadL (num3 a 0 0)).take 2 ++ [61, 61]
  | [a, b] => (quadL (num3 a b 0)).take 3 ++ [61]
  | a :: b :: c :: t => quadL (num3 a b c) ++ b64E t
theorem quadL_length (n : Int) : (quadL n).length = 4 := rfl
theorem b64E_length : ∀ l : List UInt8, (b64E l).length = (l.length + 2) / 3 * 4
  | [] => rfl
  | [a] => by simp [b64E, quadL]
  | [a, b] => by simp [b64E, quadL]
  | a :: b :: c :: t => by
    rw [b64E, List.length_append, quadL_length, b64E_length t]
    simp only [List.length_cons]
    omega
theorem drop3 (a b c : UInt8) (t : List UInt8) : (a :: b :: c :: t).drop (min 3 ((t.length : Int) + 1 + 1 + 1)).toNat = t := by
  have e3 : (min 3 ((t.length : Int) + 1 + 1 + 1)).toNat = 3 := by omega
  rw [e3]; rfl
theorem encL_1 (a : UInt8) : b64E [a] = (quadL (num3 a 0 0)).take 2 ++ [61, 61] := rfl
theorem encL_2 (a b : UInt8) : b64E [a, b] = (quadL (num3 a b 0)).take 3 ++ [61] := rfl
theorem encL_3 (a b c : UInt8) (t : List UInt8) : b64E (a :: b :: c :: t) = quadL (num3 a b c) ++ b64E t := by rw [b64E]
set_option maxRecDepth 100000 in
set_option maxHeartbeats 4000000 in
theorem b64encode_any (l : List UInt8) (w : World) (hl : l.length ≤ 1099511627776) : Gives 44 #[.string (S l)] w (.string (S (b64E l))) := by
  go_enter Tryz.func44, Tryz.ntmps44
  go_wp2_with fail
  have hnew := IsB.new (G.refl w)
  have Hnew := hid hnew
  clear hnew
  go_loopw [0] (fun s wr => ∃ rest pre : List UInt8, s = .string (S rest) ∧ b64E l = pre ++ b64E rest ∧ rest.length ≤ l.length ∧ pre.length + (rest.length + 2) / 3 * 4 ≤ (l.length + 2) / 3 * 4 ∧ IsB w wr w.heap.size pre ∧ G w wr) (fun s _ => match s with | .string x => x.size | _ => 0)
  case atStart => exact ⟨l, [], rfl, by simp, Nat.le_refl _, by simp, Hnew.out, (G.refl w).alloc _⟩
  case round =>
    obtain ⟨rest, pre, rfl, he, hrl, hpl, hb, hg⟩ := hrel
    have Hb := hid hb
    have He := hid he
    clear hb he Hnew
    rcases rest with _ | ⟨a, _ | ⟨b, _ | ⟨c, t⟩⟩⟩
    · go_wp2_with fail
      refine (string_any Hb.out hg).mono ?_
      rintro e w1 ⟨rfl, g1, _⟩
      go_wp2_with fail
      go_ret
      exact ⟨by rw [He.out]; simp [b64E], g1⟩
    · simp only [List.length_cons, List.length_nil] at hrl hpl
      have ha : a.toNat < 256 := a.toNat_lt
      have o0 : bits .or .i64 0 (a.toNat : Int) = (a.toNat : Int) := by have := i64_join 8 0 (a.toNat : Int) (by omega) (by decide) (by omega) (by omega) (by omega) (by omega); omega
      have HN : Hid (num3 a 0 0 = (a.toNat : Int) * 256 * 256) := hid (by unfold num3; simp)
      have n0 : 0 ≤ (a.toNat : Int) * 256 * 256 := by omega
      have n1 : (a.toNat : Int) * 256 * 256 < 16777216 := by omega
      obtain ⟨N, hN⟩ : ∃ N, N = (a.toNat : Int) * 256 * 256 := ⟨_, rfl⟩
      rw [← hN] at n0 n1
      have m0 : bits .and .i64 (N / 262144) 63 = N / 262144 % 64 := i64_mask 6 (by omega) _ 63 (by omega) (by omega) rfl
      have m1 : bits .and .i64 (N / 4096) 63 = N / 4096 % 64 := i64_mask 6 (by omega) _ 63 (by omega) (by omega) rfl
      have HQ : Hid (quadL N = [byteOf (letB (N / 262144 % 64)), byteOf (letB (N / 4096 % 64)), byteOf (letB (N / 64 % 64)), byteOf (letB (N % 64))]) := hid rfl
      have b0a : 0 ≤ N / 262144 % 64 := by omega
      have b0b : N / 262144 % 64 < 64 := by omega
      generalize N / 262144 % 64 = K0 at *
      have l0 := run_letter K0 b0a b0b
      have r0 := letB_range K0
      have b1a : 0 ≤ N / 4096 % 64 := by omega
      have b1b : N / 4096 % 64 < 64 := by omega
      generalize N / 4096 % 64 = K1 at *
      have l1 := run_letter K1 b1a b1b
      have r1 := letB_range K1
      have hN2 := hid hN
      clear hN
      go_wp2_with fail
      refine wp_loop_rounds 4 ?_
      rw [rounds_succ]
      go_wp2_with fail
      rw [rounds_succ]
      go_wp2_with fail
      rw [rounds_succ]
      go_wp2_with fail
      rw [rounds_succ]
      go_wp2_with fail
      simp only [← hN2.out]
      refine wp_loop_rounds 5 ?_
      rw [rounds_succ]
      go_wp2_with fail
      refine (writeByte_any Hb.out hg (letB K0) r0.1 r0.2 (by simp; omega)).mono ?_
      rintro e w0 ⟨rfl, hb0, hg0, _⟩
      have Hb0 := hid hb0
      clear hb0
      go_wp2_with fail
      rw [rounds_succ]
      go_wp2_with fail
      refine (writeByte_any Hb0.out hg0 (letB K1) r1.1 r1.2 (by simp; omega)).mono ?_
      rintro e w1 ⟨rfl, hb1, hg1, _⟩
      have Hb1 := hid hb1
      clear hb1
      go_wp2_with fail
      rw [rounds_succ]
      go_wp2_with fail
      refine (writeByte_any Hb1.out hg1 61 (by omega) (by omega) (by simp; omega)).mono ?_
      rintro e w2 ⟨rfl, hb2, hg2, _⟩
      have Hb2 := hid hb2
      clear hb2
      go_wp2_with fail
      rw [rounds_succ]
      go_wp2_with fail
      refine (writeByte_any Hb2.out hg2 61 (by omega) (by omega) (by simp; omega)).mono ?_
      rintro e w3 ⟨rfl, hb3, hg3, _⟩
      have Hb3 := hid hb3
      clear hb3
      go_wp2_with fail
      rw [rounds_succ]
      go_wp2_with fail
      go_roundw
      case rel =>
        refine ⟨[], _, by first | rfl | rw [drop3], ?_, (by first | omega | simp), ?_, Hb3.out, hg3⟩
        · rw [He.out, encL_1, HN.out, ← hN2.out, HQ.out]; simp [b64E]
        · simp; omega
      case measure => simp; omega
    · simp only [List.length_cons, List.length_nil] at hrl hpl
      have ha : a.toNat < 256 := a.toNat_lt
      have hb : b.toNat < 256 := b.toNat_lt
      have o0 : bits .or .i64 0 (a.toNat : Int) = (a.toNat : Int) := by have := i64_join 8 0 (a.toNat : Int) (by omega) (by decide) (by omega) (by omega) (by omega) (by omega); omega
      have o1 : bits .or .i64 ((a.toNat : Int) * 256) (b.toNat : Int) = (a.toNat : Int) * 256 + b.toNat := i64_join 8 _ _ (by omega) (by simp) (by omega) (by omega) (by omega) (by omega)
      have HN : Hid (num3 a b 0 = ((a.toNat : Int) * 256 + b.toNat) * 256) := hid (by unfold num3; simp)
      have n0 : 0 ≤ ((a.toNat : Int) * 256 + b.toNat) * 256 := by omega
      have n1 : ((a.toNat : Int) * 256 + b.toNat) * 256 < 16777216 := by omega
      obtain ⟨N, hN⟩ : ∃ N, N = ((a.toNat : Int) * 256 + b.toNat) * 256 := ⟨_, rfl⟩
      rw [← hN] at n0 n1
      have m0 : bits .and .i64 (N / 262144) 63 = N / 262144 % 64 := i64_mask 6 (by omega) _ 63 (by omega) (by omega) rfl
      have m1 : bits .and .i64 (N / 4096) 63 = N / 4096 % 64 := i64_mask 6 (by omega) _ 63 (by omega) (by omega) rfl
      have m2 : bits .and .i64 (N / 64) 63 = N / 64 % 64 := i64_mask 6 (by omega) _ 63 (by omega) (by omega) rfl
      have HQ : Hid (quadL N = [byteOf (letB (N / 262144 % 64)), byteOf (letB (N / 4096 % 64)), byteOf (letB (N / 64 % 64)), byteOf (letB (N % 64))]) := hid rfl
      have b0a : 0 ≤ N / 262144 % 64 := by omega
      have b0b : N / 262144 % 64 < 64 := by omega
      generalize N / 262144 % 64 = K0 at *
      have l0 := run_letter K0 b0a b0b
      have r0 := letB_range K0
      have b1a : 0 ≤ N / 4096 % 64 := by omega
      have b1b : N / 4096 % 64 < 64 := by omega
      generalize N / 4096 % 64 = K1 at *
      have l1 := run_letter K1 b1a b1b
      have r1 := letB_range K1
      have b2a : 0 ≤ N / 64 % 64 := by omega
      have b2b : N / 64 % 64 < 64 := by omega
      generalize N / 64 % 64 = K2 at *
      have l2 := run_letter K2 b2a b2b
      have r2 := letB_range K2
      have hN2 := hid hN
      clear hN
      go_wp2_with fail
      refine wp_loop_rounds 4 ?_
      rw [rounds_succ]
      go_wp2_with fail
      rw [rounds_succ]
      go_wp2_with fail
      rw [rounds_succ]
      go_wp2_with fail
      rw [rounds_succ]
      go_wp2_with fail
      simp only [← hN2.out]
      refine wp_loop_rounds 5 ?_
      rw [rounds_succ]
      go_wp2_with fail
      refine (writeByte_any Hb.out hg (letB K0) r0.1 r0.2 (by simp; omega)).mono ?_
      rintro e w0 ⟨rfl, hb0, hg0, _⟩
      have Hb0 := hid hb0
      clear hb0
      go_wp2_with fail
      rw [rounds_succ]
      go_wp2_with fail
      refine (writeByte_any Hb0.out hg0 (letB K1) r1.1 r1.2 (by simp; omega)).mono ?_
      rintro e w1 ⟨rfl, hb1, hg1, _⟩
      have Hb1 := hid hb1
      clear hb1
      go_wp2_with fail
      rw [rounds_succ]
      go_wp2_with fail
      refine (writeByte_any Hb1.out hg1 (letB K2) r2.1 r2.2 (by simp; omega)).mono ?_
      rintro e w2 ⟨rfl, hb2, hg2, _⟩
      have Hb2 := hid hb2
      clear hb2
      go_wp2_with fail
      rw [rounds_succ]
      go_wp2_with fail
      refine (writeByte_any Hb2.out hg2 61 (by omega) (by omega) (by simp; omega)).mono ?_
      rintro e w3 ⟨rfl, hb3, hg3, _⟩
      have Hb3 := hid hb3
      clear hb3
      go_wp2_with fail
      rw [rounds_succ]
      go_wp2_with fail
      go_roundw
      case rel =>
        refine ⟨[], _, by first | rfl | rw [drop3], ?_, (by first | omega | simp), ?_, Hb3.out, hg3⟩
        · rw [He.out, encL_2, HN.out, ← hN2.out, HQ.out]; simp [b64E]
        · simp; omega
      case measure => simp; omega
    · simp only [List.length_cons, List.length_nil] at hrl hpl
      have ha : a.toNat < 256 := a.toNat_lt
      have hb : b.toNat < 256 := b.toNat_lt
      have hc : c.toNat < 256 := c.toNat_lt
      have o0 : bits .or .i64 0 (a.toNat : Int) = (a.toNat : Int) := by have := i64_join 8 0 (a.toNat : Int) (by omega) (by decide) (by omega) (by omega) (by omega) (by omega); omega
      have o1 : bits .or .i64 ((a.toNat : Int) * 256) (b.toNat : Int) = (a.toNat : Int) * 256 + b.toNat := i64_join 8 _ _ (by omega) (by simp) (by omega) (by omega) (by omega) (by omega)
      have o2 : bits .or .i64 (((a.toNat : Int) * 256 + b.toNat) * 256) (c.toNat : Int) = ((a.toNat : Int) * 256 + b.toNat) * 256 + c.toNat := i64_join 8 _ _ (by omega) (by simp) (by omega) (by omega) (by omega) (by omega)
      have HN : Hid (num3 a b c = ((a.toNat : Int) * 256 + b.toNat) * 256 + c.toNat) := hid (by unfold num3; simp)
      have n0 : 0 ≤ ((a.toNat : Int) * 256 + b.toNat) * 256 + c.toNat := by omega
      have n1 : ((a.toNat : Int) * 256 + b.toNat) * 256 + c.toNat < 16777216 := by omega
      obtain ⟨N, hN⟩ : ∃ N, N = ((a.toNat : Int) * 256 + b.toNat) * 256 + c.toNat := ⟨_, rfl⟩
      rw [← hN] at n0 n1
      have m0 : bits .and .i64 (N / 262144) 63 = N / 262144 % 64 := i64_mask 6 (by omega) _ 63 (by omega) (by omega) rfl
      have m1 : bits .and .i64 (N / 4096) 63 = N / 4096 % 64 := i64_mask 6 (by omega) _ 63 (by omega) (by omega) rfl
      have m2 : bits .and .i64 (N / 64) 63 = N / 64 % 64 := i64_mask 6 (by omega) _ 63 (by omega) (by omega) rfl
      have m3 : bits .and .i64 N 63 = N % 64 := i64_mask 6 (by omega) _ 63 (by omega) (by omega) rfl
      have HQ : Hid (quadL N = [byteOf (letB (N / 262144 % 64)), byteOf (letB (N / 4096 % 64)), byteOf (letB (N / 64 % 64)), byteOf (letB (N % 64))]) := hid rfl
      have b0a : 0 ≤ N / 262144 % 64 := by omega
      have b0b : N / 262144 % 64 < 64 := by omega
      generalize N / 262144 % 64 = K0 at *
      have l0 := run_letter K0 b0a b0b
      have r0 := letB_range K0
      have b1a : 0 ≤ N / 4096 % 64 := by omega
      have b1b : N / 4096 % 64 < 64 := by omega
      generalize N / 4096 % 64 = K1 at *
      have l1 := run_letter K1 b1a b1b
      have r1 := letB_range K1
      have b2a : 0 ≤ N / 64 % 64 := by omega
      have b2b : N / 64 % 64 < 64 := by omega
      generalize N / 64 % 64 = K2 at *
      have l2 := run_letter K2 b2a b2b
      have r2 := letB_range K2
      have b3a : 0 ≤ N % 64 := by omega
      have b3b : N % 64 < 64 := by omega
      generalize N % 64 = K3 at *
      have l3 := run_letter K3 b3a b3b
      have r3 := letB_range K3
      have hN2 := hid hN
      clear hN
      go_wp2_with fail
      refine wp_loop_rounds 4 ?_
      rw [rounds_succ]
      go_wp2_with fail
      rw [rounds_succ]
      go_wp2_with fail
      rw [rounds_succ]
      go_wp2_with fail
      rw [rounds_succ]
      go_wp2_with fail
      simp only [← hN2.out]
      refine wp_loop_rounds 5 ?_
      rw [rounds_succ]
      go_wp2_with fail
      refine (writeByte_any Hb.out hg (letB K0) r0.1 r0.2 (by simp; omega)).mono ?_
      rintro e w0 ⟨rfl, hb0, hg0, _⟩
      have Hb0 := hid hb0
      clear hb0
      go_wp2_with fail
      rw [rounds_succ]
      go_wp2_with fail
      refine (writeByte_any Hb0.out hg0 (letB K1) r1.1 r1.2 (by simp; omega)).mono ?_
      rintro e w1 ⟨rfl, hb1, hg1, _⟩
      have Hb1 := hid hb1
      clear hb1
      go_wp2_with fail
      rw [rounds_succ]
      go_wp2_with fail
      refine (writeByte_any Hb1.out hg1 (letB K2) r2.1 r2.2 (by simp; omega)).mono ?_
      rintro e w2 ⟨rfl, hb2, hg2, _⟩
      have Hb2 := hid hb2
      clear hb2
      go_wp2_with fail
      rw [rounds_succ]
      go_wp2_with fail
      refine (writeByte_any Hb2.out hg2 (letB K3) r3.1 r3.2 (by simp; omega)).mono ?_
      rintro e w3 ⟨rfl, hb3, hg3, _⟩
      have Hb3 := hid hb3
      clear hb3
      go_wp2_with fail
      rw [rounds_succ]
      go_wp2_with fail
      go_roundw
      case rel =>
        refine ⟨t, _, by first | rfl | rw [drop3], ?_, (by first | omega | simp), ?_, Hb3.out, hg3⟩
        · rw [He.out, encL_3, HN.out, ← hN2.out, HQ.out]; simp [b64E]
        · simp; omega
      case measure => simp; omega
end Go.Proofs.YtfadckackdmbnaaGreatDoor

namespace Go.Proofs.YtfadckackdmbnaaGreatDoor
open Go.RowKit
set_option linter.unusedVariables false
set_option linter.unusedSimpArgs false
def idxB (c : UInt8) : Int := Lib.indexByte lettersL c
theorem idxB_cases (c : UInt8) : idxB c = -1 ∨ (0 ≤ idxB c ∧ idxB c < 64 ∧ byteOf (letB (idxB c)) = c ∧ c ≠ 61) := by
  have := byte_all (fun c => decide (idxB c = -1 ∨ (0 ≤ idxB c ∧ idxB c < 64 ∧ byteOf (letB (idxB c)) = c ∧ c ≠ 61))) (by decide +kernel) c
  exact of_decide_eq_true this
theorem idxB_letter (k : Int) (h0 : 0 ≤ k) (h1 : k < 64) : idxB (byteOf (letB k)) = k := by
  have h : (List.range 64).all (fun n => decide (idxB (byteOf (letB (n : Int))) = (n : Int))) = true := by decide +kernel
  have := List.all_eq_true.1 h k.toNat (by simp; omega)
  have e : ((k.toNat : Nat) : Int) = k := by omega
  rw [e] at this
  exact of_decide_eq_true this
theorem letB_ne (k : Int) (h0 : 0 ≤ k) (h1 : k < 64) : byteOf (letB k) ≠ 61 := by
  intro h
  have := idxB_letter k h0 h1
  rw [h] at this
  have h2 : idxB 61 = -1 := by decide +kernel
  omega
theorem idx61 : idxB 61 = -1 := by decide +kernel
def bytes3 (n : Int) : List UInt8 := [byteOf (n / 65536), byteOf (n / 256 % 256), byteOf (n % 256)]
def num4 (a b c d : Int) : Int := ((a * 64 + b) * 64 + c) * 64 + d
def decQ (last : Bool) (c0 c1 c2 c3 : UInt8) : Except Nat (List UInt8) :=
  if idxB c0 < 0 then .error 0
  else if idxB c1 < 0 then .error 1
  else if last = true ∧ c3 = 61 ∧ c2 = 61 then
    (if num4 (idxB c0) (idxB c1) 0 0 % 65536 = 0 then .ok ((bytes3 (num4 (idxB c0) (idxB c1) 0 0)).take 1) else .error 1)
  else if idxB c2 < 0 then .error 2
  else if last = true ∧ c3 = 61 then
    (if num4 (idxB c0) (idxB c1) (idxB c2) 0 % 256 = 0 then .ok ((bytes3 (num4 (idxB c0) (idxB c1) (idxB c2) 0)).take 2) else .error 2)
  else if idxB c3 < 0 then .error 3
  else .ok (bytes3 (num4 (idxB c0) (idxB c1) (idxB c2) (idxB c3)))
def b64D : List UInt8 → Except Nat (List UInt8)
  | c0 :: c1 :: c2 :: c3 :: t =>
    match decQ t.isEmpty c0 c1 c2 c3 with
    | .error p => .error p
    | .ok bs => match b64D t with
      | .error p => .error (p + 4)
      | .ok cs => .ok (bs ++ cs)
  | _ => .ok []
theorem wpList_pushM {ops : Array Oper} {rest : List Oper} {o : Oper} {a : Act} {Q : Exit → Act → World → Prop} {w wr : World} (hgd : o.guard = none) (s x : Operand) (t : TypeId)
    (ho : o.op = .call { callee := .builtin .append, args := #[s, x], argTypes := #[t, t] })
    (e : TypeId) (i : TypeInfo) (z : Value) (bytes : Nat) (ht : Tryz.prog.underlying t = some (.slice e)) (hi : Tryz.prog.info? e = some i) (hz : i.zero = some z)
    (hsize : i.size = 1) (hby : i.bytes = bytes) (hzs : z.cells.size = 1)
    (v : Value) (n : Nat) (xs : List Value) (hs : a.eval s = v) (hown : wr.ownsRow w.heap.size e 1 v n xs) (hg : G w wr)
    (us : List Value) (m cap : Nat) (hm : m ≤ us.length) (hx : a.eval x = .slice (some ⟨wr.heap.size, 0, none⟩) m cap) (h1 : ∀ u ∈ us, u.oneCell' = true)
    (hbytes : (n + m) * bytes ≤ 140737488355328) (h63 : n + m ≤ 140737488355328)
    (h : ∀ v' w', w'.ownsRow w.heap.size e 1 v' (n + m) (xs ++ us.take m) → G w w' → wpList Tryz.prog ops Q rest (a.put o.dst v') w') :
    wpList Tryz.prog ops Q (o :: rest) a (wr.alloc (.cells us.toArray e)) := by
  refine wpList_append_own _ hgd s x t ho w.heap.size e i z 1 bytes ht hi hz hsize hby hzs (by decide) v n xs hs (hown.alloc _) ⟨wr.heap.size, 0, none⟩ m cap (us.take m) hx (by simp; omega) ?_ (fun u hu => h1 u (List.mem_of_mem_take hu)) (by unfold maxLen; omega) hbytes (by have := hg.size; simp; omega) ?_
  · intro j u hj
    have : (⟨wr.heap.size, 0, none⟩ : Addr).add j = ⟨wr.heap.size, j, none⟩ := by unfold Addr.add; split <;> simp_all
    rw [this, World.cell?_alloc_new]
    have hjm : j < m := by
      rcases Nat.lt_or_ge j m with h | h
      · exact h
      · rw [List.getElem?_eq_none (by simp; omega)] at hj; cases hj
    rw [List.getElem?_take_of_lt hjm] at hj
    simpa using hj
  · intro v' w' h2 h3 h4
    refine h v' w' h2 ?_
    refine (hg.alloc (.cells us.toArray e)).grown h3 (by have := hg.size; simp; omega) ?_
    intro k hk
    exact ((hown.alloc (.cells us.toArray e)).lt k hk).1
theorem conv_own {w : World} {B : Nat} {v : Value} {bs : List UInt8} (h : w.ownsRow B 5 1 v bs.length (bs.map fun c => Value.int .u8 (c.toNat : Int))) :
    (convert 114 9 v).run Tryz.prog w = .ok (.string (S bs)) w := by
  obtain ⟨h1, h2⟩ := h
  rcases h2 with ⟨rfl, h0⟩ | ⟨g, cap, cur, hv, hb, hh, hn, hm, hcs, ht⟩
  · have : bs = [] := List.eq_nil_of_length_eq_zero h0
    subst this
    exact run_convert_bytes_nil (P := Tryz.prog) w 114 5 Tryz.underlying114 Tryz.underlying5 0 0 9 Tryz.underlying9
  · subst hv
    refine run_convert_bytes_back (P := Tryz.prog) w 114 9 5 ⟨g, 0, none⟩ cap bs Tryz.underlying114 Tryz.underlying5 Tryz.underlying9 (fun j hj => ?_)
    have e : (⟨g, 0, none⟩ : Addr).add j = ⟨g, j, none⟩ := by unfold Addr.add; split <;> simp_all
    rw [e]
    have := World.ownsRow.cellAt (w := w) (base := B) (e := 5) (size := 1) (g := g) (n := bs.length) (cap := cap) (xs := bs.map fun c => Value.int .u8 (c.toNat : Int)) ⟨h1, Or.inr ⟨g, cap, cur, rfl, hb, hh, hn, hm, hcs, ht⟩⟩ j (by omega)
    rw [this]
    simp [List.getElem?_eq_getElem hj]
end Go.Proofs.YtfadckackdmbnaaGreatDoor
