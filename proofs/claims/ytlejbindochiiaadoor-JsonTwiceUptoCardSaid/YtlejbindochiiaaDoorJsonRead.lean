/-
  CONTRACT of json.Read.
-/
import Derived.Test.YtlejbindochiiaaDoorJsonCatch
import Derived.Test.YtlejbindochiiaaDoorUtf3
namespace Go.Proofs.YtlejbindochiiaaDoor
open Go.RowKit
set_option linter.unusedVariables false
set_option linter.unusedSimpArgs false

def zeroJ : Value := .agg #[.int .i64 0, .string (S []), .slice none 0 0, .slice none 0 0]
/-- what Read hands back -/
def ReadP (x : Except (Int × Option Nat) Jt) (lo : Nat) (v : Value) (w : World) : Prop :=
  match x with
  | .ok j => ∃ u, v = .tuple #[u, .nilIface] ∧ JAt 12 (fun b => lo ≤ b) w u j
  | .error (c, none) => v = .tuple #[zeroJ, eno c]
  | .error (c, some k) => ∃ e, v = .tuple #[zeroJ, e] ∧ IsAt w e c k
def JMakes (Q : Value → World → Prop) (w : World) (e : Ending) (w' : World) : Prop := ∃ v, e = .returned v ∧ Q v w' ∧ G w w'
theorem ReadP.no {x : Except (Int × Option Nat) Jt} {lo : Nat} {c : Int} {k : Nat} {e : Value} {w : World} (h : x = .error (c, some k)) (hi : IsAt w e c k) : ReadP x lo (.tuple #[.agg #[.int .i64 0, .string (S []), .slice none 0 0, .slice none 0 0], e]) w := by subst h; exact ⟨e, rfl, hi⟩
/-- the state between two steps: the tree in block P, the error in E, the reader in R -/
structure JaSt (w wx : World) (P E R : Nat) (s : List UInt8) (a b c d : Value) (l : List UInt8) : Prop where
  gg : G w wx
  pp : wx.heap[P]? = some (.cells #[a, b, c, d] 25)
  ee : wx.heap[E]? = some (.cells #[.nilIface] 29)
  rr : JRd wx R s l
section
variable {w wx wy : World} {P E R : Nat} {s : List UInt8} {a b c d : Value} {l l' : List UInt8}
theorem JaSt.mv (h : JaSt w wx P E R s a b c d l) (m : wx.grownBy wy (some R)) (hr : JRd wy R s l') (hR : w.heap.size ≤ R) (hP : P ≠ R) (hE : E ≠ R) : JaSt w wy P E R s a b c d l' :=
  ⟨g_of_mv h.gg m hR, (m.block P (lt_of_row h.pp) (by simpa using hP)).trans h.pp, (m.block E (lt_of_row h.ee) (by simpa using hE)).trans h.ee, hr⟩
theorem JaSt.mv2 (h : JaSt w wx P E R s a b c d l) (m : wx.grownBy wy (some R)) (hR : w.heap.size ≤ R) (hP : P ≠ R) (hE : E ≠ R) : G w wy ∧ wy.heap[P]? = some (.cells #[a, b, c, d] 25) ∧ wy.heap[E]? = some (.cells #[.nilIface] 29) :=
  ⟨g_of_mv h.gg m hR, (m.block P (lt_of_row h.pp) (by simpa using hP)).trans h.pp, (m.block E (lt_of_row h.ee) (by simpa using hE)).trans h.ee⟩
theorem JaSt.put {a' b' c' d' : Value} (h : JaSt w wx P E R s a b c d l) (hw : w.heap.size ≤ P) (hP : P ≠ R) (hE : E ≠ P) : JaSt w ((((wx.setCell ⟨P, 0, none⟩ a').setCell ⟨P, 1, none⟩ b').setCell ⟨P, 2, none⟩ c').setCell ⟨P, 3, none⟩ d') P E R s a' b' c' d' l := by
  refine ⟨Below.setCell (Below.setCell (Below.setCell (Below.setCell h.gg.below hw _) hw _) hw _) hw _, box_put h.pp, ?_, ?_⟩
  · rw [Below.heap_setCell _ _ _ _ hE, Below.heap_setCell _ _ _ _ hE, Below.heap_setCell _ _ _ _ hE, Below.heap_setCell _ _ _ _ hE]; exact h.ee
  · obtain ⟨p, e, hr⟩ := h.rr
    exact ⟨p, e, hr.putX (Ne.symm hP)⟩
end
set_option maxRecDepth 100000 in
set_option maxHeartbeats 8000000 in
theorem read_any (s : List UInt8) (w : World) : Calls Tryd.prog 10 #[.string (S s)] w (JMakes (ReadP (readJ s) w.heap.size) w) := by
  have hmf : ∀ (fn : Fn) (first cap : Array Value) (w : World), (Instr.makeFunc fn first cap).run Tryd.prog w = .ok (.func fn first cap) w := fun _ _ _ _ => rfl
  by_cases hlen : 20000 < s.length
  · have hd : decide ((20000 : Int) < (s.length : Int)) = true := decide_eq_true (by omega)
    have HL := hid hlen
    clear hlen
    go_enter_defers Tryd.func10, Tryd.ntmps10
    go_upto_region 1 with fail
    obtain ⟨P, hP⟩ : ∃ P, P = w.heap.size := ⟨_, rfl⟩
    obtain ⟨E, hE⟩ : ∃ E, E = w.heap.size + 1 := ⟨_, rfl⟩
    generalize hw0 : World.alloc (World.alloc w _) _ = w0
    have pp : w0.heap[P]? = some (.cells #[.int .i64 0, .string (S []), .slice none 0 0, .slice none 0 0] 25) := by
      rw [← hw0, hP, Below.heap_alloc _ _ _ (by simp)]; exact (MapKept.heap_alloc w _).1
    have ee : w0.heap[E]? = some (.cells #[.nilIface] 29) := by
      rw [← hw0, hE]
      have := (MapKept.heap_alloc (w.alloc (.cells #[.int .i64 0, .string ⟨#[]⟩, .slice none 0 0, .slice none 0 0] 25)) (.cells #[.nilIface] 29)).1
      rwa [World.size_alloc] at this
    have gg : G w w0 := by rw [← hw0]; exact ((G.refl w).alloc _).alloc _
    rw [← hE, ← hP]
    have h1 : w.heap.size ≤ P := by omega
    have h2 : w.heap.size ≤ E := by omega
    have h6 : ¬ E = P := by omega
    have h6b : ¬ P = E := by omega
    clear hP hE hw0
    have p0 : w0.cell? ⟨P, 0, none⟩ = some (.int .i64 0) := by rw [cell_of_row w0 P 0 _ _ _ pp]; rfl
    have p1 : w0.cell? ⟨P, 1, none⟩ = some (.string (S [])) := by rw [cell_of_row w0 P 1 _ _ _ pp]; rfl
    have p2 : w0.cell? ⟨P, 2, none⟩ = some (.slice none 0 0) := by rw [cell_of_row w0 P 2 _ _ _ pp]; rfl
    have p3 : w0.cell? ⟨P, 3, none⟩ = some (.slice none 0 0) := by rw [cell_of_row w0 P 3 _ _ _ pp]; rfl
    have q0 : w0.cell? ⟨E, 0, none⟩ = some .nilIface := by rw [cell_of_row w0 E 0 _ _ _ ee]; rfl
    have zp := fun j => frozen_of_row w0 P j _ _ pp
    have ze := frozen_of_row w0 E 0 _ _ ee
    have PP := hid pp
    have EE := hid ee
    clear pp ee
    go_wp2_with fail
    generalize hW : World.setCell _ _ (Value.iface _ _) = W
    have kP : W.heap[P]? = some (.cells #[.int .i64 0, .string (S []), .slice none 0 0, .slice none 0 0] 25) := by
      rw [← hW, Below.heap_setCell _ _ _ _ h6b]; exact box_put PP.out
    have kE : W.heap[E]? = some (.cells #[eno 4] 29) := by
      rw [← hW]
      refine row_setE (i := 0) (cs := #[.nilIface]) ?_ rfl
      rw [Below.heap_setCell _ _ _ _ h6, Below.heap_setCell _ _ _ _ h6, Below.heap_setCell _ _ _ _ h6, Below.heap_setCell _ _ _ _ h6]
      exact EE.out
    have kG : G w W := by
      rw [← hW]
      exact Below.setCell (Below.setCell (Below.setCell (Below.setCell (Below.setCell gg.below h1 _) h1 _) h1 _) h1 _) h2 _
    clear hW p0 p1 p2 p3 q0 zp ze
    have y0 : W.cell? ⟨P, 0, none⟩ = some (.int .i64 0) := by rw [cell_of_row W P 0 _ _ _ kP]; rfl
    have y1 : W.cell? ⟨P, 1, none⟩ = some (.string (S [])) := by rw [cell_of_row W P 1 _ _ _ kP]; rfl
    have y2 : W.cell? ⟨P, 2, none⟩ = some (.slice none 0 0) := by rw [cell_of_row W P 2 _ _ _ kP]; rfl
    have y3 : W.cell? ⟨P, 3, none⟩ = some (.slice none 0 0) := by rw [cell_of_row W P 3 _ _ _ kP]; rfl
    have y4 : W.cell? ⟨E, 0, none⟩ = some (eno 4) := by rw [cell_of_row W E 0 _ _ _ kE]; rfl
    refine ⟨.tuple #[zeroJ, eno 4], ?_, _, rfl, by unfold readJ; rw [if_pos HL.out]; rfl, kG⟩
    simp [results, Tryd.results10, go_sem, y0, y1, y2, y3, y4, zeroJ]
  · have hd : decide ((20000 : Int) < (s.length : Int)) = false := decide_eq_false (by omega)
    have hs : s.length ≤ 20000 := by omega
    have HL := hid hlen
    have hbad := fun W => bad_any s W (by omega)
    clear hlen
    cases hb : badL s with
    | some i =>
      rw [hb] at hbad
      have HBAD := hid hbad
      have HB := hid hb
      clear hbad hb
      go_enter_defers Tryd.func10, Tryd.ntmps10
      go_upto_region 1 with fail
      obtain ⟨P, hP⟩ : ∃ P, P = w.heap.size := ⟨_, rfl⟩
      obtain ⟨E, hE⟩ : ∃ E, E = w.heap.size + 1 := ⟨_, rfl⟩
      generalize hw0 : World.alloc (World.alloc w _) _ = w0
      have pp : w0.heap[P]? = some (.cells #[.int .i64 0, .string (S []), .slice none 0 0, .slice none 0 0] 25) := by
        rw [← hw0, hP, Below.heap_alloc _ _ _ (by simp)]; exact (MapKept.heap_alloc w _).1
      have ee : w0.heap[E]? = some (.cells #[.nilIface] 29) := by
        rw [← hw0, hE]
        have := (MapKept.heap_alloc (w.alloc (.cells #[.int .i64 0, .string ⟨#[]⟩, .slice none 0 0, .slice none 0 0] 25)) (.cells #[.nilIface] 29)).1
        rwa [World.size_alloc] at this
      have gg : G w w0 := by rw [← hw0]; exact ((G.refl w).alloc _).alloc _
      rw [← hE, ← hP]
      have h1 : w.heap.size ≤ P := by omega
      have h2 : w.heap.size ≤ E := by omega
      have h6 : ¬ E = P := by omega
      have h6b : ¬ P = E := by omega
      clear hP hE hw0
      have p0 : w0.cell? ⟨P, 0, none⟩ = some (.int .i64 0) := by rw [cell_of_row w0 P 0 _ _ _ pp]; rfl
      have p1 : w0.cell? ⟨P, 1, none⟩ = some (.string (S [])) := by rw [cell_of_row w0 P 1 _ _ _ pp]; rfl
      have p2 : w0.cell? ⟨P, 2, none⟩ = some (.slice none 0 0) := by rw [cell_of_row w0 P 2 _ _ _ pp]; rfl
      have p3 : w0.cell? ⟨P, 3, none⟩ = some (.slice none 0 0) := by rw [cell_of_row w0 P 3 _ _ _ pp]; rfl
      have q0 : w0.cell? ⟨E, 0, none⟩ = some .nilIface := by rw [cell_of_row w0 E 0 _ _ _ ee]; rfl
      have zp := fun j => frozen_of_row w0 P j _ _ pp
      have ze := frozen_of_row w0 E 0 _ _ ee
      have PP := hid pp
      have EE := hid ee
      clear pp ee
      go_wp2_with fail
      refine (HBAD.out _).use ?_
      simp only [badV]
      have hP0 := lt_of_row PP.out
      have hE0 := lt_of_row EE.out
      have PP1 : (w0.alloc (.cells #[.int .i64 3, .int .i64 (i : Int)] 52)).heap[P]? = _ := row_alloc PP.out (lt_of_row PP.out)
      have EE1 : (w0.alloc (.cells #[.int .i64 3, .int .i64 (i : Int)] 52)).heap[E]? = _ := row_alloc EE.out (lt_of_row EE.out)
      have a0 : (w0.alloc (.cells #[.int .i64 3, .int .i64 (i : Int)] 52)).cell? ⟨P, 0, none⟩ = some (.int .i64 0) := by rw [cell_of_row _ P 0 _ _ _ PP1]; rfl
      have a1 : (w0.alloc (.cells #[.int .i64 3, .int .i64 (i : Int)] 52)).cell? ⟨P, 1, none⟩ = some (.string (S [])) := by rw [cell_of_row _ P 1 _ _ _ PP1]; rfl
      have a2 : (w0.alloc (.cells #[.int .i64 3, .int .i64 (i : Int)] 52)).cell? ⟨P, 2, none⟩ = some (.slice none 0 0) := by rw [cell_of_row _ P 2 _ _ _ PP1]; rfl
      have a3 : (w0.alloc (.cells #[.int .i64 3, .int .i64 (i : Int)] 52)).cell? ⟨P, 3, none⟩ = some (.slice none 0 0) := by rw [cell_of_row _ P 3 _ _ _ PP1]; rfl
      have a4 : (w0.alloc (.cells #[.int .i64 3, .int .i64 (i : Int)] 52)).cell? ⟨E, 0, none⟩ = some .nilIface := by rw [cell_of_row _ E 0 _ _ _ EE1]; rfl
      have b0 := fun j => frozen_of_row (w0.alloc (.cells #[.int .i64 3, .int .i64 (i : Int)] 52)) P j _ _ PP1
      have b4 := frozen_of_row (w0.alloc (.cells #[.int .i64 3, .int .i64 (i : Int)] 52)) E 0 _ _ EE1
      have PP2 := hid PP1
      have EE2 := hid EE1
      clear PP1 EE1
      go_wp2_with fail
      generalize hW : World.setCell _ _ (Value.iface _ _) = V
      have vP : V.heap[P]? = some (.cells #[.int .i64 0, .string (S []), .slice none 0 0, .slice none 0 0] 25) := by
        rw [← hW, Below.heap_setCell _ _ _ _ h6b]; exact box_put PP.out
      have vE : V.heap[E]? = some (.cells #[.iface 50 (.pointer (some ⟨w0.heap.size, 0, none⟩))] 29) := by
        rw [← hW]
        refine row_setE (i := 0) (cs := #[.nilIface]) ?_ rfl
        rw [Below.heap_setCell _ _ _ _ h6, Below.heap_setCell _ _ _ _ h6, Below.heap_setCell _ _ _ _ h6, Below.heap_setCell _ _ _ _ h6]
        exact EE.out
      have vG : G w V := by
        rw [← hW]
        exact Below.setCell (Below.setCell (Below.setCell (Below.setCell (Below.setCell gg.below h1 _) h1 _) h1 _) h1 _) h2 _
      have hVs : w0.heap.size = V.heap.size := by rw [← hW]; simp
      have kI := IsAt.newAt V 52 3 i w0.heap.size hVs
      have kP := row_alloc (x := .cells #[.int .i64 3, .int .i64 (i : Int)] 52) vP (lt_of_row vP)
      have kE := row_alloc (x := .cells #[.int .i64 3, .int .i64 (i : Int)] 52) vE (lt_of_row vE)
      have kG := vG.alloc (.cells #[.int .i64 3, .int .i64 (i : Int)] 52)
      clear a0 a1 a2 a3 a4 b0 b4 vP vE vG hVs
      generalize World.alloc V _ = W at kI kP kE kG ⊢
      clear hW p0 p1 p2 p3 q0 zp ze
      have y0 : W.cell? ⟨P, 0, none⟩ = some (.int .i64 0) := by rw [cell_of_row W P 0 _ _ _ kP]; rfl
      have y1 : W.cell? ⟨P, 1, none⟩ = some (.string (S [])) := by rw [cell_of_row W P 1 _ _ _ kP]; rfl
      have y2 : W.cell? ⟨P, 2, none⟩ = some (.slice none 0 0) := by rw [cell_of_row W P 2 _ _ _ kP]; rfl
      have y3 : W.cell? ⟨P, 3, none⟩ = some (.slice none 0 0) := by rw [cell_of_row W P 3 _ _ _ kP]; rfl
      have y4 : W.cell? ⟨E, 0, none⟩ = some (.iface 50 (.pointer (some ⟨w0.heap.size, 0, none⟩))) := by rw [cell_of_row W E 0 _ _ _ kE]; rfl
      refine ⟨.tuple #[zeroJ, .iface 50 (.pointer (some ⟨w0.heap.size, 0, none⟩))], ?_, _, rfl, ReadP.no (by unfold readJ; rw [if_neg HL.out, HB.out]) kI, kG⟩
      simp [results, Tryd.results10, go_sem, y0, y1, y2, y3, y4, zeroJ]
    | none =>
      rw [hb] at hbad
      have HBAD := hid hbad
      have HB := hid hb
      clear hbad hb
      go_enter_defers Tryd.func10, Tryd.ntmps10
      go_upto_region 1 with fail
      obtain ⟨P, hP⟩ : ∃ P, P = w.heap.size := ⟨_, rfl⟩
      obtain ⟨E, hE⟩ : ∃ E, E = w.heap.size + 1 := ⟨_, rfl⟩
      generalize hw0 : World.alloc (World.alloc w _) _ = w0
      have pp : w0.heap[P]? = some (.cells #[.int .i64 0, .string (S []), .slice none 0 0, .slice none 0 0] 25) := by
        rw [← hw0, hP, Below.heap_alloc _ _ _ (by simp)]; exact (MapKept.heap_alloc w _).1
      have ee : w0.heap[E]? = some (.cells #[.nilIface] 29) := by
        rw [← hw0, hE]
        have := (MapKept.heap_alloc (w.alloc (.cells #[.int .i64 0, .string ⟨#[]⟩, .slice none 0 0, .slice none 0 0] 25)) (.cells #[.nilIface] 29)).1
        rwa [World.size_alloc] at this
      have gg : G w w0 := by rw [← hw0]; exact ((G.refl w).alloc _).alloc _
      rw [← hE, ← hP]
      have h1 : w.heap.size ≤ P := by omega
      have h2 : w.heap.size ≤ E := by omega
      have h6 : ¬ E = P := by omega
      have h6b : ¬ P = E := by omega
      clear hP hE hw0
      have p0 : w0.cell? ⟨P, 0, none⟩ = some (.int .i64 0) := by rw [cell_of_row w0 P 0 _ _ _ pp]; rfl
      have p1 : w0.cell? ⟨P, 1, none⟩ = some (.string (S [])) := by rw [cell_of_row w0 P 1 _ _ _ pp]; rfl
      have p2 : w0.cell? ⟨P, 2, none⟩ = some (.slice none 0 0) := by rw [cell_of_row w0 P 2 _ _ _ pp]; rfl
      have p3 : w0.cell? ⟨P, 3, none⟩ = some (.slice none 0 0) := by rw [cell_of_row w0 P 3 _ _ _ pp]; rfl
      have q0 : w0.cell? ⟨E, 0, none⟩ = some .nilIface := by rw [cell_of_row w0 E 0 _ _ _ ee]; rfl
      have zp := fun j => frozen_of_row w0 P j _ _ pp
      have ze := frozen_of_row w0 E 0 _ _ ee
      have PP := hid pp
      have EE := hid ee
      clear pp ee
      clear p0 p1 p2 p3 q0 zp ze
      go_wp2_with fail
      refine (HBAD.out _).use ?_
      simp only [badV]
      go_upto_region 8 with fail
      obtain ⟨R, hR⟩ : ∃ R, R = w0.heap.size := ⟨_, rfl⟩
      generalize hw1 : World.alloc w0 _ = w1
      have hst : JaSt w w1 P E R s (.int .i64 0) (.string (S [])) (.slice none 0 0) (.slice none 0 0) s := by
        rw [← hw1, hR]
        exact ⟨gg.alloc _, row_alloc PP.out (lt_of_row PP.out), row_alloc EE.out (lt_of_row EE.out), [], rfl, (MapKept.heap_alloc w0 _).1⟩
      rw [← hR]
      have h3 : w.heap.size ≤ R := by have := gg.size; omega
      have h4 : P ≠ R := by have := lt_of_row PP.out; omega
      have h5 : E ≠ R := by have := lt_of_row EE.out; omega
      have ST1 := hid hst
      clear hst hw1 hR PP EE gg
      go_wp2_with fail
      refine (tree_all 12 (Nat.le_refl _) w1 R s s ST1.out.rr (by omega)).mono ?_
      intro e w2 hp2
      cases ht : treeJ 12 s with
      | error ck =>
        obtain ⟨c, k⟩ := ck
        rw [ht] at hp2
        obtain ⟨m2, rfl⟩ := hp2.bad
        obtain ⟨k1, k2, k3⟩ := ST1.out.mv2 m2 h3 h4 h5
        refine leaves_cons (f := 18) (args := #[.pointer (some ⟨P, 0, none⟩), .pointer (some ⟨E, 0, none⟩)]) (by simp) (by simp [go_sem]) ?_
        refine (jcatch_panic P E _ _ _ _ _ _ _ [] _ k2 k3 h6b).mono ?_
        rintro e u' wz ⟨rfl, rfl, x, x1, x2, x3, x4⟩
        have y0 : wz.cell? ⟨P, 0, none⟩ = some (.int .i64 0) := by rw [cell_of_row wz P 0 _ _ _ x1]; rfl
        have y1 : wz.cell? ⟨P, 1, none⟩ = some (.string (S [])) := by rw [cell_of_row wz P 1 _ _ _ x1]; rfl
        have y2 : wz.cell? ⟨P, 2, none⟩ = some (.slice none 0 0) := by rw [cell_of_row wz P 2 _ _ _ x1]; rfl
        have y3 : wz.cell? ⟨P, 3, none⟩ = some (.slice none 0 0) := by rw [cell_of_row wz P 3 _ _ _ x1]; rfl
        have y4 : wz.cell? ⟨E, 0, none⟩ = some (x) := by rw [cell_of_row wz E 0 _ _ _ x2]; rfl
        simp [Leaves, settle, results, Tryd.results10, go_sem, y0, y1, y2, y3, y4]
        exact ⟨_, rfl, ReadP.no (by unfold readJ; rw [if_neg HL.out, HB.out]; simp only; rw [ht]) x3, x4 w k1 h1 h2⟩
      | ok q =>
        obtain ⟨j, t⟩ := q
        rw [ht] at hp2
        obtain ⟨m2, v, rfl, hv2, hr2⟩ := hp2.ok
        obtain ⟨ka, kc, la, lc, rfl⟩ := JAt.shape4 hv2
        have st2 := ST1.out.mv m2 hr2 h3 h4 h5
        have HT := hid ht
        have hw12 : R < w1.heap.size := ST1.out.rr.lt
        have hP1 := lt_of_row ST1.out.pp
        have HV2 : Hid (JAt 12 (fun b => w1.heap.size ≤ b) w2 _ j) := hid hv2
        have p0 : w2.cell? ⟨P, 0, none⟩ = some (.int .i64 0) := by rw [cell_of_row w2 P 0 _ _ _ st2.pp]; rfl
        have p1 : w2.cell? ⟨P, 1, none⟩ = some (.string (S [])) := by rw [cell_of_row w2 P 1 _ _ _ st2.pp]; rfl
        have p2 : w2.cell? ⟨P, 2, none⟩ = some (.slice none 0 0) := by rw [cell_of_row w2 P 2 _ _ _ st2.pp]; rfl
        have p3 : w2.cell? ⟨P, 3, none⟩ = some (.slice none 0 0) := by rw [cell_of_row w2 P 3 _ _ _ st2.pp]; rfl
        have zp := fun j => frozen_of_row w2 P j _ _ st2.pp
        have st3 := st2.put (a' := .int .i64 j.kind) (b' := .string (S j.text)) (c' := .slice ka j.keys.length kc) (d' := .slice la j.list.length lc) h1 h4 h6
        have HV3 : Hid (JAt 12 (fun b => w1.heap.size ≤ b) ((((w2.setCell ⟨P, 0, none⟩ (.int .i64 j.kind)).setCell ⟨P, 1, none⟩ (.string (S j.text))).setCell ⟨P, 2, none⟩ (.slice ka j.keys.length kc)).setCell ⟨P, 3, none⟩ (.slice la j.list.length lc)) _ j) := hid (HV2.out.kept (by simp) fun b hb hlt => by
          rw [Below.heap_setCell _ _ _ _ (by simp; omega), Below.heap_setCell _ _ _ _ (by simp; omega), Below.heap_setCell _ _ _ _ (by simp; omega), Below.heap_setCell _ _ _ _ (by simp; omega)])
        have ST3 := hid st3
        clear st2 st3 hp2 hv2 hr2 m2 ht HV2
        go_upto_region 9 with fail
        generalize hw3 : World.setCell _ _ (.slice la j.list.length lc) = w3
        rw [hw3] at ST3 HV3
        clear p0 p1 p2 p3 zp hw3
        go_wp2_with fail
        refine (jblank_any w3 R s t ST3.out.rr (by omega)).mono ?_
        rintro e w4 ⟨rfl, m4, h4r⟩
        have st4 := ST3.out.mv m4 h4r h3 h4 h5
        have HV4 := hid (HV3.out.kept m4.size fun b hb hlt => m4.block b hlt (by simp; omega))
        obtain ⟨p, he, ho⟩ := st4.rr
        have d1 := ho.c1
        have hsl : s.length = p.length + (blankJ t).length := by rw [he]; simp
        have ST4 := hid st4
        have HPL := hid (show s.length - (blankJ t).length = p.length by omega)
        clear st4 m4 h4r he ho HV3
        cases hbt : blankJ t with
        | cons c r =>
          have hlt : decide ((p.length : Int) < (s.length : Int)) = true := decide_eq_true (by rw [hbt] at hsl; simp at hsl; omega)
          have hne : blankJ t ≠ [] := by rw [hbt]; simp
          have HNE := hid hne
          have hlti : (p.length : Int) < (s.length : Int) := by rw [hbt] at hsl; simp at hsl; omega
          have hltn : p.length < s.length := by rw [hbt] at hsl; simp at hsl; omega
          clear hsl hbt hne hlt
          go_wp2_with fail
          refine (jthrow_any _ _ _ _).mono ?_
          rintro e w5 ⟨rfl, rfl⟩
          obtain ⟨k1, k2, k3⟩ := (⟨ST4.out.gg, ST4.out.pp, ST4.out.ee⟩ : _ ∧ _ ∧ _)
          refine leaves_cons (f := 18) (args := #[.pointer (some ⟨P, 0, none⟩), .pointer (some ⟨E, 0, none⟩)]) (by simp) (by simp [go_sem]) ?_
          refine (jcatch_panic P E _ _ _ _ _ _ _ [] _ k2 k3 h6b).mono ?_
          rintro e u' wz ⟨rfl, rfl, x, x1, x2, x3, x4⟩
          have y0 : wz.cell? ⟨P, 0, none⟩ = some (.int .i64 0) := by rw [cell_of_row wz P 0 _ _ _ x1]; rfl
          have y1 : wz.cell? ⟨P, 1, none⟩ = some (.string (S [])) := by rw [cell_of_row wz P 1 _ _ _ x1]; rfl
          have y2 : wz.cell? ⟨P, 2, none⟩ = some (.slice none 0 0) := by rw [cell_of_row wz P 2 _ _ _ x1]; rfl
          have y3 : wz.cell? ⟨P, 3, none⟩ = some (.slice none 0 0) := by rw [cell_of_row wz P 3 _ _ _ x1]; rfl
          have y4 : wz.cell? ⟨E, 0, none⟩ = some (x) := by rw [cell_of_row wz E 0 _ _ _ x2]; rfl
          simp [Leaves, settle, results, Tryd.results10, go_sem, y0, y1, y2, y3, y4]
          exact ⟨_, rfl, ReadP.no (by unfold readJ; rw [if_neg HL.out, HB.out]; simp only; rw [HT.out]; simp only; rw [if_neg HNE.out, HPL.out]) x3, x4 w k1 h1 h2⟩
        | nil =>
          have hno : ¬ (p.length : Int) < (s.length : Int) := by rw [hbt] at hsl; simp at hsl; omega
          have hno2 : ¬ p.length < s.length := by rw [hbt] at hsl; simp at hsl; omega
          have HBT := hid hbt
          clear hsl hbt
          have st4 := ST4.out
          have p0 : w4.cell? ⟨P, 0, none⟩ = some (.int .i64 j.kind) := by rw [cell_of_row w4 P 0 _ _ _ st4.pp]; rfl
          have p1 : w4.cell? ⟨P, 1, none⟩ = some (.string (S j.text)) := by rw [cell_of_row w4 P 1 _ _ _ st4.pp]; rfl
          have p2 : w4.cell? ⟨P, 2, none⟩ = some (.slice ka j.keys.length kc) := by rw [cell_of_row w4 P 2 _ _ _ st4.pp]; rfl
          have p3 : w4.cell? ⟨P, 3, none⟩ = some (.slice la j.list.length lc) := by rw [cell_of_row w4 P 3 _ _ _ st4.pp]; rfl
          have q0 : w4.cell? ⟨E, 0, none⟩ = some .nilIface := by rw [cell_of_row w4 E 0 _ _ _ st4.ee]; rfl
          have zp := fun j => frozen_of_row w4 P j _ _ st4.pp
          have ze := frozen_of_row w4 E 0 _ _ st4.ee
          clear st4
          go_wp2_with fail
          generalize hW : World.setCell _ _ Value.nilIface = W
          have kP : W.heap[P]? = some (.cells #[.int .i64 j.kind, .string (S j.text), .slice ka j.keys.length kc, .slice la j.list.length lc] 25) := by
            rw [← hW, Below.heap_setCell _ _ _ _ h6b]; exact box_put ST4.out.pp
          have kE : W.heap[E]? = some (.cells #[.nilIface] 29) := by
            rw [← hW]
            refine row_setE (i := 0) (cs := #[.nilIface]) ?_ rfl
            rw [Below.heap_setCell _ _ _ _ h6, Below.heap_setCell _ _ _ _ h6, Below.heap_setCell _ _ _ _ h6, Below.heap_setCell _ _ _ _ h6]
            exact ST4.out.ee
          have kG : G w W := by
            rw [← hW]
            exact Below.setCell (Below.setCell (Below.setCell (Below.setCell (Below.setCell ST4.out.gg.below h1 _) h1 _) h1 _) h1 _) h2 _
          have hE1 := lt_of_row ST1.out.ee
          have kV : JAt 12 (fun b => w.heap.size ≤ b) W (.agg #[.int .i64 j.kind, .string (S j.text), .slice ka j.keys.length kc, .slice la j.list.length lc]) j := by
            refine (HV4.out.kept (by rw [← hW]; simp) fun b hb hlt => ?_).mono fun b hb _ => by have := ST1.out.gg.size; omega
            rw [← hW, Below.heap_setCell _ _ _ _ (by simp; omega), Below.heap_setCell _ _ _ _ (by simp; omega), Below.heap_setCell _ _ _ _ (by simp; omega), Below.heap_setCell _ _ _ _ (by simp; omega), Below.heap_setCell _ _ _ _ (by simp; omega)]
          clear hW p0 p1 p2 p3 q0 zp ze
          refine leaves_cons (f := 18) (args := #[.pointer (some ⟨P, 0, none⟩), .pointer (some ⟨E, 0, none⟩)]) (by simp) (by simp [go_sem]) ?_
          refine (jcatch_idle ⟨P, 0, none⟩ ⟨E, 0, none⟩ W).mono ?_
          rintro e u' wz ⟨rfl, rfl, rfl⟩
          have y0 : wz.cell? ⟨P, 0, none⟩ = some (.int .i64 j.kind) := by rw [cell_of_row wz P 0 _ _ _ kP]; rfl
          have y1 : wz.cell? ⟨P, 1, none⟩ = some (.string (S j.text)) := by rw [cell_of_row wz P 1 _ _ _ kP]; rfl
          have y2 : wz.cell? ⟨P, 2, none⟩ = some (.slice ka j.keys.length kc) := by rw [cell_of_row wz P 2 _ _ _ kP]; rfl
          have y3 : wz.cell? ⟨P, 3, none⟩ = some (.slice la j.list.length lc) := by rw [cell_of_row wz P 3 _ _ _ kP]; rfl
          have y4 : wz.cell? ⟨E, 0, none⟩ = some (.nilIface) := by rw [cell_of_row wz E 0 _ _ _ kE]; rfl
          simp [Leaves, settle, results, Tryd.results10, go_sem, y0, y1, y2, y3, y4]
          have hrj : readJ s = .ok j := by unfold readJ; rw [if_neg HL.out, HB.out]; simp only; rw [HT.out]; simp only; rw [if_pos HBT.out]
          rw [hrj]
          exact ⟨_, rfl, ⟨_, rfl, kV⟩, kG⟩

end Go.Proofs.YtlejbindochiiaaDoor
