/-
  strings.NewReplacer(..).Replace at bytes that are replaced by two bytes each.
-/
import Derived.Test.YthbjabjchfmmoaaReplRun
import Derived.Test.YthbjabjchfmmoaaOnce
import Derived.Deep.Onto
namespace Go.Proofs.Ythbjabjchfmmoaa
open Go.RowKit
set_option linter.unusedVariables false
set_option linter.unusedSimpArgs false

/-- a replacer that has not run yet -/
structure RState (w0 w : World) (B o n cap : Nat) (ps : List (UInt8 × List UInt8)) : Prop where
  bl : w0.heap.size ≤ B
  bh : B < w.heap.size
  fz : ∀ k, w.frozen? ⟨B, k, none⟩ = false
  c0 : w.cell? ⟨B, 0, none⟩ = some (.int .u32 0)
  c1 : w.cell? ⟨B, 1, none⟩ = some (.int .i32 0)
  c3 : w.cell? ⟨B, 3, none⟩ = some .nilIface
  c4 : w.cell? ⟨B, 4, none⟩ = some (.slice (some ⟨o, 0, none⟩) n cap)
  ob : o ≠ B
  ps : PairsAt w o ps
  g : G w0 w
set_option maxRecDepth 100000 in
set_option maxHeartbeats 4000000 in
theorem newReplacer_any (o n cap : Nat) (ps : List (UInt8 × List UInt8)) (w : World) (hn : n = 2 * ps.length) (hp : PairsAt w o ps) (h1 : 1 ≤ ps.length) (h3 : ps.length ≤ 100) :
    Makes 9 #[.slice (some ⟨o, 0, none⟩) n cap] w fun v w' => ∃ B o' cap', v = .pointer (some ⟨B, 0, none⟩) ∧ RState w w' B o' n cap' ps := by
  have hmod : ((n : Int) % 2 == 1) = false := beq_eq_false_iff_ne.2 (by omega)
  have hn0 : 0 < n := by omega
  have hn2 : n ≤ 200 := by omega
  have HN := hid hn
  have HP := hid hp
  clear hn hp
  obtain ⟨xs, hxs⟩ : ∃ xs : List Value, xs = ps.flatMap fun p => [.string (S [p.1]), .string (S p.2)] := ⟨_, rfl⟩
  have hat : ∀ (l : List (UInt8 × List UInt8)) (j : Nat) (h : j < l.length), (l.flatMap fun p => [Value.string (S [p.1]), .string (S p.2)])[2 * j]? = some (.string (S [l[j].1])) ∧ (l.flatMap fun p => [Value.string (S [p.1]), .string (S p.2)])[2 * j + 1]? = some (.string (S l[j].2)) := by
    intro l
    induction l with
    | nil => intro j h; simp at h
    | cons p l ih =>
      intro j h
      cases j with
      | zero => simp
      | succ j =>
        have := ih j (by simpa using h)
        have e1 : 2 * (j + 1) = 2 * j + 1 + 1 := by omega
        simp only [List.flatMap_cons, List.cons_append, List.nil_append, e1, List.getElem?_cons_succ, List.getElem_cons_succ]
        exact this
  have hlen : xs.length = n := by
    rw [hxs, HN.out]
    clear hat hxs HN HP h1 h3
    induction ps with
    | nil => rfl
    | cons p ps ih => simp only [List.flatMap_cons, List.length_append, ih, List.length_cons, List.length_nil]; omega
  have HXA : Hid (∀ (j : Nat) (h : j < ps.length), xs[2 * j]? = some (.string (S [ps[j].1])) ∧ xs[2 * j + 1]? = some (.string (S ps[j].2))) := hid (fun j h => by rw [hxs]; exact hat ps j h)
  have HX1 : Hid (∀ u ∈ xs, u.oneCell' = true) := hid (fun u hu => by
    rw [hxs] at hu
    simp at hu
    obtain ⟨a, b, _, h⟩ := hu
    rcases h with rfl | rfl <;> rfl)
  have HXL := hid hlen
  have HNEW : Hid (∀ j u, xs[j]? = some u → w.cell? ((⟨o, 0, none⟩ : Addr).add j) = some u) := hid (fun j u hj => by
    rw [addZ]
    have hjn : j < 2 * ps.length := by
      have := HN.out
      rcases Nat.lt_or_ge j xs.length with h | h
      · omega
      · rw [List.getElem?_eq_none h] at hj; cases hj
    have hk : j / 2 < ps.length := by omega
    obtain ⟨a1, a2⟩ := HXA.out (j / 2) hk
    obtain ⟨b1, b2⟩ := HP.out.2 (j / 2) hk
    rcases Nat.mod_two_eq_zero_or_one j with h | h
    · have e : 2 * (j / 2) = j := by omega
      rw [e] at a1 b1
      rw [b1, ← hj, a1]
    · have e : 2 * (j / 2) + 1 = j := by omega
      rw [e] at a2 b2
      rw [b2, ← hj, a2])
  clear hxs hat hlen
  obtain ⟨i0, hi, hz0, hz1, hz2⟩ := info_parts info_string
  go_enter Try.func9, Try.ntmps9
  go_wp2_with (at_builtin; refine wpList_append_lies _ rfl _ _ 29 rfl w.heap.size 9 i0 _ 1 16 Try.underlying29 hi hz0 hz1 hz2 rfl (by decide) _ 0 [] rfl (World.ownsRow_nil _ _ _ _) ⟨o, 0, none⟩ n cap xs rfl (by rw [HXL.out]; omega) HNEW.out HX1.out hn0 ?c3 ?c4 (Nat.le_refl _) _ rfl ?_)
  case c3 => unfold maxLen; omega
  case c4 => omega
  intro g cap2 w1 hown hgrow hat hlt
  have hg1 : G w w1 := Below.grown (G.refl w) hgrow (Nat.le_refl _) (by simp [Value.ownBlock])
  have hp1 : PairsAt w1 g ps := by
    refine ⟨hlt, fun j hj => ?_⟩
    obtain ⟨a1, a2⟩ := HXA.out j hj
    have := HN.out
    have c1 := hown.cellAt (2 * j) (by omega)
    have c2 := hown.cellAt (2 * j + 1) (by omega)
    exact ⟨by rw [c1, a1], by rw [c2, a2]⟩
  have HG1 := hid hg1
  have HP1 := hid hp1
  clear hown hgrow hat hg1 hp1
  go_wp2_with fail
  go_ret
  exact ⟨_, rfl, ⟨w1.heap.size, g, cap2, rfl, ⟨HG1.out.size, by simp, fun k => World.frozen?_alloc_at _ _ _ _ rfl, by simp, by simp, by simp, by simp, by have := HP1.out.1; omega, HP1.out.grow ((G.refl _).alloc _), HG1.out.alloc _⟩⟩, HG1.out.alloc _⟩

theorem bstate_set {wb w0 w : World} {C B k : Nat} {tv v : Value} {x : Int} {f : UInt8 → Option (List UInt8)} {keys : List UInt8} (h : BState wb w C tv f keys) (h2 : Two f) (hle : w0.heap.size ≤ wb.heap.size) (h0 : w0.heap.size ≤ B) (g0 : G w0 w) (hc : w.cell? ⟨B, 0, none⟩ = some (.int .u32 x)) (hCB : C ≠ B) (htB : tv.ownBlock ≠ some B) :
    BState w0 (w.setCell ⟨B, k, none⟩ v) C tv f keys := by
  have hsz : (w.setCell ⟨B, k, none⟩ v).heap.size = w.heap.size := by simp [World.setCell]
  have oth : ∀ (q j : Nat), q ≠ B → (w.setCell ⟨B, k, none⟩ v).cell? ⟨q, j, none⟩ = w.cell? ⟨q, j, none⟩ := fun q j hq => World.cell?_setCell_other _ _ _ _ (by first | (simp; done) | (simp; omega) | (simp; intro e; exact absurd e.symm hq))
  refine ⟨g0.below.setCell (p := ⟨B, k, none⟩) h0 _, by have := h.cl; omega, by rw [hsz]; exact h.ch, fun j => by rw [World.frozen?_setCell]; exact h.fz j, ?_, h.ne, (oth _ _ hCB).trans h.top, fun c => ?_⟩
  · exact (h.own.mono hle).kept (grownBy_set w ⟨B, k, none⟩ v) (.inr htB)
  · rcases h.slots c with ⟨h1, h3⟩ | ⟨l, b, cap, h1, h3, h4, h5, h6, h7⟩
    · exact .inl ⟨h1, (oth _ _ hCB).trans h3⟩
    · have hbB : b ≠ B := by
        rintro rfl
        have := h7 0 (by rw [h2 _ _ h1]; decide)
        rw [hc] at this
        injection this with this
        injection this with this
        cases this
      exact .inr ⟨l, b, cap, h1, (oth _ _ hCB).trans h3, by rw [hsz]; exact h4, h5, h6, fun j hj => (oth _ _ hbB).trans (h7 j hj)⟩
theorem bstate_low {wb w : World} {C B : Nat} {tv : Value} {f : UInt8 → Option (List UInt8)} {keys : List UInt8} (h : BState wb w C tv f keys) (hB : B < wb.heap.size) : C ≠ B ∧ tv.ownBlock ≠ some B := by
  refine ⟨by have := h.cl; omega, fun e => ?_⟩
  have := (h.own.lt _ e).1; omega

/-- what the pairs must be -/
structure Pairs (ps : List (UInt8 × List UInt8)) : Prop where
  two : ∀ p ∈ ps, p.2.length = 2
  l2 : 2 ≤ ps.length
  l3 : ps.length ≤ 100
  nd : ∀ (m : Nat) (h : m < ps.length), lookP (ps.drop (m + 1)) ps[m].1 = none
theorem lookP_two (ps : List (UInt8 × List UInt8)) (h : ∀ p ∈ ps, p.2.length = 2) : Two (lookP ps) := by
  induction ps with
  | nil => intro c l h; cases h
  | cons p ps ih =>
    intro c l hl
    unfold lookP at hl
    split at hl
    · injection hl with hl
      rw [← hl]; exact h p List.mem_cons_self
    · exact ih (fun q hq => h q (List.mem_cons_of_mem _ hq)) c l hl
/-- the replacer has been built -/
structure Built (w0 w : World) (B C : Nat) (tv : Value) (ps : List (UInt8 × List UInt8)) (d m : Int) : Prop where
  bs : BState w0 w C tv (lookP ps) (ps.reverse.map (·.1))
  cb : C ≠ B
  tb : tv.ownBlock ≠ some B
  c0 : w.cell? ⟨B, 0, none⟩ = some (.int .u32 d)
  c1 : w.cell? ⟨B, 1, none⟩ = some (.int .i32 m)
  c3 : w.cell? ⟨B, 3, none⟩ = some (.iface 76 (.pointer (some ⟨C, 0, none⟩)))
  fz : ∀ k, w.frozen? ⟨B, k, none⟩ = false
set_option maxRecDepth 100000 in
set_option maxHeartbeats 4000000 in
theorem buildOnce_any (w0 w : World) (B o n cap : Nat) (ps : List (UInt8 × List UInt8)) (hn : n = 2 * ps.length) (hP : Pairs ps) (hbl : w0.heap.size ≤ B) (hbh : B < w.heap.size) (hg0 : G w0 w) (hp : PairsAt w o ps) (fz : ∀ k, w.frozen? ⟨B, k, none⟩ = false)
    (c0 : w.cell? ⟨B, 0, none⟩ = some (.int .u32 0)) (c1 : w.cell? ⟨B, 1, none⟩ = some (.int .i32 1)) (c3 : w.cell? ⟨B, 3, none⟩ = some .nilIface) (c4 : w.cell? ⟨B, 4, none⟩ = some (.slice (some ⟨o, 0, none⟩) n cap)) :
    Calls Try.prog 13 #[.pointer (some ⟨B, 0, none⟩)] w fun e w' => e = .returned (.tuple #[]) ∧ ∃ C tv, Built w0 w' B C tv ps 0 1 := by
  have HP := hid hP
  have HPA := hid hp
  have HN := hid hn
  clear hP hp hn
  go_enter Try.func13, Try.ntmps13
  go_wp2_with fail
  refine (build_any B o cap n ps _ c4 hbh HN.out HPA.out HP.out.two HP.out.l2 HP.out.l3 HP.out.nd).use ?_
  rintro v w1 ⟨C, tv, rfl, hbs⟩ g1
  have d0 := (g1.cell (p := ⟨B, 0, none⟩) hbh).trans c0
  have d1 := (g1.cell (p := ⟨B, 1, none⟩) hbh).trans c1
  have d3 := (g1.cell (p := ⟨B, 3, none⟩) hbh).trans c3
  have d4 := (g1.cell (p := ⟨B, 4, none⟩) hbh).trans c4
  have z : ∀ k, w1.frozen? ⟨B, k, none⟩ = false := fun k => (Below.frozen g1 (p := ⟨B, k, none⟩) hbh).trans (fz k)
  have z3 := z 3
  have z4 := z 4
  obtain ⟨k1, k2⟩ := bstate_low hbs hbh
  have h2 := lookP_two ps HP.out.two
  have g01 := hg0.trans g1
  have b1 := bstate_set (k := 3) (v := .iface 76 (.pointer (some ⟨C, 0, none⟩))) hbs h2 hg0.size hbl g01 d0 k1 k2
  have D : Hid (Built w0 ((w1.setCell ⟨B, 3, none⟩ (.iface 76 (.pointer (some ⟨C, 0, none⟩)))).setCell ⟨B, 4, none⟩ (.slice none 0 0)) B C tv ps 0 1) := hid (by
    refine ⟨?_, k1, k2, ?_, ?_, ?_, fun k => by rw [World.frozen?_setCell, World.frozen?_setCell]; exact z k⟩
    · refine bstate_set (x := 0) b1 h2 (Nat.le_refl _) hbl b1.g ?_ k1 k2
      rw [World.cell?_setCell_other _ _ _ _ (by simp)]; exact d0
    · rw [World.cell?_setCell_other _ _ _ _ (by simp), World.cell?_setCell_other _ _ _ _ (by simp)]; exact d0
    · rw [World.cell?_setCell_other _ _ _ _ (by simp), World.cell?_setCell_other _ _ _ _ (by simp)]; exact d1
    · rw [World.cell?_setCell_other _ _ _ _ (by simp)]; exact World.cell?_setCell_same _ _ _ d3)
  clear b1 hbs
  go_wp2_with fail
  go_end0
  exact ⟨rfl, C, tv, D.out⟩

theorem setCell_zero_add (w : World) (B : Nat) (v : Value) : w.setCell ⟨B, 0 + 1, none⟩ v = w.setCell ⟨B, 1, none⟩ v := by rw [Nat.zero_add]
theorem Built.set {w0 w : World} {B C k : Nat} {tv : Value} {ps : List (UInt8 × List UInt8)} {d m d' m' : Int} {v : Value} (h : Built w0 w B C tv ps d m) (h2 : Two (lookP ps)) (hbl : w0.heap.size ≤ B) (hk : (k = 0 ∧ v = .int .u32 d' ∧ m' = m) ∨ (k = 1 ∧ v = .int .i32 m' ∧ d' = d)) :
    Built w0 (w.setCell ⟨B, k, none⟩ v) B C tv ps d' m' := by
  refine ⟨bstate_set h.bs h2 (Nat.le_refl _) hbl h.bs.g h.c0 h.cb h.tb, h.cb, h.tb, ?_, ?_, ?_, fun j => by rw [World.frozen?_setCell]; exact h.fz j⟩
  all_goals rcases hk with ⟨rfl, rfl, rfl⟩ | ⟨rfl, rfl, rfl⟩
  · exact World.cell?_setCell_same _ _ _ h.c0
  · rw [World.cell?_setCell_other _ _ _ _ (by simp)]; exact h.c0
  · rw [World.cell?_setCell_other _ _ _ _ (by simp)]; exact h.c1
  · exact World.cell?_setCell_same _ _ _ h.c1
  · rw [World.cell?_setCell_other _ _ _ _ (by simp)]; exact h.c3
  · rw [World.cell?_setCell_other _ _ _ _ (by simp)]; exact h.c3
theorem Built.drew {w0 w : World} {B C : Nat} {tv : Value} {ps : List (UInt8 × List UInt8)} {d m : Int} (h : Built w0 w B C tv ps d m) : Built w0 w.drew B C tv ps d m := by
  refine ⟨h.bs.grow (G.refl _).drew, h.cb, h.tb, ?_, ?_, ?_, fun k => ?_⟩
  · rw [World.cell?_drew]; exact h.c0
  · rw [World.cell?_drew]; exact h.c1
  · rw [World.cell?_drew]; exact h.c3
  · rw [World.frozen?_drew]; exact h.fz k
theorem replace_method (a : Addr) (w : World) : (method 247 76 (.pointer (some a)) "Replace").run Try.prog w = .ok (88, .pointer (some a)) w := by kernel_rfl
set_option maxRecDepth 100000 in
set_option maxHeartbeats 4000000 in
theorem replace_any (w0 w : World) (B o n cap : Nat) (ps : List (UInt8 × List UInt8)) (s : List UInt8) (hn : n = 2 * ps.length) (hP : Pairs ps) (h : RState w0 w B o n cap ps) (hk : Keyed1 (lookP ps) (ps.reverse.map (·.1))) (hs : s.length ≤ 100000) :
    Calls Try.prog 10 #[.pointer (some ⟨B, 0, none⟩), .string (S s)] w fun e w' => e = .returned (.string (S (replL (lookP ps) s))) ∧ G w0 w' := by
  have H := hid h
  have HP := hid hP
  have HK := hid hk
  have HN := hid hn
  clear h hP hk hn
  have hmf : ∀ (fn : Fn) (first cap : Array Value) (w : World), (Instr.makeFunc fn first cap).run Try.prog w = .ok (.func fn first cap) w := fun _ _ _ _ => rfl
  have hmeth : ∀ (a : Addr) (w : World), (method 247 76 (.pointer (some a)) "Replace").run Try.prog w = .ok (88, .pointer (some a)) w := fun a w => replace_method a w
  go_enter Try.func10, Try.ntmps10
  go_wp2_with fail
  have hg1 : G w0 (w.setCell ⟨B, 1, none⟩ (.int .i32 1)) := H.out.g.below.setCell (p := ⟨B, 1, none⟩) H.out.bl _
  have hpa : PairsAt (w.setCell ⟨B, 1, none⟩ (.int .i32 1)) o ps := by
    refine ⟨by simpa [World.setCell] using H.out.ps.1, fun j hj => ?_⟩
    have hne : o ≠ B := H.out.ob
    rw [World.cell?_setCell_other _ _ _ _ (by first | (simp; done) | (simp; omega)), World.cell?_setCell_other _ _ _ _ (by first | (simp; done) | (simp; omega))]
    exact H.out.ps.2 j hj
  refine Calls.mono (onceDo_any (.pointer (some ⟨B, 0, none⟩)) B 0 w (fun w' => ∃ C tv, Built w0 w' B C tv ps 0 1) H.out.c0 H.out.c1 (H.out.fz 0) (H.out.fz 1) ?once) ?_
  case once =>
    rw [setCell_zero_add]
    refine Calls.mono (buildOnce_any w0 _ B o n cap ps HN.out HP.out H.out.bl (by simpa [World.setCell] using H.out.bh) hg1 hpa (fun k => by rw [World.frozen?_setCell]; exact H.out.fz k) ?_ ?_ ?_ ?_) ?_
    · rw [World.cell?_setCell_other _ _ _ _ (by simp)]; exact H.out.c0
    · exact World.cell?_setCell_same _ _ _ H.out.c1
    · rw [World.cell?_setCell_other _ _ _ _ (by simp)]; exact H.out.c3
    · rw [World.cell?_setCell_other _ _ _ _ (by simp)]; exact H.out.c4
    · rintro e w' ⟨rfl, C, tv, hb⟩
      exact ⟨rfl, ⟨C, tv, hb⟩, hb.c0, hb.fz 0, hb.c1, hb.fz 1⟩
  rintro e w' ⟨rfl, w1, ⟨C, tv, hb⟩, rfl⟩
  rw [setCell_zero_add]
  have h2 := lookP_two ps HP.out.two
  have hb2 := ((hb.drew.set (k := 0) (v := .int .u32 1) (d' := 1) (m' := 1) h2 H.out.bl (.inl ⟨rfl, rfl, rfl⟩))).set (k := 1) (v := .int .i32 0) (d' := 1) (m' := 0) h2 H.out.bl (.inr ⟨rfl, rfl, rfl⟩)
  obtain ⟨w2, hw2⟩ : ∃ w2, (w1.drew.setCell ⟨B, 0, none⟩ (.int .u32 1)).setCell ⟨B, 1, none⟩ (.int .i32 0) = w2 := ⟨_, rfl⟩
  rw [hw2] at hb2 ⊢
  have HB := hid hb2
  have hc3 := hb2.c3
  clear hw2 hb hb2 hg1 hpa
  go_wp2_with fail
  refine (bsr_replace C tv (lookP ps) _ s w0 w2 HB.out.bs HK.out h2 hs (by simp; have := HP.out.l3; omega) (by simp; have := HP.out.l2; omega)).use ?_
  intro w3 g3
  have G3 : Hid (G w0 w3) := hid (HB.out.bs.g.trans g3)
  clear g3
  go_wp2_with fail
  go_ret
  exact ⟨rfl, G3.out⟩

end Go.Proofs.Ythbjabjchfmmoaa
