/-
  CONTRACT of caret.Decode: strings.NewReplacer(..).Replace where a generic replacer is built.
-/
import Derived.Test.YthbjabjchfmmoaaGenMake
import Derived.Test.YthbjabjchfmmoaaGenRun
import Derived.Test.YthbjabjchfmmoaaEscape
namespace Go.Proofs.Ythbjabjchfmmoaa
open Go.RowKit
set_option linter.unusedVariables false
set_option linter.unusedSimpArgs false

theorem Trie.away {bs : List Nat} {w w' : World} {R A B C D T U : Nat} (h : Trie w R A B C D T U) (a : Away bs w w') (hn : ∀ b ∈ [R, A, B, C, D, T, U], b ∉ bs) : Trie w' R A B C D T U := by
  have hR : R ∉ bs := hn R (by simp)
  have hA : A ∉ bs := hn A (by simp)
  have hB : B ∉ bs := hn B (by simp)
  have hC : C ∉ bs := hn C (by simp)
  have hD : D ∉ bs := hn D (by simp)
  have hT : T ∉ bs := hn T (by simp)
  have hU : U ∉ bs := hn U (by simp)
  exact ⟨⟨a.held h.root.v1 hR, a.held h.root.v4 hR⟩, a.held h.size hR, fun c => a.held (h.map c) hR, a.held h.t0 hT, a.held h.t1 hT, a.held h.t2 hT, ⟨a.held h.inner.v1 hA, a.held h.inner.v4 hA⟩, a.held h.u0 hU, a.held h.u1 hU, a.held h.u2 hU,
    ⟨a.held h.lb.v0 hB, a.held h.lb.v1 hB, a.held h.lb.v2 hB, a.held h.lb.v4 hB⟩, ⟨a.held h.lc.v0 hC, a.held h.lc.v1 hC, a.held h.lc.v2 hC, a.held h.lc.v4 hC⟩, ⟨a.held h.ld.v0 hD, a.held h.ld.v1 hD, a.held h.ld.v2 hD, a.held h.ld.v4 hD⟩⟩

/-- a replacer of texts that has not run yet -/
structure SState (w0 w : World) (B o cap : Nat) : Prop where
  bl : w0.heap.size ≤ B
  bh : B < w.heap.size
  fz : ∀ k, w.frozen? ⟨B, k, none⟩ = false
  c0 : w.cell? ⟨B, 0, none⟩ = some (.int .u32 0)
  c1 : w.cell? ⟨B, 1, none⟩ = some (.int .i32 0)
  c3 : w.cell? ⟨B, 3, none⟩ = some .nilIface
  c4 : w.cell? ⟨B, 4, none⟩ = some (.slice (some ⟨o, 0, none⟩) 6 cap)
  ob : o ≠ B
  ps : StrsAt w o genS
  g : G w0 w
theorem genS_at (j : Nat) (h : j < genS.length) : (genS.map fun l => Value.string (S l))[j]? = some (.string (S genS[j])) := by rw [List.getElem?_map, List.getElem?_eq_getElem h]; rfl
set_option maxRecDepth 100000 in
set_option maxHeartbeats 4000000 in
theorem newReplacer_strs (o cap : Nat) (w : World) (hp : StrsAt w o genS) :
    Makes 9 #[.slice (some ⟨o, 0, none⟩) 6 cap] w fun v w' => ∃ B o' cap', v = .pointer (some ⟨B, 0, none⟩) ∧ SState w w' B o' cap' := by
  have HP := hid hp
  clear hp
  obtain ⟨xs, hxs⟩ : ∃ xs : List Value, xs = genS.map fun l => .string (S l) := ⟨_, rfl⟩
  have HXA : Hid (∀ (j : Nat) (h : j < genS.length), xs[j]? = some (.string (S genS[j]))) := hid (fun j h => by rw [hxs]; exact genS_at j h)
  have HX1 : Hid (∀ u ∈ xs, u.oneCell' = true) := hid (fun u hu => by
    rw [hxs] at hu
    obtain ⟨a, _, rfl⟩ := List.mem_map.1 hu
    rfl)
  have HXL : Hid (xs.length = 6) := hid (by rw [hxs]; rfl)
  have HNEW : Hid (∀ j u, xs[j]? = some u → w.cell? ((⟨o, 0, none⟩ : Addr).add j) = some u) := hid (fun j u hj => by
    rw [addZ]
    have hjn : j < genS.length := by
      rcases Nat.lt_or_ge j xs.length with h | h
      · have := HXL.out; show j < 6; omega
      · rw [List.getElem?_eq_none h] at hj; cases hj
    have a1 := HXA.out j hjn
    rw [HP.out.2 j hjn, ← hj, a1])
  clear hxs
  obtain ⟨i0, hi, hz0, hz1, hz2⟩ := info_parts info_string
  go_enter Try.func9, Try.ntmps9
  go_wp2_with (at_builtin; refine wpList_append_lies _ rfl _ _ 29 rfl w.heap.size 9 i0 _ 1 16 Try.underlying29 hi hz0 hz1 hz2 rfl (by decide) _ 0 [] rfl (World.ownsRow_nil _ _ _ _) ⟨o, 0, none⟩ 6 cap xs rfl (by rw [HXL.out]) HNEW.out HX1.out (by omega) ?c3 ?c4 (Nat.le_refl _) _ rfl ?_)
  case c3 => unfold maxLen; omega
  case c4 => omega
  intro g cap2 w1 hown hgrow hat hlt
  have hg1 : G w w1 := Below.grown (G.refl w) hgrow (Nat.le_refl _) (by simp [Value.ownBlock])
  have hp1 : StrsAt w1 g genS := by
    refine ⟨hlt, fun j hj => ?_⟩
    have a1 := HXA.out j hj
    have c1 := hown.cellAt j (by have : j < 6 := hj; omega)
    rw [c1, a1]
  have HG1 := hid hg1
  have HP1 := hid hp1
  clear hown hgrow hat hg1 hp1
  go_wp2_with fail
  go_ret
  exact ⟨_, rfl, ⟨w1.heap.size, g, cap2, rfl, ⟨HG1.out.size, by simp, fun k => World.frozen?_alloc_at _ _ _ _ rfl, by simp, by simp, by simp, by simp, by have := HP1.out.1; omega, HP1.out.grow ((G.refl _).alloc _), HG1.out.alloc _⟩⟩, HG1.out.alloc _⟩

set_option maxRecDepth 100000 in
set_option maxHeartbeats 4000000 in
theorem buildGen_any (b o cap : Nat) (w : World) (hr : w.cell? ⟨b, 4, none⟩ = some (.slice (some ⟨o, 0, none⟩) 6 cap)) (hp : StrsAt w o genS) :
    Makes 20 #[.pointer (some ⟨b, 0, none⟩)] w fun v w' => ∃ R A B C D T U, v = .iface 67 (.pointer (some ⟨R, 0, none⟩)) ∧ Trie w' R A B C D T U ∧ ∀ x ∈ [R, A, B, C, D, T, U], w.heap.size ≤ x := by
  have c0 : w.cell? ⟨o, 0, none⟩ = some (.string (S [94, 94])) := hp.2 0 (by decide)
  have HP := hid hp
  clear hp
  go_enter Try.func20, Try.ntmps20
  go_wp2_with fail
  refine wp_loop_rounds 1 ?_
  rw [rounds_succ]
  go_wp2_with fail
  refine (makeGeneric_any w o cap HP.out).use ?_
  rintro v w1 ⟨R, A, B, C, D, T, U, rfl, ht, hb⟩ g1
  have HT := hid ht
  have HB := hid hb
  have HG := hid g1
  clear ht hb g1
  go_wp2_with fail
  go_ret
  exact ⟨_, rfl, ⟨R, A, B, C, D, T, U, rfl, HT.out, HB.out⟩, HG.out⟩

/-- the replacer has been built -/
structure GBuilt (w0 w : World) (X R A B C D T U : Nat) (d m : Int) : Prop where
  g : G w0 w
  tr : Trie w R A B C D T U
  hi : ∀ x ∈ [R, A, B, C, D, T, U], x ≠ X
  c0 : w.cell? ⟨X, 0, none⟩ = some (.int .u32 d)
  c1 : w.cell? ⟨X, 1, none⟩ = some (.int .i32 m)
  c3 : w.cell? ⟨X, 3, none⟩ = some (.iface 67 (.pointer (some ⟨R, 0, none⟩)))
  fz : ∀ k, w.frozen? ⟨X, k, none⟩ = false
theorem GBuilt.set {w0 w : World} {X R A B C D T U k : Nat} {d m d' m' : Int} {v : Value} (h : GBuilt w0 w X R A B C D T U d m) (hbl : w0.heap.size ≤ X) (hk : (k = 0 ∧ v = .int .u32 d' ∧ m' = m) ∨ (k = 1 ∧ v = .int .i32 m' ∧ d' = d)) :
    GBuilt w0 (w.setCell ⟨X, k, none⟩ v) X R A B C D T U d' m' := by
  refine ⟨h.g.below.setCell (p := ⟨X, k, none⟩) hbl _, h.tr.away ((Away.refl [X] w).set X k v (.inl (by simp))) (fun x hx => by simpa using h.hi x hx), h.hi, ?_, ?_, ?_, fun j => by rw [World.frozen?_setCell]; exact h.fz j⟩
  all_goals rcases hk with ⟨rfl, rfl, rfl⟩ | ⟨rfl, rfl, rfl⟩
  · exact World.cell?_setCell_same _ _ _ h.c0
  · rw [World.cell?_setCell_other _ _ _ _ (by simp)]; exact h.c0
  · rw [World.cell?_setCell_other _ _ _ _ (by simp)]; exact h.c1
  · exact World.cell?_setCell_same _ _ _ h.c1
  · rw [World.cell?_setCell_other _ _ _ _ (by simp)]; exact h.c3
  · rw [World.cell?_setCell_other _ _ _ _ (by simp)]; exact h.c3
theorem GBuilt.drew {w0 w : World} {X R A B C D T U : Nat} {d m : Int} (h : GBuilt w0 w X R A B C D T U d m) : GBuilt w0 w.drew X R A B C D T U d m :=
  ⟨h.g.drew, h.tr.away (Away.refl [] w).drew (by simp), h.hi, h.c0, h.c1, h.c3, h.fz⟩

set_option maxRecDepth 100000 in
set_option maxHeartbeats 4000000 in
theorem buildOnceGen_any (w0 w : World) (X o cap : Nat) (hbl : w0.heap.size ≤ X) (hbh : X < w.heap.size) (hg0 : G w0 w) (hp : StrsAt w o genS) (fz : ∀ k, w.frozen? ⟨X, k, none⟩ = false)
    (c0 : w.cell? ⟨X, 0, none⟩ = some (.int .u32 0)) (c1 : w.cell? ⟨X, 1, none⟩ = some (.int .i32 1)) (c3 : w.cell? ⟨X, 3, none⟩ = some .nilIface) (c4 : w.cell? ⟨X, 4, none⟩ = some (.slice (some ⟨o, 0, none⟩) 6 cap)) :
    Calls Try.prog 13 #[.pointer (some ⟨X, 0, none⟩)] w fun e w' => e = .returned (.tuple #[]) ∧ ∃ R A B C D T U, GBuilt w0 w' X R A B C D T U 0 1 := by
  have HPA := hid hp
  clear hp
  go_enter Try.func13, Try.ntmps13
  go_wp2_with fail
  refine (buildGen_any X o cap w c4 HPA.out).use ?_
  rintro v w1 ⟨R, A, B, C, D, T, U, rfl, ht, hx⟩ g1
  have d0 := (g1.cell (p := ⟨X, 0, none⟩) hbh).trans c0
  have d1 := (g1.cell (p := ⟨X, 1, none⟩) hbh).trans c1
  have d3 := (g1.cell (p := ⟨X, 3, none⟩) hbh).trans c3
  have d4 := (g1.cell (p := ⟨X, 4, none⟩) hbh).trans c4
  have z : ∀ k, w1.frozen? ⟨X, k, none⟩ = false := fun k => (Below.frozen g1 (p := ⟨X, k, none⟩) hbh).trans (fz k)
  have z3 := z 3
  have z4 := z 4
  have g01 := hg0.trans g1
  have hne : ∀ x ∈ [R, A, B, C, D, T, U], x ≠ X := fun x hx' => by have := hx x hx'; omega
  have D : Hid (GBuilt w0 ((w1.setCell ⟨X, 3, none⟩ (.iface 67 (.pointer (some ⟨R, 0, none⟩)))).setCell ⟨X, 4, none⟩ (.slice none 0 0)) X R A B C D T U 0 1) := hid (by
    refine ⟨(g01.below.setCell (p := ⟨X, 3, none⟩) hbl _).setCell (p := ⟨X, 4, none⟩) hbl _, ht.away (((Away.refl [X] w1).set X 3 _ (.inl (by simp))).set X 4 _ (.inl (by simp))) (fun x hx => by simpa using hne x hx), hne, ?_, ?_, ?_, fun k => by rw [World.frozen?_setCell, World.frozen?_setCell]; exact z k⟩
    · rw [World.cell?_setCell_other _ _ _ _ (by simp), World.cell?_setCell_other _ _ _ _ (by simp)]; exact d0
    · rw [World.cell?_setCell_other _ _ _ _ (by simp), World.cell?_setCell_other _ _ _ _ (by simp)]; exact d1
    · rw [World.cell?_setCell_other _ _ _ _ (by simp)]; exact World.cell?_setCell_same _ _ _ d3)
  clear ht hx hne g01 g1
  go_wp2_with fail
  go_end0
  exact ⟨rfl, R, A, B, C, _, T, U, D.out⟩

theorem replace_methodG (a : Addr) (w : World) : (method 247 67 (.pointer (some a)) "Replace").run Try.prog w = .ok (82, .pointer (some a)) w := by kernel_rfl
set_option maxRecDepth 100000 in
set_option maxHeartbeats 4000000 in
theorem replaceGen_any (w0 w : World) (X o cap : Nat) (s : List UInt8) (h : SState w0 w X o cap) (hs : s.length ≤ 100000) :
    Calls Try.prog 10 #[.pointer (some ⟨X, 0, none⟩), .string (S s)] w fun e w' => e = .returned (.string (S (decL s))) ∧ G w0 w' := by
  have H := hid h
  clear h
  have hmf : ∀ (fn : Fn) (first cap : Array Value) (w : World), (Instr.makeFunc fn first cap).run Try.prog w = .ok (.func fn first cap) w := fun _ _ _ _ => rfl
  have hmeth : ∀ (a : Addr) (w : World), (method 247 67 (.pointer (some a)) "Replace").run Try.prog w = .ok (82, .pointer (some a)) w := fun a w => replace_methodG a w
  go_enter Try.func10, Try.ntmps10
  go_wp2_with fail
  have hg1 : G w0 (w.setCell ⟨X, 1, none⟩ (.int .i32 1)) := H.out.g.below.setCell (p := ⟨X, 1, none⟩) H.out.bl _
  have hpa : StrsAt (w.setCell ⟨X, 1, none⟩ (.int .i32 1)) o genS := by
    refine ⟨by simpa [World.setCell] using H.out.ps.1, fun j hj => ?_⟩
    have hne : o ≠ X := H.out.ob
    rw [World.cell?_setCell_other _ _ _ _ (by first | (simp; done) | (simp; omega))]
    exact H.out.ps.2 j hj
  refine Calls.mono (onceDo_any (.pointer (some ⟨X, 0, none⟩)) X 0 w (fun w' => ∃ R A B C D T U, GBuilt w0 w' X R A B C D T U 0 1) H.out.c0 H.out.c1 (H.out.fz 0) (H.out.fz 1) ?once) ?_
  case once =>
    rw [setCell_zero_add]
    refine Calls.mono (buildOnceGen_any w0 _ X o cap H.out.bl (by simpa [World.setCell] using H.out.bh) hg1 hpa (fun k => by rw [World.frozen?_setCell]; exact H.out.fz k) ?_ ?_ ?_ ?_) ?_
    · rw [World.cell?_setCell_other _ _ _ _ (by simp)]; exact H.out.c0
    · exact World.cell?_setCell_same _ _ _ H.out.c1
    · rw [World.cell?_setCell_other _ _ _ _ (by simp)]; exact H.out.c3
    · rw [World.cell?_setCell_other _ _ _ _ (by simp)]; exact H.out.c4
    · rintro e w' ⟨rfl, R, A, B, C, D, T, U, hb⟩
      exact ⟨rfl, ⟨R, A, B, C, D, T, U, hb⟩, hb.c0, hb.fz 0, hb.c1, hb.fz 1⟩
  rintro e w' ⟨rfl, w1, ⟨R, A, B, C, D, T, U, hb⟩, rfl⟩
  rw [setCell_zero_add]
  have hb2 := ((hb.drew.set (k := 0) (v := .int .u32 1) (d' := 1) (m' := 1) H.out.bl (.inl ⟨rfl, rfl, rfl⟩))).set (k := 1) (v := .int .i32 0) (d' := 1) (m' := 0) H.out.bl (.inr ⟨rfl, rfl, rfl⟩)
  obtain ⟨w2, hw2⟩ : ∃ w2, (w1.drew.setCell ⟨X, 0, none⟩ (.int .u32 1)).setCell ⟨X, 1, none⟩ (.int .i32 0) = w2 := ⟨_, rfl⟩
  rw [hw2] at hb2 ⊢
  have HB := hid hb2
  have hc3 := hb2.c3
  clear hw2 hb hb2 hg1 hpa
  go_wp2_with fail
  refine (greplace_any w2 s R A B C D T U HB.out.tr hs).use ?_
  intro w3 g3
  have G3 : Hid (G w0 w3) := hid (HB.out.g.trans g3)
  clear g3
  go_wp2_with fail
  go_ret
  exact ⟨rfl, G3.out⟩

set_option maxRecDepth 100000 in
set_option maxHeartbeats 4000000 in
theorem decode_any (s : List UInt8) (w : World) (hs : s.length ≤ 100000) : Gives 7 #[.string (S s)] w (.string (S (decL s))) := by
  have hpa : StrsAt (w.alloc (.cells #[.string ⟨#[94, 94]⟩, .string ⟨#[94]⟩, .string ⟨#[94, 110]⟩, .string ⟨#[10]⟩, .string ⟨#[94, 39]⟩, .string ⟨#[34]⟩] 9)) w.heap.size genS := ⟨by simp, fun j hj => by
    rw [World.cell?_alloc_new]
    match j, hj with
    | 0, _ => rfl
    | 1, _ => rfl
    | 2, _ => rfl
    | 3, _ => rfl
    | 4, _ => rfl
    | 5, _ => rfl
    | n + 6, h => simp [genS] at h; omega⟩
  have HPA := hid hpa
  clear hpa
  go_enter Try.func7, Try.ntmps7
  go_wp2_with fail
  refine (newReplacer_strs w.heap.size 6 _ HPA.out).use ?_
  rintro v w1 ⟨B, o', cap', rfl, hr⟩ g1
  have HR := hid hr
  have g0 : G w _ := (G.refl w).alloc (.cells #[.string ⟨#[94, 94]⟩, .string ⟨#[94]⟩, .string ⟨#[94, 110]⟩, .string ⟨#[10]⟩, .string ⟨#[94, 39]⟩, .string ⟨#[34]⟩] 9)
  have HG0 := hid g0
  clear hr g0 g1
  go_wp2_with fail
  refine Calls.mono (replaceGen_any _ w1 B o' cap' s HR.out hs) ?_
  rintro e w2 ⟨rfl, g2⟩
  have G2 := hid (HG0.out.trans g2)
  clear g2
  go_wp2_with fail
  go_ret
  exact ⟨rfl, G2.out⟩

end Go.Proofs.Ythbjabjchfmmoaa
