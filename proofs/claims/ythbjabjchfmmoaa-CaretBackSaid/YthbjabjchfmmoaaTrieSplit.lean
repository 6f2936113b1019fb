/-
  CONTRACT of strings.trieNode's add at a node of a prefix of one byte and a key of another byte (under way).
-/
import Derived.Test.YthbjabjchfmmoaaTrieAdd
import Derived.Deep.OwnRows
import Derived.StillTailTactics
namespace Go.Proofs.Ythbjabjchfmmoaa
open Go.RowKit
set_option linter.unusedVariables false
set_option linter.unusedSimpArgs false

theorem infoPtr : (Try.prog.info? 84).map (fun i => (i.zero, i.size, i.bytes)) = some (some (.pointer none), 1, 8) := by kernel_rfl
set_option maxRecDepth 100000 in
set_option maxHeartbeats 4000000 in
theorem add_split (w : World) (A R Bq m : Nat) (c : UInt8) (x : List UInt8) (p : Int) (h : Node w A 0 [] 0 [94] (.pointer (some ⟨Bq, 0, none⟩)) (.slice none 0 0)) (hne : c ≠ 94)
    (h5 : w.cell? ⟨R, 5, none⟩ = some (.int .i64 3)) (hm1 : w.cell? ⟨R, 100, none⟩ = some (.int .u8 1)) (hm : w.cell? ⟨R, 6 + c.toNat, none⟩ = some (.int .u8 m)) (hm3 : m < 3) (hm0 : m ≠ 1) (hAR : A ≠ R) :
    Calls Try.prog 37 #[.pointer (some ⟨A, 0, none⟩), .string (S [c]), .string (S x), .int .i64 p, .pointer (some ⟨R, 0, none⟩)] w fun e w' => e = .returned (.tuple #[]) ∧ ∃ C U : Nat, w.heap.size ≤ C ∧ w.heap.size ≤ U ∧ C ≠ U ∧
      Node w' A 0 [] 0 [] (.pointer none) (.slice (some ⟨U, 0, none⟩) 3 3) ∧ Node w' C 0 x p [] (.pointer none) (.slice none 0 0) ∧ Away [A] w w' ∧ (∀ j, j < 3 → j ≠ m → w'.cell? ⟨U, j, none⟩ = some (if j = 1 then .pointer (some ⟨Bq, 0, none⟩) else .pointer none)) ∧ w'.cell? ⟨U, m, none⟩ = some (.pointer (some ⟨C, 0, none⟩)) ∧ ∀ j, w'.frozen? ⟨U, j, none⟩ = false := by
  have c2 := h.c2
  have c3 := h.c3
  have f2 := h.fz 2
  have f3 := h.fz 3
  have f4 := h.fz 4
  have c4 := h.c4
  simp only [Nat.zero_add] at c2 c3 c4
  have ha : A < w.heap.size := World.block_lt_of_cell? _ _ c2
  have hr : R < w.heap.size := World.block_lt_of_cell? _ _ h5
  have hk256 : (c.toNat : Int) < 256 := by have := c.toNat_lt; omega
  have ne : ([c] == []) = false := rfl
  have hcb : ((94 : Int) != (c.toNat : Int)) = true := by
    simp
    intro e
    exact hne (UInt8.toNat_inj.1 (by show c.toNat = 94; omega))
  have hmk : ∀ W : World, (Instr.makeSlice 85 (.int .i64 3) (.int .i64 3)).run Try.prog W = .ok (.slice (some ⟨W.heap.size, 0, none⟩) 3 3) (W.alloc (.cells #[.pointer none, .pointer none, .pointer none] 84)) := fun W => by
    have h := run_make_row' (P := Try.prog) 85 84 (.pointer none) 8 Try.underlying85 infoPtr rfl .i64 .i64 3 (by omega) (by omega) W
    have e : madeCells #[Value.pointer none] 3 = #[.pointer none, .pointer none, .pointer none] := by
      apply Array.ext
      · simp [madeCells]
      · intro i h1 h2
        simp [madeCells] at h1 ⊢
        have : i = 0 ∨ i = 1 ∨ i = 2 := by omega
        rcases this with rfl | rfl | rfl <;> simp
    rw [e] at h
    exact h
  have H := hid h
  clear h
  go_enter Try.func37, Try.ntmps37
  go_wp2_with fail
  refine wp_loop_rounds 1 ?_
  rw [rounds_succ]
  go_wp2_with fail
  refine wp_region_grow (by kernel_rfl) (by kernel_rfl) ?_
  repeat (first | go_big_quiet_skip | (go_big_quiet_want; go_big_quiet_op; first | go_big_quiet_on | (apply Exists.intro; apply And.intro; (focus (intro _ hg; (rw [G.cell hg (p := ⟨A, 2, none⟩) ha, c2]; exact ⟨rfl, rfl⟩))); go_big_quiet_on) | (refine ⟨_, fun _ _ => rfl, ?_⟩; go_big_quiet_on)))
  refine wpQuiet_nil ?_
  intro wq gq
  have GQ := hid gq
  have d2 := (G.cell gq (p := ⟨A, 2, none⟩) ha).trans c2
  have d3 := (G.cell gq (p := ⟨A, 3, none⟩) ha).trans c3
  have d5 := (G.cell gq (p := ⟨R, 5, none⟩) hr).trans h5
  have hrq : R < wq.heap.size := World.block_lt_of_cell? _ _ d5
  have e5 : ∀ ob, (wq.alloc ob).cell? ⟨R, 5, none⟩ = some (.int .i64 3) := fun ob => by rw [World.cell?_alloc_lt _ _ ⟨R, 5, none⟩ hrq]; exact d5
  have d4 := (G.cell gq (p := ⟨A, 4, none⟩) ha).trans c4
  have haq : A < wq.heap.size := World.block_lt_of_cell? _ _ d4
  have g4 : wq.frozen? ⟨A, 4, none⟩ = false := (gq.below.frozen (p := ⟨A, 4, none⟩) ha).trans f4
  have e4 : ∀ o1 o2, ((wq.alloc o1).alloc o2).cell? ⟨A, 4, none⟩ = some (.slice none 0 0) := fun o1 o2 => by rw [World.cell?_alloc_lt _ _ ⟨A, 4, none⟩ (by simp; omega), World.cell?_alloc_lt _ _ ⟨A, 4, none⟩ haq]; exact d4
  have h4 : ∀ o1 o2, ((wq.alloc o1).alloc o2).frozen? ⟨A, 4, none⟩ = false := fun o1 o2 => by
    rw [← g4]
    exact World.frozen?_of_block ((Below.heap_alloc _ _ _ (by simp; omega)).trans (Below.heap_alloc _ _ _ haq))
  have dm1 := (G.cell gq (p := ⟨R, 100, none⟩) hr).trans hm1
  have dmc := (G.cell gq (p := ⟨R, 6 + c.toNat, none⟩) hr).trans hm
  have hwq := gq.size
  clear gq
  go_wp2_with fail
  generalize hW1 : wq.setCell ⟨A, 4, none⟩ (.slice (some ⟨wq.heap.size + 1, 0, none⟩) 3 3) = W1
  have hs1 : W1.heap.size = wq.heap.size := by rw [← hW1]; simp [World.setCell]
  have a1 : Away [A] w W1 := by rw [← hW1]; exact ((away_of_g GQ.out).mono (fun b hb' => by cases hb')).set A 4 _ (.inl (by simp))
  have n1 : Node W1 A 0 [] 0 [94] (.pointer (some ⟨Bq, 0, none⟩)) (.slice (some ⟨wq.heap.size + 1, 0, none⟩) 3 3) := by
    have := ((H.out.away (away_of_g GQ.out) (by simp)).set4 (.slice (some ⟨wq.heap.size + 1, 0, none⟩) 3 3))
    simp only [Nat.zero_add] at this
    rw [← hW1]; exact this
  have r1 : W1.cell? ⟨R, 100, none⟩ = some (.int .u8 1) := by rw [← hW1, World.cell?_setCell_other _ _ _ _ (by simp [hAR])]; exact dm1
  have rc : W1.cell? ⟨R, 6 + c.toNat, none⟩ = some (.int .u8 m) := by rw [← hW1, World.cell?_setCell_other _ _ _ _ (by simp [hAR])]; exact dmc
  generalize hW2 : W1.alloc (.cells #[.string ⟨#[]⟩, .int .i64 0, .string ⟨#[]⟩, .pointer none, .slice none 0 0] 87) = W2
  have n2c : Node W2 wq.heap.size 0 [] 0 [] (.pointer none) (.slice none 0 0) := by rw [← hW2, ← hs1]; exact Node.new W1 _
  have hs2 : W2.heap.size = wq.heap.size + 1 := by rw [← hW2]; simp [hs1]
  have a12 : Away [] W1 W2 := by rw [← hW2]; exact (Away.refl _ _).alloc _
  generalize hW3 : W2.alloc (.cells #[.pointer none, .pointer none, .pointer none] 84) = W3
  have a23 : Away [] W2 W3 := by rw [← hW3]; exact (Away.refl _ _).alloc _
  have u0 : W3.cell? ⟨wq.heap.size + 1, 0, none⟩ = some (.pointer none) := by rw [← hW3, ← hs2]; simp [go_sem]
  have u1 : W3.cell? ⟨wq.heap.size + 1, 1, none⟩ = some (.pointer none) := by rw [← hW3, ← hs2]; simp [go_sem]
  have u2 : W3.cell? ⟨wq.heap.size + 1, 2, none⟩ = some (.pointer none) := by rw [← hW3, ← hs2]; simp [go_sem]
  have uf : ∀ j, W3.frozen? ⟨wq.heap.size + 1, j, none⟩ = false := fun j => by rw [← hW3, ← hs2]; exact World.frozen?_alloc_at _ _ _ _ rfl
  have hs3 : W3.heap.size = wq.heap.size + 2 := by rw [← hW3]; simp [hs2]
  have n3 := (n1.away a12 (by simp)).away a23 (by simp)
  have n3c := n2c.away a23 (by simp)
  have r3 : W3.cell? ⟨R, 100, none⟩ = some (.int .u8 1) := by rw [a23.cell R 100 (by omega) (by simp), a12.cell R 100 (by omega) (by simp)]; exact r1
  have rc3 : W3.cell? ⟨R, 6 + c.toNat, none⟩ = some (.int .u8 m) := by rw [a23.cell R _ (by omega) (by simp), a12.cell R _ (by omega) (by simp)]; exact rc
  have m2 := n3.c2
  have m4 := n3.c4
  simp only [Nat.zero_add] at m2 m4
  have N3 := hid n3
  have N3C := hid n3c
  have A13 : Hid (Away [A] w W3) := hid ((a1.trans a12 (by simp)).trans a23 (by simp))
  have HQW := hid hwq
  obtain ⟨U, hU⟩ : ∃ U, U = wq.heap.size + 1 := ⟨_, rfl⟩
  rw [← hU] at u0 u1 u2 uf m4 N3 ⊢
  have hAU : A ≠ U := by omega
  have hRU : R ≠ U := by omega
  have uf1 := uf 1
  have UF := hid uf
  have u1d : W3.drew.cell? ⟨U, 1, none⟩ = some (.pointer none) := u1
  have uf1d : W3.drew.frozen? ⟨U, 1, none⟩ = false := uf1
  clear hW1 hs1 a1 n1 r1 rc hW2 n2c hs2 a12 hW3 a23 n3 n3c uf d2 d3 d4 d5 dm1 dmc e4 h4 e5 g4 GQ c2 c3 c4 f2 f3 f4 h5 hm1 hm hmk
  have x4 : W3.drew.cell? ⟨A, 4, none⟩ = some (.slice (some ⟨U, 0, none⟩) 3 3) := m4
  have x2 : W3.drew.cell? ⟨A, 2, none⟩ = some (.string (S [94])) := m2
  have xr : W3.drew.cell? ⟨R, 100, none⟩ = some (.int .u8 1) := r3
  have HU := hid hU
  clear hU
  go_still_tail 16, (by kernel_rfl)
  change wpList _ _ _ _ _ W3.drew
  generalize hWd : W3.drew = Wd at u1d uf1d x4 x2 xr ⊢
  clear m4 m2 r3
  go_wp2_with fail
  have hdf : ∀ q, Wd.frozen? q = W3.frozen? q := fun q => by rw [← hWd]; rfl
  have hdc : ∀ q, Wd.cell? q = W3.cell? q := fun q => by rw [← hWd]; rfl
  have hds : Wd.heap.size = wq.heap.size + 2 := by rw [← hWd]; exact hs3
  have nd : Node Wd A 0 [] 0 [94] (.pointer (some ⟨Bq, 0, none⟩)) (.slice (some ⟨U, 0, none⟩) 3 3) := by rw [← hWd]; exact ⟨N3.out.c0, N3.out.c1, N3.out.c2, N3.out.c3, N3.out.c4, N3.out.fz⟩
  have ndc : Node Wd wq.heap.size 0 [] 0 [] (.pointer none) (.slice none 0 0) := by rw [← hWd]; exact ⟨N3C.out.c0, N3C.out.c1, N3C.out.c2, N3C.out.c3, N3C.out.c4, N3C.out.fz⟩
  have ad : Away [A] w Wd := by rw [← hWd]; exact A13.out.drew
  generalize hW4 : Wd.setCell ⟨U, 1, none⟩ (.pointer (some ⟨Bq, 0, none⟩)) = W4
  have hUw : w.heap.size ≤ U := by have := HU.out; omega
  have a4 : Away [A] w W4 := by rw [← hW4]; exact ad.set U 1 _ (.inr hUw)
  have ab : Away [U] Wd W4 := by rw [← hW4]; exact (Away.refl _ _).set U 1 _ (.inl (by simp))
  have n4 := nd.away ab (by simp [hAU])
  have n4c := ndc.away ab (by have := HU.out; simp; omega)
  have yc : W4.cell? ⟨R, 6 + c.toNat, none⟩ = some (.int .u8 m) := by rw [← hW4, World.cell?_setCell_other _ _ _ _ (by simp [Ne.symm hRU]), hdc]; exact rc3
  have zj : ∀ j, j < 3 → W4.cell? ⟨U, j, none⟩ = some (if j = 1 then .pointer (some ⟨Bq, 0, none⟩) else .pointer none) := fun j hj => by
    rcases (show j = 0 ∨ j = 1 ∨ j = 2 by omega) with rfl | rfl | rfl
    · rw [← hW4, World.cell?_setCell_other _ _ _ _ (by simp), hdc]; exact u0
    · rw [← hW4]; exact World.cell?_setCell_same _ _ _ u1d
    · rw [← hW4, World.cell?_setCell_other _ _ _ _ (by simp), hdc]; exact u2
  have zf : ∀ j, W4.frozen? ⟨U, j, none⟩ = false := fun j => by rw [← hW4, World.frozen?_setCell, hdf]; exact UF.out j
  have hs4 : W4.heap.size = wq.heap.size + 2 := by rw [← hW4]; simp [World.setCell, hds]
  clear hW4 hdf hdc hds nd ndc ad ab hWd u1d uf1d x4 x2 xr u0 u1 u2 hs3 rc3 uf1 N3 N3C A13 UF
  obtain ⟨C, hC⟩ : ∃ C, C = wq.heap.size := ⟨_, rfl⟩
  rw [← hC] at n4c ⊢
  have HC := hid hC
  clear hC
  have k4 := n4.c4
  simp only [Nat.zero_add] at k4
  have km := zj m hm3
  rw [if_neg hm0] at km
  have kf := zf m
  have k2 := n4.c2
  have k3 := n4.c3
  have f2 := n4.fz 2
  have f3 := n4.fz 3
  simp only [Nat.zero_add] at k2 k3
  have N4 := hid n4
  have N4C := hid n4c
  have A4 := hid a4
  have ZJ := hid zj
  have ZF := hid zf
  have HS4 := hid hs4
  clear n4 n4c a4 zj zf hs4
  have x4 : W4.drew.cell? ⟨A, 4, none⟩ = some (.slice (some ⟨U, 0, none⟩) 3 3) := k4
  have xm : W4.drew.cell? ⟨U, m, none⟩ = some (.pointer none) := km
  have xmf : W4.drew.frozen? ⟨U, m, none⟩ = false := kf
  have xc : W4.drew.cell? ⟨R, 6 + c.toNat, none⟩ = some (.int .u8 m) := yc
  have x2 : W4.drew.cell? ⟨A, 2, none⟩ = some (.string (S [94])) := k2
  have x3 : W4.drew.cell? ⟨A, 3, none⟩ = some (.pointer (some ⟨Bq, 0, none⟩)) := k3
  have y2 : W4.drew.frozen? ⟨A, 2, none⟩ = false := f2
  have y3 : W4.drew.frozen? ⟨A, 3, none⟩ = false := f3
  have hm3i : (m : Int) < 3 := by omega
  go_still_tail 13, (by kernel_rfl)
  change wpList _ _ _ _ _ W4.drew
  generalize hWe : W4.drew = We at xm xmf x4 xc x2 x3 y2 y3 ⊢
  clear k4 km kf k2 k3 f2 f3 yc
  go_wp2_with fail
  have ne4 : Node We A 0 [] 0 [94] (.pointer (some ⟨Bq, 0, none⟩)) (.slice (some ⟨U, 0, none⟩) 3 3) := by rw [← hWe]; exact ⟨N4.out.c0, N4.out.c1, N4.out.c2, N4.out.c3, N4.out.c4, N4.out.fz⟩
  have nec : Node We C 0 [] 0 [] (.pointer none) (.slice none 0 0) := by rw [← hWe]; exact ⟨N4C.out.c0, N4C.out.c1, N4C.out.c2, N4C.out.c3, N4C.out.c4, N4C.out.fz⟩
  have ae : Away [A] w We := by rw [← hWe]; exact A4.out.drew
  have zj : ∀ j, j < 3 → We.cell? ⟨U, j, none⟩ = some (if j = 1 then .pointer (some ⟨Bq, 0, none⟩) else .pointer none) := fun j hj => by rw [← hWe]; exact ZJ.out j hj
  have zf : ∀ j, We.frozen? ⟨U, j, none⟩ = false := fun j => by rw [← hWe]; exact ZF.out j
  have hs : We.heap.size = wq.heap.size + 2 := by rw [← hWe]; exact HS4.out
  have hCq := HC.out
  have hUq := HU.out
  have hAC : A ≠ C := by omega
  have hUC : U ≠ C := by omega
  have a5 : Away [A, U] We (((We.setCell ⟨U, m, none⟩ (.pointer (some ⟨C, 0, none⟩))).setCell ⟨A, 2, none⟩ (.string ⟨#[]⟩)).setCell ⟨A, 3, none⟩ (.pointer none)) :=
    (((Away.refl _ _).set U m _ (.inl (by simp))).set A 2 _ (.inl (by simp))).set A 3 _ (.inl (by simp))
  have na := (((ne4.away ((Away.refl [U] _).set U m (.pointer (some ⟨C, 0, none⟩)) (.inl (by simp))) (by simp [hAU])).set2 []).set3 (.pointer none))
  simp only [Nat.zero_add] at na
  change Node (((We.setCell ⟨U, m, none⟩ (.pointer (some ⟨C, 0, none⟩))).setCell ⟨A, 2, none⟩ (.string ⟨#[]⟩)).setCell ⟨A, 3, none⟩ (.pointer none)) A 0 [] 0 [] (.pointer none) (.slice (some ⟨U, 0, none⟩) 3 3) at na
  have z5 : ∀ j, j < 3 → j ≠ m → (((We.setCell ⟨U, m, none⟩ (.pointer (some ⟨C, 0, none⟩))).setCell ⟨A, 2, none⟩ (.string ⟨#[]⟩)).setCell ⟨A, 3, none⟩ (.pointer none)).cell? ⟨U, j, none⟩ = some (if j = 1 then .pointer (some ⟨Bq, 0, none⟩) else .pointer none) := fun j hj hn => by
    rw [World.cell?_setCell_other _ _ _ _ (by simp [hAU]), World.cell?_setCell_other _ _ _ _ (by simp [hAU]), World.cell?_setCell_other _ _ _ _ (by simp [Ne.symm hn])]
    exact zj j hj
  have z6 : (((We.setCell ⟨U, m, none⟩ (.pointer (some ⟨C, 0, none⟩))).setCell ⟨A, 2, none⟩ (.string ⟨#[]⟩)).setCell ⟨A, 3, none⟩ (.pointer none)).cell? ⟨U, m, none⟩ = some (.pointer (some ⟨C, 0, none⟩)) := by
    rw [World.cell?_setCell_other _ _ _ _ (by simp [hAU]), World.cell?_setCell_other _ _ _ _ (by simp [hAU])]
    exact World.cell?_setCell_same _ _ _ xm
  have z7 : ∀ j, (((We.setCell ⟨U, m, none⟩ (.pointer (some ⟨C, 0, none⟩))).setCell ⟨A, 2, none⟩ (.string ⟨#[]⟩)).setCell ⟨A, 3, none⟩ (.pointer none)).frozen? ⟨U, j, none⟩ = false := fun j => by
    rw [World.frozen?_setCell, World.frozen?_setCell, World.frozen?_setCell]; exact zf j
  have aw : Away [A] w (((We.setCell ⟨U, m, none⟩ (.pointer (some ⟨C, 0, none⟩))).setCell ⟨A, 2, none⟩ (.string ⟨#[]⟩)).setCell ⟨A, 3, none⟩ (.pointer none)) :=
    ((ae.set U m _ (.inr hUw)).set A 2 _ (.inl (by simp))).set A 3 _ (.inl (by simp))
  generalize ((We.setCell ⟨U, m, none⟩ (.pointer (some ⟨C, 0, none⟩))).setCell ⟨A, 2, none⟩ (.string ⟨#[]⟩)).setCell ⟨A, 3, none⟩ (.pointer none) = W7 at *
  have nc := nec.away a5 (by simp; omega)
  have hs7 : We.heap.size ≤ W7.heap.size := a5.size
  have NA := hid na
  have Z5 := hid z5
  have Z6 := hid z6
  have Z7 := hid z7
  have AW := hid aw
  have HAC := hid hAC
  have HUC := hid hUC
  have HUW := hid hUw
  have HS7 := hid hs7
  have HS := hid hs
  have HWQ := hid hwq
  clear na z5 z6 z7 aw hAC hUC hUw ne4 nec ae zj zf hs hCq hUq a5 xm xmf x4 xc x2 x3 y2 y3 hWe hs7 hwq
  show Calls _ _ #[.pointer (some ⟨C, 0, none⟩), .string (S []), .string (S x), .int .i64 p, .pointer (some ⟨R, 0, none⟩)] _ _
  refine (add_leaf W7 C 0 [] x [] p (.pointer none) (.slice none 0 0) (.pointer (some ⟨R, 0, none⟩)) nc).mono ?_
  rintro e w3 ⟨rfl, hl, hal⟩
  have HL := hid hl
  have HAL := hid hal
  clear hl hal nc
  go_wp2_with fail
  have hUs : U < W7.heap.size := by have := HS7.out; have := HS.out; have := HU.out; omega
  have hss : w.heap.size ≤ W7.heap.size := by have := HS7.out; have := HS.out; have := HWQ.out; omega
  refine bodyPost_end (results_none rfl _ _ _) rfl ⟨rfl, C, U, by have := HC.out; have := HWQ.out; omega, HUW.out, Ne.symm HUC.out, NA.out.away HAL.out (by simp [HAC.out]), HL.out, ?_, fun j hj hn => (HAL.out.cell U j hUs (by simp [HUC.out])).trans (Z5.out j hj hn), (HAL.out.cell U m hUs (by simp [HUC.out])).trans Z6.out, fun j => (HAL.out.fz U j hUs).trans (Z7.out j)⟩
  exact AW.out.trans HAL.out (by have := HC.out; have := HWQ.out; simp; omega)

end Go.Proofs.Ythbjabjchfmmoaa
