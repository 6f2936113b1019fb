/-
  THE WALK of JsonTwice.
-/
import Derived.Test.YtlejbindochiiaaDoorJsonBuild
import Derived.Test.YtlejbindochiiaaDoorTell
namespace Go.Proofs.YtlejbindochiiaaDoor
open Go.RowKit
set_option linter.unusedVariables false
set_option linter.unusedSimpArgs false

theorem two_nine {a b : Jt} {key : List UInt8} (hk : badL key = none) : rightJ 12 (.mk 7 [] [key, key] [a, b]) = some 9 := wrap_two 11 hk
theorem obj_none {j : Jt} {key : List UInt8} (hk : badL key = none) (hr : rightJ 11 j = none) : wrJ (.mk 7 [] [key] [j]) = .tuple #[.string (S (123 :: (quoteJ key ++ 58 :: (writeJ 11 j ++ [125])))), .nilIface] := by
  have h2 : rightJ 12 (.mk 7 [] [key] [j]) = none := (wrap_obj 11 hk).trans hr
  unfold wrJ
  rw [h2, if_pos rfl, write_obj]
  simp [errJ]
theorem obj_four {j : Jt} {key : List UInt8} (hk : badL key = none) (hr : rightJ 11 j = some 4) : wrJ (.mk 7 [] [key] [j]) = .tuple #[.string (S []), eno 4] := by
  have h2 : rightJ 12 (.mk 7 [] [key] [j]) = some 4 := (wrap_obj 11 hk).trans hr
  unfold wrJ
  rw [h2]
  rfl
theorem obj_len {j : Jt} {key : List UInt8} (hk : badL key = none) (hkl : key.length ≤ 100) (hl : rightJ 12 j = none → (writeJ 12 j).length ≤ 10000000000) (hr12 : rightJ 12 j = none) :
    rightJ 12 (.mk 7 [] [key] [j]) = none → (writeJ 12 (.mk 7 [] [key] [j])).length ≤ 10000000000000 := fun h => by
  have h0 := hl hr12
  have hq := flat_six key
  have hr : rightJ 11 j = none := (wrap_obj 11 hk).symm.trans h
  have e : writeJ 12 j = writeJ 11 j := write_fuel 11 j hr
  rw [e] at h0
  rw [write_obj]
  unfold quoteJ
  simp only [List.length_append, List.length_cons, List.length_nil]; omega
theorem read_at {s : List UInt8} {c : Int} {k : Nat} (h : readJ s = .error (c, some k)) (w : World) : Makes 10 #[.string (S s)] w (fun v w' => ∃ z, v = .tuple #[zeroJ, z] ∧ IsAt w' z c k) := by
  refine (read_any s w).mono fun e9 w' ⟨v, e1, hq, hg⟩ => ⟨v, e1, ?_, hg⟩
  rw [h] at hq
  exact hq
theorem at_putX {w : World} {z : Value} {k : Int} {X : Nat} {b0 b1 b2 b3 : Value} (h : IsAt w z 9 k) (q0 : w.cell? ⟨X, 0, none⟩ = some (.int .i64 0)) : IsAt ((((w.setCell ⟨X, 0, none⟩ b0).setCell ⟨X, 1, none⟩ b1).setCell ⟨X, 2, none⟩ b2).setCell ⟨X, 3, none⟩ b3) z 9 k := by
  obtain ⟨b, e, h0, h1, hb⟩ := h
  have hne : b ≠ X := by
    rintro rfl
    rw [h0] at q0
    simp at q0
  have hh : ((((w.setCell ⟨X, 0, none⟩ b0).setCell ⟨X, 1, none⟩ b1).setCell ⟨X, 2, none⟩ b2).setCell ⟨X, 3, none⟩ b3).heap[b]? = w.heap[b]? := by
    rw [Below.heap_setCell _ _ _ _ hne, Below.heap_setCell _ _ _ _ hne, Below.heap_setCell _ _ _ _ hne, Below.heap_setCell _ _ _ _ hne]
  refine ⟨b, e, ?_, ?_, by simpa using hb⟩
  · rw [World.cell?_of_block (a := ⟨b, 0, none⟩) hh]; exact h0
  · rw [World.cell?_of_block (a := ⟨b, 1, none⟩) hh]; exact h1
theorem g_putX {a w : World} {X : Nat} {b0 b1 b2 b3 : Value} (h : G a w) (hX : a.heap.size ≤ X) : G a ((((w.setCell ⟨X, 0, none⟩ b0).setCell ⟨X, 1, none⟩ b1).setCell ⟨X, 2, none⟩ b2).setCell ⟨X, 3, none⟩ b3) :=
  Below.setCell (Below.setCell (Below.setCell (Below.setCell h (p := ⟨X, 0, none⟩) hX b0) (p := ⟨X, 1, none⟩) hX b1) (p := ⟨X, 2, none⟩) hX b2) (p := ⟨X, 3, none⟩) hX b3
set_option maxRecDepth 100000 in
set_option maxHeartbeats 16000000 in
theorem jsonTwice_walk (key : List UInt8) (x : Jt) (n : Nat) (p : Nat → Prop) (v : Value) (y : Jt) (m : Nat) (q : Nat → Prop) (u : Value) (w : World) (hk : key.length ≤ 140737488351232) (hv : JAt n p w v x) (hs : ∀ d, SzJ 1048576 1048576 d x) (hu : JAt m q w u y) (hs2 : ∀ d, SzJ 1048576 1048576 d y) (hE : LaidE w) : Gives 4 #[.string (S key), v, u] w (.bool true) := by
  have W1 := hid (weight_one hv hs)
  have W2 := hid (weight_one hu hs2)
  have HV := hid (hv.mono (q := fun _ => True) fun _ _ _ => trivial)
  have HU := hid (hu.mono (q := fun _ => True) fun _ _ _ => trivial)
  have HS := hid hs
  have HS2 := hid hs2
  have HE := hid hE
  obtain ⟨ka, kc, la, lc, rfl⟩ := hv.shape4
  obtain ⟨ka', kc', la', lc', rfl⟩ := hu.shape4
  obtain ⟨K1, hK1⟩ : ∃ K, wtJ 20 x = K := ⟨_, rfl⟩
  obtain ⟨K2, hK2⟩ : ∃ K, wtJ 20 y = K := ⟨_, rfl⟩
  have hK1l : K1 ≤ 100000000 := by
    have h1 := wt_le 1048576 1048576 20 x (hs 20)
    rw [hK1] at h1; omega
  have hK2l : K2 ≤ 100000000 := by
    have h1 := wt_le 1048576 1048576 20 y (hs2 20)
    rw [hK2] at h1; omega
  rw [hK1] at W1
  rw [hK2] at W2
  have HK1 := hid hK1
  have HK2 := hid hK2
  clear hv hs hu hs2 hE hK1 hK2
  go_enter Tryd.func4, Tryd.ntmps4
  go_upto_region 1 with fail
  generalize hw0 : World.alloc (World.alloc w _) _ = w0
  obtain ⟨B, hB⟩ : ∃ B, w.heap.size = B := ⟨_, rfl⟩
  rw [hB]
  have b0 : w0.heap[B]? = some (.cells #[.int .i64 x.kind, .string (S x.text), .slice ka x.keys.length kc, .slice la x.list.length lc] 25) := by rw [← hw0, ← hB]; exact row_alloc ((MapKept.heap_alloc w _).1) (by simp)
  have d0 : w0.heap[B + 1]? = some (.cells #[.int .i64 y.kind, .string (S y.text), .slice ka' y.keys.length kc', .slice la' y.list.length lc'] 25) := by rw [← hw0, ← hB]; exact heap_of_drew _ _ _ (by simp)
  have G0 := hid (show G w w0 by rw [← hw0]; exact ((G.refl _).alloc _).alloc _)
  have X0 := hid b0
  have Y0 := hid d0
  clear hw0 hB b0 d0
  go_wp2_with fail
  refine (noted_any w0).mono ?_
  rintro e w1 ⟨rfl, g1⟩
  have b1 := (g1.below.block _ (lt_of_row X0.out)).trans X0.out
  have d1 := (g1.below.block _ (lt_of_row Y0.out)).trans Y0.out
  obtain ⟨c0, c1, c2, c3⟩ := box4 b1
  obtain ⟨e0, e1, e2, e3⟩ := box4 d1
  have hBl := lt_of_row b1
  have hDl := lt_of_row d1
  have X1 := hid b1
  have Y1 := hid d1
  have G1 := hid (G0.out.trans g1)
  have BA0 := hid (fun W => bad_any key W (by omega))
  clear g1 b1 d1 X0 Y0 G0
  go_upto_region 3 with fail
  by_cases hkl : 100 < key.length
  · have hd : decide ((100 : Int) < (key.length : Int)) = true := decide_eq_true (by omega)
    clear hkl
    refine wp_region_grow (by kernel_rfl) (by kernel_rfl) ?_
    repeat (first | go_big_quiet_skip | (go_big_quiet_want; go_big_quiet_op; first | go_big_quiet_on | (apply Exists.intro; apply And.intro; (focus (intro _ hg; first | (simp only [G.cell hg (p := ⟨B, 0, none⟩) hBl, G.cell hg (p := ⟨B, 1, none⟩) hBl, G.cell hg (p := ⟨B, 2, none⟩) hBl, G.cell hg (p := ⟨B, 3, none⟩) hBl, c0, c1, c2, c3, Result.andThen_ok]; exact ⟨trivial, rfl⟩) | (simp only [G.cell hg (p := ⟨B + 1, 0, none⟩) hDl, G.cell hg (p := ⟨B + 1, 1, none⟩) hDl, G.cell hg (p := ⟨B + 1, 2, none⟩) hDl, G.cell hg (p := ⟨B + 1, 3, none⟩) hDl, e0, e1, e2, e3, Result.andThen_ok]; exact ⟨trivial, rfl⟩))); go_big_quiet_on) | (refine ⟨_, fun _ _ => rfl, ?_⟩; go_big_quiet_on)))
    refine wpQuiet_nil ?_
    intro wq gq
    go_wp2_with fail
    go_ret
    exact ⟨rfl, G1.out.trans gq⟩
  have hd : decide ((100 : Int) < (key.length : Int)) = false := decide_eq_false (by omega)
  have hkey : key.length ≤ 100 := by omega
  clear hkl
  by_cases hbig : 300 < K1 + K2
  · have hd2 : decide ((300 : Int) < (K1 : Int) + (K2 : Int)) = true := decide_eq_true (by omega)
    clear hbig
    refine wp_region_grow (by kernel_rfl) (by kernel_rfl) ?_
    repeat (first | go_big_quiet_skip | (go_big_quiet_want; go_big_quiet_op; first | go_big_quiet_on | (apply Exists.intro; apply And.intro; (focus (intro _ hg; first | (go_at_call 7; with_reducible exact Gives.gq hg (W1.out _ (G1.out.trans hg))) | (go_at_call 7; with_reducible exact Gives.gq hg (W2.out _ (G1.out.trans hg))) | (simp only [G.cell hg (p := ⟨B, 0, none⟩) hBl, G.cell hg (p := ⟨B, 1, none⟩) hBl, G.cell hg (p := ⟨B, 2, none⟩) hBl, G.cell hg (p := ⟨B, 3, none⟩) hBl, c0, c1, c2, c3, Result.andThen_ok]; exact ⟨trivial, rfl⟩) | (simp only [G.cell hg (p := ⟨B + 1, 0, none⟩) hDl, G.cell hg (p := ⟨B + 1, 1, none⟩) hDl, G.cell hg (p := ⟨B + 1, 2, none⟩) hDl, G.cell hg (p := ⟨B + 1, 3, none⟩) hDl, e0, e1, e2, e3, Result.andThen_ok]; exact ⟨trivial, rfl⟩))); go_big_quiet_on) | (refine ⟨_, fun _ _ => rfl, ?_⟩; go_big_quiet_on)))
    refine wpQuiet_nil ?_
    intro wq gq
    go_wp2_with fail
    go_ret
    exact ⟨rfl, G1.out.trans gq⟩
  have hd2 : decide ((300 : Int) < (K1 : Int) + (K2 : Int)) = false := decide_eq_false (by omega)
  have hle1 : wtJ 20 x ≤ 600 := by rw [HK1.out]; omega
  have hle2 : wtJ 20 y ≤ 600 := by rw [HK2.out]; omega
  have SZ1 := hid (light_sz HS.out hle1)
  have SZ2 := hid (light_sz HS2.out hle2)
  have LL1 := hid (light_len HS.out hle1)
  have LL2 := hid (light_len HS2.out hle2)
  have R1 := hid (fun W (g : G w W) => jright_any 5000 1048576 n _ W _ x (by decide) (by decide) (HV.out.grow g) SZ1.out)
  have R2 := hid (fun W (g : G w W) => jright_any 5000 1048576 m _ W _ y (by decide) (by decide) (HU.out.grow g) SZ2.out)
  clear hbig hle1 hle2 hk
  cases hr1 : rightJ 12 x with
  | some c =>
    rw [hr1] at R1
    simp only [errJ] at R1
    clear hr1
    refine wp_region_grow (by kernel_rfl) (by kernel_rfl) ?_
    repeat (first | go_big_quiet_skip | (go_big_quiet_want; go_big_quiet_op; first | go_big_quiet_on | (apply Exists.intro; apply And.intro; (focus (intro _ hg; first | (go_at_call 7; with_reducible exact Gives.gq hg (W1.out _ (G1.out.trans hg))) | (go_at_call 7; with_reducible exact Gives.gq hg (W2.out _ (G1.out.trans hg))) | (go_at_call 13; with_reducible exact Gives.gq hg (R1.out _ (G1.out.trans hg))) | (go_at_call 13; with_reducible exact Gives.gq hg (R2.out _ (G1.out.trans hg))) | (simp only [G.cell hg (p := ⟨B, 0, none⟩) hBl, G.cell hg (p := ⟨B, 1, none⟩) hBl, G.cell hg (p := ⟨B, 2, none⟩) hBl, G.cell hg (p := ⟨B, 3, none⟩) hBl, c0, c1, c2, c3, Result.andThen_ok]; exact ⟨trivial, rfl⟩) | (simp only [G.cell hg (p := ⟨B + 1, 0, none⟩) hDl, G.cell hg (p := ⟨B + 1, 1, none⟩) hDl, G.cell hg (p := ⟨B + 1, 2, none⟩) hDl, G.cell hg (p := ⟨B + 1, 3, none⟩) hDl, e0, e1, e2, e3, Result.andThen_ok]; exact ⟨trivial, rfl⟩))); go_big_quiet_on) | (refine ⟨_, fun _ _ => rfl, ?_⟩; go_big_quiet_on)))
    refine wpQuiet_nil ?_
    intro wq gq
    go_wp2_with fail
    go_ret
    exact ⟨rfl, G1.out.trans gq⟩
  | none =>
  rw [hr1] at R1
  simp only [errJ] at R1
  have HR1 := hid hr1
  clear hr1
  cases hr2 : rightJ 12 y with
  | some c =>
    rw [hr2] at R2
    simp only [errJ] at R2
    clear hr2
    refine wp_region_grow (by kernel_rfl) (by kernel_rfl) ?_
    repeat (first | go_big_quiet_skip | (go_big_quiet_want; go_big_quiet_op; first | go_big_quiet_on | (apply Exists.intro; apply And.intro; (focus (intro _ hg; first | (go_at_call 7; with_reducible exact Gives.gq hg (W1.out _ (G1.out.trans hg))) | (go_at_call 7; with_reducible exact Gives.gq hg (W2.out _ (G1.out.trans hg))) | (go_at_call 13; with_reducible exact Gives.gq hg (R1.out _ (G1.out.trans hg))) | (go_at_call 13; with_reducible exact Gives.gq hg (R2.out _ (G1.out.trans hg))) | (simp only [G.cell hg (p := ⟨B, 0, none⟩) hBl, G.cell hg (p := ⟨B, 1, none⟩) hBl, G.cell hg (p := ⟨B, 2, none⟩) hBl, G.cell hg (p := ⟨B, 3, none⟩) hBl, c0, c1, c2, c3, Result.andThen_ok]; exact ⟨trivial, rfl⟩) | (simp only [G.cell hg (p := ⟨B + 1, 0, none⟩) hDl, G.cell hg (p := ⟨B + 1, 1, none⟩) hDl, G.cell hg (p := ⟨B + 1, 2, none⟩) hDl, G.cell hg (p := ⟨B + 1, 3, none⟩) hDl, e0, e1, e2, e3, Result.andThen_ok]; exact ⟨trivial, rfl⟩))); go_big_quiet_on) | (refine ⟨_, fun _ _ => rfl, ?_⟩; go_big_quiet_on)))
    refine wpQuiet_nil ?_
    intro wq gq
    go_wp2_with fail
    go_ret
    exact ⟨rfl, G1.out.trans gq⟩
  | none =>
  rw [hr2] at R2
  simp only [errJ] at R2
  have HR2 := hid hr2
  clear hr2
  cases hb : badL key with
  | some i =>
    have BA := hid (show ∀ W, Pure 11 #[.string (S key)] W (.int .i64 (i : Int)) from fun W => by have := BA0.out W; rw [hb] at this; exact this)
    clear hb
    refine wp_region_grow (by kernel_rfl) (by kernel_rfl) ?_
    repeat (first | go_big_quiet_skip | (go_big_quiet_want; go_big_quiet_op; first | go_big_quiet_on | (apply Exists.intro; apply And.intro; (focus (intro _ hg; first | (go_at_call 7; with_reducible exact Gives.gq hg (W1.out _ (G1.out.trans hg))) | (go_at_call 7; with_reducible exact Gives.gq hg (W2.out _ (G1.out.trans hg))) | (go_at_call 13; with_reducible exact Gives.gq hg (R1.out _ (G1.out.trans hg))) | (go_at_call 13; with_reducible exact Gives.gq hg (R2.out _ (G1.out.trans hg))) | (go_at_call 11; with_reducible exact Pure.gq hg (BA.out _)) | (simp only [G.cell hg (p := ⟨B, 0, none⟩) hBl, G.cell hg (p := ⟨B, 1, none⟩) hBl, G.cell hg (p := ⟨B, 2, none⟩) hBl, G.cell hg (p := ⟨B, 3, none⟩) hBl, c0, c1, c2, c3, Result.andThen_ok]; exact ⟨trivial, rfl⟩) | (simp only [G.cell hg (p := ⟨B + 1, 0, none⟩) hDl, G.cell hg (p := ⟨B + 1, 1, none⟩) hDl, G.cell hg (p := ⟨B + 1, 2, none⟩) hDl, G.cell hg (p := ⟨B + 1, 3, none⟩) hDl, e0, e1, e2, e3, Result.andThen_ok]; exact ⟨trivial, rfl⟩))); go_big_quiet_on) | (refine ⟨_, fun _ _ => rfl, ?_⟩; go_big_quiet_on)))
    refine wpQuiet_nil ?_
    intro wq gq
    go_wp2_with fail
    go_ret
    exact ⟨rfl, G1.out.trans gq⟩
  | none =>
  have BA := hid (show ∀ W, Pure 11 #[.string (S key)] W (.int .i64 (-1)) from fun W => by have := BA0.out W; rw [hb] at this; exact this)
  have HB := hid hb
  clear hb
  refine wp_region_grow (by kernel_rfl) (by kernel_rfl) ?_
  repeat (first | go_big_quiet_skip | (go_big_quiet_want; go_big_quiet_op; first | go_big_quiet_on | (apply Exists.intro; apply And.intro; (focus (intro _ hg; first | (go_at_call 7; with_reducible exact Gives.gq hg (W1.out _ (G1.out.trans hg))) | (go_at_call 7; with_reducible exact Gives.gq hg (W2.out _ (G1.out.trans hg))) | (go_at_call 13; with_reducible exact Gives.gq hg (R1.out _ (G1.out.trans hg))) | (go_at_call 13; with_reducible exact Gives.gq hg (R2.out _ (G1.out.trans hg))) | (go_at_call 11; with_reducible exact Pure.gq hg (BA.out _)) | (simp only [G.cell hg (p := ⟨B, 0, none⟩) hBl, G.cell hg (p := ⟨B, 1, none⟩) hBl, G.cell hg (p := ⟨B, 2, none⟩) hBl, G.cell hg (p := ⟨B, 3, none⟩) hBl, c0, c1, c2, c3, Result.andThen_ok]; exact ⟨trivial, rfl⟩) | (simp only [G.cell hg (p := ⟨B + 1, 0, none⟩) hDl, G.cell hg (p := ⟨B + 1, 1, none⟩) hDl, G.cell hg (p := ⟨B + 1, 2, none⟩) hDl, G.cell hg (p := ⟨B + 1, 3, none⟩) hDl, e0, e1, e2, e3, Result.andThen_ok]; exact ⟨trivial, rfl⟩))); go_big_quiet_on) | (refine ⟨_, fun _ _ => rfl, ?_⟩; go_big_quiet_on)))
  refine wpQuiet_nil ?_
  intro wq gq
  have G2 := hid (G1.out.trans gq)
  have b2 := (gq.below.block _ (lt_of_row X1.out)).trans X1.out
  have d2 := (gq.below.block _ (lt_of_row Y1.out)).trans Y1.out
  have X2 := hid b2
  have Y2 := hid d2
  clear gq c0 c1 c2 c3 e0 e1 e2 e3 hBl hDl b2 d2 X1 Y1
  obtain ⟨Q, hQ⟩ : ∃ Q, wq.heap.size = Q := ⟨_, rfl⟩
  obtain ⟨c0, c1, c2, c3⟩ := box4 (row_alloc (x := .cells #[.string (S key)] 9) X2.out (lt_of_row X2.out))
  go_upto_region 6 with fail
  clear c0 c1 c2 c3
  generalize hw4 : World.alloc (World.alloc (World.alloc wq _) _) _ = w4
  have k4 : w4.heap[Q]? = some (.cells #[.string (S key)] 9) := by rw [← hw4, ← hQ]; exact row_alloc (row_alloc ((MapKept.heap_alloc wq _).1) (by simp)) (by simp; omega)
  have l4 : w4.heap[Q + 1]? = some (.cells #[.int .i64 x.kind, .string (S x.text), .slice ka x.keys.length kc, .slice la x.list.length lc] 25) := by rw [← hw4, ← hQ]; exact row_alloc (heap_of_drew _ _ _ (by simp)) (by simp)
  have a4 : w4.heap[Q + 1 + 1]? = some (.cells #[.int .i64 7, .string (S []), .slice (some ⟨Q, 0, none⟩) 1 1, .slice (some ⟨Q + 1, 0, none⟩) 1 1] 25) := by rw [← hw4, ← hQ]; exact heap_of_drew _ _ _ (by simp)
  have x4 : w4.heap[B]? = some (.cells #[.int .i64 x.kind, .string (S x.text), .slice ka x.keys.length kc, .slice la x.list.length lc] 25) := by rw [← hw4]; exact row_alloc (row_alloc (row_alloc X2.out (lt_of_row X2.out)) (by have := lt_of_row X2.out; simp; omega)) (by have := lt_of_row X2.out; simp; omega)
  have y4 : w4.heap[B + 1]? = some (.cells #[.int .i64 y.kind, .string (S y.text), .slice ka' y.keys.length kc', .slice la' y.list.length lc'] 25) := by rw [← hw4]; exact row_alloc (row_alloc (row_alloc Y2.out (lt_of_row Y2.out)) (by have := lt_of_row Y2.out; simp; omega)) (by have := lt_of_row Y2.out; simp; omega)
  have G4 := hid (show G w w4 by rw [← hw4]; exact ((G2.out.alloc _).alloc _).alloc _)
  have T1 := JAt.one (k := 7) (strs_block (n := 1) (ks := [key]) k4 rfl rfl (by decide)) l4 (HV.out.grow G4.out)
  have J1 := hid (fun W (g : G w4 W) => jwrite_any 5000 1048576 (n + 1) _ W _ _ (by decide) (by decide) (T1.grow g) (sz_built (d := 11) (by simp) (by simp) (by intro z hz; simp at hz; subst hz; omega) (by intro z hz; simp at hz; subst hz; exact SZ1.out.less)) (obj_len HB.out hkey LL1.out HR1.out))
  obtain ⟨s1, z1, e1⟩ : ∃ s z, wrJ (.mk 7 [] [key] [x]) = .tuple #[.string (S s), z] := ⟨_, _, rfl⟩
  obtain ⟨s2, z2, e2⟩ : ∃ s z, wrJ (.mk 7 [] [key] [y]) = .tuple #[.string (S s), z] := ⟨_, _, rfl⟩
  have E1 := hid e1
  have E2 := hid e2
  rw [e1] at J1
  obtain ⟨c0, c1, c2, c3⟩ := box4 a4
  have X4 := hid x4
  have Y4 := hid y4
  clear hw4 hQ k4 l4 a4 x4 y4 T1 e1 e2 X2 Y2 G2
  go_wp2_with fail
  refine (J1.out w4 (G.refl _)).mono ?_
  rintro e w5 ⟨rfl, g5⟩
  have x5 := (g5.below.block _ (lt_of_row X4.out)).trans X4.out
  have y5 := (g5.below.block _ (lt_of_row Y4.out)).trans Y4.out
  have G5 := hid (G4.out.trans g5)
  have X5 := hid x5
  have Y5 := hid y5
  clear g5 c0 c1 c2 c3 x5 y5 X4 Y4 G4 J1
  obtain ⟨c0, c1, c2, c3⟩ := box4 (row_alloc (x := .cells #[.string (S key)] 9) Y5.out (lt_of_row Y5.out))
  obtain ⟨Q, hQ⟩ : ∃ Q, w5.heap.size = Q := ⟨_, rfl⟩
  go_wp2_with fail
  clear c0 c1 c2 c3
  generalize hw6 : World.alloc (World.alloc w5 _) _ = w6
  have k6 : w6.heap[Q]? = some (.cells #[.string (S key)] 9) := by rw [← hw6, ← hQ]; exact row_alloc ((MapKept.heap_alloc w5 _).1) (by simp)
  have l6 : w6.heap[Q + 1]? = some (.cells #[.int .i64 y.kind, .string (S y.text), .slice ka' y.keys.length kc', .slice la' y.list.length lc'] 25) := by rw [← hw6, ← hQ]; exact heap_of_drew _ _ _ (by simp)
  have x6 : w6.heap[B]? = some (.cells #[.int .i64 x.kind, .string (S x.text), .slice ka x.keys.length kc, .slice la x.list.length lc] 25) := by rw [← hw6]; exact row_alloc (row_alloc X5.out (lt_of_row X5.out)) (by have := lt_of_row X5.out; simp; omega)
  have y6 : w6.heap[B + 1]? = some (.cells #[.int .i64 y.kind, .string (S y.text), .slice ka' y.keys.length kc', .slice la' y.list.length lc'] 25) := by rw [← hw6]; exact row_alloc (row_alloc Y5.out (lt_of_row Y5.out)) (by have := lt_of_row Y5.out; simp; omega)
  have G6 := hid (show G w w6 by rw [← hw6]; exact (G5.out.alloc _).alloc _)
  have T2 := JAt.one (k := 7) (strs_block (n := 1) (ks := [key]) k6 rfl rfl (by decide)) l6 (HU.out.grow G6.out)
  have J2 := jwrite_any 5000 1048576 (m + 1) _ w6 _ _ (by decide) (by decide) T2 (sz_built (d := 11) (by simp) (by simp) (by intro z hz; simp at hz; subst hz; omega) (by intro z hz; simp at hz; subst hz; exact SZ2.out.less)) (obj_len HB.out hkey LL2.out HR2.out)
  rw [E2.out] at J2
  have X6 := hid x6
  have Y6 := hid y6
  refine J2.mono ?_
  clear hw6 hQ k6 l6 x6 y6 T2 J2 X5 Y5 G5
  rintro e w7 ⟨rfl, g7⟩
  have x7 := (g7.below.block _ (lt_of_row X6.out)).trans X6.out
  have y7 := (g7.below.block _ (lt_of_row Y6.out)).trans Y6.out
  have G7 := hid (G6.out.trans g7)
  have X7 := hid x7
  have Y7 := hid y7
  clear g7 x7 y7 X6 Y6 G6
  obtain ⟨c0, c1, c2, c3⟩ := box4 (row_alloc (x := .cells #[.string (S key), .string (S key)] 9) X7.out (lt_of_row X7.out))
  obtain ⟨d0, d1, d2, d3⟩ := box4 (row_alloc (x := .cells #[.string (S key), .string (S key)] 9) Y7.out (lt_of_row Y7.out))
  obtain ⟨Q, hQ⟩ : ∃ Q, w7.heap.size = Q := ⟨_, rfl⟩
  go_wp2_with fail
  clear c0 c1 c2 c3 d0 d1 d2 d3
  generalize hw8 : World.alloc (World.alloc w7 _) _ = w8
  have k8 : w8.heap[Q]? = some (.cells #[.string (S key), .string (S key)] 9) := by rw [← hw8, ← hQ]; exact row_alloc ((MapKept.heap_alloc w7 _).1) (by simp)
  have l8 : w8.heap[Q + 1]? = some (.cells #[.int .i64 x.kind, .string (S x.text), .slice ka x.keys.length kc, .slice la x.list.length lc, .int .i64 y.kind, .string (S y.text), .slice ka' y.keys.length kc', .slice la' y.list.length lc'] 25) := by rw [← hw8, ← hQ]; exact heap_of_drew _ _ _ (by simp)
  have G8 := hid (show G w w8 by rw [← hw8]; exact (G7.out.alloc _).alloc _)
  have T3 := JAt.two (n := max n m) (k := 7) (strs_block (n := 2) (ks := [key, key]) k8 rfl rfl (by decide)) l8 ((HV.out.grow G8.out).fuel (Nat.le_max_left _ _)) ((HU.out.grow G8.out).fuel (Nat.le_max_right _ _))
  have J3 := jright_any 5000 1048576 (max n m + 1) _ w8 _ _ (by decide) (by decide) T3 (sz_built (d := 11) (by simp) (by simp) (by intro z hz; simp at hz; subst hz; omega) (by intro z hz; simp at hz; rcases hz with rfl | rfl; (· exact SZ1.out.less); exact SZ2.out.less))
  rw [two_nine HB.out] at J3
  simp only [errJ] at J3
  refine J3.mono ?_
  clear hw8 hQ k8 l8 T3 J3 X7 Y7 G7
  rintro e w9 ⟨rfl, g9⟩
  have G9 := hid (G8.out.trans g9)
  clear g9 G8
  rcases right_less 11 x HR1.out with hr1 | hr1
  · rcases right_less 11 y HR2.out with hr2 | hr2
    · have ea := E1.out.symm.trans (obj_none HB.out hr1)
      have eb := E2.out.symm.trans (obj_none HB.out hr2)
      simp only [Value.tuple.injEq, Array.mk.injEq, List.cons.injEq, Value.string.injEq, and_true] at ea eb
      obtain ⟨ea, rfl⟩ := ea
      obtain ⟨eb, rfl⟩ := eb
      replace ea := S_inj.1 ea
      replace eb := S_inj.1 eb
      have hq : 2 ≤ (quoteJ key).length := by unfold quoteJ; simp
      have hl1 : 2 ≤ s1.length := by rw [ea]; simp only [List.length_cons, List.length_append]; omega
      have hl2 : 2 ≤ s2.length := by rw [eb]; simp only [List.length_cons, List.length_append]; omega
      have hz : (s1.take (s1.length - 1) ++ [44]) = 123 :: (quoteJ key ++ 58 :: (writeJ 11 x ++ [44])) := by
        have : s1 = (123 :: (quoteJ key ++ 58 :: writeJ 11 x)) ++ [125] := by rw [ea]; simp
        have hA : ∀ A : List UInt8, (A ++ [125]).take ((A ++ [125]).length - 1) = A := fun A => by simp
        rw [this, hA]
        simp
      have hz2 : s2.drop 1 = quoteJ key ++ 58 :: (writeJ 11 y ++ [125]) := by rw [eb]; rfl
      have hb1 : s1.length ≤ 20000000000 := by
        have h0 := LL1.out HR1.out
        have e : writeJ 12 x = writeJ 11 x := write_fuel 11 x hr1
        have h8 := flat_six key
        rw [e] at h0
        rw [ea]; unfold quoteJ; simp only [List.length_cons, List.length_append, List.length_nil]; omega
      have hb2 : s2.length ≤ 20000000000 := by
        have h0 := LL2.out HR2.out
        have e : writeJ 12 y = writeJ 11 y := write_fuel 11 y hr2
        have h8 := flat_six key
        rw [e] at h0
        rw [eb]; unfold quoteJ; simp only [List.length_cons, List.length_append, List.length_nil]; omega
      have hn1 : ¬ (s1.length : Int) < 2 := by omega
      have hn2 : ¬ (s2.length : Int) < 2 := by omega
      have hn1b : ¬ s1.length < 2 := by omega
      have hn2b : ¬ s2.length < 2 := by omega
      have HZ := hid hz
      have HZ2 := hid hz2
      have H11 := hid hr1
      have H12 := hid hr2
      have HE9 := hid (HE.out.grow G9.out)
      clear ea eb hq hz hz2 hr1 hr2 E1 E2
      by_cases hbig : 20000 < s1.length + s2.length
      · have hd3 : decide ((20000 : Int) < (s1.length : Int) + (s2.length : Int)) = true := decide_eq_true (by omega)
        clear hbig
        go_wp2_with fail
        refine (tell_eno 9 w9 HE9.out).use ?_
        intro w10 g10
        have G10 := hid (G9.out.trans g10)
        clear g10
        go_wp2_with fail
        go_ret
        exact ⟨rfl, G10.out⟩
      have hd3 : decide ((20000 : Int) < (s1.length : Int) + (s2.length : Int)) = false := decide_eq_false (by omega)
      obtain ⟨kz, hkz⟩ := read_twice H11.out H12.out HB.out HZ.out HZ2.out (by simp only [List.length_append, List.length_take, List.length_drop, List.length_cons, List.length_nil]; omega)
      have RD := hid (fun W => read_at hkz W)
      clear hkz HZ HZ2
      have hb1s : s1.length ≤ 20000 := by omega
      have hb2s : s2.length ≤ 20000 := by omega
      clear hbig
      obtain ⟨k1, hk1⟩ : ∃ k1, s1.length - 1 = k1 := ⟨_, rfl⟩
      rw [hk1] at RD
      have ez : s1.take k1 ++ [44] ++ s2.drop 1 = s1.take k1 ++ 44 :: s2.tail := by rw [List.drop_one]; simp
      rw [ez] at RD
      have hwk1 : IntKind.i64.wrap (k1 : Int) = (k1 : Int) := IntWalk.i64_in _ (by omega)
      clear ez
      have hk1i : (s1.length : Int) - 1 = (k1 : Int) := by omega
      have hk1l : k1 ≤ s1.length := by omega
      have hk1j : (k1 : Int) ≤ (s1.length : Int) := by omega
      have h21 : 1 ≤ s2.length := by omega
      have h21i : (1 : Int) ≤ (s2.length : Int) := by omega
      clear hk1
      go_upto_region 15 with fail
      go_region_with (go_at_call 10; refine (RD.out _).use ?_; rintro v w10 ⟨z, rfl, hat⟩ g10; simp only [zeroJ]; have HAT := hid hat; have GG := hid g10; (try (have p0 : w10.heap[w9.heap.size]? = some (.cells #[.int .i64 0, .string (S []), .slice none 0 0, .slice none 0 0] 25) := (g10.below.block w9.heap.size (by simp)).trans (heap_of_drew w9 _ _ rfl); have PZ := hid p0; obtain ⟨q0, q1, q2, q3⟩ := box4 p0; have qf := fun j => frozen_of_row w10 _ j _ _ p0; clear p0)); clear hat g10)
      all_goals (
        first
        | (have HA2 := hid (at_putX (b0 := .int .i64 0) (b1 := .string (S [])) (b2 := .slice none 0 0) (b3 := .slice none 0 0) HAT.out q0)
           have GX := hid (g_putX (b0 := .int .i64 0) (b1 := .string (S [])) (b2 := .slice none 0 0) (b3 := .slice none 0 0) (((((G.refl w9).alloc _).drew).trans GG.out)) (Nat.le_refl _))
           clear qf q0 q1 q2 q3 PZ
           generalize ((((w10.setCell ⟨w9.heap.size, 0, none⟩ (.int .i64 0)).setCell ⟨w9.heap.size, 1, none⟩ (.string (S []))).setCell ⟨w9.heap.size, 2, none⟩ (.slice none 0 0)).setCell ⟨w9.heap.size, 3, none⟩ (.slice none 0 0)) = WW at HA2 GX ⊢)
        | (have HA2 := hid (HAT.out.grow ((G.refl w10).alloc (.cells #[.int .i64 0, .string (S []), .slice none 0 0, .slice none 0 0] 25)))
           have GX := hid ((((G.refl w9).drew).trans GG.out).alloc (.cells #[.int .i64 0, .string (S []), .slice none 0 0, .slice none 0 0] 25))
           obtain ⟨NB, hNB⟩ : ∃ NB, w10.heap.size = NB := ⟨_, rfl⟩
           rw [hNB]
           generalize World.alloc w10 _ = WW at HA2 GX ⊢))
      all_goals (
        have HE10 := hid (HE9.out.grow GX.out)
        have G10 := hid (G9.out.trans GX.out)
        clear GX GG HAT HE9 G9
        go_wp2_with fail
        refine (tell_eno 9 WW HE10.out).use ?_
        intro w11 g11
        have HE11 := hid (HE10.out.grow g11)
        have HA3 := hid (HA2.out.grow g11)
        have G11 := hid (G10.out.trans g11)
        clear g11 HE10 HA2 G10
        go_wp2_with fail
        refine (tell_at 9 kz z w11 HE11.out HA3.out).use ?_
        intro w12 g12
        have G12 := hid (G11.out.trans g12)
        clear g12 HE11 HA3 G11
        go_wp2_with fail
        go_ret
        exact ⟨rfl, G12.out⟩)
    · have eb := E2.out.symm.trans (obj_four HB.out hr2)
      simp only [Value.tuple.injEq, Array.mk.injEq, List.cons.injEq, Value.string.injEq, and_true] at eb
      obtain ⟨_, rfl⟩ := eb
      have ea := E1.out.symm.trans (obj_none HB.out hr1)
      simp only [Value.tuple.injEq, Array.mk.injEq, List.cons.injEq, Value.string.injEq, and_true] at ea
      obtain ⟨_, rfl⟩ := ea
      clear hr1 hr2
      go_wp2_with fail
      go_ret
      exact ⟨rfl, G9.out⟩
  · have ea := E1.out.symm.trans (obj_four HB.out hr1)
    simp only [Value.tuple.injEq, Array.mk.injEq, List.cons.injEq, Value.string.injEq, and_true] at ea
    obtain ⟨_, rfl⟩ := ea
    clear hr1
    go_wp2_with fail
    go_ret
    exact ⟨rfl, G9.out⟩

end Go.Proofs.YtlejbindochiiaaDoor
