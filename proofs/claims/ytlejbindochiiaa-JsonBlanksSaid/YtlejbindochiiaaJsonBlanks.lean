/-
  THE WALK of JsonBlanks.
-/
import Derived.Test.YtlejbindochiiaaJsonStill
import Derived.Test.YtlejbindochiiaaPick
import Derived.Test.YtlejbindochiiaaShelf
namespace Go.Proofs.Ytlejbindochiiaa
open Go.RowKit
set_option linter.unusedVariables false
set_option linter.unusedSimpArgs false

def blJ (k : Nat) : List UInt8 := Lib.repeatL [32, 9, 13, 10] k
theorem blJ_blank : ∀ k, ∀ c ∈ blJ k, blankB c = true
  | 0, c, h => by simp [blJ, Lib.repeatL] at h
  | k + 1, c, h => by
    have e : blJ (k + 1) = [32, 9, 13, 10] ++ blJ k := rfl
    rw [e] at h
    rcases List.mem_append.1 h with h | h
    · simp at h; rcases h with rfl | rfl | rfl | rfl <;> decide
    · exact blJ_blank k c h
theorem blJ_len : ∀ k, (blJ k).length = 4 * k
  | 0 => rfl
  | k + 1 => by
    have e : blJ (k + 1) = [32, 9, 13, 10] ++ blJ k := rfl
    rw [e, List.length_append, blJ_len k]; simp; omega
theorem repeat_any (k : Nat) (hk : k ≤ 1000) (w : World) : Gives 17 #[.string ⟨#[32, 9, 13, 10]⟩, .int .i64 (k : Int)] w (.string (S (blJ k))) :=
  Try.strings_Repeat ⟨#[32, 9, 13, 10]⟩ k w (by omega) (by simp [ByteArray.size]; omega)
set_option maxRecDepth 100000 in
set_option maxHeartbeats 1000000 in
theorem blanks_any (n : Int) (w : World) : Gives 16 #[.int .i64 n] w (.string (S (blJ (pickV n 4)))) := by
  have hk := pickV_lt n (n := 4) (by decide)
  have RP := hid (fun W => repeat_any (pickV n 4) (by omega) W)
  clear hk
  go_enter Try.func16, Try.ntmps16
  go_wp2_with fail
  refine (pick_any n 4 _ (by decide) (by decide)).use ?_
  go_wp2_with fail
  refine (RP.out _).mono ?_
  rintro e w2 ⟨rfl, g2⟩
  have G2 := hid g2
  clear g2
  go_wp2_with fail
  go_ret
  exact ⟨rfl, G2.out⟩
set_option maxRecDepth 100000 in
set_option maxHeartbeats 4000000 in
theorem jsonBlanks_walk (s : List UInt8) (a b : Int) (w : World) (hs : s.length ≤ 140737488351232) (ha : -9223372036854775808 ≤ a ∧ a ≤ 9223372036854775807) (hb : -9223372036854775808 ≤ b ∧ b ≤ 9223372036854775807) : Gives 6 #[.string (S s), .int .i64 a, .int .i64 b] w (.bool true) := by
  clear ha hb
  by_cases hl : 1000 < s.length
  · have hd : decide ((1000 : Int) < (s.length : Int)) = true := decide_eq_true (by omega)
    clear hl
    go_enter Try.func6, Try.ntmps6
    go_wp2_with fail
    refine (noted_any _).use ?_; intro w1 g1
    go_wp2_with fail
    go_ret
    exact ⟨rfl, (by repeat (first | exact G.refl _ | assumption | apply G.drew | apply G.drewN | apply G.alloc | refine G.trans ?_ (by assumption)))⟩
  · have hd : decide ((1000 : Int) < (s.length : Int)) = false := decide_eq_false (by omega)
    have hs2 : s.length ≤ 1000 := by omega
    obtain ⟨x1, hx1⟩ : ∃ x1, blJ (pickV a 4) = x1 := ⟨_, rfl⟩
    obtain ⟨x2, hx2⟩ : ∃ x2, blJ (pickV b 4) = x2 := ⟨_, rfl⟩
    have hl1 : x1.length ≤ 12 := by have := blJ_len (pickV a 4); have := pickV_lt a (n := 4) (by decide); rw [← hx1]; omega
    have hl2 : x2.length ≤ 12 := by have := blJ_len (pickV b 4); have := pickV_lt b (n := 4) (by decide); rw [← hx2]; omega
    have RA := fun {j} => read_around (a := x1) (b := x2) (s := s) (j := j) (by rw [← hx1]; exact blJ_blank _) (by rw [← hx2]; exact blJ_blank _) (by simp; omega)
    have B1 : Hid (∀ W, Gives 16 #[.int .i64 a] W (.string (S x1))) := hid (fun W => by rw [← hx1]; exact blanks_any a W)
    have B2 : Hid (∀ W, Gives 16 #[.int .i64 b] W (.string (S x2))) := hid (fun W => by rw [← hx2]; exact blanks_any b W)
    clear hl hx1 hx2
    cases hr : readJ s with
    | error er =>
      obtain ⟨er2, hr2⟩ : ∃ e, readJ (x1 ++ (s ++ x2)) = .error e := by
        cases h : readJ (x1 ++ (s ++ x2)) with
        | error e => exact ⟨e, rfl⟩
        | ok y => have := RA.1 h; rw [hr] at this; cases this
      have R1 := hid (fun W => read_wrong hr W)
      have R2 := hid (fun W => read_wrong hr2 W)
      clear RA hr hr2
      go_enter Try.func6, Try.ntmps6
      go_wp2_with fail
      refine (noted_any _).use ?_; intro w1 g1
      go_wp2_with fail
      refine (R1.out w1).use ?_
      rintro v w2 ⟨t, z, rfl⟩ g2
      simp only [zeroJ]
      have G2 := hid (g1.trans g2)
      clear g1 g2
      obtain ⟨C, hC⟩ : ∃ C, w2.heap.size = C := ⟨_, rfl⟩
      have hb := (MapKept.heap_alloc w2 (.cells #[.int .i64 0, .string (S []), .slice none 0 0, .slice none 0 0] 25)).1
      rw [hC] at hb
      have G23 := hid ((G.refl w2).alloc (.cells #[.int .i64 0, .string (S []), .slice none 0 0, .slice none 0 0] 25))
      go_wp2_with (go_at_call 16; refine (B1.out _).mono ?_)
      rintro e w3 ⟨rfl, g3⟩
      have hb3 := (g3.below.block _ (lt_of_row hb)).trans hb
      have H3 := hid hb3
      have G3 := hid (G23.out.trans g3)
      clear g3 hb hb3 hC G23
      go_wp2_with (go_at_call 16; refine (B2.out _).mono ?_)
      rintro e w4 ⟨rfl, g4⟩
      have hb4 := (g4.below.block _ (lt_of_row H3.out)).trans H3.out
      have H4 := hid hb4
      have G4 := hid (G3.out.trans g4)
      clear g4 hb4 H3 G3
      go_wp2_with fail
      refine (R2.out w4).use ?_
      rintro v w5 ⟨t', z', rfl⟩ g5
      simp only [zeroJ]
      have hb5 := (g5.below.block _ (lt_of_row H4.out)).trans H4.out
      have H5 := hid hb5
      have G5 := hid (G4.out.trans g5)
      clear g5 hb5 H4 G4
      go_upto_region 8 with fail
      obtain ⟨D, hD⟩ : ∃ D, w5.heap.size = D := ⟨_, rfl⟩
      generalize hw6 : World.alloc w5 _ = w6
      have hb2 : w6.heap[D]? = some (.cells #[.int .i64 0, .string (S []), .slice none 0 0, .slice none 0 0] 25) := by rw [← hw6, ← hD]; exact (MapKept.heap_alloc w5 _).1
      have hb1 : w6.heap[C]? = some (.cells #[.int .i64 0, .string (S []), .slice none 0 0, .slice none 0 0] 25) := by rw [← hw6]; exact row_alloc H5.out (lt_of_row H5.out)
      have G56 := hid (show G w5 w6 by rw [← hw6]; exact (G.refl _).alloc _)
      have G26 := hid (G5.out.trans G56.out)
      rw [hD]
      obtain ⟨c0, c1, c2, c3⟩ := box4 hb1
      obtain ⟨d0, d1, d2, d3⟩ := box4 hb2
      have hCl := lt_of_row hb1
      have hDl := lt_of_row hb2
      have SM : Hid (∀ W, G w6 W → Gives 12 #[.agg #[.int .i64 0, .string (S []), .slice none 0 0, .slice none 0 0], .agg #[.int .i64 0, .string (S []), .slice none 0 0, .slice none 0 0]] W (.bool true)) := hid (fun W g => same_zero W)
      clear hw6 hD hb1 hb2 H5
      refine wp_region_grow (by kernel_rfl) (by kernel_rfl) ?_
      repeat (first | go_big_quiet_skip | (go_big_quiet_want; go_big_quiet_op; first | go_big_quiet_on | (apply Exists.intro; apply And.intro; (focus (intro _ hg; first | (go_at_call 12; with_reducible exact Gives.gq hg (SM.out _ hg)) | (simp only [G.cell hg (p := ⟨C, 0, none⟩) hCl, G.cell hg (p := ⟨C, 1, none⟩) hCl, G.cell hg (p := ⟨C, 2, none⟩) hCl, G.cell hg (p := ⟨C, 3, none⟩) hCl, c0, c1, c2, c3, Result.andThen_ok]; exact ⟨trivial, rfl⟩) | (simp only [G.cell hg (p := ⟨D, 0, none⟩) hDl, G.cell hg (p := ⟨D, 1, none⟩) hDl, G.cell hg (p := ⟨D, 2, none⟩) hDl, G.cell hg (p := ⟨D, 3, none⟩) hDl, d0, d1, d2, d3, Result.andThen_ok]; exact ⟨trivial, rfl⟩))); go_big_quiet_on) | (refine ⟨_, fun _ _ => rfl, ?_⟩; go_big_quiet_on)))
      refine wpQuiet_nil ?_
      intro wq gq
      have G7 := hid (G2.out.trans (G26.out.trans gq))
      clear gq c0 c1 c2 c3 d0 d1 d2 d3
      go_wp2_with fail
      go_ret
      exact ⟨rfl, G7.out⟩
    | ok x =>
      have hr2 : readJ (x1 ++ (s ++ x2)) = .ok x := RA.2 hr
      obtain ⟨hx, hlen, _⟩ := read_right hr
      have hw2 : (writeJ 12 x).length ≤ 1000 := by omega
      have R1 := hid (fun W => read_good hr W)
      have R2 := hid (fun W => read_good hr2 W)
      have HX := hid hx
      have HW2 := hid hw2
      clear RA hr hr2 hx hlen hw2
      go_enter Try.func6, Try.ntmps6
      go_wp2_with fail
      refine (noted_any _).use ?_; intro w1 g1
      go_wp2_with fail
      refine (R1.out w1).use ?_
      rintro v w2 ⟨u, rfl, hu⟩ g2
      have HU := hid hu
      obtain ⟨ka, kc, la, lc, rfl⟩ := hu.shape4
      clear hu
      have G2 := hid (g1.trans g2)
      clear g1 g2
      obtain ⟨C, hC⟩ : ∃ C, w2.heap.size = C := ⟨_, rfl⟩
      have hb := (MapKept.heap_alloc w2 (.cells #[.int .i64 x.kind, .string (S x.text), .slice ka x.keys.length kc, .slice la x.list.length lc] 25)).1
      rw [hC] at hb
      have G23 := hid ((G.refl w2).alloc (.cells #[.int .i64 x.kind, .string (S x.text), .slice ka x.keys.length kc, .slice la x.list.length lc] 25))
      go_wp2_with (go_at_call 16; refine (B1.out _).mono ?_)
      rintro e w3 ⟨rfl, g3⟩
      have hb3 := (g3.below.block _ (lt_of_row hb)).trans hb
      have H3 := hid hb3
      have G3 := hid (G23.out.trans g3)
      clear g3 hb hb3 hC G23
      go_wp2_with (go_at_call 16; refine (B2.out _).mono ?_)
      rintro e w4 ⟨rfl, g4⟩
      have hb4 := (g4.below.block _ (lt_of_row H3.out)).trans H3.out
      have H4 := hid hb4
      have G4 := hid (G3.out.trans g4)
      clear g4 hb4 H3 G3
      go_wp2_with fail
      refine (R2.out w4).use ?_
      rintro v w5 ⟨u', rfl, hu'⟩ g5
      have HU2 := hid hu'
      obtain ⟨ka', kc', la', lc', rfl⟩ := hu'.shape4
      clear hu'
      have hb5 := (g5.below.block _ (lt_of_row H4.out)).trans H4.out
      have H5 := hid hb5
      have G5 := hid (G4.out.trans g5)
      clear g5 hb5 H4 G4
      go_upto_region 8 with fail
      obtain ⟨D, hD⟩ : ∃ D, w5.heap.size = D := ⟨_, rfl⟩
      generalize hw6 : World.alloc w5 _ = w6
      have hb2 : w6.heap[D]? = some (.cells #[.int .i64 x.kind, .string (S x.text), .slice ka' x.keys.length kc', .slice la' x.list.length lc'] 25) := by rw [← hw6, ← hD]; exact (MapKept.heap_alloc w5 _).1
      have hb1 : w6.heap[C]? = some (.cells #[.int .i64 x.kind, .string (S x.text), .slice ka x.keys.length kc, .slice la x.list.length lc] 25) := by rw [← hw6]; exact row_alloc H5.out (lt_of_row H5.out)
      have G56 := hid (show G w5 w6 by rw [← hw6]; exact (G.refl _).alloc _)
      have G26 := hid (G5.out.trans G56.out)
      rw [hD]
      obtain ⟨c0, c1, c2, c3⟩ := box4 hb1
      obtain ⟨d0, d1, d2, d3⟩ := box4 hb2
      have hCl := lt_of_row hb1
      have hDl := lt_of_row hb2
      have SM : Hid (∀ W, G w6 W → Gives 12 #[.agg #[.int .i64 x.kind, .string (S x.text), .slice ka x.keys.length kc, .slice la x.list.length lc], .agg #[.int .i64 x.kind, .string (S x.text), .slice ka' x.keys.length kc', .slice la' x.list.length lc']] W (.bool true)) := hid (fun W g => same_any 1000 1000 12 12 _ _ W _ _ x (by decide) (HU.out.grow (G26.out.trans g)) (HU2.out.grow (G56.out.trans g)) HX.out (right_sz HX.out HW2.out))
      clear hw6 hD hb1 hb2 H5
      refine wp_region_grow (by kernel_rfl) (by kernel_rfl) ?_
      repeat (first | go_big_quiet_skip | (go_big_quiet_want; go_big_quiet_op; first | go_big_quiet_on | (apply Exists.intro; apply And.intro; (focus (intro _ hg; first | (go_at_call 12; with_reducible exact Gives.gq hg (SM.out _ hg)) | (simp only [G.cell hg (p := ⟨C, 0, none⟩) hCl, G.cell hg (p := ⟨C, 1, none⟩) hCl, G.cell hg (p := ⟨C, 2, none⟩) hCl, G.cell hg (p := ⟨C, 3, none⟩) hCl, c0, c1, c2, c3, Result.andThen_ok]; exact ⟨trivial, rfl⟩) | (simp only [G.cell hg (p := ⟨D, 0, none⟩) hDl, G.cell hg (p := ⟨D, 1, none⟩) hDl, G.cell hg (p := ⟨D, 2, none⟩) hDl, G.cell hg (p := ⟨D, 3, none⟩) hDl, d0, d1, d2, d3, Result.andThen_ok]; exact ⟨trivial, rfl⟩))); go_big_quiet_on) | (refine ⟨_, fun _ _ => rfl, ?_⟩; go_big_quiet_on)))
      refine wpQuiet_nil ?_
      intro wq gq
      have G7 := hid (G2.out.trans (G26.out.trans gq))
      clear gq c0 c1 c2 c3 d0 d1 d2 d3
      go_wp2_with fail
      go_ret
      exact ⟨rfl, G7.out⟩

end Go.Proofs.Ytlejbindochiiaa
