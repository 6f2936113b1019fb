/-
  The walk of the law UtfJoins: for all texts it returns true.
-/
import Derived.Test.YtaiehmahgejhdaaUtfLaws
import Derived.Test.YtaiehmahgejhdaaConcat
namespace Go.Proofs.Ytaiehmahgejhdaa
open Go.RowKit
set_option linter.unusedVariables false
set_option linter.unusedSimpArgs false

theorem pts_len {l : List UInt8} (h : badL l = none) : (ptsL l).length ≤ l.length := by
  have := pts_join h
  have h2 := flat_len (ptsL l)
  rw [this] at h2; exact h2

set_option maxRecDepth 100000 in
set_option maxHeartbeats 1000000 in
theorem utfJoins_walk (a b : List UInt8) (w : World) (za : a.length ≤ 140737488351232) (zb : b.length ≤ 140737488351232) : Gives 11 #[.string (S a), .string (S b)] w (.bool true) := by
  by_cases hl : 300 < a.length + b.length
  · go_enter Try.func11, Try.ntmps11
    go_wp2_with fail
    refine (pointed_any _).use ?_; intro w1 g1
    go_wp2_with fail
    go_ret
    exact ⟨rfl, (by repeat (first | exact G.refl _ | assumption | apply G.drew | apply G.alloc | refine G.trans ?_ (by assumption)))⟩
  have ptb : ∀ (l : List UInt8) (k : Nat) w, l.length ≤ 300 → badL l = some k → Makes 29 #[.string (S l)] w (fun v w' => ∃ c : Addr, v = .tuple #[.slice none 0 0, .iface 67 (.pointer (some c))]) := fun l k w h1 h2 =>
    (pts_wrong l k w (by omega) h2).mono fun v w' _ ⟨e, he, b, hb, _⟩ => ⟨⟨b, 0, none⟩, by subst hb; exact he⟩
  have PTB := hid ptb
  have ptg : ∀ (l : List UInt8) w, l.length ≤ 300 → badL l = none → Makes 29 #[.string (S l)] w (fun v w' => ∃ p cap, v = .tuple #[.slice p (ptsL l).length cap, .nilIface] ∧ IsInts w' (.slice p (ptsL l).length cap) (ptsL l)) := fun l w h1 h2 =>
    (pts_good l w (by omega) h2).mono fun v w' _ ⟨s, hs, hi⟩ => by
      obtain ⟨p, cap, rfl⟩ := hi.len
      exact ⟨p, cap, hs, hi⟩
  have PTG := hid ptg
  clear ptb ptg
  cases ha : badL a with
  | some k =>
    have HA := hid ha
    clear ha
    cases hb : badL b with
    | some j =>
      have HB := hid hb
      clear hb
      go_enter Try.func11, Try.ntmps11
      go_wp2_with fail
      refine (pointed_any _).use ?_; intro w1 g1
      go_wp2_with fail
      refine (PTB.out a k _ (by omega) HA.out).use ?_
      rintro v w2 ⟨c, rfl⟩ g2
      go_wp2_with fail
      refine (PTB.out b j _ (by omega) HB.out).use ?_
      rintro v w3 ⟨d, rfl⟩ g3
      go_wp2_with fail
      go_ret
      exact ⟨rfl, (by repeat (first | exact G.refl _ | assumption | apply G.drew | apply G.alloc | refine G.trans ?_ (by assumption)))⟩
    | none =>
      have HB := hid hb
      clear hb
      go_enter Try.func11, Try.ntmps11
      go_wp2_with fail
      refine (pointed_any _).use ?_; intro w1 g1
      go_wp2_with fail
      refine (PTB.out a k _ (by omega) HA.out).use ?_
      rintro v w2 ⟨c, rfl⟩ g2
      go_wp2_with fail
      refine (PTG.out b _ (by omega) HB.out).use ?_
      rintro v w3 ⟨d, cap, rfl, hi⟩ g3
      go_wp2_with fail
      go_ret
      exact ⟨rfl, (by repeat (first | exact G.refl _ | assumption | apply G.drew | apply G.alloc | refine G.trans ?_ (by assumption)))⟩
  | none =>
    have HA := hid ha
    clear ha
    cases hb : badL b with
    | some j =>
      have HB := hid hb
      clear hb
      go_enter Try.func11, Try.ntmps11
      go_wp2_with fail
      refine (pointed_any _).use ?_; intro w1 g1
      go_wp2_with fail
      refine (PTG.out a _ (by omega) HA.out).use ?_
      rintro v w2 ⟨d, cap, rfl, hi⟩ g2
      clear hi
      go_wp2_with fail
      refine (PTB.out b j _ (by omega) HB.out).use ?_
      rintro v w3 ⟨d2, rfl⟩ g3
      go_wp2_with fail
      go_ret
      exact ⟨rfl, (by repeat (first | exact G.refl _ | assumption | apply G.drew | apply G.alloc | refine G.trans ?_ (by assumption)))⟩
    | none =>
      have HB := hid hb
      clear hb
      have hab : Hid (badL (a ++ b) = none) := hid (bad_append_none HA.out HB.out)
      have hpa : Hid (ptsL (a ++ b) = ptsL a ++ ptsL b) := hid (pts_append HA.out)
      have la := pts_len HA.out
      have lb := pts_len HB.out
      have lc := pts_len hab.out
      rw [List.length_append] at lc
      go_enter Try.func11, Try.ntmps11
      go_wp2_with fail
      refine (pointed_any _).use ?_; intro w1 g1
      go_wp2_with fail
      refine (PTG.out a _ (by omega) HA.out).use ?_
      rintro v w2 ⟨d, cap, rfl, hi⟩ g2
      have Hi := hid hi
      clear hi
      go_wp2_with fail
      refine (PTG.out b _ (by omega) HB.out).use ?_
      rintro v w3 ⟨d2, cap2, rfl, hi2⟩ g3
      have Hi2 := hid hi2
      clear hi2
      go_wp2_with fail
      refine (PTG.out (a ++ b) _ (by simp; omega) hab.out).use ?_
      rintro v w4 ⟨d3, cap3, rfl, hi3⟩ g4
      have Hi3 := hid hi3
      clear hi3
      go_wp2_with fail
      refine (concatInts_any (World.cell?_alloc_new w4 _ _ 0) (World.cell?_alloc_new w4 _ _ 1) (by simp) (Hi.out.grow (by repeat (first | exact G.refl _ | assumption | apply G.drew | apply G.alloc | refine G.trans ?_ (by assumption)))) (Hi2.out.grow (by repeat (first | exact G.refl _ | assumption | apply G.drew | apply G.alloc | refine G.trans ?_ (by assumption)))) (by omega) (by omega)).use ?_
      rintro v w5 hv g5
      have Hv := hid hv
      clear hv
      go_wp2_with fail
      refine (intsEqual_any (Hi3.out.grow (by repeat (first | exact G.refl _ | assumption | apply G.drew | apply G.alloc | refine G.trans ?_ (by assumption)))) Hv.out (by omega) (by rw [List.length_append]; omega)).use ?_
      intro w6 g6
      go_wp2_with fail
      go_ret
      exact ⟨ret_bool (by rw [hpa.out]; simp), (by repeat (first | exact G.refl _ | assumption | apply G.drew | apply G.alloc | refine G.trans ?_ (by assumption)))⟩

end Go.Proofs.Ytaiehmahgejhdaa
