/-
  CONTRACTS of package utf, the loops: Bad, Cut, Points.
-/
import Derived.Test.YtlejbindochiiaaDoorUtf2
namespace Go.Proofs.YtlejbindochiiaaDoor
open Go.RowKit
set_option linter.unusedVariables false
set_option linter.unusedSimpArgs false

theorem stepL_of {l : List UInt8} {r : Int} {n : Nat} (h : nextL l = (r, (n : Int))) : stepL l = n := by unfold stepL; rw [h]; simp
theorem next_of {l : List UInt8} {r n : Int} (h : nextL l = (r, n)) (w : World) (hl : l.length ≤ 140737488355328) : Pure 22 #[.string (S l)] w (.tuple #[.int .i64 r, .int .i64 n]) := by
  have := next_any l w hl; unfold NextIs at this; rw [h] at this; exact this

/-- what is found from a place on, said of the whole -/
def badV (o : Option Nat) : Int := match o with | none => -1 | some k => (k : Int)

theorem bad_step {l : List UInt8} {k n : Nat} {r : Int} (hn : nextL (l.drop k) = (r, (n : Int))) (h1 : 1 ≤ n) (h : badL l = (badL (l.drop k)).map (· + k)) : badL l = (badL (l.drop (k + n))).map (· + (k + n)) := by
  rw [h, badL_step (by rw [stepL_of hn]; omega), stepL_of hn, List.drop_drop, Option.map_map]
  congr 1
  funext x
  simp only [Function.comp]
  omega
theorem bad_here {l : List UInt8} {k : Nat} (hk : k < l.length) (hn : nextL (l.drop k) = (0, 0)) (h : badL l = (badL (l.drop k)).map (· + k)) : badL l = some k := by
  rw [h, badL_zero (by intro h; have := congrArg List.length h; simp at this; omega) (by unfold stepL; rw [hn]; rfl)]
  simp
theorem bad_end {l : List UInt8} {k : Nat} (hk : l.length ≤ k) (h : badL l = (badL (l.drop k)).map (· + k)) : badL l = none := by
  rw [h, List.drop_eq_nil_of_le hk, badL_nil]; rfl

set_option maxRecDepth 100000 in
set_option maxHeartbeats 1000000 in
theorem bad_any (l : List UInt8) (w : World) (hl : l.length ≤ 140737488351232) : Pure 11 #[.string (S l)] w (.int .i64 (badV (badL l))) := by
  go_enter Tryd.func11, Tryd.ntmps11
  go_wp2
  go_loop [3] (fun i => ∃ k : Nat, k ≤ l.length ∧ i = .int .i64 k ∧ badL l = (badL (l.drop k)).map (· + k)) (fun i => l.length - (intOf i).toNat)
  case atStart => exact ⟨0, Nat.zero_le _, rfl, by simp⟩
  case round =>
    obtain ⟨k, hk, rfl, hb⟩ := hrel
    have Hb := hid hb; clear hb
    by_cases hlt : k < l.length
    · rcases nextL_bounds (l.drop k) with hn | ⟨r, n, hn, hm, n1, n4, nl⟩
      · have Hn := hid hn
        have c := next_of hn
        have C := hid c
        clear hn c
        go_wp2_with (go_at_call 22; refine (C.out _ (by simp; omega)).use ?_)
        go_ret
        exact ⟨ret_int (by rw [bad_here hlt Hn.out Hb.out]; rfl), rfl⟩
      · have Hn := hid hn
        have c := next_of hn
        have C := hid c
        rw [List.length_drop] at nl
        have z : ((n : Int) == 0) = false := beq_eq_false_iff_ne.2 (by omega)
        clear hn c hm
        go_wp2_with (go_at_call 22; refine (C.out _ (by simp; omega)).use ?_)
        go_round
        case rel => exact ⟨k + n, by omega, by go_num, bad_step Hn.out n1 Hb.out⟩
        case measure => simp [intOf]; omega
    · go_wp2
      go_ret
      exact ⟨ret_int (by rw [bad_end (by omega) Hb.out]; rfl), rfl⟩

theorem cutL_step {l : List UInt8} {n m : Nat} (h0 : l ≠ []) (hm : max (stepL l) 1 = m) (h : m ≤ n) : cutL l n = m + cutL (l.drop m) (n - m) := by
  cases l with
  | nil => exact absurd rfl h0
  | cons b t => rw [cutL, hm, if_pos h]
theorem cutL_stop {l : List UInt8} {n m : Nat} (h0 : l ≠ []) (hm : max (stepL l) 1 = m) (h : ¬ m ≤ n) : cutL l n = 0 := by
  cases l with
  | nil => exact absurd rfl h0
  | cons b t => rw [cutL, hm, if_neg h]
theorem cutL_nil (n : Nat) : cutL [] n = 0 := by rw [cutL]
theorem drop_ne {l : List UInt8} {k : Nat} (h : k < l.length) : l.drop k ≠ [] := by
  intro e; have := congrArg List.length e; simp at this; omega
/-- the step of Cut: at least one -/
theorem step1_cases (l : List UInt8) (h : l ≠ []) : ∃ r : Int, ∃ n m : Nat, nextL l = (r, (n : Int)) ∧ max (stepL l) 1 = m ∧ max n 1 = m ∧ 1 ≤ m ∧ m ≤ 4 ∧ m ≤ l.length := by
  have hl : 1 ≤ l.length := by cases l with | nil => exact absurd rfl h | cons _ _ => simp
  rcases nextL_bounds l with hn | ⟨r, n, hn, _, n1, n4, nl⟩
  · exact ⟨0, 0, 1, hn, by rw [stepL_of hn]; rfl, rfl, by omega, by omega, hl⟩
  · exact ⟨r, n, n, hn, by rw [stepL_of hn]; omega, by omega, n1, n4, nl⟩

/-! ## a slice of ints of the call's own -/
theorem info_int : (Tryd.prog.info? 3).map (fun i => (i.zero, i.size, i.bytes)) = some (some (.int .i64 0), 1, 8) := by kernel_rfl
/-- the slice value holds the ints xs -/
def IsInts (w : World) (v : Value) (xs : List Int) : Prop :=
  (v = .slice none 0 0 ∧ xs = []) ∨ ∃ b cap, v = .slice (some ⟨b, 0, none⟩) xs.length cap ∧ b < w.heap.size ∧ xs ≠ [] ∧ ∀ j (h : j < xs.length), w.cell? ⟨b, j, none⟩ = some (.int .i64 xs[j])
theorem IsInts.grow {w w' : World} {v : Value} {xs : List Int} (h : IsInts w v xs) (g : G w w') : IsInts w' v xs := by
  rcases h with h | ⟨b, cap, h1, h2, h4, h3⟩
  · exact Or.inl h
  · exact Or.inr ⟨b, cap, h1, Nat.lt_of_lt_of_le h2 g.size, h4, fun j hj => by rw [g.cell h2]; exact h3 j hj⟩

theorem IsInts.own {w wr : World} {v : Value} {xs : List Int} (h : wr.ownsRow w.heap.size 3 1 v xs.length (xs.map (Value.int .i64))) (h0 : xs = [] → v = .slice none 0 0) : IsInts wr v xs := by
  by_cases hx : xs = []
  · exact Or.inl ⟨h0 hx, hx⟩
  · right
    obtain ⟨h1, h2⟩ := h
    rcases h2 with ⟨h3, h4⟩ | ⟨g, cap, cur, hv, hb, hh, hn, hm, hcs, ht⟩
    · exact absurd (List.eq_nil_of_length_eq_zero h4) hx
    · have hlt : g < wr.heap.size := by
        rcases Nat.lt_or_ge g wr.heap.size with h | h
        · exact h
        · rw [Array.getElem?_eq_none h] at hh; cases hh
      refine ⟨g, cap, hv, hlt, hx, fun j hj => ?_⟩
      subst hv
      have := World.ownsRow.cellAt (w := wr) (base := w.heap.size) (e := 3) (size := 1) (g := g) (n := xs.length) (cap := cap) (xs := xs.map (Value.int .i64)) ⟨h1, Or.inr ⟨g, cap, cur, rfl, hb, hh, hn, hm, hcs, ht⟩⟩ j (by omega)
      rw [this]
      simp [List.getElem?_eq_getElem hj]
/-- what Points hands back -/
def PtsPost (l : List UInt8) (v : Value) (w' : World) : Prop :=
  match badL l with
  | none => ∃ s, v = .tuple #[s, .nilIface] ∧ IsInts w' s (ptsL l)
  | some k => ∃ e, v = .tuple #[.slice none 0 0, e] ∧ IsAt w' e 3 k
theorem PtsPost.good {l : List UInt8} {s : Value} {w' : World} (h : badL l = none) (hs : IsInts w' s (ptsL l)) : PtsPost l (.tuple #[s, .nilIface]) w' := by
  unfold PtsPost; rw [h]; exact ⟨s, rfl, hs⟩
theorem PtsPost.bad {l : List UInt8} {k : Nat} {e : Value} {w' : World} (h : badL l = some k) (hs : IsAt w' e 3 k) : PtsPost l (.tuple #[.slice none 0 0, e]) w' := by
  unfold PtsPost; rw [h]; exact ⟨e, rfl, hs⟩

end Go.Proofs.YtlejbindochiiaaDoor
