/-
  The fact that the laws of fold ask first, and their function width.
-/
import Derived.Test.YtnllmdognnfnhaaDoorFold2
import Derived.Test.YtnllmdognnfnhaaDoorUtfF
namespace Go.Proofs.YtnllmdognnfnhaaDoor
open Go.RowKit
set_option linter.unusedVariables false
set_option linter.unusedSimpArgs false

theorem step_ascii (c : UInt8) (t : List UInt8) (h : c.toNat < 128) : stepL (c :: t) = 1 := by
  have : nextL (c :: t) = ((c.toNat : Int), ((1 : Nat) : Int)) := by
    show (if c.toNat < 128 then _ else _) = _
    rw [if_pos h]; rfl
  exact stepL_of this
theorem bad_ascii (l : List UInt8) (h : asciiL l) : badL l = none := by
  induction l with
  | nil => exact badL_nil
  | cons c t ih =>
    have h1 := step_ascii c t (h c List.mem_cons_self)
    rw [badL_step (by omega), h1]
    show (badL t).map _ = _
    rw [ih fun d hd => h d (List.mem_cons_of_mem _ hd)]; rfl
theorem cut_ascii (l : List UInt8) (n : Nat) (h : asciiL l) : cutL l n = min n l.length := by
  induction l generalizing n with
  | nil => rw [cutL_nil]; simp
  | cons c t ih =>
    have h1 := step_ascii c t (h c List.mem_cons_self)
    by_cases hn : 1 ≤ n
    · rw [cutL_step (by simp) (m := 1) (by rw [h1]; rfl) hn]
      show 1 + cutL t (n - 1) = _
      rw [ih _ fun d hd => h d (List.mem_cons_of_mem _ hd)]
      simp; omega
    · rw [cutL_stop (by simp) (m := 1) (by rw [h1]; rfl) hn]
      omega

def foldA : List UInt8 := [97, 98, 99, 100, 101, 102, 103, 104, 105, 106, 107, 108]
theorem foldA_ascii : asciiL foldA := by unfold asciiL foldA; decide
theorem foldA_good : goodF foldA := ⟨bad_ascii _ foldA_ascii, by decide, by decide⟩
theorem foldA_out : foldOut foldA 10 10 = [97, 98, 99, 100, 101, 102, 103, 104, 105, 106, 13, 10, 32, 107, 108, 13, 10] := by
  have c1 : cutL foldA 10 = 10 := by rw [cut_ascii _ _ foldA_ascii]; decide
  have hb : asciiL [107, 108] := by unfold asciiL; decide
  have c2 : cutL [107, 108] 9 = 2 := by rw [cut_ascii _ _ hb]; decide
  rw [foldOut_more (by rw [c1]; decide) (by rw [c1]; decide), c1]
  show _ ++ 13 :: 10 :: 32 :: foldOut [107, 108] 9 10 = _
  rw [foldOut_last (by rw [c2]; decide), c2]; rfl
theorem linesA : linesGo [97, 13, 10, 32, 98, 13, 10, 99, 13, 10] 0 [] = .good [⟨[97, 98], 0, [1]⟩, ⟨[99], 7, []⟩] := by
  have e1 := linesGo_line (p := [97]) [32, 98, 13, 10, 99, 13, 10] 0 [] (by decide)
  have e2 := linesGo_line (p := [32, 98]) [99, 13, 10] 3 [⟨[97], 0, []⟩] (by decide)
  have e3 := linesGo_line (p := [99]) [] 7 [⟨[97, 98], 0, [1]⟩] (by decide)
  have a1 : addLine [97] 0 [] = .good [⟨[97], 0, []⟩] := by unfold addLine; rw [if_neg (by decide), if_neg (by decide)]; rfl
  have a2 : addLine [32, 98] 3 [⟨[97], 0, []⟩] = .good [⟨[97, 98], 0, [1]⟩] := by unfold addLine; rw [if_pos (by decide)]; rfl
  have a3 : addLine [99] 7 [⟨[97, 98], 0, [1]⟩] = .good [⟨[97, 98], 0, [1]⟩, ⟨[99], 7, []⟩] := by unfold addLine; rw [if_neg (by decide), if_neg (by decide)]; rfl
  rw [a1] at e1
  rw [a2] at e2
  rw [a3] at e3
  refine e1.trans (e2.trans (e3.trans ?_))
  exact linesGo_nil _ _

theorem addLine_small {p : List UInt8} {k : Nat} {out out' : List Ln} (h : addLine p k out = .good out') (ho : ∀ l ∈ out, l.folds.length ≤ k ∧ l.pos ≤ k ∧ l.text.length ≤ 1500) : ∀ l ∈ out', l.folds.length ≤ k + p.length + 2 ∧ l.pos ≤ k + p.length + 2 ∧ l.text.length ≤ 1500 := by
  unfold addLine at h
  split at h
  · cases hl : out.getLast? with
    | none => rw [hl] at h; cases h
    | some l0 =>
      rw [hl] at h
      dsimp only at h
      have hm := ho l0 (List.mem_of_getLast? hl)
      split at h
      · cases h
      · injection h with h
        subst h
        intro l hl2
        rcases List.mem_append.1 hl2 with h2 | h2
        · have := ho l ((List.dropLast_sublist _).subset h2); omega
        · have : l = _ := List.mem_singleton.1 h2
          subst this
          simp; omega
  · split at h
    · cases h
    · injection h with h
      subst h
      intro l hl2
      rcases List.mem_append.1 hl2 with h2 | h2
      · have := ho l h2; omega
      · have : l = _ := List.mem_singleton.1 h2
        subst this
        simp; omega
/-- what is read is no longer than the text -/
theorem lines_small {t : List UInt8} {x : List Ln} (h : linesGo t 0 [] = .good x) : ∀ l ∈ x, l.folds.length ≤ t.length ∧ l.pos ≤ t.length ∧ l.text.length ≤ 1500 := by
  have key := lines_ind (P := fun r k out x => (∀ l ∈ out, l.folds.length ≤ k ∧ l.pos ≤ k ∧ l.text.length ≤ 1500) → ∀ l ∈ x, l.folds.length ≤ k + r.length ∧ l.pos ≤ k + r.length ∧ l.text.length ≤ 1500) ?_ ?_ t.length t 0 [] x (Nat.le_refl _) h
  · intro l hl; have := key (by simp) l hl; omega
  · intro k out ho l hl; have := ho l hl; omega
  · intro p r k out out' y hp ha hg ih ho l hl
    have := ih (addLine_small ha ho) l hl
    simp; omega
theorem lines_count {t : List UInt8} {x : List Ln} (h : linesGo t 0 [] = .good x) : x.length ≤ t.length := by
  have key := lines_ind (P := fun r k out x => out.length ≤ k → x.length ≤ k + r.length) ?_ ?_ t.length t 0 [] x (Nat.le_refl _) h
  · have := key (by simp); omega
  · intro k out ho; omega
  · intro p r k out out' y hp ha hg ih ho
    have h2 : out'.length ≤ k + p.length + 2 := by
      unfold addLine at ha
      split at ha
      · cases hl : out.getLast? with
        | none => rw [hl] at ha; cases ha
        | some l0 =>
          rw [hl] at ha
          dsimp only at ha
          split at ha
          · cases ha
          · injection ha with ha
            subst ha
            simp; omega
      · split at ha
        · cases ha
        · injection ha with ha
          subst ha
          simp; omega
    have := ih h2
    simp; omega

theorem lines_good (t : List UInt8) (x : List Ln) (w : World) (ht : t.length ≤ 20000) (h : linesGo t 0 [] = .good x) : Makes 30 #[.string (S t)] w (fun v w' => ∃ s, v = .tuple #[s, .nilIface] ∧ IsLines w' s x) :=
  (lines_any t w ht).mono fun v w' _ hq => by rw [h] at hq; exact hq
theorem lines_bad (t : List UInt8) (c : Int) (p : Nat) (w : World) (ht : t.length ≤ 20000) (h : linesGo t 0 [] = .bad c p) : Makes 30 #[.string (S t)] w (fun v w' => ∃ e, v = .tuple #[.slice none 0 0, e] ∧ IsAt w' e c p) :=
  (lines_any t w ht).mono fun v w' _ hq => by rw [h] at hq; exact hq
theorem fold_to (s : List UInt8) (width : Nat) (t : List UInt8) (w : World) (hw1 : 10 ≤ width) (hw2 : width ≤ 75) (hs : goodF s) (h : foldOut s width width = t) : Gives 25 #[.string (S s), .int .i64 width] w (.tuple #[.string (S t), .nilIface]) := by
  subst h; exact fold_yes s width w hw1 hw2 hs

theorem IsInts.lit1 (w : World) (a : Int) (t : TypeId) : IsInts (w.alloc (.cells #[.int .i64 a] t)) (.slice (some ⟨w.heap.size, 0, none⟩) 1 1) [a] :=
  Or.inr ⟨w.heap.size, 1, rfl, by simp, by simp, fun j hj => by
    rw [World.cell?_alloc_new]
    match j, hj with
    | 0, _ => rfl⟩
/-- the lines' cells, one by one -/
theorem IsLines.at_ {w : World} {v : Value} {ls : List Ln} (h : IsLines w v ls) (h0 : ls ≠ []) : ∃ b cap, v = .slice (some ⟨b, 0, none⟩) ls.length cap ∧ b < w.heap.size ∧ ∀ (i : Nat) (l : Ln), ls[i]? = some l → w.cell? ⟨b, 3 * i, none⟩ = some (.string (S l.text)) ∧ w.cell? ⟨b, 3 * i + 1, none⟩ = some (.int .i64 l.pos) ∧ ∃ fv, w.cell? ⟨b, 3 * i + 2, none⟩ = some fv ∧ IsInts w fv (natsV l.folds) := by
  rcases h with ⟨h, _⟩ | ⟨b, cap, h1, h2, _, h4⟩
  · exact absurd h h0
  · exact ⟨b, cap, h1, h2, h4⟩

set_option maxRecDepth 100000 in
set_option maxHeartbeats 2000000 in
theorem folded_any (w : World) : Gives 24 #[] w (.bool true) := by
  go_enter Tryd.func24, Tryd.ntmps24
  go_wp2_with fail
  refine (fold_to foldA 10 _ _ (by omega) (by omega) foldA_good foldA_out).use ?_; intro w1 g1
  go_wp2_with fail
  refine (lines_good [97, 13, 10, 32, 98, 13, 10, 99, 13, 10] _ _ (by simp) linesA).use ?_
  rintro v w2 ⟨s, rfl, hs⟩ g2
  obtain ⟨b, cap, rfl, hb, hc⟩ := hs.at_ (by simp)
  obtain ⟨c0, c1, fv, c2, hf⟩ := hc 0 _ rfl
  obtain ⟨c3, c4, fv2, c5, hf2⟩ := hc 1 _ rfl
  have HF := hid hf
  clear hc hf2 hs hf
  obtain ⟨a, k, rfl⟩ := HF.out.len
  simp only [Nat.mul_zero, Nat.zero_add, Nat.mul_one, Nat.reduceAdd] at c0 c1 c2 c3 c4 c5
  go_wp2_with fail
  refine (intsEqual_any (HF.out.grow ((G.refl _).alloc _)) (IsInts.lit1 w2 1 _) (by simp [natsV]) (by simp)).use ?_; intro w3 g3
  have d4 : w3.cell? ⟨b, 4, none⟩ = some (.int .i64 7) := by
    rw [g3.cell (show b < _ by simp; omega), World.cell?_alloc_past _ _ _ hb]; exact c4
  go_wp2_with fail
  go_ret
  refine ⟨ret_bool (by decide), (by repeat (first | exact G.refl _ | assumption | apply G.drew | apply G.alloc | refine G.trans ?_ (by assumption)))⟩

set_option maxRecDepth 100000 in
set_option maxHeartbeats 400000 in
theorem width_any (n : Int) (w : World) : Pure 26 #[.int .i64 n] w (.int .i64 ((10 + pickV n 66 : Nat) : Int)) := by
  have h := pickV_lt n (n := 66) (by omega)
  go_enter Tryd.func26, Tryd.ntmps26
  go_wp2_with fail
  refine (pick_any n 66 _ (by omega) (by omega)).use ?_
  go_wp2_with fail
  go_ret
  exact ⟨ret_int (by omega), rfl⟩
theorem width_le (n : Int) : 10 + pickV n 66 ≤ 75 := by have := pickV_lt n (n := 66) (by omega); omega

end Go.Proofs.YtnllmdognnfnhaaDoor
