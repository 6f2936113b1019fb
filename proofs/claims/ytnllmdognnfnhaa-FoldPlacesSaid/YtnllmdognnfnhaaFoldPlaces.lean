/-
  The walk of the law FoldPlaces: over all texts of at most 2 to the 47 bytes it returns true.
-/
import Derived.Test.YtnllmdognnfnhaaFoldF
namespace Go.Proofs.Ytnllmdognnfnhaa
open Go.RowKit
set_option linter.unusedVariables false
set_option linter.unusedSimpArgs false

/-- all places from here on are greater -/
def Above (L : Int) (ls : List Ln) : Prop := ∀ l ∈ ls, ∀ i, i < l.text.length → L < placeL l i
theorem place_pos (l : Ln) (i : Nat) : l.pos ≤ placeL l i := by unfold placeL; omega

set_option maxRecDepth 100000 in
set_option maxHeartbeats 4000000 in
theorem foldPlaces_walk (t : List UInt8) (w : World) (zt : t.length ≤ 140737488351232) : Gives 16 #[.string (S t)] w (.bool true) := by
  by_cases hlen : 3000 < t.length
  · go_enter Try.func16, Try.ntmps16
    go_wp2_with fail
    refine (folded_any _).use ?_; intro w1 g1
    go_wp2_with fail
    go_ret
    exact ⟨rfl, g1⟩
  cases hr : linesGo t 0 [] with
  | bad c p =>
    have HR := hid hr
    clear hr
    go_enter Try.func16, Try.ntmps16
    go_wp2_with fail
    refine (folded_any _).use ?_; intro w1 g1
    go_wp2_with fail
    refine (lines_bad t c p _ (by omega) HR.out).use ?_
    rintro v w2 ⟨e, rfl, he⟩ g2
    obtain ⟨b, rfl, he1, he2, he3⟩ := he
    go_wp2_with fail
    go_ret
    exact ⟨rfl, (by repeat (first | exact G.refl _ | assumption | apply G.drew | apply G.alloc | refine G.trans ?_ (by assumption)))⟩
  | good ls =>
    have HR := hid hr
    have hP := lines_placed hr
    have HP := hid hP
    clear hr hP
    go_enter Try.func16, Try.ntmps16
    go_wp2_with fail
    refine (folded_any _).use ?_; intro w1 g1
    go_wp2_with fail
    refine (lines_good t ls _ (by omega) HR.out).use ?_
    rintro v w2 ⟨x, rfl, hx⟩ g2
    have HX := hid hx
    clear hx
    obtain ⟨xa, xc, rfl⟩ := HX.out.len
    have hb30 : decide (3000 < (t.length : Int)) = false := decide_eq_false (by omega)
    have hcnt : ls.length ≤ 3000 := by have := lines_count HR.out; omega
    go_wp2_with fail
    go_loopw [5, 27] (fun lv iv wr => ∃ (L : Int) (j : Nat), lv = .int .i64 L ∧ iv = .int .i64 j ∧ j ≤ ls.length ∧ -1 ≤ L ∧ L ≤ 3000 ∧ Above L (ls.drop j) ∧ G w2 wr) (fun _ iv _ => ls.length - (intOf iv).toNat)
    case atStart => exact ⟨-1, 0, rfl, rfl, Nat.zero_le _, by omega, by omega, fun l _ i _ => by omega, G.refl _⟩
    case round =>
      obtain ⟨L, j, rfl, rfl, hj, hL0, hL1, hab, hg⟩ := hrel
      have HAB := hid hab
      have HG := hid hg
      clear hab hg
      by_cases hlt : j < ls.length
      · obtain ⟨l, hl⟩ : ∃ l, ls[j]? = some l := ⟨_, List.getElem?_eq_getElem hlt⟩
        obtain ⟨b, c, ex, hb, hc⟩ := (HX.out.grow HG.out).at_ (by intro e; rw [e] at hlt; simp at hlt)
        obtain ⟨c0, c1, fv, c2, hf⟩ := hc j l hl
        simp only [Value.slice.injEq] at ex
        obtain ⟨rfl, -, rfl⟩ := ex
        have hdrop : ls.drop j = l :: ls.drop (j + 1) := by
          rw [List.drop_eq_getElem_cons hlt]
          rw [List.getElem?_eq_getElem hlt] at hl
          injection hl with hl; rw [hl]
        have HD := hid hdrop
        have hmem : l ∈ ls := List.mem_of_getElem? hl
        have hsm := lines_small HR.out l hmem
        have hnx : Hid (∀ l' ∈ ls.drop (j + 1), ∀ i i', i < l.text.length → i' < l'.text.length → placeL l i < placeL l' i') := hid (by
          have := HP.out.next
          rw [← List.take_append_drop j ls, hdrop] at this
          have := (List.pairwise_append.1 this).2.1
          exact (List.pairwise_cons.1 this).1)
        have hhere : Hid (∀ i, i < l.text.length → placeL l i < t.length ∧ t[placeL l i]? = l.text[i]?) := hid (HP.out.here l hmem)
        have HF := hid hf
        obtain ⟨fa, fc, hfv⟩ := hf.len
        have hfn : (natsV l.folds).length = l.folds.length := by simp [natsV]
        rw [hfn] at hfv
        subst hfv
        rw [Nat.mul_comm 3 j] at c0 c1 c2
        have hs1 := hsm.1
        have hs2 := hsm.2.1
        have hs3 := hsm.2.2
        clear hc hdrop hmem hsm hf hl hfn
        have hAbove : Hid (∀ i, i < l.text.length → L < placeL l i) := hid (HAB.out l (by rw [HD.out]; exact List.mem_cons_self))
        have hRest : Hid (Above L (ls.drop (j + 1))) := hid (fun l' hl' => HAB.out l' (by rw [HD.out]; exact List.mem_cons_of_mem _ hl'))
        go_wp2_with fail
        obtain ⟨wo, hwo⟩ : ∃ wo : World, wo = wr.alloc (.cells #[.string (S l.text), .int .i64 l.pos, .slice fa l.folds.length fc] 57) := ⟨_, rfl⟩
        have HGO : Hid (G w2 wo) := hid (by rw [hwo]; exact HG.out.alloc _)
        have e0 : wo.cell? ⟨wr.heap.size, 0, none⟩ = some (.string (S l.text)) := by rw [hwo]; simp
        have e1 : wo.cell? ⟨wr.heap.size, 1, none⟩ = some (.int .i64 l.pos) := by rw [hwo]; simp
        have e2 : wo.cell? ⟨wr.heap.size, 2, none⟩ = some (.slice fa l.folds.length fc) := by rw [hwo]; simp
        have hwz : wr.heap.size < wo.heap.size := by rw [hwo]; simp
        have HFO : Hid (IsInts wo (.slice fa l.folds.length fc) (natsV l.folds)) := hid (by rw [hwo]; exact HF.out.grow ((G.refl _).alloc _))
        rw [← hwo]
        have HWO := hid hwo
        obtain ⟨B, hB⟩ : ∃ B, B = wr.heap.size := ⟨_, rfl⟩
        rw [← hB] at e0 e1 e2 hwz ⊢
        have HB := hid hB
        clear hwo c0 c1 c2 hB
        go_loopw [5, 34] (fun lv iv wi => ∃ (L' : Int) (q : Nat), lv = .int .i64 L' ∧ iv = .int .i64 q ∧ q ≤ l.text.length ∧ -1 ≤ L' ∧ L' ≤ 3000 ∧ (∀ i, q ≤ i → i < l.text.length → L' < placeL l i) ∧ Above L' (ls.drop (j + 1)) ∧ G wo wi) (fun _ iv _ => l.text.length - (intOf iv).toNat)
        case atStart => exact ⟨L, 0, rfl, rfl, Nat.zero_le _, hL0, hL1, fun i _ hi => hAbove.out i hi, hRest.out, G.refl _⟩
        case round =>
          obtain ⟨L', q, rfl, rfl, hq, hM0, hM1, hup, hab2, hgi⟩ := hrel
          have HUP := hid hup
          have HAB2 := hid hab2
          have HGI := hid hgi
          have d0 := (hgi.cell (p := ⟨B, 0, none⟩) hwz).trans e0
          have d1 := (hgi.cell (p := ⟨B, 1, none⟩) hwz).trans e1
          have d2 := (hgi.cell (p := ⟨B, 2, none⟩) hwz).trans e2
          clear hup hab2 hgi
          by_cases hqt : q < l.text.length
          · obtain ⟨P, hP⟩ : ∃ P, placeL l q = P := ⟨_, rfl⟩
            obtain ⟨hp1, hp2⟩ := hhere.out q hqt
            have hp3 := HUP.out q (Nat.le_refl _) hqt
            rw [hP] at hp1 hp2 hp3
            obtain ⟨x, hx⟩ : ∃ x, l.text[q]'hqt = x := ⟨_, rfl⟩
            have hx2 : t[P]'hp1 = x := by
              rw [List.getElem?_eq_getElem hp1, List.getElem?_eq_getElem hqt] at hp2
              injection hp2 with hp2
              rw [hp2, hx]
            have t1 : decide ((P : Int) ≤ L') = false := decide_eq_false (by omega)
            have t2 : decide ((t.length : Int) ≤ P) = false := decide_eq_false (by omega)
            have HPL := hid hP
            have hpos : Hid (Gives 47 #[.agg #[.string (S l.text), .int .i64 l.pos, .slice fa l.folds.length fc], .int .i64 q] _ (.int .i64 (P : Nat))) := hid (by
              have := place_any l (.slice fa l.folds.length fc) q _ (HFO.out.grow HGI.out) (by omega) (by omega) (by omega)
              rw [HPL.out] at this
              exact this)
            clear hP hp2
            go_wp2_with fail
            refine hpos.out.use ?_; intro w5 g5
            have d3 := (g5.cell (p := ⟨B, 0, none⟩) (Nat.lt_of_lt_of_le hwz HGI.out.size)).trans d0
            have G5 := hid g5
            clear g5 d0 d1 d2
            go_wp2_with fail
            go_quiet (fail)
            go_wp2_with fail
            go_roundw
            case rel =>
              refine ⟨P, q + 1, rfl, by go_num, by omega, by omega, by omega, ?_, ?_, (HGI.out.trans G5.out).drewN _⟩
              · intro i hi1 hi2
                have := placeL_lt l (show q < i by omega)
                rw [HPL.out] at this; omega
              · intro l' hl' i hi
                have := hnx.out l' hl' q i hqt hi
                rw [HPL.out] at this; omega
            case measure => simp [intOf]; omega
          · obtain rfl : q = l.text.length := by omega
            go_wp2_with fail
            go_roundw
            case rel =>
              exact ⟨L', j + 1, rfl, by go_num, by omega, hM0, hM1, HAB2.out, HGO.out.trans HGI.out⟩
            case measure => simp [intOf]; omega
      · obtain rfl : j = ls.length := by omega
        go_wp2_with fail
        go_ret
        exact ⟨rfl, by have := HG.out; exact (by repeat (first | exact G.refl _ | assumption | apply G.drew | apply G.alloc | refine G.trans ?_ (by assumption)))⟩

end Go.Proofs.Ytnllmdognnfnhaa
