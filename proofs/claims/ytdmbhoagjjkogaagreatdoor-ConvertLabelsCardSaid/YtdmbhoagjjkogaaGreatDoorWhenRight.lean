/-
  CONTRACT of when.Right.
-/
import Derived.Test.YtdmbhoagjjkogaaGreatDoorMTell
import Derived.Test.YtdmbhoagjjkogaaGreatDoorMA56
import Derived.Test.YtdmbhoagjjkogaaGreatDoorShelf
import Derived.Deep.RegionHeld3
import Derived.Deep.DeepCutAuto
import Derived.Deep.CutBlock
namespace Go.Proofs.YtdmbhoagjjkogaaGreatDoor
open Go.RowKit
set_option linter.unusedVariables false
set_option linter.unusedSimpArgs false
theorem bcell {W w1 : World} (hb : G W w1) : (∀ b o, b < W.heap.size → w1.cell? ⟨b, o, none⟩ = W.cell? ⟨b, o, none⟩) :=
  fun b o h => hb.cell (p := ⟨b, o, none⟩) h
theorem contains_any (s sub : List UInt8) (w : World) (hm : HasM w) (hs : s.length ≤ 1000000) : Pure 149 #[.string (S s), .string (S sub)] w (.bool (Lib.contains s sub)) := by
  obtain ⟨m, hm⟩ := hm
  refine (Tryz.strings_Contains (S s) (S sub) m w (by simp; omega) hm).mono ?_
  rintro e w' ⟨rfl, rfl⟩
  exact ⟨rfl, rfl⟩
theorem cell_alloc2 (w : World) (o : Obj) (cs : Array Value) (t : TypeId) (i : Nat) : ((w.alloc o).alloc (.cells cs t)).drew.cell? ⟨w.heap.size + 1, i, none⟩ = cs[i]? := by
  simp
def datesA : List UInt8 := [32, 45, 45, 45, 32, 57, 45, 45, 32, 57, 57, 45, 32, 57, 57, 57, 32, 45, 57, 45, 32, 45, 57, 57, 32, 45, 45, 57, 32]
def datesB : List UInt8 := [32, 57, 57, 57, 32, 45, 57, 57, 32, 45, 45, 57, 32]
def timesB : List UInt8 := [32, 57, 45, 45, 32, 57, 57, 45, 32, 57, 57, 57, 32]
def datesOf (D T : List UInt8) : List UInt8 := if D ≠ [45, 45, 45] ∧ T ≠ [45, 45, 45] then datesB else datesA
def timesOf (D T : List UInt8) : List UInt8 := if D ≠ [45, 45, 45] ∧ T ≠ [45, 45, 45] then timesB else datesA
def St.bad (t : St) : Bool :=
  let D := formL t.y t.m t.d; let T := formL t.h t.n t.s
  (decide (D = [45, 45, 45]) && decide (T = [45, 45, 45])) || !(Lib.contains (datesOf D T) (32 :: (D ++ [32]))) || !(Lib.contains (timesOf D T) (32 :: (T ++ [32]))) || (t.zd && decide (t.h = -1)) || (!t.zd && !decide (t.zn = 0))
def St.most (t : St) : Int := if t.m = -1 then 31 else daysL t.y t.m
def St.fits (t : St) : Bool := wth t.y 0 9999 && wth t.m 1 12 && wth t.d 1 t.most && wth t.h 0 23 && wth t.n 0 59 && wth t.s 0 59 && rightZ t.zn
def St.right (t : St) : Int := if t.bad then 3 else if t.fits then 0 else 2
set_option maxRecDepth 100000 in
set_option maxHeartbeats 4000000 in
theorem whenRight_any (t : St) (w : World) (hm : HasM w) (hy0 : -9223372036854775808 ≤ t.y) (hy1 : t.y ≤ 9223372036854775807) : Gives 106 #[.agg #[.int .i64 t.y, .int .i64 t.m, .int .i64 t.d, .int .i64 t.h, .int .i64 t.n, .int .i64 t.s, .bool t.zd, .int .i64 t.zn]] w (errV t.right) := by
  obtain ⟨y, m, d, h, n, s, zd, zn⟩ := t
  have HM := hid hm
  simp only at hy0 hy1
  clear hm
  obtain ⟨w1, hw1⟩ : ∃ w1, w.alloc (.cells #[.int .i64 y, .int .i64 m, .int .i64 d, .int .i64 h, .int .i64 n, .int .i64 s, .bool zd, .int .i64 zn] 26) = w1 := ⟨_, rfl⟩
  obtain ⟨B, hB⟩ : ∃ B, w.heap.size = B := ⟨_, rfl⟩
  have f0 : w1.cell? ⟨B, 0, none⟩ = some (.int .i64 y) := by rw [← hw1, ← hB, World.cell?_alloc_new]; rfl
  have f1 : w1.cell? ⟨B, 1, none⟩ = some (.int .i64 m) := by rw [← hw1, ← hB, World.cell?_alloc_new]; rfl
  have f2 : w1.cell? ⟨B, 2, none⟩ = some (.int .i64 d) := by rw [← hw1, ← hB, World.cell?_alloc_new]; rfl
  have f3 : w1.cell? ⟨B, 3, none⟩ = some (.int .i64 h) := by rw [← hw1, ← hB, World.cell?_alloc_new]; rfl
  have f4 : w1.cell? ⟨B, 4, none⟩ = some (.int .i64 n) := by rw [← hw1, ← hB, World.cell?_alloc_new]; rfl
  have f5 : w1.cell? ⟨B, 5, none⟩ = some (.int .i64 s) := by rw [← hw1, ← hB, World.cell?_alloc_new]; rfl
  have f6 : w1.cell? ⟨B, 6, none⟩ = some (.bool zd) := by rw [← hw1, ← hB, World.cell?_alloc_new]; rfl
  have f7 : w1.cell? ⟨B, 7, none⟩ = some (.int .i64 zn) := by rw [← hw1, ← hB, World.cell?_alloc_new]; rfl
  have hBlt : B < w1.heap.size := by rw [← hw1, ← hB]; simp
  have G1 : Hid (G w w1) := hid (by rw [← hw1]; exact (G.refl w).alloc _)
  go_enter Tryz.func106, Tryz.ntmps106
  go_upto_region 1 with fail
  clear hw1 hB
  go_cut [3, 4] (fun a b wx => a = .string (S (formL y m d)) ∧ b = .string (S (formL h n s)) ∧ G w1 wx)
  case first =>
    go_region_held3 (fun w' => w'.cell? ⟨B, 0, none⟩ = some (.int .i64 y) ∧ w'.cell? ⟨B, 1, none⟩ = some (.int .i64 m) ∧ w'.cell? ⟨B, 2, none⟩ = some (.int .i64 d) ∧ w'.cell? ⟨B, 3, none⟩ = some (.int .i64 h) ∧ w'.cell? ⟨B, 4, none⟩ = some (.int .i64 n) ∧ w'.cell? ⟨B, 5, none⟩ = some (.int .i64 s)) (go_keep)
      (first
        | (go_at_call 148; refine (form_any y m d _ _ ?_ ?_ ?_ ?_).mono ?_; (· (first | (simp [*]; done) | (rw [hc _ _ (by first | omega | (simp; done) | (simp; omega))]; simp [*, cell_alloc2]; done))); (· (first | (simp [*]; done) | (rw [hc _ _ (by first | omega | (simp; done) | (simp; omega))]; simp [*, cell_alloc2]; done))); (· (first | (simp [*]; done) | (rw [hc _ _ (by first | omega | (simp; done) | (simp; omega))]; simp [*, cell_alloc2]; done))); (· (first | omega | (simp; done) | (simp; omega))); rintro e w' ⟨rfl, hg⟩; have s0 := hg.cell (p := ⟨B, 0, none⟩) (by first | omega | (simp; done) | (simp; omega)); have s1 := hg.cell (p := ⟨B, 1, none⟩) (by first | omega | (simp; done) | (simp; omega)); have s2 := hg.cell (p := ⟨B, 2, none⟩) (by first | omega | (simp; done) | (simp; omega)); have s3 := hg.cell (p := ⟨B, 3, none⟩) (by first | omega | (simp; done) | (simp; omega)); have s4 := hg.cell (p := ⟨B, 4, none⟩) (by first | omega | (simp; done) | (simp; omega)); have s5 := hg.cell (p := ⟨B, 5, none⟩) (by first | omega | (simp; done) | (simp; omega)); have hc := bcell hg; have hz := hg.size; (try simp at hz); have hgx := hid hg; clear hg)
        | (go_at_call 148; refine (form_any h n s _ _ ?_ ?_ ?_ ?_).mono ?_; (· (first | (simp [*]; done) | (rw [hc _ _ (by first | omega | (simp; done) | (simp; omega))]; simp [*, cell_alloc2]; done))); (· (first | (simp [*]; done) | (rw [hc _ _ (by first | omega | (simp; done) | (simp; omega))]; simp [*, cell_alloc2]; done))); (· (first | (simp [*]; done) | (rw [hc _ _ (by first | omega | (simp; done) | (simp; omega))]; simp [*, cell_alloc2]; done))); (· (first | omega | (simp; done) | (simp; omega))); rintro e w' ⟨rfl, hg⟩; have s0 := hg.cell (p := ⟨B, 0, none⟩) (by first | omega | (simp; done) | (simp; omega)); have s1 := hg.cell (p := ⟨B, 1, none⟩) (by first | omega | (simp; done) | (simp; omega)); have s2 := hg.cell (p := ⟨B, 2, none⟩) (by first | omega | (simp; done) | (simp; omega)); have s3 := hg.cell (p := ⟨B, 3, none⟩) (by first | omega | (simp; done) | (simp; omega)); have s4 := hg.cell (p := ⟨B, 4, none⟩) (by first | omega | (simp; done) | (simp; omega)); have s5 := hg.cell (p := ⟨B, 5, none⟩) (by first | omega | (simp; done) | (simp; omega)); have hc := bcell hg; have hz := hg.size; (try simp at hz); have hgx := hid hg; clear hg))
    all_goals (go_wp2_with fail; go_meet; refine ⟨rfl, rfl, ?_⟩; exact by repeat (first | exact G.refl _ | apply G.drew | apply G.alloc | refine G.trans ?_ (Hid.out ‹Hid (G _ _)›)))
  case rest =>
    obtain ⟨rfl, rfl, gx⟩ := hcut
    obtain ⟨D, hD⟩ : ∃ D, formL y m d = D := ⟨_, rfl⟩
    obtain ⟨T, hT⟩ : ∃ T, formL h n s = T := ⟨_, rfl⟩
    rw [hD, hT]
    have HD := hid hD
    have HT := hid hT
    have hDl : D.length = 3 := by rw [← hD]; rfl
    have hTl : T.length = 3 := by rw [← hT]; rfl
    have GX := hid gx
    have HMX := hid (HM.out.grow (G1.out.trans gx))
    have k3 := (bcell gx B 3 hBlt).trans f3
    clear hD hT gx
    by_cases hA : D = [45, 45, 45] ∧ T = [45, 45, 45]
    · obtain ⟨rfl, rfl⟩ := hA
      have HR : Hid ((⟨y, m, d, h, n, s, zd, zn⟩ : St).right = 3) := hid (by unfold St.right St.bad; simp only [HD.out, HT.out]; rfl)
      go_wp2_with fail
      go_ret
      exact ⟨by rw [HR.out]; rfl, G1.out.trans GX.out⟩
    · obtain ⟨X, hX⟩ : ∃ X, X = datesOf D T := ⟨_, rfl⟩
      obtain ⟨Y, hY⟩ : ∃ Y, Y = timesOf D T := ⟨_, rfl⟩
      have hA2 : D = [45, 45, 45] ∧ (D == [45, 45, 45]) = true ∧ T ≠ [45, 45, 45] ∧ (T == [45, 45, 45]) = false ∧ (D == T) = false ∧ X = datesA ∧ Y = datesA ∨ D ≠ [45, 45, 45] ∧ (D == [45, 45, 45]) = false ∧ T = [45, 45, 45] ∧ (T == [45, 45, 45]) = true ∧ (D == T) = false ∧ X = datesA ∧ Y = datesA ∨ (D == [45, 45, 45]) = false ∧ (T == [45, 45, 45]) = false ∧ X = datesB ∧ Y = timesB := by
        by_cases hd : D = [45, 45, 45]
        · have ht : T ≠ [45, 45, 45] := fun e => hA ⟨hd, e⟩
          refine .inl ⟨hd, beq_iff_eq.2 hd, ht, beq_eq_false_iff_ne.2 ht, beq_eq_false_iff_ne.2 (fun e => ht (e ▸ hd)), ?_, ?_⟩
          · rw [hX]; unfold datesOf; rw [if_neg (fun h => h.1 hd)]
          · rw [hY]; unfold timesOf; rw [if_neg (fun h => h.1 hd)]
        · by_cases ht : T = [45, 45, 45]
          · refine .inr (.inl ⟨hd, beq_eq_false_iff_ne.2 hd, ht, beq_iff_eq.2 ht, beq_eq_false_iff_ne.2 (fun e => hd (e.trans ht)), ?_, ?_⟩)
            · rw [hX]; unfold datesOf; rw [if_neg (fun h => h.2 ht)]
            · rw [hY]; unfold timesOf; rw [if_neg (fun h => h.2 ht)]
          · refine .inr (.inr ⟨beq_eq_false_iff_ne.2 hd, beq_eq_false_iff_ne.2 ht, ?_, ?_⟩)
            · rw [hX]; unfold datesOf; rw [if_pos ⟨hd, ht⟩]
            · rw [hY]; unfold timesOf; rw [if_pos ⟨hd, ht⟩]
      have HXY := hid hA2
      have HX := hid hX
      have HY := hid hY
      have HA := hid hA
      clear hA2 hX hY hA
      go_upto_block 0 with fail
      go_cut [5, 6] (fun a b wz => a = .string (S X) ∧ b = .string (S Y) ∧ wz = wc)
      case first =>
        rcases HXY.out with ⟨q1, b1, q2, b2, b3, q3, q4⟩ | ⟨q1, b1, q2, b2, b3, q3, q4⟩ | ⟨b1, b2, q3, q4⟩
        all_goals
          have Q3 := hid q3
          have Q4 := hid q4
          clear q3 q4
          try clear q1
          try clear q2
          go_wp2_with fail
          go_meet
          exact ⟨by rw [Q3.out]; rfl, by rw [Q4.out]; rfl, rfl⟩
      case rest =>
        obtain ⟨rfl, rfl, rfl⟩ := hcut
        have hXl : X.length ≤ 1000 := by rw [HX.out]; unfold datesOf; split <;> decide
        have hYl : Y.length ≤ 1000 := by rw [HY.out]; unfold timesOf; split <;> decide
        have g6 := (bcell GX.out B 6 hBlt).trans f6
        have g7 := (bcell GX.out B 7 hBlt).trans f7
        obtain ⟨c1, hc1⟩ : ∃ c, Lib.contains X (32 :: (D ++ [32])) = c := ⟨_, rfl⟩
        obtain ⟨c2, hc2⟩ : ∃ c, Lib.contains Y (32 :: (T ++ [32])) = c := ⟨_, rfl⟩
        have HC1 := hid hc1
        have HC2 := hid hc2
        have HBAD : Hid ((⟨y, m, d, h, n, s, zd, zn⟩ : St).bad = (!c1 || !c2 || (zd && decide (h = -1)) || (!zd && !decide (zn = 0)))) := hid (by
          unfold St.bad
          simp only [HD.out, HT.out]
          rw [← HX.out, ← HY.out, hc1, hc2]
          have : (decide (D = [45, 45, 45]) && decide (T = [45, 45, 45])) = false := by
            cases e : (decide (D = [45, 45, 45]) && decide (T = [45, 45, 45])) with
            | false => rfl
            | true => simp only [Bool.and_eq_true, decide_eq_true_eq] at e; exact absurd e HA.out
          rw [this, Bool.false_or])
        clear hc1 hc2
        go_upto_region 7 with fail
        go_cut [68] (fun a wz => a = .bool (!c1 || !c2 || (zd && decide (h = -1)) || (!zd && !decide (zn = 0))) ∧ wz = wc)
        case first =>
          go_wp2_with fail
          refine (contains_any X (32 :: (D ++ [32])) _ HMX.out (by omega)).use ?_
          rw [HC1.out]
          cases c1 with
          | false => go_wp2_with fail; go_meet; exact ⟨by simp, rfl⟩
          | true =>
            go_wp2_with fail
            refine (contains_any Y (32 :: (T ++ [32])) _ HMX.out (by omega)).use ?_
            rw [HC2.out]
            cases c2 with
            | false => go_wp2_with fail; go_meet; exact ⟨by simp, rfl⟩
            | true =>
              cases zd with
              | true =>
                by_cases hh : h = -1
                · subst hh
                  go_wp2_with fail; go_meet; exact ⟨by simp, rfl⟩
                · have bh : (h == -1) = false := by simpa using hh
                  have HH := hid hh
                  clear hh
                  go_wp2_with fail; go_meet; exact ⟨by simp [HH.out], rfl⟩
              | false =>
                by_cases hz : zn = 0
                · subst hz
                  go_wp2_with fail; go_meet; exact ⟨by simp, rfl⟩
                · have bz : (zn != 0) = true := by simpa [bne_iff_ne] using hz
                  have HZ := hid hz
                  clear hz
                  go_wp2_with fail; go_meet; exact ⟨by simp [HZ.out], rfl⟩
        case rest =>
          obtain ⟨rfl, rfl⟩ := hcut
          cases hb : (!c1 || !c2 || (zd && decide (h = -1)) || (!zd && !decide (zn = 0))) with
          | true =>
            have HR : Hid ((⟨y, m, d, h, n, s, zd, zn⟩ : St).right = 3) := hid (by unfold St.right; rw [HBAD.out, hb]; rfl)
            clear hb
            go_wp2_with fail
            go_ret
            exact ⟨by rw [HR.out]; rfl, G1.out.trans GX.out⟩
          | false =>
            have HR : Hid ((⟨y, m, d, h, n, s, zd, zn⟩ : St).right = if (⟨y, m, d, h, n, s, zd, zn⟩ : St).fits then 0 else 2) := hid (by unfold St.right; rw [HBAD.out, hb]; rfl)
            clear hb
            have g0 := (bcell GX.out B 0 hBlt).trans f0
            have g1 := (bcell GX.out B 1 hBlt).trans f1
            have g2 := (bcell GX.out B 2 hBlt).trans f2
            have g4 := (bcell GX.out B 4 hBlt).trans f4
            have g5 := (bcell GX.out B 5 hBlt).trans f5
            obtain ⟨M, hM⟩ : ∃ M, (⟨y, m, d, h, n, s, zd, zn⟩ : St).most = M := ⟨_, rfl⟩
            obtain ⟨b1, hb1⟩ : ∃ b, wth y 0 9999 = b := ⟨_, rfl⟩
            obtain ⟨b2, hb2⟩ : ∃ b, wth m 1 12 = b := ⟨_, rfl⟩
            obtain ⟨b3, hb3⟩ : ∃ b, wth d 1 M = b := ⟨_, rfl⟩
            obtain ⟨b4, hb4⟩ : ∃ b, wth h 0 23 = b := ⟨_, rfl⟩
            obtain ⟨b5, hb5⟩ : ∃ b, wth n 0 59 = b := ⟨_, rfl⟩
            obtain ⟨b6, hb6⟩ : ∃ b, wth s 0 59 = b := ⟨_, rfl⟩
            obtain ⟨b7, hb7⟩ : ∃ b, rightZ zn = b := ⟨_, rfl⟩
            have HFITS : Hid ((⟨y, m, d, h, n, s, zd, zn⟩ : St).fits = (b1 && b2 && b3 && b4 && b5 && b6 && b7)) := hid (by unfold St.fits; rw [hM]; simp only [hb1, hb2, hb3, hb4, hb5, hb6, hb7])
            have HMM := hid hM
            have HB1 := hid hb1
            have HB2 := hid hb2
            have HB3 := hid hb3
            have HB4 := hid hb4
            have HB5 := hid hb5
            have HB6 := hid hb6
            have HB7 := hid hb7
            clear hb1 hb2 hb3 hb4 hb5 hb6 hb7 hM
            have hmm : m = -1 ∧ (m != -1) = false ∧ M = 31 ∨ (m != -1) = true ∧ M = daysL y m := by
              by_cases e : m = -1
              · exact .inl ⟨e, by simp [e], by rw [← HMM.out]; unfold St.most; rw [if_pos e]⟩
              · exact .inr ⟨by simpa [bne_iff_ne] using e, by rw [← HMM.out]; unfold St.most; rw [if_neg e]⟩
            rcases hmm with ⟨e1, bm, e3⟩ | ⟨bm, e3⟩
            · have E1 := hid e1
              clear e1
              subst e3
              go_upto_region 12 with fail
              go_cut [118] (fun a wz => a = .bool (!(b1 && b2 && b3 && b4 && b5 && b6 && b7)) ∧ wz = wc)
              case first =>
                go_wp2_with fail
                refine (within_any y 0 9999 _).use ?_
                rw [HB1.out]
                cases b1 with
                | false => go_wp2_with fail; go_meet; exact ⟨by simp, rfl⟩
                | true =>
                  go_wp2_with fail
                  refine (within_any m 1 12 _).use ?_
                  rw [HB2.out]
                  cases b2 with
                  | false => go_wp2_with fail; go_meet; exact ⟨by simp, rfl⟩
                  | true =>
                    go_wp2_with fail
                    refine (within_any d 1 31 _).use ?_
                    rw [HB3.out]
                    cases b3 with
                    | false => go_wp2_with fail; go_meet; exact ⟨by simp, rfl⟩
                    | true =>
                      go_wp2_with fail
                      refine (within_any h 0 23 _).use ?_
                      rw [HB4.out]
                      cases b4 with
                      | false => go_wp2_with fail; go_meet; exact ⟨by simp, rfl⟩
                      | true =>
                        go_wp2_with fail
                        refine (within_any n 0 59 _).use ?_
                        rw [HB5.out]
                        cases b5 with
                        | false => go_wp2_with fail; go_meet; exact ⟨by simp, rfl⟩
                        | true =>
                          go_wp2_with fail
                          refine (within_any s 0 59 _).use ?_
                          rw [HB6.out]
                          cases b6 with
                          | false => go_wp2_with fail; go_meet; exact ⟨by simp, rfl⟩
                          | true =>
                            go_wp2_with fail
                            refine (zoneRight_any zn _).use ?_
                            rw [HB7.out]
                            cases b7 with
                            | false => go_wp2_with fail; go_meet; exact ⟨by simp, rfl⟩
                            | true =>
                              go_wp2_with fail; go_meet; exact ⟨by simp, rfl⟩
              case rest =>
                obtain ⟨rfl, rfl⟩ := hcut
                cases hb : (b1 && b2 && b3 && b4 && b5 && b6 && b7) with
                | true =>
                  have HR2 : Hid (errV (⟨y, m, d, h, n, s, zd, zn⟩ : St).right = .nilIface) := hid (by rw [HR.out, HFITS.out, hb]; rfl)
                  clear hb
                  go_wp2_with fail
                  go_ret
                  exact ⟨by rw [HR2.out]; rfl, G1.out.trans GX.out⟩
                | false =>
                  have HR2 : Hid (errV (⟨y, m, d, h, n, s, zd, zn⟩ : St).right = eno 2) := hid (by rw [HR.out, HFITS.out, hb]; rfl)
                  clear hb
                  go_wp2_with fail
                  go_ret
                  exact ⟨by rw [HR2.out]; rfl, G1.out.trans GX.out⟩
            · subst e3
              go_upto_region 12 with (go_at_call 150; refine (days_any y m _ ⟨hy0, hy1⟩).use ?_)
              go_cut [118] (fun a wz => a = .bool (!(b1 && b2 && b3 && b4 && b5 && b6 && b7)) ∧ wz = wc)
              case first =>
                go_wp2_with fail
                refine (within_any y 0 9999 _).use ?_
                rw [HB1.out]
                cases b1 with
                | false => go_wp2_with fail; go_meet; exact ⟨by simp, rfl⟩
                | true =>
                  go_wp2_with fail
                  refine (within_any m 1 12 _).use ?_
                  rw [HB2.out]
                  cases b2 with
                  | false => go_wp2_with fail; go_meet; exact ⟨by simp, rfl⟩
                  | true =>
                    go_wp2_with fail
                    refine (within_any d 1 (daysL y m) _).use ?_
                    rw [HB3.out]
                    cases b3 with
                    | false => go_wp2_with fail; go_meet; exact ⟨by simp, rfl⟩
                    | true =>
                      go_wp2_with fail
                      refine (within_any h 0 23 _).use ?_
                      rw [HB4.out]
                      cases b4 with
                      | false => go_wp2_with fail; go_meet; exact ⟨by simp, rfl⟩
                      | true =>
                        go_wp2_with fail
                        refine (within_any n 0 59 _).use ?_
                        rw [HB5.out]
                        cases b5 with
                        | false => go_wp2_with fail; go_meet; exact ⟨by simp, rfl⟩
                        | true =>
                          go_wp2_with fail
                          refine (within_any s 0 59 _).use ?_
                          rw [HB6.out]
                          cases b6 with
                          | false => go_wp2_with fail; go_meet; exact ⟨by simp, rfl⟩
                          | true =>
                            go_wp2_with fail
                            refine (zoneRight_any zn _).use ?_
                            rw [HB7.out]
                            cases b7 with
                            | false => go_wp2_with fail; go_meet; exact ⟨by simp, rfl⟩
                            | true =>
                              go_wp2_with fail; go_meet; exact ⟨by simp, rfl⟩
              case rest =>
                obtain ⟨rfl, rfl⟩ := hcut
                cases hb : (b1 && b2 && b3 && b4 && b5 && b6 && b7) with
                | true =>
                  have HR2 : Hid (errV (⟨y, m, d, h, n, s, zd, zn⟩ : St).right = .nilIface) := hid (by rw [HR.out, HFITS.out, hb]; rfl)
                  clear hb
                  go_wp2_with fail
                  go_ret
                  exact ⟨by rw [HR2.out]; rfl, G1.out.trans GX.out⟩
                | false =>
                  have HR2 : Hid (errV (⟨y, m, d, h, n, s, zd, zn⟩ : St).right = eno 2) := hid (by rw [HR.out, HFITS.out, hb]; rfl)
                  clear hb
                  go_wp2_with fail
                  go_ret
                  exact ⟨by rw [HR2.out]; rfl, G1.out.trans GX.out⟩
end Go.Proofs.YtdmbhoagjjkogaaGreatDoor
