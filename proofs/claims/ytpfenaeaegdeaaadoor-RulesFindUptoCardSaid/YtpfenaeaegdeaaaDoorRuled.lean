/-
  The fact 'ruled'; a parameter of one value in memory; the law RulesKinds walked.
-/
import Derived.Test.YtpfenaeaegdeaaaDoorRulesType
import Derived.Test.YtpfenaeaegdeaaaDoorPick
namespace Go.Proofs.YtpfenaeaegdeaaaDoor
open Go.RowKit
set_option linter.unusedVariables false
set_option linter.unusedSimpArgs false

theorem IsStrs.one1 {w : World} {b : Nat} {x : List UInt8} (h : w.cell? ⟨b, 0, none⟩ = some (.string (S x))) : IsStrs w (.slice (some ⟨b, 0, none⟩) 1 1) [x] := by
  refine ⟨⟨by simp, by intro u hu; rw [List.mem_singleton.1 hu]; rfl, .inr ⟨b, 0, 1, rfl, World.block_lt_of_cell? _ _ h, by simp, ?_⟩⟩, by simp [capOk]⟩
  intro j hj
  obtain rfl : j = 0 := by simpa using hj
  simpa using h
theorem IsParams.one {w : World} {b c : Nat} {nm x : List UInt8} (h : w.cell? ⟨b, 0, none⟩ = some (.string (S x))) (h1 : w.cell? ⟨c, 0, none⟩ = some (.string (S nm))) (h2 : w.cell? ⟨c, 1, none⟩ = some (.slice (some ⟨b, 0, none⟩) 1 1)) :
    IsParams w (.slice (some ⟨c, 0, none⟩) 1 1) [(nm, [x])] := by
  refine ⟨_, _, rfl, by simp, fun _ => ⟨c, 0, rfl, World.block_lt_of_cell? _ _ h1, ?_⟩⟩
  intro i p hp
  match i, hp with
  | 0, hp =>
    simp at hp
    subst hp
    exact ⟨_, by simpa using h1, by simpa using h2, IsStrs.one1 h⟩
  | n + 1, hp => simp at hp

theorem ruled_rule : ruleOf (tabT 4) (upperL [97, 100, 114]) = (3, 0, 0, 7) := by decide +kernel
theorem ruled_type : typeOf (ruleOf (tabT 4) (upperL [84, 90])).1 [([118, 97, 108, 117, 101], [[85, 84, 67, 45, 79, 70, 70, 83, 69, 84]])] = 6 := by decide +kernel
set_option maxRecDepth 100000 in
set_option maxHeartbeats 2000000 in
theorem ruled_any (w : World) (hM : RMem w) : Gives 8 #[] w (.bool true) := by
  have ho := of_any [97, 100, 114] 4 w (.inr rfl) (by simp) hM
  rw [ruled_rule] at ho
  have HO := hid ho
  have HM := hid hM
  have kd := fun W => kind_any 8 W
  have KD := hid kd
  clear ho hM kd
  go_enter Tryd.func8, Tryd.ntmps8
  go_wp2_with fail
  refine HO.out.use ?_
  intro w1 g1
  have hA := g1.alloc (.cells #[.int .i64 3, .int .i64 0, .int .i64 0, .int .i64 7] 25)
  go_wp2_with fail
  generalize hW : World.alloc _ _ = W4
  have gW : G w W4 := by rw [← hW]; exact (hA.alloc _).alloc _
  have p1 : W4.cell? ⟨w1.heap.size + 1, 0, none⟩ = some (.string (S [85, 84, 67, 45, 79, 70, 70, 83, 69, 84])) := by rw [← hW]; simp [go_sem]; rfl
  have p2 : W4.cell? ⟨w1.heap.size + 1 + 1, 0, none⟩ = some (.string (S [118, 97, 108, 117, 101])) := by rw [← hW]; simp [go_sem]; rfl
  have p3 : W4.cell? ⟨w1.heap.size + 1 + 1, 1, none⟩ = some (.slice (some ⟨w1.heap.size + 1, 0, none⟩) 1 1) := by rw [← hW]; simp [go_sem]
  have q0 : W4.cell? ⟨w1.heap.size, 0, none⟩ = some (.int .i64 3) := by rw [← hW]; simp [go_sem]
  have q1 : W4.cell? ⟨w1.heap.size, 1, none⟩ = some (.int .i64 0) := by rw [← hW]; simp [go_sem]
  have q2 : W4.cell? ⟨w1.heap.size, 2, none⟩ = some (.int .i64 0) := by rw [← hW]; simp [go_sem]
  have q3 : W4.cell? ⟨w1.heap.size, 3, none⟩ = some (.int .i64 7) := by rw [← hW]; simp [go_sem]
  have hb : w1.heap.size < W4.heap.size := World.block_lt_of_cell? _ _ q0
  have ht := type_any [84, 90] (.slice (some ⟨w1.heap.size + 1 + 1, 0, none⟩) 1 1) [([118, 97, 108, 117, 101], [[85, 84, 67, 45, 79, 70, 70, 83, 69, 84]])] 4 W4 (.inr rfl) (by simp) (IsParams.one p1 p2 p3) (by simp) (by simp) (by simp) (HM.out.grow gW)
  rw [ruled_type] at ht
  refine ht.use ?_
  intro w5 g5
  have r0 := (g5.cell (p := ⟨w1.heap.size, 0, none⟩) hb).trans q0
  have r1 := (g5.cell (p := ⟨w1.heap.size, 1, none⟩) hb).trans q1
  have r2 := (g5.cell (p := ⟨w1.heap.size, 2, none⟩) hb).trans q2
  have r3 := (g5.cell (p := ⟨w1.heap.size, 3, none⟩) hb).trans q3
  have GG := hid (gW.trans g5)
  clear hW ht p1 p2 p3 q0 q1 q2 q3 g5 gW hA HO
  go_wp2_with fail
  refine (KD.out _).use ?_
  go_wp2_with fail
  go_ret
  exact ⟨rfl, GG.out⟩

/-- the walk's end of a law RulesKinds, in plain terms -/
theorem kinds_law (r k : Int) (hk : 1 ≤ k) (hk9 : k < 9) (h2 : k ≠ 2) (h3 : k ≠ 3) : typeOf r [([86, 65, 76, 85, 69], [kindN k])] = if k = 1 ∧ (r = 2 ∨ r = 3) then r else k := by
  have h0 : typeOf r [([86, 65, 76, 85, 69], [kindN k])] = wordT r (lowerL (kindN k)) := typeOf_some (k := 0) (by unfold findL; rw [List.findIdx?_cons]; rw [if_pos (by show sameL [86, 65, 76, 85, 69] [86, 65, 76, 85, 69] = true; decide)]) rfl
  rw [h0]
  have h1 : k = 1 ∨ k = 4 ∨ k = 5 ∨ k = 6 ∨ k = 7 ∨ k = 8 := by omega
  rcases h1 with rfl | rfl | rfl | rfl | rfl | rfl
  · rw [show lowerL (kindN 1) = [116, 101, 120, 116] from by decide]
    unfold wordT
    rw [if_pos rfl]
    simp
  all_goals
    rw [if_neg (by omega)]
    unfold wordT
    rfl

theorem kindN_len (k : Int) : (kindN k).length ≤ 1000000 := by
  unfold kindN
  repeat (first | split | decide)
set_option maxRecDepth 100000 in
set_option maxHeartbeats 4000000 in
theorem rulesKinds_walk (s : List UInt8) (kd v : Int) (w : World) (zs : s.length ≤ 140737488351232) (zk : -9223372036854775808 ≤ kd ∧ kd ≤ 9223372036854775807) (zv : -9223372036854775808 ≤ v ∧ v ≤ 9223372036854775807) (hM : RMem w) : Gives 3 #[.string (S s), .int .i64 kd, .int .i64 v] w (.bool true) := by
  have hpk := pickV_lt kd (show (1 : Int) ≤ 8 by decide)
  have hpv := pickV_lt v (show (1 : Int) ≤ 2 by decide)
  obtain ⟨k, hk⟩ : ∃ k : Int, k = 1 + pickV kd 8 := ⟨_, rfl⟩
  obtain ⟨u, hu⟩ : ∃ u : Int, u = 3 + pickV v 2 := ⟨_, rfl⟩
  have hu2 : u = 3 ∨ u = 4 := by omega
  have P1 : ∀ W, Pure 9 #[.int .i64 kd, .int .i64 8] W (.int .i64 (k - 1)) := fun W => by rw [hk, show (1 : Int) + pickV kd 8 - 1 = pickV kd 8 by omega]; exact pick_any kd 8 W (by decide) (by decide)
  have P2 : ∀ W, Pure 9 #[.int .i64 v, .int .i64 2] W (.int .i64 (u - 3)) := fun W => by rw [hu, show (3 : Int) + pickV v 2 - 3 = pickV v 2 by omega]; exact pick_any v 2 W (by decide) (by decide)
  have hk1 : 1 ≤ k := by omega
  have hk9 : k < 9 := by omega
  have Q1 := hid P1
  have Q2 := hid P2
  have HM := hid hM
  have RU := hid (ruled_any w hM)
  have HU := hid hu2
  clear hpk hpv hk hu P1 P2 hM
  have e1 : 1 + (k - 1) = k := by omega
  have e2 : 3 + (u - 3) = u := by omega
  by_cases hc : 100 < (s.length : Int) ∨ k = 2 ∨ k = 3
  · rcases hc with h1 | rfl | rfl
    all_goals
      go_enter Tryd.func3, Tryd.ntmps3
      go_wp2_with fail
      refine RU.out.use ?_
      intro w1 g1
      go_wp2_with fail
      refine (Q1.out _).use ?_
      go_wp2_with fail
      refine (Q2.out _).use ?_
      go_wp2_with fail
      all_goals
        go_ret
        exact ⟨rfl, g1⟩
  · have b1 : decide (100 < (s.length : Int)) = false := decide_eq_false (fun h => hc (.inl h))
    have b2 : (k == 2) = false := beq_eq_false_iff_ne.2 (fun h => hc (.inr (.inl h)))
    have b3 : (k == 3) = false := beq_eq_false_iff_ne.2 (fun h => hc (.inr (.inr h)))
    have hs : s.length ≤ 100 := by omega
    have hk2 := hid (show k ≠ 2 ∧ k ≠ 3 from ⟨fun h => hc (.inr (.inl h)), fun h => hc (.inr (.inr h))⟩)
    clear hc
    obtain ⟨r, hr⟩ : ∃ r, r = ruleOf (tabT u) (upperL s) := ⟨_, rfl⟩
    have ho : ∀ W, RMem W → Gives 10 #[.string (S s), .int .i64 u] W (.tuple #[.agg #[.int .i64 r.1, .int .i64 r.2.1, .int .i64 r.2.2.1, .int .i64 r.2.2.2], .nilIface]) := fun W h => by rw [hr]; exact of_any s u W HU.out (by omega) h
    have ht : ∀ W pv, RMem W → IsParams W pv [([86, 65, 76, 85, 69], [kindN k])] → Gives 11 #[.string (S s), pv, .int .i64 u] W (.tuple #[.int .i64 (if k = 1 ∧ (r.1 = 2 ∨ r.1 = 3) then r.1 else k), .nilIface]) := fun W pv h hp => by
      have := type_any s pv [([86, 65, 76, 85, 69], [kindN k])] u W HU.out (by omega) hp (by simp) (by simp) (by intro p hp x hx; simp at hp; subst hp; simp at hx; subst hx; exact kindN_len k) h
      rwa [← hr, kinds_law r.1 k hk1 hk9 hk2.out.1 hk2.out.2] at this
    have HO := hid ho
    have HT := hid ht
    have kd' : ∀ W, Pure 12 #[.int .i64 k] W (.string (S (kindN k))) := fun W => kind_any k W
    have KD := hid kd'
    obtain ⟨r0, r1, r2, r3⟩ := r
    clear hr ho ht kd'
    go_enter Tryd.func3, Tryd.ntmps3
    go_wp2_with fail
    refine RU.out.use ?_
    intro w1 g1
    go_wp2_with fail
    refine (Q1.out _).use ?_
    go_wp2_with fail
    refine (Q2.out _).use ?_
    go_wp2_with fail
    refine (HO.out w1 (HM.out.grow g1)).use ?_
    intro w2 g2
    go_wp2_with fail
    refine (KD.out _).use ?_
    obtain ⟨kn, hkn⟩ : ∃ kn, kn = kindN k := ⟨_, rfl⟩
    rw [← hkn] at HT ⊢
    clear hkn KD
    go_wp2_with fail
    generalize hW : World.alloc _ _ = W4
    have gW : G w W4 := by rw [← hW]; exact (((g1.trans g2).alloc _).alloc _).alloc _
    have p1 : W4.cell? ⟨w2.heap.size + 1, 0, none⟩ = some (.string (S kn)) := by rw [← hW]; simp [go_sem]
    have p2 : W4.cell? ⟨w2.heap.size + 1 + 1, 0, none⟩ = some (.string (S [86, 65, 76, 85, 69])) := by rw [← hW]; simp [go_sem]; rfl
    have p3 : W4.cell? ⟨w2.heap.size + 1 + 1, 1, none⟩ = some (.slice (some ⟨w2.heap.size + 1, 0, none⟩) 1 1) := by rw [← hW]; simp [go_sem]
    have q0 : W4.cell? ⟨w2.heap.size, 0, none⟩ = some (.int .i64 r0) := by rw [← hW]; simp [go_sem]
    have hb : w2.heap.size < W4.heap.size := World.block_lt_of_cell? _ _ q0
    refine (HT.out W4 _ (HM.out.grow gW) (IsParams.one p1 p2 p3)).use ?_
    intro w5 g5
    have c0 := (g5.cell (p := ⟨w2.heap.size, 0, none⟩) hb).trans q0
    have GG := hid (gW.trans g5)
    clear hW p1 p2 p3 q0 g5 gW g1 g2 HO HT
    by_cases k1 : k = 1
    · subst k1
      by_cases t2 : r0 = 2
      · subst t2
        rw [if_pos ⟨rfl, .inl rfl⟩]
        go_wp2_with fail
        go_ret
        exact ⟨rfl, GG.out⟩
      · by_cases t3 : r0 = 3
        · subst t3
          rw [if_pos ⟨rfl, .inr rfl⟩]
          go_wp2_with fail
          go_ret
          exact ⟨rfl, GG.out⟩
        · rw [if_neg (fun h => h.2.elim t2 t3)]
          have y2 : (r0 == 2) = false := beq_eq_false_iff_ne.2 t2
          have y3 : (r0 == 3) = false := beq_eq_false_iff_ne.2 t3
          clear t2 t3
          go_wp2_with fail
          go_ret
          exact ⟨rfl, GG.out⟩
    · rw [if_neg (fun h => k1 h.1)]
      have y1 : (k == 1) = false := beq_eq_false_iff_ne.2 k1
      clear k1
      go_wp2_with fail
      go_ret
      exact ⟨ret_bool (by simp), GG.out⟩

end Go.Proofs.YtpfenaeaegdeaaaDoor
