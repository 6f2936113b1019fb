/-
  CONTRACT of json's reader: escape. (written by gen_jsonesc.py)
-/
import Derived.Test.YtlejbindochiiaaDoorJsonText
import Derived.Deep.CutRange
namespace Go.Proofs.YtlejbindochiiaaDoor
open Go.RowKit
set_option linter.unusedVariables false
set_option linter.unusedSimpArgs false

theorem fourJ_lt {l t : List UInt8} {n : Nat} (h : fourJ 4 0 l = .ok (n, t)) : n < 65536 := by
  obtain ⟨p, _, _, _, h4⟩ := four_ok h
  simpa using h4
theorem long_none {c : UInt8} (h0 : c ≠ 47) (h : c ≠ 34 ∧ c ≠ 92 ∧ c ≠ 98 ∧ c ≠ 102 ∧ c ≠ 110 ∧ c ≠ 114 ∧ c ≠ 116) : longJ c = none := by
  obtain ⟨h1, h2, h3, h4, h5, h6, h7⟩ := h
  unfold longJ
  rw [if_neg h0, if_neg h1, if_neg h2, if_neg h3, if_neg h4, if_neg h5, if_neg h6, if_neg h7]
theorem escJ_long {m : Nat} {c d : UInt8} {r : List UInt8} (hc : c ≠ 117) (h : longJ c = some d) : escJ m (c :: r) = .ok ([d], r) := by rw [escJ_cons, if_neg hc, h]
theorem escJ_none {m : Nat} {c : UInt8} {r : List UInt8} (hc : c ≠ 117) (h : longJ c = none) : escJ m (c :: r) = .error (3, r.length + 1) := by rw [escJ_cons, if_neg hc, h]
theorem escJ_bad {m : Nat} {r : List UInt8} {e : JEr} (h : fourJ 4 0 r = .error e) : escJ m (117 :: r) = .error e := by rw [escJ_cons, if_pos rfl, h]; rfl
theorem escJ_one {m n : Nat} {r t : List UInt8} (h : fourJ 4 0 r = .ok (n, t)) (hn : ¬ (55296 ≤ n ∧ n < 56320 ∧ t.take 2 = [92, 117])) : escJ m (117 :: r) = pointJ m n t := by
  rw [escJ_cons, if_pos rfl, h, jnext_pos, if_neg hn]
theorem escJ_two {m n : Nat} {r t : List UInt8} (h : fourJ 4 0 r = .ok (n, t)) (hn : 55296 ≤ n ∧ n < 56320 ∧ t.take 2 = [92, 117]) : escJ m (117 :: r) = JRs.next (fourJ 4 0 (t.drop 2)) fun low u => if 56320 ≤ low ∧ low ≤ 57343 then pointJ m (65536 + (n - 55296) * 1024 + (low - 56320)) u else .error (3, m) := by
  rw [escJ_cons, if_pos rfl, h, jnext_pos, if_pos hn]
theorem pointV_any (v : Int) (n : Nat) (hv : v = (n : Int)) (w : World) (h : mayB (n : Int) = true) : Gives 51 #[.int .i64 v] w (.tuple #[.string (S (pointL (n : Int))), .nilIface]) := by subst hv; exact point_any _ w h
theorem pointV_bad (v : Int) (n : Nat) (hv : v = (n : Int)) (w : World) (h : mayB (n : Int) = false) : Gives 51 #[.int .i64 v] w (.tuple #[.string (S []), eno 2]) := by subst hv; exact point_bad _ w h
theorem point_yes {m n : Nat} {t : List UInt8} (h : mayB (n : Int) = true) : pointJ m n t = .ok (pointL (n : Int), t) := by unfold pointJ; rw [if_pos h]
theorem point_no {m n : Nat} {t : List UInt8} (h : mayB (n : Int) = false) : pointJ m n t = .error (3, m) := by unfold pointJ; rw [if_neg (by rw [h]; simp)]
theorem prefU_quiet (t : List UInt8) (b : Bool) (hb : hasP t [92, 117] = b) (W : World) (q : Nat) : Calls Tryd.prog 15 #[.string (S t), .string ⟨#[92, 117]⟩] (W.drewN q) fun e w'' => e = .returned (.bool b) ∧ ∃ m, w'' = W.drewN m := by
  subst hb; exact (hasPrefix_any t [92, 117] _).quiet
theorem jfour_from {w W : World} {R : Nat} {s l : List UInt8} (h : w.grownBy W (some R) ∧ JRd W R s l) (hs : s.length ≤ 1000000) :
    Calls Tryd.prog 50 #[.pointer (some ⟨R, 0, none⟩)] W (JRdP s R VN (fourJ 4 0 l) w) :=
  (jfour_any W R s l h.2 hs).mono fun e w' k => ⟨mv_trans h.1 k.1, k.2⟩
set_option maxRecDepth 100000 in
set_option maxHeartbeats 8000000 in
theorem jescape_any (w : World) (R : Nat) (s l : List UInt8) (m fr : Nat) (h : JRd w R s l) (hs : s.length ≤ 1000000) (hm : s.length - m = fr) :
    Calls Tryd.prog 44 #[.pointer (some ⟨R, 0, none⟩), .int .i64 (fr : Int)] w (JRdP s R VSJ (escJ m l) w) := by
  obtain ⟨p, he, ho⟩ := h
  have c0 := ho.c0
  have c1 := ho.c1
  have z1 := ho.fz 1
  have HO := hid ho
  have HE := hid he
  have HM := hid hm
  have hlen : s.length = p.length + l.length := by rw [he]; simp
  clear ho he hm
  cases l with
  | nil =>
    have hno : ((p.length : Int) == (s.length : Int)) = true := by simp at hlen; simp; omega
    have hno2 : (p.length == s.length) = true := by simp at hlen; simp; omega
    have hq : s.length - 0 = p.length := by simp at hlen; omega
    have HQ := hid hq
    clear hlen hq
    go_enter Tryd.func44, Tryd.ntmps44
    go_wp2_with fail
    go_quiet (fail)
    go_wp2_with fail
    refine (jthrow_any _ _ _ _).mono ?_
    rintro e w2 ⟨rfl, rfl⟩
    exact ⟨rfl, JRdP.no (by repeat (first | exact mv_refl _ _ | assumption | apply mv_drewN | apply mv_drew | apply mv_st | apply mv_alloc)) rfl HQ.out⟩
  | cons c r =>
    have hlt : p.length < s.length := by simp at hlen; omega
    have hno : ((p.length : Int) == (s.length : Int)) = false := by simp; omega
    have hno2 : (p.length == s.length) = false := by simp; omega
    have hg : s[p.length]'hlt = c := by have := HE.out; subst this; simp
    have hle : p.length + 1 ≤ 1000000 := by omega
    have hq : s.length - (r.length + 1) = p.length := by simp at hlen; omega
    have HQ := hid hq
    have ST : Hid (∀ W, w.grownBy W (some R) → RdO 58 [] W R s p.length → w.grownBy (W.setCell ⟨R, 1, none⟩ (.int .i64 ((p.length : Int) + 1))) (some R) ∧ JRd (W.setCell ⟨R, 1, none⟩ (.int .i64 ((p.length : Int) + 1))) R s r) :=
      hid fun W g o => ⟨mv_st g, p ++ [c], by rw [HE.out]; simp, o.setN _ _ (by simp)⟩
    clear hq
    by_cases h47 : c = 47
    · subst h47
      clear hlen
      go_enter Tryd.func44, Tryd.ntmps44
      go_wp2_with fail
      go_quiet (fail)
      go_wp2_with fail
      go_quiet (fail)
      go_wp2_with fail
      go_ret
      exact JRdP.yes (by repeat (first | exact mv_refl _ _ | assumption | apply mv_drewN | apply mv_drew | apply mv_st | apply mv_alloc)) (escJ_long (by decide) (by decide)) rfl (ST.out _ (by repeat (first | exact mv_refl _ _ | assumption | apply mv_drewN | apply mv_drew | apply mv_st | apply mv_alloc)) (HO.out.drewN _)).2
    · have k47 : (c.toNat == 47) = false := beq_eq_false_iff_ne.2 fun e => h47 (UInt8.toNat_inj.1 e)
      have i47 : ((c.toNat : Int) == 47) = false := beq_eq_false_iff_ne.2 fun e => h47 (UInt8.toNat_inj.1 (by simp; omega))
      have H47 := hid h47
      clear h47
      by_cases h117 : c = 117
      · subst h117
        clear hlen
        go_enter Tryd.func44, Tryd.ntmps44
        go_wp2_with fail
        go_quiet (fail)
        go_wp2_with fail
        go_quiet (fail)
        go_wp2_with fail
        refine (jfour_from (ST.out _ (by repeat (first | exact mv_refl _ _ | assumption | apply mv_drewN | apply mv_drew | apply mv_st | apply mv_alloc)) (HO.out.drewN _)) hs).mono ?_
        intro e w2 hp
        cases hf : fourJ 4 0 r with
        | error q =>
          obtain ⟨ec, ek⟩ := q
          rw [hf] at hp
          obtain ⟨gm, rfl⟩ := hp.bad
          exact ⟨rfl, JRdP.no gm (escJ_bad hf) rfl⟩
        | ok q =>
          obtain ⟨n, t⟩ := q
          rw [hf] at hp
          obtain ⟨gm, v, rfl, rfl, hr⟩ := hp.ok
          have M2 := hid gm
          have hn := fourJ_lt hf
          have HF := hid hf
          obtain ⟨p2, he2, ho2⟩ := hr
          have d0 := ho2.c0
          have d1 := ho2.c1
          have y1 := ho2.fz 1
          have HO2 := hid ho2
          have HE2 := hid he2
          have hlen2 : s.length = p2.length + t.length := by rw [he2]; simp
          have hdr : s.drop p2.length = t := by rw [he2]; simp
          have hle2 : p2.length ≤ s.length := by omega
          have HLEN2 := hid hlen2
          clear ho2 he2 hf hp gm c0 c1 z1 hlen2
          by_cases hA : 55296 ≤ n
          · have hAi : (55296 : Int) ≤ (n : Int) := by omega
            have hAd : decide ((55296 : Int) ≤ (n : Int)) = true := decide_eq_true hAi
            have hAn : decide (55296 ≤ n) = true := decide_eq_true hA
            by_cases hB : n < 56320
            · have hBi : (n : Int) < 56320 := by omega
              have hBd : decide ((n : Int) < 56320) = true := decide_eq_true hBi
              have hBn : decide (n < 56320) = true := decide_eq_true hB
              cases hC : hasP t [92, 117] with
              | false =>
                have HC := hid hC
                have HN : Hid (¬ (55296 ≤ n ∧ n < 56320 ∧ t.take 2 = [92, 117])) := hid (fun ⟨_, _, h⟩ => by have := HC.out; unfold hasP at this; simp [h] at this)
                clear hC
                go_wp2_with fail
                go_quiet ((go_at_call 15; exact prefU_quiet t false HC.out _ _))
                go_wp2_with fail
                cases hmay : mayB ((n : Nat) : Int) with
                | true =>
                  have HY := hid hmay
                  clear hmay
                  refine (pointV_any _ (n) rfl _ HY.out).use ?_
                  intro w9 g9
                  have G9 := hid g9
                  clear g9
                  go_wp2_with fail
                  go_ret
                  exact JRdP.yes (mv_g (mv_trans M2.out (by repeat (first | exact mv_refl _ _ | assumption | apply mv_drewN | apply mv_drew | apply mv_st | apply mv_alloc))) G9.out) ((escJ_one HF.out HN.out).trans (point_yes HY.out)) rfl ((show JRd (w2.drewN _) R s t from ⟨p2, HE2.out, HO2.out.drewN _⟩).grow G9.out)
                | false =>
                  have HY := hid hmay
                  clear hmay
                  refine (pointV_bad _ (n) rfl _ HY.out).use ?_
                  intro w9 g9
                  have G9 := hid g9
                  clear g9
                  go_wp2_with fail
                  refine (jthrow_any _ _ _ _).mono ?_
                  rintro e w10 ⟨rfl, rfl⟩
                  exact ⟨rfl, JRdP.no (mv_g (mv_trans M2.out (by repeat (first | exact mv_refl _ _ | assumption | apply mv_drewN | apply mv_drew | apply mv_st | apply mv_alloc))) G9.out) ((escJ_one HF.out HN.out).trans (point_no HY.out)) HM.out⟩
              | true =>
                have HC := hid hC
                have HN : Hid (55296 ≤ n ∧ n < 56320 ∧ t.take 2 = [92, 117]) := hid ⟨hA, hB, by have := HC.out; unfold hasP at this; simpa using this⟩
                have ht2 : t = 92 :: 117 :: t.drop 2 := by have := hasP_eq HC.out; simpa using this
                have hle3 : p2.length + 2 ≤ 1000000 := by have := congrArg List.length ht2; have h2 := HLEN2.out; simp at this; omega
                obtain ⟨t2, HT2⟩ : ∃ t2, Hid (t.drop 2 = t2) := ⟨_, hid rfl⟩
                have ST2 : Hid (∀ W, w.grownBy W (some R) → RdO 58 [] W R s p2.length → w.grownBy (W.setCell ⟨R, 1, none⟩ (.int .i64 ((p2.length : Int) + 2))) (some R) ∧ JRd (W.setCell ⟨R, 1, none⟩ (.int .i64 ((p2.length : Int) + 2))) R s t2) :=
                  hid fun W g o => ⟨mv_st g, p2 ++ [92, 117], by rw [HE2.out]; have := ht2; rw [HT2.out] at this; rw [this]; simp, o.setN _ _ (by simp)⟩
                clear hC ht2
                go_wp2_with fail
                go_quiet ((go_at_call 15; exact prefU_quiet t true HC.out _ _))
                go_wp2_with fail
                refine (jfour_from (ST2.out _ (mv_trans M2.out (by repeat (first | exact mv_refl _ _ | assumption | apply mv_drewN | apply mv_drew | apply mv_st | apply mv_alloc))) (HO2.out.drewN _)) hs).mono ?_
                intro e w3 hp3
                cases hf3 : fourJ 4 0 t2 with
                | error q =>
                  obtain ⟨ec, ek⟩ := q
                  rw [hf3] at hp3
                  obtain ⟨gm, rfl⟩ := hp3.bad
                  exact ⟨rfl, JRdP.no gm (by rw [escJ_two HF.out HN.out, HT2.out, hf3]; rfl) rfl⟩
                | ok q =>
                  obtain ⟨low, u⟩ := q
                  rw [hf3] at hp3
                  obtain ⟨gm, v, rfl, rfl, hr⟩ := hp3.ok
                  have M4 := hid gm
                  have hlow := fourJ_lt hf3
                  have HR := hid hr
                  have HF3 : Hid (escJ m (117 :: r) = if 56320 ≤ low ∧ low ≤ 57343 then pointJ m (65536 + (n - 55296) * 1024 + (low - 56320)) u else .error (3, m)) := hid (by rw [escJ_two HF.out HN.out, HT2.out, hf3, jnext_pos])
                  clear hr hf3 hp3 gm d0 d1 y1
                  by_cases h1 : low < 56320
                  · have h1i : (low : Int) < 56320 := by omega
                    go_wp2_with fail
                    refine (jthrow_any _ _ _ _).mono ?_
                    rintro e w10 ⟨rfl, rfl⟩
                    exact ⟨rfl, JRdP.no M4.out (by rw [HF3.out, if_neg (by omega)]) HM.out⟩
                  · have h1i : ¬ (low : Int) < 56320 := by omega
                    by_cases h2 : 57343 < low
                    · have h2i : (57343 : Int) < (low : Int) := by omega
                      go_wp2_with fail
                      refine (jthrow_any _ _ _ _).mono ?_
                      rintro e w10 ⟨rfl, rfl⟩
                      exact ⟨rfl, JRdP.no M4.out (by rw [HF3.out, if_neg (by omega)]) HM.out⟩
                    · have h2i : ¬ (57343 : Int) < (low : Int) := by omega
                      have b1 : decide ((low : Int) < 56320) = false := decide_eq_false h1i
                      have b2 : decide ((57343 : Int) < (low : Int)) = false := decide_eq_false h2i
                      have b3 : decide (low < 56320) = false := decide_eq_false h1
                      have b4 : decide (57343 < low) = false := decide_eq_false h2
                      obtain ⟨N, HN4⟩ : ∃ N, Hid (65536 + (n - 55296) * 1024 + (low - 56320) = N) := ⟨_, hid rfl⟩
                      have HF4 : Hid (escJ m (117 :: r) = pointJ m N u) := hid (by rw [HF3.out, if_pos (by omega), HN4.out])
                      have HW : Hid ((0 : Int) ≤ (n : Int) - 55296 ∧ (n : Int) - 55296 ≤ 1023 ∧ (56320 : Int) ≤ (low : Int) ∧ (low : Int) ≤ 57343) := hid (by omega)
                      have HNN : Hid (65536 + ((n : Int) - 55296) * 1024 + (low : Int) - 56320 = (N : Int)) := hid (by rw [← HN4.out]; omega)
                      clear hAi hAd hAn hBi hBd hBn hn hlow hA hB h1 h2 h1i h2i
                      go_upto_region 22 with fail
                      clear b1 b2 b3 b4
                      obtain ⟨w1, w2', w3', w4⟩ := HW.out
                      go_wp2_with fail
                      cases hmay : mayB ((N : Nat) : Int) with
                      | true =>
                        have HY := hid hmay
                        clear hmay
                        refine (pointV_any _ (N) HNN.out _ HY.out).use ?_
                        intro w9 g9
                        have G9 := hid g9
                        clear g9
                        go_wp2_with fail
                        go_ret
                        exact JRdP.yes (mv_g M4.out G9.out) (HF4.out.trans (point_yes HY.out)) rfl ((HR.out).grow G9.out)
                      | false =>
                        have HY := hid hmay
                        clear hmay
                        refine (pointV_bad _ (N) HNN.out _ HY.out).use ?_
                        intro w9 g9
                        have G9 := hid g9
                        clear g9
                        go_wp2_with fail
                        refine (jthrow_any _ _ _ _).mono ?_
                        rintro e w10 ⟨rfl, rfl⟩
                        exact ⟨rfl, JRdP.no (mv_g M4.out G9.out) (HF4.out.trans (point_no HY.out)) HM.out⟩
            · have hBi : ¬ (n : Int) < 56320 := by omega
              have hBd : decide ((n : Int) < 56320) = false := decide_eq_false hBi
              have hBn : decide (n < 56320) = false := decide_eq_false hB
              have HN : Hid (¬ (55296 ≤ n ∧ n < 56320 ∧ t.take 2 = [92, 117])) := hid (fun ⟨h1, h2, _⟩ => hB h2)
              go_wp2_with fail
              go_quiet (fail)
              go_wp2_with fail
              cases hmay : mayB ((n : Nat) : Int) with
              | true =>
                have HY := hid hmay
                clear hmay
                refine (pointV_any _ (n) rfl _ HY.out).use ?_
                intro w9 g9
                have G9 := hid g9
                clear g9
                go_wp2_with fail
                go_ret
                exact JRdP.yes (mv_g (mv_trans M2.out (by repeat (first | exact mv_refl _ _ | assumption | apply mv_drewN | apply mv_drew | apply mv_st | apply mv_alloc))) G9.out) ((escJ_one HF.out HN.out).trans (point_yes HY.out)) rfl ((show JRd (w2.drewN _) R s t from ⟨p2, HE2.out, HO2.out.drewN _⟩).grow G9.out)
              | false =>
                have HY := hid hmay
                clear hmay
                refine (pointV_bad _ (n) rfl _ HY.out).use ?_
                intro w9 g9
                have G9 := hid g9
                clear g9
                go_wp2_with fail
                refine (jthrow_any _ _ _ _).mono ?_
                rintro e w10 ⟨rfl, rfl⟩
                exact ⟨rfl, JRdP.no (mv_g (mv_trans M2.out (by repeat (first | exact mv_refl _ _ | assumption | apply mv_drewN | apply mv_drew | apply mv_st | apply mv_alloc))) G9.out) ((escJ_one HF.out HN.out).trans (point_no HY.out)) HM.out⟩
          · have hAi : ¬ (55296 : Int) ≤ (n : Int) := by omega
            have hAd : decide ((55296 : Int) ≤ (n : Int)) = false := decide_eq_false hAi
            have hAn : decide (55296 ≤ n) = false := decide_eq_false hA
            have HN : Hid (¬ (55296 ≤ n ∧ n < 56320 ∧ t.take 2 = [92, 117])) := hid (fun ⟨h1, h2, _⟩ => hA h1)
            go_wp2_with fail
            go_quiet (fail)
            go_wp2_with fail
            cases hmay : mayB ((n : Nat) : Int) with
            | true =>
              have HY := hid hmay
              clear hmay
              refine (pointV_any _ (n) rfl _ HY.out).use ?_
              intro w9 g9
              have G9 := hid g9
              clear g9
              go_wp2_with fail
              go_ret
              exact JRdP.yes (mv_g (mv_trans M2.out (by repeat (first | exact mv_refl _ _ | assumption | apply mv_drewN | apply mv_drew | apply mv_st | apply mv_alloc))) G9.out) ((escJ_one HF.out HN.out).trans (point_yes HY.out)) rfl ((show JRd (w2.drewN _) R s t from ⟨p2, HE2.out, HO2.out.drewN _⟩).grow G9.out)
            | false =>
              have HY := hid hmay
              clear hmay
              refine (pointV_bad _ (n) rfl _ HY.out).use ?_
              intro w9 g9
              have G9 := hid g9
              clear g9
              go_wp2_with fail
              refine (jthrow_any _ _ _ _).mono ?_
              rintro e w10 ⟨rfl, rfl⟩
              exact ⟨rfl, JRdP.no (mv_g (mv_trans M2.out (by repeat (first | exact mv_refl _ _ | assumption | apply mv_drewN | apply mv_drew | apply mv_st | apply mv_alloc))) G9.out) ((escJ_one HF.out HN.out).trans (point_no HY.out)) HM.out⟩
      · have k117 : (c.toNat == 117) = false := beq_eq_false_iff_ne.2 fun e => h117 (UInt8.toNat_inj.1 e)
        have i117 : ((c.toNat : Int) == 117) = false := beq_eq_false_iff_ne.2 fun e => h117 (UInt8.toNat_inj.1 (by simp; omega))
        have H117 := hid h117
        clear h117 hlen
        go_enter Tryd.func44, Tryd.ntmps44
        go_wp2_with fail
        go_quiet (fail)
        go_wp2_with fail
        go_quiet (fail)
        go_wp2_with fail
        go_loopw [6] (fun kv wr => ∃ i : Nat, i ≤ 7 ∧ kv = .int .i64 ((2 * i + 1 : Nat) : Int) ∧ (∀ j : Nat, j < i → c ≠ [34, 92, 98, 102, 110, 114, 116].getD j 0) ∧ w.grownBy wr (some R) ∧ RdO 58 [] wr R s p.length) (fun kv _ => 15 - (intOf kv).toNat)
        case atStart => exact ⟨0, by omega, rfl, fun j h => by omega, (by repeat (first | exact mv_refl _ _ | assumption | apply mv_drewN | apply mv_drew | apply mv_st | apply mv_alloc)), HO.out.drewN _⟩
        case round =>
          obtain ⟨i, hi, rfl, hne, gm, hr⟩ := hrel
          have GM := hid gm
          have d0 := hr.c0
          have d1 := hr.c1
          have y1 := hr.fz 1
          have HR := hid hr
          have HNE := hid hne
          clear gm hr hne c0 c1 z1
          obtain hi : i = 0 ∨ i = 1 ∨ i = 2 ∨ i = 3 ∨ i = 4 ∨ i = 5 ∨ i = 6 ∨ i = 7 := by omega
          rcases hi with rfl | rfl | rfl | rfl | rfl | rfl | rfl | rfl
          · have ix : ((⟨#[34, 34, 92, 92, 8, 98, 12, 102, 10, 110, 13, 114, 9, 116]⟩ : ByteArray)[1]'(by decide)) = (34 : UInt8) := rfl
            by_cases hcl : c = 34
            · subst hcl
              go_wp2_with fail
              go_ret
              exact JRdP.yes (ST.out _ GM.out HR.out).1 (escJ_long (d := 34) (by decide) (by decide)) rfl (ST.out _ GM.out HR.out).2
            · have kc : (34 == c.toNat) = false := beq_eq_false_iff_ne.2 fun e => hcl (UInt8.toNat_inj.1 e.symm)
              have ic : ((34 : Int) == (c.toNat : Int)) = false := beq_eq_false_iff_ne.2 fun e => hcl (UInt8.toNat_inj.1 (by simp; omega))
              have HCL := hid hcl
              clear hcl
              go_wp2_with fail
              go_roundw
              case rel => exact ⟨1, by omega, by simp, fun j hj => (Nat.lt_succ_iff_lt_or_eq.1 hj).elim (HNE.out j) (fun e => by subst e; exact HCL.out), GM.out, HR.out⟩
              case measure => simp [intOf]
          · have ix : ((⟨#[34, 34, 92, 92, 8, 98, 12, 102, 10, 110, 13, 114, 9, 116]⟩ : ByteArray)[3]'(by decide)) = (92 : UInt8) := rfl
            by_cases hcl : c = 92
            · subst hcl
              go_wp2_with fail
              go_ret
              exact JRdP.yes (ST.out _ GM.out HR.out).1 (escJ_long (d := 92) (by decide) (by decide)) rfl (ST.out _ GM.out HR.out).2
            · have kc : (92 == c.toNat) = false := beq_eq_false_iff_ne.2 fun e => hcl (UInt8.toNat_inj.1 e.symm)
              have ic : ((92 : Int) == (c.toNat : Int)) = false := beq_eq_false_iff_ne.2 fun e => hcl (UInt8.toNat_inj.1 (by simp; omega))
              have HCL := hid hcl
              clear hcl
              go_wp2_with fail
              go_roundw
              case rel => exact ⟨2, by omega, by simp, fun j hj => (Nat.lt_succ_iff_lt_or_eq.1 hj).elim (HNE.out j) (fun e => by subst e; exact HCL.out), GM.out, HR.out⟩
              case measure => simp [intOf]
          · have ix : ((⟨#[34, 34, 92, 92, 8, 98, 12, 102, 10, 110, 13, 114, 9, 116]⟩ : ByteArray)[5]'(by decide)) = (98 : UInt8) := rfl
            by_cases hcl : c = 98
            · subst hcl
              go_wp2_with fail
              go_ret
              exact JRdP.yes (ST.out _ GM.out HR.out).1 (escJ_long (d := 8) (by decide) (by decide)) rfl (ST.out _ GM.out HR.out).2
            · have kc : (98 == c.toNat) = false := beq_eq_false_iff_ne.2 fun e => hcl (UInt8.toNat_inj.1 e.symm)
              have ic : ((98 : Int) == (c.toNat : Int)) = false := beq_eq_false_iff_ne.2 fun e => hcl (UInt8.toNat_inj.1 (by simp; omega))
              have HCL := hid hcl
              clear hcl
              go_wp2_with fail
              go_roundw
              case rel => exact ⟨3, by omega, by simp, fun j hj => (Nat.lt_succ_iff_lt_or_eq.1 hj).elim (HNE.out j) (fun e => by subst e; exact HCL.out), GM.out, HR.out⟩
              case measure => simp [intOf]
          · have ix : ((⟨#[34, 34, 92, 92, 8, 98, 12, 102, 10, 110, 13, 114, 9, 116]⟩ : ByteArray)[7]'(by decide)) = (102 : UInt8) := rfl
            by_cases hcl : c = 102
            · subst hcl
              go_wp2_with fail
              go_ret
              exact JRdP.yes (ST.out _ GM.out HR.out).1 (escJ_long (d := 12) (by decide) (by decide)) rfl (ST.out _ GM.out HR.out).2
            · have kc : (102 == c.toNat) = false := beq_eq_false_iff_ne.2 fun e => hcl (UInt8.toNat_inj.1 e.symm)
              have ic : ((102 : Int) == (c.toNat : Int)) = false := beq_eq_false_iff_ne.2 fun e => hcl (UInt8.toNat_inj.1 (by simp; omega))
              have HCL := hid hcl
              clear hcl
              go_wp2_with fail
              go_roundw
              case rel => exact ⟨4, by omega, by simp, fun j hj => (Nat.lt_succ_iff_lt_or_eq.1 hj).elim (HNE.out j) (fun e => by subst e; exact HCL.out), GM.out, HR.out⟩
              case measure => simp [intOf]
          · have ix : ((⟨#[34, 34, 92, 92, 8, 98, 12, 102, 10, 110, 13, 114, 9, 116]⟩ : ByteArray)[9]'(by decide)) = (110 : UInt8) := rfl
            by_cases hcl : c = 110
            · subst hcl
              go_wp2_with fail
              go_ret
              exact JRdP.yes (ST.out _ GM.out HR.out).1 (escJ_long (d := 10) (by decide) (by decide)) rfl (ST.out _ GM.out HR.out).2
            · have kc : (110 == c.toNat) = false := beq_eq_false_iff_ne.2 fun e => hcl (UInt8.toNat_inj.1 e.symm)
              have ic : ((110 : Int) == (c.toNat : Int)) = false := beq_eq_false_iff_ne.2 fun e => hcl (UInt8.toNat_inj.1 (by simp; omega))
              have HCL := hid hcl
              clear hcl
              go_wp2_with fail
              go_roundw
              case rel => exact ⟨5, by omega, by simp, fun j hj => (Nat.lt_succ_iff_lt_or_eq.1 hj).elim (HNE.out j) (fun e => by subst e; exact HCL.out), GM.out, HR.out⟩
              case measure => simp [intOf]
          · have ix : ((⟨#[34, 34, 92, 92, 8, 98, 12, 102, 10, 110, 13, 114, 9, 116]⟩ : ByteArray)[11]'(by decide)) = (114 : UInt8) := rfl
            by_cases hcl : c = 114
            · subst hcl
              go_wp2_with fail
              go_ret
              exact JRdP.yes (ST.out _ GM.out HR.out).1 (escJ_long (d := 13) (by decide) (by decide)) rfl (ST.out _ GM.out HR.out).2
            · have kc : (114 == c.toNat) = false := beq_eq_false_iff_ne.2 fun e => hcl (UInt8.toNat_inj.1 e.symm)
              have ic : ((114 : Int) == (c.toNat : Int)) = false := beq_eq_false_iff_ne.2 fun e => hcl (UInt8.toNat_inj.1 (by simp; omega))
              have HCL := hid hcl
              clear hcl
              go_wp2_with fail
              go_roundw
              case rel => exact ⟨6, by omega, by simp, fun j hj => (Nat.lt_succ_iff_lt_or_eq.1 hj).elim (HNE.out j) (fun e => by subst e; exact HCL.out), GM.out, HR.out⟩
              case measure => simp [intOf]
          · have ix : ((⟨#[34, 34, 92, 92, 8, 98, 12, 102, 10, 110, 13, 114, 9, 116]⟩ : ByteArray)[13]'(by decide)) = (116 : UInt8) := rfl
            by_cases hcl : c = 116
            · subst hcl
              go_wp2_with fail
              go_ret
              exact JRdP.yes (ST.out _ GM.out HR.out).1 (escJ_long (d := 9) (by decide) (by decide)) rfl (ST.out _ GM.out HR.out).2
            · have kc : (116 == c.toNat) = false := beq_eq_false_iff_ne.2 fun e => hcl (UInt8.toNat_inj.1 e.symm)
              have ic : ((116 : Int) == (c.toNat : Int)) = false := beq_eq_false_iff_ne.2 fun e => hcl (UInt8.toNat_inj.1 (by simp; omega))
              have HCL := hid hcl
              clear hcl
              go_wp2_with fail
              go_roundw
              case rel => exact ⟨7, by omega, by simp, fun j hj => (Nat.lt_succ_iff_lt_or_eq.1 hj).elim (HNE.out j) (fun e => by subst e; exact HCL.out), GM.out, HR.out⟩
              case measure => simp [intOf]
          · have HL : Hid (longJ c = none) := hid (long_none H47.out ⟨HNE.out 0 (by omega), HNE.out 1 (by omega), HNE.out 2 (by omega), HNE.out 3 (by omega), HNE.out 4 (by omega), HNE.out 5 (by omega), HNE.out 6 (by omega)⟩)
            go_wp2_with fail
            refine (jthrow_any _ _ _ _).mono ?_
            rintro e w10 ⟨rfl, rfl⟩
            exact ⟨rfl, JRdP.no GM.out (escJ_none H117.out HL.out) HQ.out⟩

end Go.Proofs.YtlejbindochiiaaDoor
