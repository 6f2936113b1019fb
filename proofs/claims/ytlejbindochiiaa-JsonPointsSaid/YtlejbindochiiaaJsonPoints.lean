/-
  THE WALK of JsonPoints.
-/
import Derived.Test.YtlejbindochiiaaJsonNoted
import Derived.Test.YtlejbindochiiaaJsonMore
import Derived.Test.YtlejbindochiiaaUtfF
namespace Go.Proofs.Ytlejbindochiiaa
open Go.RowKit
set_option linter.unusedVariables false
set_option linter.unusedSimpArgs false

def hexS : List UInt8 := [48, 49, 50, 51, 52, 53, 54, 55, 56, 57, 97, 98, 99, 100, 101, 102]
theorem hexS_at (n : Nat) (h : n < (S hexS).size) : (S hexS)[n]'h = hexJ n := by
  have h16 : n < 16 := by simpa [hexS] using h
  have key : ∀ m : Fin 16, (S hexS)[m.1]'(by have := m.2; simp [hexS]) = hexJ m.1 := by decide +kernel
  exact key ⟨n, h16⟩
theorem hexS_lit (n : Nat) (h : n < (⟨#[48, 49, 50, 51, 52, 53, 54, 55, 56, 57, 97, 98, 99, 100, 101, 102]⟩ : ByteArray).size) : (⟨#[48, 49, 50, 51, 52, 53, 54, 55, 56, 57, 97, 98, 99, 100, 101, 102]⟩ : ByteArray)[n]'h = hexJ n := hexS_at n h
theorem mask15 (x : Int) (n d : Nat) (hx : x = (n : Int)) (hn : n < 65536) (hd : n % 16 = d) : bits .and .i64 x 15 = (d : Int) := by
  rw [i64_mask 4 (by decide) x 15 (by omega) (by omega) (by decide)]; omega
set_option maxRecDepth 100000 in
set_option maxHeartbeats 2000000 in
theorem four_any (n : Nat) (hn : n < 65536) (w : World) : Gives 15 #[.int .i64 (n : Int)] w (.string (S (uJ n))) := by
  obtain ⟨d0, h0⟩ : ∃ d, n % 16 = d := ⟨_, rfl⟩
  obtain ⟨d1, h1⟩ : ∃ d, n / 16 % 16 = d := ⟨_, rfl⟩
  obtain ⟨d2, h2⟩ : ∃ d, n / 256 % 16 = d := ⟨_, rfl⟩
  obtain ⟨d3, h3⟩ : ∃ d, n / 4096 % 16 = d := ⟨_, rfl⟩
  have m0 := mask15 (n : Int) n d0 rfl hn h0
  have m1 := mask15 ((n : Int) / 16) (n / 16) d1 (by omega) (by omega) h1
  have m2 := mask15 ((n : Int) / 256) (n / 256) d2 (by omega) (by omega) h2
  have m3 := mask15 ((n : Int) / 4096) (n / 4096) d3 (by omega) (by omega) h3
  have l0 : d0 < 16 := by omega
  have l1 : d1 < 16 := by omega
  have l2 : d2 < 16 := by omega
  have l3 : d3 < 16 := by omega
  have i0 : (d0 : Int) < 16 := by omega
  have i1 : (d1 : Int) < 16 := by omega
  have i2 : (d2 : Int) < 16 := by omega
  have i3 : (d3 : Int) < 16 := by omega
  have hE := hexS_lit
  have HU : Hid (uJ n = [92, 117, hexJ d3, hexJ d2, hexJ d1, hexJ d0]) := hid (by unfold uJ; rw [h0, h1, h2, h3])
  have hni : (n : Int) < 65536 := by omega
  have hcv : (convert 42 9 (.slice (some ⟨w.heap.size, 0, none⟩) 4 4)).run Try.prog (w.alloc (.cells #[.int .u8 ((hexJ d3).toNat : Int), .int .u8 ((hexJ d2).toNat : Int), .int .u8 ((hexJ d1).toNat : Int), .int .u8 ((hexJ d0).toNat : Int)] 5)).drew = .ok (.string (S [hexJ d3, hexJ d2, hexJ d1, hexJ d0])) (w.alloc (.cells #[.int .u8 ((hexJ d3).toNat : Int), .int .u8 ((hexJ d2).toNat : Int), .int .u8 ((hexJ d1).toNat : Int), .int .u8 ((hexJ d0).toNat : Int)] 5)).drew := by
    have := run_conv4 (P := Try.prog) w.drew 42 9 5 ((hexJ d3).toNat : Int) ((hexJ d2).toNat : Int) ((hexJ d1).toNat : Int) ((hexJ d0).toNat : Int) Try.underlying42 Try.underlying5 Try.underlying9
    simp only [Int.toNat_natCast, UInt8.ofNat_toNat] at this
    exact this
  clear h0 h1 h2 h3
  go_enter Try.func15, Try.ntmps15
  go_wp2_with fail
  go_region
  all_goals go_wp2_with fail
  all_goals go_ret
  all_goals exact ⟨by rw [HU.out]; rfl, (by repeat (first | exact G.refl _ | assumption | apply G.drew | apply G.drewN | apply G.alloc | refine G.trans ?_ (by assumption)))⟩
theorem pts_few {s : List UInt8} (h : badL s = none) : (ptsL s).length ≤ s.length := by
  have key : ∀ ps : List Int, ps.length ≤ (ps.flatMap pointL).length := by
    intro ps
    induction ps with
    | nil => simp
    | cons p ps ih => have := (pointL_len p).1; simp only [List.flatMap_cons, List.length_append, List.length_cons]; omega
  have := key (ptsL s)
  rwa [pts_join h] at this
theorem flat_next {ps : List Int} {j : Nat} {p : Int} (hj : j < ps.length) (hp : ps[j] = p) : 34 :: ((ps.take (j + 1)).flatMap ptJ) = (34 :: ((ps.take j).flatMap ptJ)) ++ ptJ p := by
  rw [List.take_add_one, List.getElem?_eq_getElem hj, hp]; simp
theorem flat_few (ps : List Int) (j : Nat) : ((ps.take j).flatMap ptJ).length ≤ 12 * ps.length := by
  have := (flat_len (ps.take j)).2
  rw [List.length_take] at this; omega
theorem mask1023 (q b : Nat) (hq : q < 1048576) (hb : q % 1024 = b) : bits .and .i64 (q : Int) 1023 = (b : Int) := by
  rw [i64_mask 10 (by decide) (q : Int) 1023 (by omega) (by omega) (by decide)]; omega
set_option maxRecDepth 100000 in
set_option maxHeartbeats 4000000 in
theorem jsonPoints_walk (s : List UInt8) (w : World) (hs : s.length ≤ 140737488351232) : Gives 5 #[.string (S s)] w (.bool true) := by
  by_cases hl : 150 < s.length
  · have hd : decide ((150 : Int) < (s.length : Int)) = true := decide_eq_true (by omega)
    clear hl
    go_enter Try.func5, Try.ntmps5
    go_wp2_with fail
    refine (noted_any _).use ?_; intro w1 g1
    go_wp2_with fail
    refine (pointed_any _).use ?_; intro w2 g2
    go_wp2_with fail
    go_ret
    exact ⟨rfl, (by repeat (first | exact G.refl _ | assumption | apply G.drew | apply G.drewN | apply G.alloc | refine G.trans ?_ (by assumption)))⟩
  · have hd : decide ((150 : Int) < (s.length : Int)) = false := decide_eq_false (by omega)
    have hs2 : s.length ≤ 150 := by omega
    clear hl
    cases hb : badL s with
    | some i =>
      have PW := hid (fun W => pts_wrong s i W (by omega) hb)
      clear hb
      go_enter Try.func5, Try.ntmps5
      go_wp2_with fail
      refine (noted_any _).use ?_; intro w1 g1
      go_wp2_with fail
      refine (pointed_any _).use ?_; intro w2 g2
      go_wp2_with fail
      refine (PW.out w2).use ?_
      rintro v w3 ⟨e, rfl, b, rfl, _⟩ g3
      have G3 := hid (g1.trans (g2.trans g3))
      clear g1 g2 g3
      go_wp2_with fail
      go_ret
      exact ⟨rfl, G3.out⟩
    | none =>
      have PG := hid (fun W => pts_good s W (by omega) hb)
      have hf := pts_few hb
      have hm := pts_may hb
      have RP := hid (fun W => read_good (read_pts hb (by omega)) W)
      obtain ⟨ps, hps⟩ : ∃ ps, ptsL s = ps := ⟨_, rfl⟩
      rw [hps] at PG hf hm RP
      have HM := hid hm
      have hpl : ps.length ≤ 150 := by omega
      clear hb hf hm hps
      go_enter Try.func5, Try.ntmps5
      go_wp2_with fail
      refine (noted_any _).use ?_; intro w1 g1
      go_wp2_with fail
      refine (pointed_any _).use ?_; intro w2 g2
      go_wp2_with fail
      refine (PG.out w2).use ?_
      rintro v w3 ⟨sv, rfl, hi⟩ g3
      have HI := hid hi
      have G3 := hid (g1.trans (g2.trans g3))
      obtain ⟨sa, sc, rfl⟩ := hi.len
      clear g1 g2 g3 hi
      go_wp2_with fail
      go_loopw [6, 8, 29] (fun tv _ i wr => ∃ j : Nat, i = .int .i64 (j : Int) ∧ tv = .string (S (34 :: ((ps.take j).flatMap ptJ))) ∧ j ≤ ps.length ∧ G w3 wr) (fun _ _ i _ => ps.length - (intOf i).toNat)
      case atStart => exact ⟨0, rfl, rfl, by omega, G.refl _⟩
      case round =>
        obtain ⟨j, rfl, rfl, hj, hg⟩ := hrel
        have GR := hid hg
        clear hg
        by_cases hlt : j < ps.length
        · obtain ⟨b, cap, e1, hbl, hc⟩ : ∃ b cap, Value.slice sa ps.length sc = .slice (some ⟨b, 0, none⟩) ps.length cap ∧ b < w3.heap.size ∧ ∀ j (h : j < ps.length), w3.cell? ⟨b, j, none⟩ = some (.int .i64 ps[j]) := by
            rcases HI.out with ⟨_, h1⟩ | ⟨b, cap, h1, h2, _, h3⟩
            · rw [h1] at hlt; simp at hlt
            · exact ⟨b, cap, h1, h2, h3⟩
          injection e1 with e1 _ e3
          subst e1; subst e3
          have hcj := (GR.out.cell (p := ⟨b, j, none⟩) hbl).trans (hc j hlt)
          have hmp := HM.out ps[j] (List.getElem_mem hlt)
          obtain ⟨p, hp⟩ : ∃ p, ps[j] = p := ⟨_, rfl⟩
          have FN := hid (flat_next hlt hp)
          rw [hp] at hcj hmp
          have hm2 : 0 ≤ p ∧ p ≤ 1114111 ∧ (p < 55296 ∨ 57343 < p) := of_decide_eq_true hmp
          obtain ⟨n, rfl⟩ : ∃ n : Nat, p = (n : Int) := ⟨p.toNat, by omega⟩
          have hnl : n ≤ 1114111 := by omega
          have hlti : (j : Int) < (ps.length : Int) := by omega
          have hfl := flat_few ps j
          obtain ⟨T, hT⟩ : ∃ T, 34 :: ((ps.take j).flatMap ptJ) = T := ⟨_, rfl⟩
          have hTl : T.length ≤ 2000 := by rw [← hT]; simp only [List.length_cons]; omega
          rw [hT] at FN
          rw [hT]
          clear hc hmp hp hfl hT hm2
          by_cases hbig : 65535 < n
          · obtain ⟨q, hq⟩ : ∃ q, n - 65536 = q := ⟨_, rfl⟩
            have hqi : (n : Int) - 65536 = (q : Int) := by omega
            obtain ⟨a, ha⟩ : ∃ a, q / 1024 = a := ⟨_, rfl⟩
            obtain ⟨c, hc⟩ : ∃ c, q % 1024 = c := ⟨_, rfl⟩
            have hai : (q : Int) / 1024 = (a : Int) := by omega
            have hci := mask1023 q c (by omega) hc
            have hal : a < 1024 := by omega
            have hcl : c < 1024 := by omega
            have hbi : decide ((65535 : Int) < (n : Int)) = true := decide_eq_true (by omega)
            have hql : q < 1048576 := by omega
            have F1 : Hid (∀ W, Gives 15 #[.int .i64 (55296 + (a : Int))] W (.string (S (uJ (55296 + a))))) := hid (fun W => by have := four_any (55296 + a) (by omega) W; rwa [show ((55296 + a : Nat) : Int) = 55296 + (a : Int) by simp] at this)
            have F2 : Hid (∀ W, Gives 15 #[.int .i64 (56320 + (c : Int))] W (.string (S (uJ (56320 + c))))) := hid (fun W => by have := four_any (56320 + c) (by omega) W; rwa [show ((56320 + c : Nat) : Int) = 56320 + (c : Int) by simp] at this)
            have HP := hid (show ptJ (n : Int) = uJ (55296 + a) ++ uJ (56320 + c) by unfold ptJ; rw [if_pos (by omega), Int.toNat_natCast, hq, ha, hc])
            have u1 : (uJ (55296 + a)).length = 6 := rfl
            have u2 : (uJ (56320 + c)).length = 6 := rfl
            obtain ⟨x1, hx1⟩ : ∃ x, uJ (55296 + a) = x := ⟨_, rfl⟩
            obtain ⟨x2, hx2⟩ : ∃ x, uJ (56320 + c) = x := ⟨_, rfl⟩
            rw [hx1] at F1 HP u1
            rw [hx2] at F2 HP u2
            clear hq ha hc hbig hx1 hx2
            go_wp2_with fail
            refine (F1.out _).mono ?_
            rintro e w4 ⟨rfl, g4⟩
            have G4 := hid (GR.out.trans g4)
            clear g4
            go_wp2_with fail
            refine (F2.out _).mono ?_
            rintro e w5 ⟨rfl, g5⟩
            have G5 := hid (G4.out.trans g5)
            clear g5
            go_wp2_with fail
            go_roundw
            case rel => exact ⟨j + 1, by simp, by rw [FN.out, HP.out], by omega, G5.out⟩
            case measure => simp [intOf]; omega
          · have hbi : decide ((65535 : Int) < (n : Int)) = false := decide_eq_false (by omega)
            have F1 : Hid (∀ W, Gives 15 #[.int .i64 (n : Int)] W (.string (S (uJ n)))) := hid (fun W => four_any n (by omega) W)
            have HP := hid (show ptJ (n : Int) = uJ n by unfold ptJ; rw [if_neg (by omega), Int.toNat_natCast])
            have u1 : (uJ n).length = 6 := rfl
            obtain ⟨x1, hx1⟩ : ∃ x, uJ n = x := ⟨_, rfl⟩
            rw [hx1] at F1 HP u1
            clear hbig hx1
            go_wp2_with fail
            refine (F1.out _).mono ?_
            rintro e w4 ⟨rfl, g4⟩
            have G4 := hid (GR.out.trans g4)
            clear g4
            go_wp2_with fail
            go_roundw
            case rel => exact ⟨j + 1, by simp, by rw [FN.out, HP.out], by omega, G4.out⟩
            case measure => simp [intOf]; omega
        · obtain rfl : j = ps.length := by omega
          have hno : ¬ (ps.length : Int) < (ps.length : Int) := by omega
          have hfl := flat_few ps ps.length
          rw [List.take_length] at hfl ⊢
          obtain ⟨F, hF⟩ : ∃ F, ps.flatMap ptJ = F := ⟨_, rfl⟩
          rw [hF] at hfl RP ⊢
          have hfl2 : F.length ≤ 1900 := by omega
          have hfl3 : (34 :: F).length ≤ 1901 := by simp only [List.length_cons]; omega
          clear hlt hj hfl hF
          go_wp2_with fail
          refine (RP.out _).use ?_
          rintro v w4 ⟨u, rfl, hu⟩ g4
          obtain ⟨ka, kc, la, lc, rfl⟩ := hu.shape4
          simp only [Jt.kind, Jt.text, Jt.keys, Jt.list, List.length_nil]
          have G4 := hid (G3.out.trans (GR.out.trans g4))
          clear hu g4
          go_wp2_with fail
          go_ret
          exact ⟨rfl, (by repeat (first | exact G.refl _ | assumption | apply G.drew | apply G.drewN | apply G.alloc | refine G.trans ?_ (by assumption)))⟩

end Go.Proofs.Ytlejbindochiiaa
