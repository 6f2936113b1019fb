/-
  CONTRACT of value.Holds.
-/
import Derived.Test.YtccaknanagmmhaaGreatMUtf
import Derived.Test.YtccaknanagmmhaaGreatCode
import Derived.Test.YtccaknanagmmhaaGreatUriR
namespace Go.Proofs.YtccaknanagmmhaaGreat
open Go.RowKit
set_option linter.unusedVariables false
set_option linter.unusedSimpArgs false

set_option maxRecDepth 100000 in
set_option maxHeartbeats 1000000 in
theorem holds_any (s : List UInt8) (lines : Bool) (w : World) (hs : s.length ≤ 1000000) : Pure 18 #[.string (S s), .bool lines] w (.bool (holdsB s lines)) := by
  have hbad := fun W => bad_any s W (by omega)
  have HB := hid hbad
  obtain ⟨o, ho⟩ : ∃ o, badL s = o := ⟨_, rfl⟩
  rw [ho] at HB
  have HO := hid ho
  clear hbad ho
  cases lines with
  | false =>
    go_enter Tryz.func18, Tryz.ntmps18
    go_wp2_with fail
    go_loop [9] (fun i => ∃ k : Nat, k ≤ s.length ∧ i = .int .i64 k ∧ (s.take k).all (txtP false) = true) (fun i => s.length - (intOf i).toNat)
    case atStart => exact ⟨0, Nat.zero_le _, rfl, rfl⟩
    case round =>
      obtain ⟨k, hk, rfl, hr⟩ := hrel
      have HR := hid hr; clear hr
      by_cases hlt : k < s.length
      case neg =>
        have HA := hid (all_end HR.out (by omega))
        cases o with
        | none =>
          go_wp2_with fail
          refine (HB.out _).use ?_
          simp only [badV]
          go_wp2_with fail
          go_ret
          exact ⟨ret_bool (holds_yes HA.out HO.out).symm, rfl⟩
        | some p =>
          go_wp2_with fail
          refine (HB.out _).use ?_
          simp only [badV]
          go_wp2_with fail
          go_ret
          exact ⟨ret_bool (holds_bad HO.out).symm, rfl⟩
      have hb := s[k].toNat_lt
      go_wp2_with fail
      all_goals try (go_ret; refine ⟨ret_bool (holds_no (all_at hlt (by unfold txtP; rw [decide_eq_false_iff_not]; (try simp only [Bool.false_eq_true, and_false, or_false, and_true]); ((try simp only [beq_iff_eq, beq_eq_false_iff_ne, bne_iff_ne, bne_eq_false_iff_eq, Bool.not_eq_true, ne_eq] at *); omega)))).symm, rfl⟩; done)
      all_goals go_round
      all_goals try (case measure => simp [intOf]; omega)
      all_goals exact ⟨k + 1, by omega, by go_num, all_step HR.out hlt (by unfold txtP; rw [decide_eq_true_iff]; (try simp only [Bool.false_eq_true, and_false, or_false, and_true]); ((try simp only [beq_iff_eq, beq_eq_false_iff_ne, bne_iff_ne, bne_eq_false_iff_eq, Bool.not_eq_true, ne_eq] at *); omega))⟩

  | true =>
    go_enter Tryz.func18, Tryz.ntmps18
    go_wp2_with fail
    go_loop [9] (fun i => ∃ k : Nat, k ≤ s.length ∧ i = .int .i64 k ∧ (s.take k).all (txtP true) = true) (fun i => s.length - (intOf i).toNat)
    case atStart => exact ⟨0, Nat.zero_le _, rfl, rfl⟩
    case round =>
      obtain ⟨k, hk, rfl, hr⟩ := hrel
      have HR := hid hr; clear hr
      by_cases hlt : k < s.length
      case neg =>
        have HA := hid (all_end HR.out (by omega))
        cases o with
        | none =>
          go_wp2_with fail
          refine (HB.out _).use ?_
          simp only [badV]
          go_wp2_with fail
          go_ret
          exact ⟨ret_bool (holds_yes HA.out HO.out).symm, rfl⟩
        | some p =>
          go_wp2_with fail
          refine (HB.out _).use ?_
          simp only [badV]
          go_wp2_with fail
          go_ret
          exact ⟨ret_bool (holds_bad HO.out).symm, rfl⟩
      have hb := s[k].toNat_lt
      go_wp2_with fail
      all_goals try (go_ret; refine ⟨ret_bool (holds_no (all_at hlt (by unfold txtP; rw [decide_eq_false_iff_not]; (try simp only [Bool.false_eq_true, and_false, or_false, and_true]); ((try simp only [beq_iff_eq, beq_eq_false_iff_ne, bne_iff_ne, bne_eq_false_iff_eq, Bool.not_eq_true, ne_eq] at *); omega)))).symm, rfl⟩; done)
      all_goals go_round
      all_goals try (case measure => simp [intOf]; omega)
      all_goals exact ⟨k + 1, by omega, by go_num, all_step HR.out hlt (by unfold txtP; rw [decide_eq_true_iff]; (try simp only [Bool.false_eq_true, and_false, or_false, and_true]); ((try simp only [beq_iff_eq, beq_eq_false_iff_ne, bne_iff_ne, bne_eq_false_iff_eq, Bool.not_eq_true, ne_eq] at *); omega))⟩


end Go.Proofs.YtccaknanagmmhaaGreat
