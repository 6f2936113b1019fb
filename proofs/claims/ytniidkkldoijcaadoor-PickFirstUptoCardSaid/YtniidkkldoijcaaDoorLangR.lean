/-
  CONTRACT of lang.Right, and what it asks of a text. Languages as their pieces.
-/
import Derived.Test.YtniidkkldoijcaaDoorMErr
namespace Go.Proofs.YtniidkkldoijcaaDoor
open Go.RowKit
set_option linter.unusedVariables false
set_option linter.unusedSimpArgs false

/-- whether a byte may stand in a piece: in the first one no digits -/
def pieceB (first : Bool) (c : UInt8) : Bool := letterB c.toNat && !(first && decide ((c.toNat : Int) ≤ 57))
def scanL (first : Bool) (cur : Nat) : List UInt8 → Bool
  | [] => decide (1 ≤ cur ∧ cur ≤ 8)
  | c :: t => if c = 45 then decide (1 ≤ cur ∧ cur ≤ 8) && scanL false 0 t else pieceB first c && scanL first (cur + 1) t
def langB (s : List UInt8) : Bool := scanL true 0 s

theorem isName_one (c : UInt8) : isNameL [c] = letterB c.toNat := by unfold isNameL; simp

def LangPost (s : List UInt8) (v : Value) (w' : World) : Prop :=
  if langB s = true then v = .nilIface else ∃ e p, IsAt w' v e p
theorem LangPost.yes {s : List UInt8} {w' : World} (h : langB s = true) : LangPost s .nilIface w' := by unfold LangPost; rw [if_pos h]
theorem LangPost.no {s : List UInt8} {v : Value} {w' : World} {e p : Int} (h : langB s = false) (hv : IsAt w' v e p) : LangPost s v w' := by unfold LangPost; rw [if_neg (by simp [h])]; exact ⟨e, p, hv⟩
/-- where the loop stands -/
def LangRel (s : List UInt8) (k f : Nat) : Prop := (k ≤ s.length ∧ f ≤ k ∧ langB s = scanL (decide (f = 0)) (k - f) (s.drop k)) ∨ (k = s.length + 1 ∧ langB s = true)

set_option maxRecDepth 100000 in
set_option maxHeartbeats 4000000 in
theorem langRight_any (s : List UInt8) (w : World) (hs : s.length ≤ 100000) : Makes 69 #[.string (S s)] w (LangPost s) := by
  go_enter Tryd.func69, Tryd.ntmps69
  go_wp2
  go_loopw [3, 4] (fun fv iv wr => ∃ (k f : Nat), fv = .int .i64 f ∧ iv = .int .i64 k ∧ f ≤ s.length + 1 ∧ LangRel s k f ∧ G w wr) (fun _ iv _ => s.length + 1 - (intOf iv).toNat)
  case atStart => exact ⟨0, 0, rfl, rfl, by omega, .inl ⟨by omega, by omega, rfl⟩, G.refl _⟩
  case round =>
    obtain ⟨k, f, rfl, rfl, hf, hrel, hg⟩ := hrel
    have HG := hid hg
    clear hg
    by_cases hend : k = s.length + 1
    · rcases hrel with ⟨h, _⟩ | ⟨_, h⟩
      · omega
      · have H := hid h
        subst hend
        clear h hf
        go_wp2_with fail
        go_ret
        exact ⟨_, rfl, LangPost.yes H.out, HG.out⟩
    have hk : k ≤ s.length := by rcases hrel with ⟨h, _⟩ | ⟨h, _⟩ <;> omega
    have hfk : f ≤ k := by rcases hrel with ⟨_, h, _⟩ | ⟨h, _⟩ <;> omega
    have hR : langB s = scanL (decide (f = 0)) (k - f) (s.drop k) := by rcases hrel with ⟨_, _, h⟩ | ⟨h, _⟩; exact h; exact absurd h hend
    have HR := hid hR
    clear hrel hR hend
    -- what an end of a piece does
    by_cases hin : k < s.length
    · obtain ⟨c, hc⟩ : ∃ c, s[k]'hin = c := ⟨_, rfl⟩
      have hd : s.drop k = c :: s.drop (k + 1) := by rw [List.drop_eq_getElem_cons hin, hc]
      have hsl : (s.take (k + 1)).drop k = [c] := by
        rw [List.take_succ_eq_append_getElem hin, List.drop_append_of_le_length (by simp; omega), hc]
        simp
      have HD := hid hd
      clear hd
      by_cases h45 : c = 45
      · subst h45
        have HS : Hid (langB s = (decide (1 ≤ k - f ∧ k - f ≤ 8) && scanL false 0 (s.drop (k + 1)))) := hid (by rw [HR.out, HD.out]; rfl)
        by_cases h0 : k = f
        · subst h0
          have hq : ((k : Int) == (k : Int)) = true := by simp
          go_wp2_with fail
          go_ret
          exact ⟨_, rfl, LangPost.no (by rw [HS.out]; simp) (IsAt.new _ _ _ _), HG.out.alloc _⟩
        · have hq : ((k : Int) == (f : Int)) = false := beq_eq_false_iff_ne.2 (by omega)
          by_cases h8 : 8 < (k : Int) - f
          · go_wp2_with fail
            go_ret
            exact ⟨_, rfl, LangPost.no (by rw [HS.out, decide_eq_false (by omega)]; rfl) (IsAt.new _ _ _ _), HG.out.alloc _⟩
          · go_wp2_with fail
            go_roundw
            case rel =>
              refine ⟨k + 1, k + 1, rfl, rfl, by omega, .inl ⟨by omega, by omega, ?_⟩, HG.out⟩
              rw [HS.out, decide_eq_true (by omega), Nat.sub_self]
              simp
            case measure => simp [intOf]; omega
      · have q45 : ((c.toNat : Int) != 45) = true := bne_iff_ne.2 (fun e => h45 (UInt8.toNat_inj.1 (by show c.toNat = 45; omega)))
        have HS : Hid (langB s = (pieceB (decide (f = 0)) c && scanL (decide (f = 0)) (k - f + 1) (s.drop (k + 1)))) := hid (by rw [HR.out, HD.out, scanL, if_neg h45])
        have IS : Hid (∀ w, Pure 36 #[.string (S [c])] w (.bool (letterB c.toNat))) := hid (fun w => by have := is_any [c] w (by simp); rw [isName_one] at this; exact this)
        cases hl : letterB c.toNat with
        | false =>
          rw [hl] at IS
          have HL := hid hl
          clear hl h45
          go_wp2_with fail
          refine (IS.out _).use ?_
          go_wp2_with fail
          go_ret
          exact ⟨_, rfl, LangPost.no (by rw [HS.out]; unfold pieceB; rw [HL.out]; rfl) (IsAt.new _ _ _ _), HG.out.alloc _⟩
        | true =>
          rw [hl] at IS
          have HL := hid hl
          clear hl h45
          by_cases hbad : f = 0 ∧ (c.toNat : Int) ≤ 57
          · obtain ⟨rfl, h57⟩ := hbad
            go_wp2_with fail
            refine (IS.out _).use ?_
            go_wp2_with fail
            go_ret
            exact ⟨_, rfl, LangPost.no (by rw [HS.out]; unfold pieceB; rw [HL.out]; simp; omega) (IsAt.new _ _ _ _), HG.out.alloc _⟩
          · have HP : Hid (pieceB (decide (f = 0)) c = true) := hid (by
              unfold pieceB
              rw [HL.out]
              by_cases h0 : f = 0
              · have : ¬ (c.toNat : Int) ≤ 57 := fun h => hbad ⟨h0, h⟩
                simp [h0]; omega
              · simp [h0])
            have hgo : LangRel s (k + 1) f := .inl ⟨by omega, by omega, by
              rw [HS.out, HP.out, Bool.true_and]; congr 1; omega⟩
            have HGO := hid hgo
            clear hgo
            by_cases h0 : f = 0
            · subst h0
              have h57 : 57 < (c.toNat : Int) := by
                by_cases h : (c.toNat : Int) ≤ 57
                · exact absurd ⟨rfl, h⟩ hbad
                · omega
              clear hbad
              go_wp2_with fail
              refine (IS.out _).use ?_
              go_wp2_with fail
              go_roundw
              case rel => exact ⟨k + 1, 0, rfl, rfl, hf, HGO.out, HG.out⟩
              case measure => simp [intOf]; omega
            · have q0 : ((f : Int) == 0) = false := beq_eq_false_iff_ne.2 (by omega)
              clear hbad h0
              go_wp2_with fail
              refine (IS.out _).use ?_
              go_wp2_with fail
              go_roundw
              case rel => exact ⟨k + 1, f, rfl, rfl, hf, HGO.out, HG.out⟩
              case measure => simp [intOf]; omega
    · obtain rfl : k = s.length := by omega
      have HS : Hid (langB s = decide (1 ≤ s.length - f ∧ s.length - f ≤ 8)) := hid (by rw [HR.out, List.drop_length]; rfl)
      by_cases h0 : s.length = f
      · have h0' := hid h0
        subst h0
        go_wp2_with fail
        go_ret
        exact ⟨_, rfl, LangPost.no (by rw [HS.out]; simp) (IsAt.new _ _ _ _), HG.out.alloc _⟩
      · have hq : ((s.length : Int) == (f : Int)) = false := beq_eq_false_iff_ne.2 (by omega)
        by_cases h8 : 8 < (s.length : Int) - f
        · go_wp2_with fail
          go_ret
          exact ⟨_, rfl, LangPost.no (by rw [HS.out, decide_eq_false (by omega)]) (IsAt.new _ _ _ _), HG.out.alloc _⟩
        · go_wp2_with fail
          go_roundw
          case rel =>
            refine ⟨s.length + 1, s.length + 1, rfl, rfl, by omega, .inr ⟨rfl, ?_⟩, HG.out⟩
            rw [HS.out, decide_eq_true (by omega)]
          case measure => simp [intOf]

end Go.Proofs.YtniidkkldoijcaaDoor
