/-
  CONTRACT of strings.IndexAny at two or more ASCII bytes, and a text of any bytes that has at most 8: the loop over runes; and of strings.IndexRune beyond ASCII.
-/
import Derived.Test.YthbjabjchfmmoaaStrs
import Derived.Lib.IndexAny
import Derived.Laws.RangeString
import Derived.Laws.RangeAny
import Derived.Laws.Runes
import Derived.Laws.Strings3
import Derived.Deep.LoopGhost
import Derived.WalkMore
namespace Go.Proofs.Ythbjabjchfmmoaa
open Go.RowKit
set_option linter.unusedVariables false
set_option linter.unusedSimpArgs false

theorem decode_len (s : ByteArray) (pos : Nat) : (Utf8.decode s pos).2 ≤ 4 := by
  simp only [Utf8.decode]
  repeat' split
  all_goals omega
theorem decode_cont (s : ByteArray) (pos k : Nat) (h1 : 1 ≤ k) (h2 : k < (Utf8.decode s pos).2) : pos + k < s.size ∧ 128 ≤ (s.get! (pos + k)).toNat := by
  have h4 := decode_len s pos
  have hk : k = 1 ∨ k = 2 ∨ k = 3 := by omega
  clear h4 h1
  rcases hk with rfl | rfl | rfl
  all_goals
    simp only [Utf8.decode] at h2
    repeat' split at h2
    all_goals simp only [Bool.and_eq_true, decide_eq_true_eq, beq_iff_eq] at *
    all_goals omega

def asciiL (l : List UInt8) : Prop := ∀ c ∈ l, c.toNat < 128
theorem asciiL.drop {l : List UInt8} (h : asciiL l) (k : Nat) : asciiL (l.drop k) := fun c hc => h c (List.mem_of_mem_drop hc)

set_option maxRecDepth 100000 in
set_option maxHeartbeats 1000000 in
/-- the mark of what is no rune is in no ASCII text -/
theorem indexRune_error (l : List UInt8) (w : World) (ha : asciiL l) (hl : l.length ≤ 1000) : Gives 14 #[.string (S l), .int .i32 65533] w (.int .i64 (-1)) := by
  have HA := hid ha; clear ha
  go_enter Try.func14, Try.ntmps14
  go_wp2
  go_loopg [] l.length (fun g wx => ∃ i : Nat, i + g = l.length ∧ wx = w.iter (S l) i)
  case atStart => exact ⟨0, by omega, rfl⟩
  case round =>
    obtain ⟨i, hig, rfl⟩ := hrel
    cases gk with
    | zero =>
      obtain rfl : i = l.length := by omega
      have hnx := run_next_end (P := Try.prog) w (S l) l.length
      go_wp2
      go_ret
      exact ⟨rfl, (G.refl _).alloc _⟩
    | succ g =>
      have hi : i < l.length := by omega
      have hx : l[i].toNat < 128 := HA.out _ (List.getElem_mem hi)
      have hnx := fun ty => run_next_ascii (P := Try.prog) w (S l) i ty (by simpa using hi) (by simpa using hx)
      rw [S_get] at hnx
      have hne : (((l[i].toNat : Nat) : Int) == 65533) = false := beq_eq_false_iff_ne.2 (by omega)
      go_wp2
      go_roundg g
      case measure => omega
      case rel => exact ⟨i + 1, by omega, rfl⟩

theorem utf8_encode_S (r : Int) : ∃ rs : List UInt8, Utf8.encode r = S rs := ⟨(Utf8.encode r).data.toList, rfl⟩
theorem encode_high (r : Int) (h : 128 ≤ r) (hv : Utf8.valid r = true) : ∃ init : List UInt8, ∃ c : UInt8, Utf8.encode r = S (init ++ [c]) ∧ 1 ≤ init.length ∧ init.length ≤ 3 ∧ 128 ≤ c.toNat := by
  obtain ⟨h1, h2, h3⟩ := encode_facts r hv h
  obtain ⟨rs, hrs⟩ := utf8_encode_S r
  rw [hrs] at h1 h2
  simp only [S_size] at h1 h2
  have hne : rs ≠ [] := by intro e; subst e; simp at h1
  refine ⟨rs.dropLast, rs.getLast hne, ?_, by simp; omega, by simp; omega, ?_⟩
  · rw [hrs, List.dropLast_concat_getLast]
  · have := h3 (by rw [hrs]; simp; omega)
    simp only [hrs] at this
    rw [List.getLast_eq_getElem]
    simpa using this

set_option maxRecDepth 100000 in
set_option maxHeartbeats 1000000 in
theorem validRune_any (r : Int) (w : World) (h1 : 0 ≤ r) (h2 : r ≤ 2147483647) : Pure 22 #[.int .i32 r] w (.bool (Utf8.valid r)) := by
  go_enter Try.func22, Try.ntmps22
  go_wp2
  all_goals go_ret
  all_goals refine ⟨ret_bool ?_, rfl⟩
  all_goals (rw [validRune_eq]; unfold validRune; first | exact (decide_eq_true (by omega)).symm | exact (decide_eq_false (by omega)).symm)

set_option maxRecDepth 100000 in
set_option maxHeartbeats 1000000 in
theorem indexRune_high (l : List UInt8) (r : Int) (w : World) (ha : asciiL l) (hl : l.length ≤ 1000) (h1 : 128 ≤ r) (h2 : r ≤ 2147483647) (h3 : (r == 65533) = false) : Gives 14 #[.string (S l), .int .i32 r] w (.int .i64 (-1)) := by
  have HA := hid ha; clear ha
  cases hv : Utf8.valid r with
  | false =>
    go_enter Try.func14, Try.ntmps14
    go_wp2_with (go_at_call 22; refine (validRune_any r _ (by omega) (by omega)).use ?_)
    go_ret
    exact ⟨rfl, G.refl _⟩
  | true =>
    obtain ⟨init, c, he, i1, i3, hc⟩ := encode_high r h1 hv
    have hlen : (init ++ [c]).length = init.length + 1 := by simp
    have hix := indexByte_none (l.drop (init.length + 1)) c (fun hm => by have := HA.out.drop _ c hm; omega)
    have HX : Hid (∀ w, Pure 21 #[.string (S (l.drop (init.length + 1))), .int .u8 (c.toNat : Int)] w (.int .i64 (-1))) := hid (fun w => by
      have := indexByte_any (l.drop (init.length + 1)) c w
      rw [hix] at this; exact this)
    clear hix
    have hcv : ∀ w, (convert 21 9 (.int .i32 r)).run Try.prog w = .ok (.string (S (init ++ [c]))) w := fun w => by
      rw [run_convert_int_string w _ _ _ _ (by kernel_rfl) Try.underlying9, he]
    clear he
    by_cases hlt : init.length < l.length
    · have hx : l[init.length].toNat < 128 := HA.out _ (List.getElem_mem hlt)
      have hcx : (((l[init.length].toNat : Nat) : Int) != (c.toNat : Int)) = true := by
        simp; intro e; omega
      have hgc : (init ++ [c])[init.length]'(by simp) = c := by simp
      go_enter Try.func14, Try.ntmps14
      go_wp2_with (go_at_call 22; refine (validRune_any r _ (by omega) (by omega)).use ?_)
      go_step3
      go_wp2_with fail
      refine wp_loop_rounds 1 ?_
      rw [rounds_succ]
      go_wp2_with fail
      go_step3
      go_wp2_with fail
      refine wp_region_grow (by kernel_rfl) (by kernel_rfl) ?_
      repeat (first | go_big_quiet_skip | (go_big_quiet_want; go_big_quiet_op; first | go_big_quiet_on | (apply Exists.intro; apply And.intro; (focus (intro _ hg; fail)); go_big_quiet_on) | (refine ⟨_, fun _ _ => rfl, ?_⟩; go_big_quiet_on)))
      refine wpQuiet_nil ?_
      intro wq gq
      go_wp2_with fail
      refine wp_region_grow (by kernel_rfl) (by kernel_rfl) ?_
      repeat (first | go_big_quiet_skip | (go_big_quiet_want; go_big_quiet_op; first | go_big_quiet_on | (apply Exists.intro; apply And.intro; (focus (intro _ hg; (go_at_call 21; exact Pure.gq hg (HX.out _)))); go_big_quiet_on) | (refine ⟨_, fun _ _ => rfl, ?_⟩; go_big_quiet_on)))
      refine wpQuiet_nil ?_
      intro wq gq
      go_wp2_with fail
      rw [Exit.noGoto_ret]
      go_wp2_with fail
      rw [Exit.noGoto_ret]
      go_wp2_with fail
      go_ret
      exact ⟨rfl, (by repeat (first | exact G.refl _ | assumption | apply G.drew | apply G.alloc | refine G.trans ?_ (by assumption)))⟩
    · go_enter Try.func14, Try.ntmps14
      go_wp2_with (go_at_call 22; refine (validRune_any r _ (by omega) (by omega)).use ?_)
      go_step3
      go_wp2_with fail
      refine wp_loop_rounds 1 ?_
      rw [rounds_succ]
      go_wp2_with fail
      rw [Exit.noGoto_ret]
      go_wp2_with fail
      go_ret
      exact ⟨rfl, G.refl _⟩

end Go.Proofs.Ythbjabjchfmmoaa
