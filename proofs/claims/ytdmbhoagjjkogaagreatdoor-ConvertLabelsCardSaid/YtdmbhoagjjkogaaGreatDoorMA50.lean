/-
  Texts merged into one: AnyShort, Any, B64.
-/
import Derived.Test.YtdmbhoagjjkogaaGreatDoorMA44
import Derived.Lib.IndexAny
import Derived.Laws.RangeString
import Derived.Laws.RangeAny
import Derived.Laws.Runes
import Derived.Laws.Strings3
import Derived.Deep.LoopGhost
import Derived.WalkMore
import Derived.Test.YtdmbhoagjjkogaaGreatDoorShelf
import Derived.Test.YtdmbhoagjjkogaaGreatDoorMPieces
namespace Go.Proofs.YtdmbhoagjjkogaaGreatDoor
open Go.RowKit
set_option linter.unusedVariables false
set_option linter.unusedSimpArgs false
theorem decode_len (s : ByteArray) (pos : Nat) : (Utf8.decode s pos).2 ≤ 4 := by
  simp only [Utf8.decode]
  repeat' split
  all_goals omega
theorem decode_cont (s : ByteArray) (pos k : Nat) (h1 : 1 ≤ k) (h2 : k < (Utf8.decode s pos).2) : pos + k < s.size ∧ 128 ≤ (s.get! (pos + k)).toNat := by
  have h4 := decode_len s pos
  have hk : k = 1 ∨ k = 2 ∨ k = 3 := by omega
  clear h4 h1
  rcases hk with rfl | rfl | rfl
  all_goals
    simp only [Utf8.decode] at h2
    repeat' split at h2
    all_goals simp only [Bool.and_eq_true, decide_eq_true_eq, beq_iff_eq] at *
    all_goals omega
def asciiL (l : List UInt8) : Prop := ∀ c ∈ l, c.toNat < 128
theorem asciiL.drop {l : List UInt8} (h : asciiL l) (k : Nat) : asciiL (l.drop k) := fun c hc => h c (List.mem_of_mem_drop hc)
set_option maxRecDepth 100000 in
set_option maxHeartbeats 1000000 in
theorem indexRune_error (l : List UInt8) (w : World) (ha : asciiL l) (hl : l.length ≤ 1000) : Gives 162 #[.string (S l), .int .i32 65533] w (.int .i64 (-1)) := by
  have HA := hid ha; clear ha
  go_enter Tryz.func162, Tryz.ntmps162
  go_wp2
  go_loopg [] l.length (fun g wx => ∃ i : Nat, i + g = l.length ∧ wx = w.iter (S l) i)
  case atStart => exact ⟨0, by omega, rfl⟩
  case round =>
    obtain ⟨i, hig, rfl⟩ := hrel
    cases gk with
    | zero =>
      obtain rfl : i = l.length := by omega
      have hnx := run_next_end (P := Tryz.prog) w (S l) l.length
      go_wp2
      go_ret
      exact ⟨rfl, (G.refl _).alloc _⟩
    | succ g =>
      have hi : i < l.length := by omega
      have hx : l[i].toNat < 128 := HA.out _ (List.getElem_mem hi)
      have hnx := fun ty => run_next_ascii (P := Tryz.prog) w (S l) i ty (by simpa using hi) (by simpa using hx)
      rw [S_get] at hnx
      have hne : (((l[i].toNat : Nat) : Int) == 65533) = false := beq_eq_false_iff_ne.2 (by omega)
      go_wp2
      go_roundg g
      case measure => omega
      case rel => exact ⟨i + 1, by omega, rfl⟩
theorem utf8_encode_S (r : Int) : ∃ rs : List UInt8, Utf8.encode r = S rs := ⟨(Utf8.encode r).data.toList, rfl⟩
theorem encode_high (r : Int) (h : 128 ≤ r) (hv : Utf8.valid r = true) : ∃ init : List UInt8, ∃ c : UInt8, Utf8.encode r = S (init ++ [c]) ∧ 1 ≤ init.length ∧ init.length ≤ 3 ∧ 128 ≤ c.toNat := by
  obtain ⟨h1, h2, h3⟩ := encode_facts r hv h
  obtain ⟨rs, hrs⟩ := utf8_encode_S r
  rw [hrs] at h1 h2
  simp only [S_size] at h1 h2
  have hne : rs ≠ [] := by intro e; subst e; simp at h1
  refine ⟨rs.dropLast, rs.getLast hne, ?_, by simp; omega, by simp; omega, ?_⟩
  · rw [hrs, List.dropLast_concat_getLast]
  · have := h3 (by rw [hrs]; simp; omega)
    simp only [hrs] at this
    rw [List.getLast_eq_getElem]
    simpa using this
set_option maxRecDepth 100000 in
set_option maxHeartbeats 1000000 in
theorem validRune_any (r : Int) (w : World) (h1 : 0 ≤ r) (h2 : r ≤ 2147483647) : Pure 189 #[.int .i32 r] w (.bool (Utf8.valid r)) := by
  go_enter Tryz.func189, Tryz.ntmps189
  go_wp2
  all_goals go_ret
  all_goals refine ⟨ret_bool ?_, rfl⟩
  all_goals (rw [validRune_eq]; unfold validRune; first | exact (decide_eq_true (by omega)).symm | exact (decide_eq_false (by omega)).symm)
set_option maxRecDepth 100000 in
set_option maxHeartbeats 1000000 in
theorem indexRune_high (l : List UInt8) (r : Int) (w : World) (ha : asciiL l) (hl : l.length ≤ 1000) (h1 : 128 ≤ r) (h2 : r ≤ 2147483647) (h3 : (r == 65533) = false) : Gives 162 #[.string (S l), .int .i32 r] w (.int .i64 (-1)) := by
  have HA := hid ha; clear ha
  cases hv : Utf8.valid r with
  | false =>
    go_enter Tryz.func162, Tryz.ntmps162
    go_wp2_with (go_at_call 189; refine (validRune_any r _ (by omega) (by omega)).use ?_)
    go_ret
    exact ⟨rfl, G.refl _⟩
  | true =>
    obtain ⟨init, c, he, i1, i3, hc⟩ := encode_high r h1 hv
    have hlen : (init ++ [c]).length = init.length + 1 := by simp
    have hix := indexByte_none (l.drop (init.length + 1)) c (fun hm => by have := HA.out.drop _ c hm; omega)
    have HX : Hid (∀ w, Pure 146 #[.string (S (l.drop (init.length + 1))), .int .u8 (c.toNat : Int)] w (.int .i64 (-1))) := hid (fun w => by
      have := indexByte_any (l.drop (init.length + 1)) c w
      rw [hix] at this; exact this)
    clear hix
    have hcv : ∀ w, (convert 21 9 (.int .i32 r)).run Tryz.prog w = .ok (.string (S (init ++ [c]))) w := fun w => by
      rw [run_convert_int_string w _ _ _ _ (by kernel_rfl) Tryz.underlying9, he]
    clear he
    by_cases hlt : init.length < l.length
    · have hx : l[init.length].toNat < 128 := HA.out _ (List.getElem_mem hlt)
      have hcx : (((l[init.length].toNat : Nat) : Int) != (c.toNat : Int)) = true := by
        simp; intro e; omega
      have hgc : (init ++ [c])[init.length]'(by simp) = c := by simp
      go_enter Tryz.func162, Tryz.ntmps162
      go_wp2_with (go_at_call 189; refine (validRune_any r _ (by omega) (by omega)).use ?_)
      go_step3
      go_wp2_with fail
      refine wp_loop_rounds 1 ?_
      rw [rounds_succ]
      go_wp2_with fail
      go_step3
      go_wp2_with fail
      refine wp_region_grow (by kernel_rfl) (by kernel_rfl) ?_
      repeat (first | go_big_quiet_skip | (go_big_quiet_want; go_big_quiet_op; first | go_big_quiet_on | (apply Exists.intro; apply And.intro; (focus (intro _ hg; fail)); go_big_quiet_on) | (refine ⟨_, fun _ _ => rfl, ?_⟩; go_big_quiet_on)))
      refine wpQuiet_nil ?_
      intro wq gq
      go_wp2_with fail
      refine wp_region_grow (by kernel_rfl) (by kernel_rfl) ?_
      repeat (first | go_big_quiet_skip | (go_big_quiet_want; go_big_quiet_op; first | go_big_quiet_on | (apply Exists.intro; apply And.intro; (focus (intro _ hg; (go_at_call 146; exact Pure.gq hg (HX.out _)))); go_big_quiet_on) | (refine ⟨_, fun _ _ => rfl, ?_⟩; go_big_quiet_on)))
      refine wpQuiet_nil ?_
      intro wq gq
      go_wp2_with fail
      rw [Exit.noGoto_ret]
      go_wp2_with fail
      rw [Exit.noGoto_ret]
      go_wp2_with fail
      go_ret
      exact ⟨rfl, (by repeat (first | exact G.refl _ | assumption | apply G.drew | apply G.drewN | apply G.alloc | refine G.trans ?_ (by assumption)))⟩
    · go_enter Tryz.func162, Tryz.ntmps162
      go_wp2_with (go_at_call 189; refine (validRune_any r _ (by omega) (by omega)).use ?_)
      go_step3
      go_wp2_with fail
      refine wp_loop_rounds 1 ?_
      rw [rounds_succ]
      go_wp2_with fail
      rw [Exit.noGoto_ret]
      go_wp2_with fail
      go_ret
      exact ⟨rfl, G.refl _⟩
end Go.Proofs.YtdmbhoagjjkogaaGreatDoor

namespace Go.Proofs.YtdmbhoagjjkogaaGreatDoor
open Go.RowKit
set_option linter.unusedVariables false
set_option linter.unusedSimpArgs false
theorem noAny_more {s chars : List UInt8} {i j : Nat} (h : Lib.NoAny s chars i) (hij : i ≤ j) (ha : asciiL chars) (hh : ∀ k, i ≤ k → k < j → ∀ b, s[k]? = some b → 128 ≤ b.toNat) : Lib.NoAny s chars j := by
  intro k b hk hb
  by_cases hki : k < i
  · exact h k b hki hb
  · have h1 := hh k (by omega) hk b hb
    cases hc : chars.contains b with
    | false => rfl
    | true =>
      have := ha b (by simpa using hc)
      omega
def iterSet (w : World) (b : Nat) (s : ByteArray) (p : Nat) : World := { w with heap := w.heap.setIfInBounds b (.stringIter s p) }
theorem iterSet_at {w : World} {b : Nat} {s t : ByteArray} {p q : Nat} (h : w.heap[b]? = some (.stringIter t q)) : (iterSet w b s p).heap[b]? = some (.stringIter s p) := by
  have hb : b < w.heap.size := by
    rcases Nat.lt_or_ge b w.heap.size with h' | h'
    · exact h'
    · rw [Array.getElem?_eq_none h'] at h; cases h
  show (w.heap.setIfInBounds b _)[b]? = _
  rw [Array.getElem?_setIfInBounds_self_of_lt hb]
theorem G.iterSet {w0 w : World} {b : Nat} (g : G w0 w) (hb : w0.heap.size ≤ b) (s : ByteArray) (p : Nat) : G w0 (iterSet w b s p) := by
  refine ⟨g.1, g.2, g.3, ?_, ?_⟩
  · have := g.size; show _ ≤ (w.heap.setIfInBounds _ _).size; simpa using this
  · intro k hk
    show (w.heap.setIfInBounds b _)[k]? = _
    rw [Array.getElem?_setIfInBounds_ne (by omega)]
    exact g.below.block k hk
theorem next_end {P : Program} (w : World) (b : Nat) (s : ByteArray) (pos : Nat) (ty : TypeId) (hb : w.heap[b]? = some (.stringIter s pos)) (h : ¬ pos < s.size) :
    (Instr.next (.pointer (some ⟨b, 0, none⟩)) true ty).run P w = .ok (.tuple #[.bool false]) w := by
  simp [Instr.next, getObj, Sem.run, hb, h]
theorem next_any_iter {P : Program} (w : World) (b : Nat) (s : ByteArray) (pos : Nat) (ty : TypeId) (hb : w.heap[b]? = some (.stringIter s pos)) (h : pos < s.size) :
    (Instr.next (.pointer (some ⟨b, 0, none⟩)) true ty).run P w = .ok (.tuple #[.bool true, .int .i64 pos, .int .i32 (Utf8.decode s pos).1]) (iterSet w b s (pos + (Utf8.decode s pos).2)) := by
  simp only [Instr.next, getObj, setObj, Sem.run_bind, Sem.run, hb, Result.andThen, h, if_true]
  simp [goInt, iterSet]
theorem indexRune_beyond (l : List UInt8) (r : Nat) (w : World) (ha : asciiL l) (hl : l.length ≤ 1000) (h1 : 128 ≤ r) (h2 : r ≤ 2147483647) : Gives 162 #[.string (S l), .int .i32 (r : Int)] w (.int .i64 (-1)) := by
  by_cases h : r = 65533
  · subst h; exact indexRune_error l w ha hl
  · exact indexRune_high l r w ha hl (by omega) (by omega) (beq_eq_false_iff_ne.2 (by omega))
set_option maxRecDepth 100000 in
set_option maxHeartbeats 4000000 in
theorem indexAny_short (s chars : List UInt8) (w : World) (hs : s.length ≤ 8) (h2 : 2 ≤ chars.length) (hc : chars.length ≤ 1000) (ha : asciiL chars) : Gives 131 #[.string (S s), .string (S chars)] w (.int .i64 (Lib.indexAny s chars)) := by
  have HA := hid ha; clear ha
  have hemp : chars.isEmpty = false := by cases chars with
    | nil => simp at h2
    | cons _ _ => rfl
  have hn1 : ((chars.length : Int) == 1) = false := beq_eq_false_iff_ne.2 (by omega)
  have h8z : decide ((8 : Int) < (s.length : Int)) = false := decide_eq_false (by omega)
  go_enter Tryz.func131, Tryz.ntmps131
  go_wp2_with (go_at_call 163; refine (Tryz.strings_shouldUseASCIISet _ _).mono ?_; rintro e w' ⟨rfl, hw⟩; rw [hw, h8z])
  go_loopg [9, 10] s.length (fun g _ _ wx => ∃ i : Nat, i ≤ s.length ∧ s.length ≤ i + g ∧ wx.heap[w.heap.size]? = some (.stringIter (S s) i) ∧ G w wx ∧ Lib.NoAny s chars i)
  case atStart => exact ⟨0, by omega, by omega, World.iter_heap _ _ _, (G.refl _).alloc _, Lib.NoAny.zero _ _⟩
  case round =>
    obtain ⟨i, hi0, hig, hbk, hgr, hno⟩ := hrel
    have HN := hid hno
    have HG := hid hgr
    clear hno hgr
    by_cases hi : i < s.length
    · obtain ⟨g, rfl⟩ : ∃ g, gk = g + 1 := ⟨gk - 1, by omega⟩
      have hi' : i < (S s).size := by simpa using hi
      have hnx := fun ty => next_any_iter (P := Tryz.prog) _ _ (S s) i ty hbk hi'
      have HB : Hid (∀ p, (iterSet _ w.heap.size (S s) p).heap[w.heap.size]? = some (.stringIter (S s) p)) := hid (fun p => iterSet_at (p := p) (s := S s) hbk)
      clear hbk
      obtain ⟨x, hx⟩ : ∃ x : UInt8, s[i]'hi = x := ⟨_, rfl⟩
      have hxl : s[i]? = some x := by rw [← hx]; exact List.getElem?_eq_getElem hi
      by_cases hlow : x.toNat < 128
      · have hd := decode_ascii (S s) i hi' (by simpa [hx] using hlow)
        simp only [S_get, hx] at hd
        rw [hd] at hnx
        have Hx := hid hxl
        clear hd hxl hx
        have hcon := Lib.contains_iff_indexByte chars x
        have hback : ((x.toNat : Int)).toNat.toUInt8 = x := by simp
        cases hin : chars.contains x
        · rw [hin] at hcon
          have hlt : ¬ ((0 : Int) ≤ Lib.indexByte chars x) := of_decide_eq_false hcon.symm
          clear hcon
          go_wp2_with (go_at_call 162; refine (Tryz.strings_IndexRune_ascii _ _ _ (by omega) (by omega)).mono ?_; rintro e w' ⟨rfl, hw⟩; rw [hw, hback])
          go_roundg g
          case measure => omega
          case rel => exact ⟨i + 1, by omega, by omega, HB.out _, HG.out.iterSet (Nat.le_refl _) _ _, HN.out.succ Hx.out hin⟩
        · rw [hin] at hcon
          have hge : (0 : Int) ≤ Lib.indexByte chars x := of_decide_eq_true hcon.symm
          clear hcon
          go_wp2_with (go_at_call 162; refine (Tryz.strings_IndexRune_ascii _ _ _ (by omega) (by omega)).mono ?_; rintro e w' ⟨rfl, hw⟩; rw [hw, hback])
          go_ret
          exact ⟨by rw [Lib.indexAny_hit HN.out Hx.out hin]; rfl, HG.out.iterSet (Nat.le_refl _) _ _⟩
      · have hd := decode_high (S s) i hi' (by simp [hx]; omega)
        have hm := decode_le (S s) i
        have hcont := decode_cont (S s) i
        have hcont' := hid hcont
        clear hcont
        obtain ⟨r, n, hrn⟩ : ∃ r n, Utf8.decode (S s) i = (r, n) := ⟨_, _, rfl⟩
        rw [hrn] at hnx hd hm hcont'
        have hin : i + n ≤ s.length := by
          by_cases h1 : n = 1
          · omega
          · have := (hcont'.out (n - 1) (by have : 1 ≤ n := hd.2; omega) (by have : 1 ≤ n := hd.2; show n - 1 < n; omega)).1
            rw [S_size] at this; omega
        have HM : Hid (Lib.NoAny s chars (i + n)) := hid (noAny_more HN.out (by omega) HA.out (by
          intro k hk1 hk2 b hb
          by_cases hki : k = i
          · subst hki; rw [hxl] at hb; injection hb with hb; subst hb; omega
          · have := hcont'.out (k - i) (by omega) (by show k - i < n; omega)
            have hkl : k < s.length := by omega
            have e : i + (k - i) = k := by omega
            rw [e] at this
            have hg : (S s).get! k = b := by
              have h1 : (S s).get! k = (S s).data[k]'(by show k < s.toArray.size; simpa using hkl) := getElem!_pos (S s).data k _
              rw [h1]
              rw [List.getElem?_eq_getElem hkl] at hb
              injection hb with hb
            rw [hg] at this
            exact this.2))
        have hr1 : 128 ≤ r := hd.1
        have hr2 : r ≤ 2147483647 := hm
        have hn1' : 1 ≤ n := hd.2
        clear hd hm hcont' hxl hx
        have Hrn := hid hrn
        clear hrn
        dsimp only at hnx
        go_wp2_with (go_at_call 162; refine (indexRune_beyond chars r _ HA.out hc hr1 hr2).use ?_; intro w2 g2)
        go_roundg g
        case measure => omega
        case rel =>
          have hlt : w.heap.size < (iterSet wr w.heap.size (S s) (i + n)).heap.size := by
            rcases Nat.lt_or_ge w.heap.size (iterSet wr w.heap.size (S s) (i + n)).heap.size with h' | h'
            · exact h'
            · have := HB.out (i + n)
              rw [Array.getElem?_eq_none h'] at this; cases this
          exact ⟨i + n, hin, by omega, by rw [g2.below.block _ hlt]; exact HB.out _, (HG.out.iterSet (Nat.le_refl _) _ _).trans g2, HM.out⟩
    · obtain rfl : i = s.length := by omega
      have hnx := fun ty => next_end (P := Tryz.prog) _ _ (S s) s.length ty hbk (by simp)
      clear hbk
      go_wp2
      go_ret
      exact ⟨by rw [Lib.indexAny_none HN.out]; rfl, HG.out⟩
theorem zeroSet (w : World) : (zeroValue 233).run Tryz.prog w = .ok (.agg (Array.replicate 256 (.bool false))) w := by kernel_rfl
theorem indexAny_any (s chars : List UInt8) (w : World) (hs : s.length ≤ 1000000) (h2 : 2 ≤ chars.length) (hc : chars.length ≤ 1000) (ha : asciiL chars) : Gives 131 #[.string (S s), .string (S chars)] w (.int .i64 (Lib.indexAny s chars)) := by
  by_cases h8 : s.length ≤ 8
  · exact indexAny_short s chars w h8 h2 hc ha
  · refine (Tryz.strings_IndexAny_long zeroSet (S s) (S chars) w (by simpa using h2) (by simp; omega) (by simp; omega) (by simp; omega) ?_).mono ?_
    · intro j b hb
      exact ha b (List.mem_of_getElem? hb)
    · rintro e w' ⟨rfl, rfl⟩
      exact ⟨rfl, ((G.refl _).alloc _).alloc _⟩
set_option maxHeartbeats 1000000 in
theorem containsAny_any (s chars : List UInt8) (w : World) (hs : s.length ≤ 1000000) (h2 : 2 ≤ chars.length) (hc : chars.length ≤ 1000) (ha : asciiL chars) : Gives 96 #[.string (S s), .string (S chars)] w (.bool (Lib.containsAny s chars)) := by
  go_enter Tryz.func96, Tryz.ntmps96
  go_wp2_with fail
  refine (indexAny_any s chars _ hs h2 hc ha).use ?_; intro w1 g1
  go_wp2_with fail
  go_ret
  exact ⟨rfl, g1⟩
theorem indexAny_neg {s chars : List UInt8} (h : ∀ c ∈ s, chars.contains c = false) : Lib.indexAny s chars = -1 := Lib.indexAny_none fun j b _ hb => h b (List.mem_of_getElem? hb)
theorem indexAny_pos {s chars : List UInt8} {k : Nat} (hk : k < s.length) (h : ∀ i (hi : i < k), chars.contains (s[i]'(by omega)) = false) (hc : chars.contains (s[k]'hk) = true) : Lib.indexAny s chars = k :=
  Lib.indexAny_hit (x := s[k]'hk) (fun j b hj hb => by
    rw [List.getElem?_eq_getElem (show j < s.length by omega)] at hb
    injection hb with hb
    rw [← hb]; exact h j hj) (List.getElem?_eq_getElem hk) hc
end Go.Proofs.YtdmbhoagjjkogaaGreatDoor

namespace Go.Proofs.YtdmbhoagjjkogaaGreatDoor
open Go.RowKit
set_option linter.unusedVariables false
set_option linter.unusedSimpArgs false
def lettersL : List UInt8 := [65, 66, 67, 68, 69, 70, 71, 72, 73, 74, 75, 76, 77, 78, 79, 80, 81, 82, 83, 84, 85, 86, 87, 88, 89, 90, 97, 98, 99, 100, 101, 102, 103, 104, 105, 106, 107, 108, 109, 110, 111, 112, 113, 114, 115, 116, 117, 118, 119, 120, 121, 122, 48, 49, 50, 51, 52, 53, 54, 55, 56, 57, 43, 47]
theorem letters_len : lettersL.length = 64 := by decide
def letB (k : Int) : Int := ((lettersL.getD k.toNat 0).toNat : Int)
theorem letB_range (k : Int) : 0 ≤ letB k ∧ letB k < 256 := by
  unfold letB; have := (lettersL.getD k.toNat 0).toNat_lt; omega
theorem run_letter (k : Int) (h0 : 0 ≤ k) (h1 : k < 64) (w : World) : (Instr.index 9 (.string ⟨#[65, 66, 67, 68, 69, 70, 71, 72, 73, 74, 75, 76, 77, 78, 79, 80, 81, 82, 83, 84, 85, 86, 87, 88, 89, 90, 97, 98, 99, 100, 101, 102, 103, 104, 105, 106, 107, 108, 109, 110, 111, 112, 113, 114, 115, 116, 117, 118, 119, 120, 121, 122, 48, 49, 50, 51, 52, 53, 54, 55, 56, 57, 43, 47]⟩) (.int .i64 k)).run Tryz.prog w = .ok (.int .u8 (letB k)) w := by
  have h := run_index_string (P := Tryz.prog) w 9 (S lettersL) .i64 k Tryz.underlying9
  have hs : (S lettersL).size = 64 := by rw [S_size, letters_len]
  rw [dif_pos ⟨h0, by rw [hs]; omega⟩] at h
  have e : (⟨#[65, 66, 67, 68, 69, 70, 71, 72, 73, 74, 75, 76, 77, 78, 79, 80, 81, 82, 83, 84, 85, 86, 87, 88, 89, 90, 97, 98, 99, 100, 101, 102, 103, 104, 105, 106, 107, 108, 109, 110, 111, 112, 113, 114, 115, 116, 117, 118, 119, 120, 121, 122, 48, 49, 50, 51, 52, 53, 54, 55, 56, 57, 43, 47]⟩ : ByteArray) = S lettersL := rfl
  rw [e, h]
  unfold letB
  rw [S_get]
  have hk : k.toNat < lettersL.length := by rw [letters_len]; omega
  simp [List.getD, List.getElem?_eq_getElem hk]
def quadL (n : Int) : List UInt8 := [byteOf (letB (n / 262144 % 64)), byteOf (letB (n / 4096 % 64)), byteOf (letB (n / 64 % 64)), byteOf (letB (n % 64))]
def num3 (a b c : UInt8) : Int := ((a.toNat : Int) * 256 + b.toNat) * 256 + c.toNat
def b64E : List UInt8 → List UInt8
  | [] => []
  | [a] => (quadL (num3 a 0 0)).take 2 ++ [61, 61]
  | [a, b] => (quadL (num3 a b 0)).take 3 ++ [61]
  | a :: b :: c :: t => quadL (num3 a b c) ++ b64E t
theorem quadL_length (n : Int) : (quadL n).length = 4 := rfl
theorem b64E_length : ∀ l : List UInt8, (b64E l).length = (l.length + 2) / 3 * 4
  | [] => rfl
  | [a] => by simp [b64E, quadL]
  | [a, b] => by simp [b64E, quadL]
  | a :: b :: c :: t => by
    rw [b64E, List.length_append, quadL_length, b64E_length t]
    simp only [List.length_cons]
    omega
theorem drop3 (a b c : UInt8) (t : List UInt8) : (a :: b :: c :: t).drop (min 3 ((t.length : Int) + 1 + 1 + 1)).toNat = t := by
  have e3 : (min 3 ((t.length : Int) + 1 + 1 + 1)).toNat = 3 := by omega
  rw [e3]; rfl
theorem encL_1 (a : UInt8) : b64E [a] = (quadL (num3 a 0 0)).take 2 ++ [61, 61] := rfl
theorem encL_2 (a b : UInt8) : b64E [a, b] = (quadL (num3 a b 0)).take 3 ++ [61] := rfl
theorem encL_3 (a b c : UInt8) (t : List UInt8) : b64E (a :: b :: c :: t) = quadL (num3 a b c) ++ b64E t := by rw [b64E]
set_option maxRecDepth 100000 in
set_option maxHeartbeats 4000000 in
theorem b64encode_any (l : List UInt8) (w : World) (hl : l.length ≤ 1099511627776) : Gives 153 #[.string (S l)] w (.string (S (b64E l))) := by
  go_enter Tryz.func153, Tryz.ntmps153
  go_wp2_with fail
  have hnew := IsB.new (G.refl w)
  have Hnew := hid hnew
  clear hnew
  go_loopw [0] (fun s wr => ∃ rest pre : List UInt8, s = .string (S rest) ∧ b64E l = pre ++ b64E rest ∧ rest.length ≤ l.length ∧ pre.length + (rest.length + 2) / 3 * 4 ≤ (l.length + 2) / 3 * 4 ∧ IsB w wr w.heap.size pre ∧ G w wr) (fun s _ => match s with | .string x => x.size | _ => 0)
  case atStart => exact ⟨l, [], rfl, by simp, Nat.le_refl _, by simp, Hnew.out, (G.refl w).alloc _⟩
  case round =>
    obtain ⟨rest, pre, rfl, he, hrl, hpl, hb, hg⟩ := hrel
    have Hb := hid hb
    have He := hid he
    clear hb he Hnew
    rcases rest with _ | ⟨a, _ | ⟨b, _ | ⟨c, t⟩⟩⟩
    · go_wp2_with fail
      refine (string_any Hb.out hg).mono ?_
      rintro e w1 ⟨rfl, g1, _⟩
      go_wp2_with fail
      go_ret
      exact ⟨by rw [He.out]; simp [b64E], g1⟩
    · simp only [List.length_cons, List.length_nil] at hrl hpl
      have ha : a.toNat < 256 := a.toNat_lt
      have o0 : bits .or .i64 0 (a.toNat : Int) = (a.toNat : Int) := by have := i64_join 8 0 (a.toNat : Int) (by omega) (by decide) (by omega) (by omega) (by omega) (by omega); omega
      have HN : Hid (num3 a 0 0 = (a.toNat : Int) * 256 * 256) := hid (by unfold num3; simp)
      have n0 : 0 ≤ (a.toNat : Int) * 256 * 256 := by omega
      have n1 : (a.toNat : Int) * 256 * 256 < 16777216 := by omega
      obtain ⟨N, hN⟩ : ∃ N, N = (a.toNat : Int) * 256 * 256 := ⟨_, rfl⟩
      rw [← hN] at n0 n1
      have m0 : bits .and .i64 (N / 262144) 63 = N / 262144 % 64 := i64_mask 6 (by omega) _ 63 (by omega) (by omega) rfl
      have m1 : bits .and .i64 (N / 4096) 63 = N / 4096 % 64 := i64_mask 6 (by omega) _ 63 (by omega) (by omega) rfl
      have HQ : Hid (quadL N = [byteOf (letB (N / 262144 % 64)), byteOf (letB (N / 4096 % 64)), byteOf (letB (N / 64 % 64)), byteOf (letB (N % 64))]) := hid rfl
      have b0a : 0 ≤ N / 262144 % 64 := by omega
      have b0b : N / 262144 % 64 < 64 := by omega
      generalize N / 262144 % 64 = K0 at *
      have l0 := run_letter K0 b0a b0b
      have r0 := letB_range K0
      have b1a : 0 ≤ N / 4096 % 64 := by omega
      have b1b : N / 4096 % 64 < 64 := by omega
      generalize N / 4096 % 64 = K1 at *
      have l1 := run_letter K1 b1a b1b
      have r1 := letB_range K1
      have hN2 := hid hN
      clear hN
      go_wp2_with fail
      refine wp_loop_rounds 4 ?_
      rw [rounds_succ]
      go_wp2_with fail
      rw [rounds_succ]
      go_wp2_with fail
      rw [rounds_succ]
      go_wp2_with fail
      rw [rounds_succ]
      go_wp2_with fail
      simp only [← hN2.out]
      refine wp_loop_rounds 5 ?_
      rw [rounds_succ]
      go_wp2_with fail
      refine (writeByte_any Hb.out hg (letB K0) r0.1 r0.2 (by simp; omega)).mono ?_
      rintro e w0 ⟨rfl, hb0, hg0, _⟩
      have Hb0 := hid hb0
      clear hb0
      go_wp2_with fail
      rw [rounds_succ]
      go_wp2_with fail
      refine (writeByte_any Hb0.out hg0 (letB K1) r1.1 r1.2 (by simp; omega)).mono ?_
      rintro e w1 ⟨rfl, hb1, hg1, _⟩
      have Hb1 := hid hb1
      clear hb1
      go_wp2_with fail
      rw [rounds_succ]
      go_wp2_with fail
      refine (writeByte_any Hb1.out hg1 61 (by omega) (by omega) (by simp; omega)).mono ?_
      rintro e w2 ⟨rfl, hb2, hg2, _⟩
      have Hb2 := hid hb2
      clear hb2
      go_wp2_with fail
      rw [rounds_succ]
      go_wp2_with fail
      refine (writeByte_any Hb2.out hg2 61 (by omega) (by omega) (by simp; omega)).mono ?_
      rintro e w3 ⟨rfl, hb3, hg3, _⟩
      have Hb3 := hid hb3
      clear hb3
      go_wp2_with fail
      rw [rounds_succ]
      go_wp2_with fail
      go_roundw
      case rel =>
        refine ⟨[], _, by first | rfl | rw [drop3], ?_, (by first | omega | simp), ?_, Hb3.out, hg3⟩
        · rw [He.out, encL_1, HN.out, ← hN2.out, HQ.out]; simp [b64E]
        · simp; omega
      case measure => simp; omega
    · simp only [List.length_cons, List.length_nil] at hrl hpl
      have ha : a.toNat < 256 := a.toNat_lt
      have hb : b.toNat < 256 := b.toNat_lt
      have o0 : bits .or .i64 0 (a.toNat : Int) = (a.toNat : Int) := by have := i64_join 8 0 (a.toNat : Int) (by omega) (by decide) (by omega) (by omega) (by omega) (by omega); omega
      have o1 : bits .or .i64 ((a.toNat : Int) * 256) (b.toNat : Int) = (a.toNat : Int) * 256 + b.toNat := i64_join 8 _ _ (by omega) (by simp) (by omega) (by omega) (by omega) (by omega)
      have HN : Hid (num3 a b 0 = ((a.toNat : Int) * 256 + b.toNat) * 256) := hid (by unfold num3; simp)
      have n0 : 0 ≤ ((a.toNat : Int) * 256 + b.toNat) * 256 := by omega
      have n1 : ((a.toNat : Int) * 256 + b.toNat) * 256 < 16777216 := by omega
      obtain ⟨N, hN⟩ : ∃ N, N = ((a.toNat : Int) * 256 + b.toNat) * 256 := ⟨_, rfl⟩
      rw [← hN] at n0 n1
      have m0 : bits .and .i64 (N / 262144) 63 = N / 262144 % 64 := i64_mask 6 (by omega) _ 63 (by omega) (by omega) rfl
      have m1 : bits .and .i64 (N / 4096) 63 = N / 4096 % 64 := i64_mask 6 (by omega) _ 63 (by omega) (by omega) rfl
      have m2 : bits .and .i64 (N / 64) 63 = N / 64 % 64 := i64_mask 6 (by omega) _ 63 (by omega) (by omega) rfl
      have HQ : Hid (quadL N = [byteOf (letB (N / 262144 % 64)), byteOf (letB (N / 4096 % 64)), byteOf (letB (N / 64 % 64)), byteOf (letB (N % 64))]) := hid rfl
      have b0a : 0 ≤ N / 262144 % 64 := by omega
      have b0b : N / 262144 % 64 < 64 := by omega
      generalize N / 262144 % 64 = K0 at *
      have l0 := run_letter K0 b0a b0b
      have r0 := letB_range K0
      have b1a : 0 ≤ N / 4096 % 64 := by omega
      have b1b : N / 4096 % 64 < 64 := by omega
      generalize N / 4096 % 64 = K1 at *
      have l1 := run_letter K1 b1a b1b
      have r1 := letB_range K1
      have b2a : 0 ≤ N / 64 % 64 := by omega
      have b2b : N / 64 % 64 < 64 := by omega
      generalize N / 64 % 64 = K2 at *
      have l2 := run_letter K2 b2a b2b
      have r2 := letB_range K2
      have hN2 := hid hN
      clear hN
      go_wp2_with fail
      refine wp_loop_rounds 4 ?_
      rw [rounds_succ]
      go_wp2_with fail
      rw [rounds_succ]
      go_wp2_with fail
      rw [rounds_succ]
      go_wp2_with fail
      rw [rounds_succ]
      go_wp2_with fail
      simp only [← hN2.out]
      refine wp_loop_rounds 5 ?_
      rw [rounds_succ]
      go_wp2_with fail
      refine (writeByte_any Hb.out hg (letB K0) r0.1 r0.2 (by simp; omega)).mono ?_
      rintro e w0 ⟨rfl, hb0, hg0, _⟩
      have Hb0 := hid hb0
      clear hb0
      go_wp2_with fail
      rw [rounds_succ]
      go_wp2_with fail
      refine (writeByte_any Hb0.out hg0 (letB K1) r1.1 r1.2 (by simp; omega)).mono ?_
      rintro e w1 ⟨rfl, hb1, hg1, _⟩
      have Hb1 := hid hb1
      clear hb1
      go_wp2_with fail
      rw [rounds_succ]
      go_wp2_with fail
      refine (writeByte_any Hb1.out hg1 (letB K2) r2.1 r2.2 (by simp; omega)).mono ?_
      rintro e w2 ⟨rfl, hb2, hg2, _⟩
      have Hb2 := hid hb2
      clear hb2
      go_wp2_with fail
      rw [rounds_succ]
      go_wp2_with fail
      refine (writeByte_any Hb2.out hg2 61 (by omega) (by omega) (by simp; omega)).mono ?_
      rintro e w3 ⟨rfl, hb3, hg3, _⟩
      have Hb3 := hid hb3
      clear hb3
      go_wp2_with fail
      rw [rounds_succ]
      go_wp2_with fail
      go_roundw
      case rel =>
        refine ⟨[], _, by first | rfl | rw [drop3], ?_, (by first | omega | simp), ?_, Hb3.out, hg3⟩
        · rw [He.out, encL_2, HN.out, ← hN2.out, HQ.out]; simp [b64E]
        · simp; omega
      case measure => simp; omega
    · simp only [List.length_cons, List.length_nil] at hrl hpl
      have ha : a.toNat < 256 := a.toNat_lt
      have hb : b.toNat < 256 := b.toNat_lt
      have hc : c.toNat < 256 := c.toNat_lt
      have o0 : bits .or .i64 0 (a.toNat : Int) = (a.toNat : Int) := by have := i64_join 8 0 (a.toNat : Int) (by omega) (by decide) (by omega) (by omega) (by omega) (by omega); omega
      have o1 : bits .or .i64 ((a.toNat : Int) * 256) (b.toNat : Int) = (a.toNat : Int) * 256 + b.toNat := i64_join 8 _ _ (by omega) (by simp) (by omega) (by omega) (by omega) (by omega)
      have o2 : bits .or .i64 (((a.toNat : Int) * 256 + b.toNat) * 256) (c.toNat : Int) = ((a.toNat : Int) * 256 + b.toNat) * 256 + c.toNat := i64_join 8 _ _ (by omega) (by simp) (by omega) (by omega) (by omega) (by omega)
      have HN : Hid (num3 a b c = ((a.toNat : Int) * 256 + b.toNat) * 256 + c.toNat) := hid (by unfold num3; simp)
      have n0 : 0 ≤ ((a.toNat : Int) * 256 + b.toNat) * 256 + c.toNat := by omega
      have n1 : ((a.toNat : Int) * 256 + b.toNat) * 256 + c.toNat < 16777216 := by omega
      obtain ⟨N, hN⟩ : ∃ N, N = ((a.toNat : Int) * 256 + b.toNat) * 256 + c.toNat := ⟨_, rfl⟩
      rw [← hN] at n0 n1
      have m0 : bits .and .i64 (N / 262144) 63 = N / 262144 % 64 := i64_mask 6 (by omega) _ 63 (by omega) (by omega) rfl
      have m1 : bits .and .i64 (N / 4096) 63 = N / 4096 % 64 := i64_mask 6 (by omega) _ 63 (by omega) (by omega) rfl
      have m2 : bits .and .i64 (N / 64) 63 = N / 64 % 64 := i64_mask 6 (by omega) _ 63 (by omega) (by omega) rfl
      have m3 : bits .and .i64 N 63 = N % 64 := i64_mask 6 (by omega) _ 63 (by omega) (by omega) rfl
      have HQ : Hid (quadL N = [byteOf (letB (N / 262144 % 64)), byteOf (letB (N / 4096 % 64)), byteOf (letB (N / 64 % 64)), byteOf (letB (N % 64))]) := hid rfl
      have b0a : 0 ≤ N / 262144 % 64 := by omega
      have b0b : N / 262144 % 64 < 64 := by omega
      generalize N / 262144 % 64 = K0 at *
      have l0 := run_letter K0 b0a b0b
      have r0 := letB_range K0
      have b1a : 0 ≤ N / 4096 % 64 := by omega
      have b1b : N / 4096 % 64 < 64 := by omega
      generalize N / 4096 % 64 = K1 at *
      have l1 := run_letter K1 b1a b1b
      have r1 := letB_range K1
      have b2a : 0 ≤ N / 64 % 64 := by omega
      have b2b : N / 64 % 64 < 64 := by omega
      generalize N / 64 % 64 = K2 at *
      have l2 := run_letter K2 b2a b2b
      have r2 := letB_range K2
      have b3a : 0 ≤ N % 64 := by omega
      have b3b : N % 64 < 64 := by omega
      generalize N % 64 = K3 at *
      have l3 := run_letter K3 b3a b3b
      have r3 := letB_range K3
      have hN2 := hid hN
      clear hN
      go_wp2_with fail
      refine wp_loop_rounds 4 ?_
      rw [rounds_succ]
      go_wp2_with fail
      rw [rounds_succ]
      go_wp2_with fail
      rw [rounds_succ]
      go_wp2_with fail
      rw [rounds_succ]
      go_wp2_with fail
      simp only [← hN2.out]
      refine wp_loop_rounds 5 ?_
      rw [rounds_succ]
      go_wp2_with fail
      refine (writeByte_any Hb.out hg (letB K0) r0.1 r0.2 (by simp; omega)).mono ?_
      rintro e w0 ⟨rfl, hb0, hg0, _⟩
      have Hb0 := hid hb0
      clear hb0
      go_wp2_with fail
      rw [rounds_succ]
      go_wp2_with fail
      refine (writeByte_any Hb0.out hg0 (letB K1) r1.1 r1.2 (by simp; omega)).mono ?_
      rintro e w1 ⟨rfl, hb1, hg1, _⟩
      have Hb1 := hid hb1
      clear hb1
      go_wp2_with fail
      rw [rounds_succ]
      go_wp2_with fail
      refine (writeByte_any Hb1.out hg1 (letB K2) r2.1 r2.2 (by simp; omega)).mono ?_
      rintro e w2 ⟨rfl, hb2, hg2, _⟩
      have Hb2 := hid hb2
      clear hb2
      go_wp2_with fail
      rw [rounds_succ]
      go_wp2_with fail
      refine (writeByte_any Hb2.out hg2 (letB K3) r3.1 r3.2 (by simp; omega)).mono ?_
      rintro e w3 ⟨rfl, hb3, hg3, _⟩
      have Hb3 := hid hb3
      clear hb3
      go_wp2_with fail
      rw [rounds_succ]
      go_wp2_with fail
      go_roundw
      case rel =>
        refine ⟨t, _, by first | rfl | rw [drop3], ?_, (by first | omega | simp), ?_, Hb3.out, hg3⟩
        · rw [He.out, encL_3, HN.out, ← hN2.out, HQ.out]; simp [b64E]
        · simp; omega
      case measure => simp; omega
end Go.Proofs.YtdmbhoagjjkogaaGreatDoor
