/-
  Texts merged into one: ParamsRow, AnyShort, Any, TextLaws, TextStill, TextLists, Uri, Ruled.
-/
import Derived.Test.YtfadckackdmbnaaGreatDoorMA56
import Derived.Deep.OwnRows
import Derived.Deep.Slices
import Derived.OwnWalk
import Derived.Lib.SliceRun
import Derived.Laws.Cover3
import Derived.Laws.AppendOwn
import Derived.Test.YtfadckackdmbnaaGreatDoorMA60
import Derived.Lib.IndexAny
import Derived.Laws.RangeString
import Derived.Laws.RangeAny
import Derived.Laws.Runes
import Derived.Laws.Strings3
import Derived.Deep.LoopGhost
import Derived.WalkMore
import Derived.Test.YtfadckackdmbnaaGreatDoorShelf
import Derived.Test.YtfadckackdmbnaaGreatDoorMA63
import Derived.Test.YtfadckackdmbnaaGreatDoorMA45
import Derived.Test.YtfadckackdmbnaaGreatDoorMA50
import Derived.Test.YtfadckackdmbnaaGreatDoorMA59
import Derived.Test.YtfadckackdmbnaaGreatDoorMA46
namespace Go.Proofs.YtfadckackdmbnaaGreatDoor
open Go.RowKit
set_option linter.unusedVariables false
set_option linter.unusedSimpArgs false
def cellsPm : List Pm → List Value → List Value
  | p :: ps, v :: vs => .string (S p.1) :: v :: cellsPm ps vs
  | _, _ => []
theorem cellsPm_length : ∀ (ps : List Pm) (vs : List Value), vs.length = ps.length → (cellsPm ps vs).length = ps.length * 2
  | [], vs, h => by cases vs with | nil => rfl | cons _ _ => simp at h
  | p :: ps, [], h => by simp at h
  | p :: ps, v :: vs, h => by
    have := cellsPm_length ps vs (by simpa using h)
    simp only [cellsPm, List.length_cons, this]; omega
theorem cellsPm_at : ∀ (ps : List Pm) (vs : List Value) (i : Nat) (p : Pm) (v : Value), ps[i]? = some p → vs[i]? = some v → (cellsPm ps vs)[i * 2]? = some (.string (S p.1)) ∧ (cellsPm ps vs)[i * 2 + 1]? = some v
  | [], _, i, p, v, h, _ => by simp at h
  | q :: ps, [], i, p, v, _, h => by simp at h
  | q :: ps, u :: vs, 0, p, v, h, h' => by simp at h h'; subst h; subst h'; simp [cellsPm]
  | q :: ps, u :: vs, i + 1, p, v, h, h' => by
    have := cellsPm_at ps vs i p v (by simpa using h) (by simpa using h')
    have e1 : (i + 1) * 2 = i * 2 + 1 + 1 := by omega
    rw [e1]
    simpa [cellsPm] using this
theorem cellsPm_append : ∀ (ps : List Pm) (vs : List Value) (qs : List Pm) (us : List Value), vs.length = ps.length → cellsPm (ps ++ qs) (vs ++ us) = cellsPm ps vs ++ cellsPm qs us
  | [], vs, qs, us, h => by cases vs with | nil => rfl | cons _ _ => simp at h
  | p :: ps, [], qs, us, h => by simp at h
  | p :: ps, v :: vs, qs, us, h => by
    have := cellsPm_append ps vs qs us (by simpa using h)
    simp only [List.cons_append, cellsPm, this]
theorem IsParams.slices {w : World} {v : Value} {ps : List Pm} (h : IsParams w v ps) (h0 : ps ≠ []) : ∃ (b off cap : Nat) (vs : List Value), v = .slice (some ⟨b, off, none⟩) ps.length cap ∧ b < w.heap.size ∧ vs.length = ps.length ∧
    (∀ (i : Nat) (p : Pm) (u : Value), ps[i]? = some p → vs[i]? = some u → IsStrs w u p.2) ∧ (∀ (j : Nat) (u : Value), (cellsPm ps vs)[j]? = some u → w.cell? ⟨b, off + j, none⟩ = some u) := by
  obtain ⟨a, cap, rfl, hc, h⟩ := h
  obtain ⟨b, off, rfl, hb, h⟩ := h h0
  obtain ⟨f, hf⟩ := Deep.choose_lt (α := Value) (n := ps.length) (p := fun i sv => ∀ p, ps[i]? = some p → w.cell? ⟨b, off + i * 2, none⟩ = some (.string (S p.1)) ∧ w.cell? ⟨b, off + i * 2 + 1, none⟩ = some sv ∧ IsStrs w sv p.2) (fun i hi => by
    obtain ⟨sv, h1, h2, h3⟩ := h i _ (List.getElem?_eq_getElem hi)
    refine ⟨sv, fun p hp => ?_⟩
    rw [List.getElem?_eq_getElem hi] at hp
    injection hp with hp
    subst hp
    exact ⟨h1, h2, h3⟩)
  have hlen : ((List.range ps.length).map f).length = ps.length := by simp
  have hat : ∀ i, i < ps.length → ((List.range ps.length).map f)[i]? = some (f i) := fun i hi => by simp [List.getElem?_range hi]
  refine ⟨b, off, cap, (List.range ps.length).map f, rfl, hb, hlen, ?_, ?_⟩
  · intro i p u hp hu
    have hi : i < ps.length := (List.getElem?_eq_some_iff.1 hp).1
    rw [hat i hi] at hu
    injection hu with hu
    subst hu
    exact (hf i hi p hp).2.2
  · intro j u hu
    have hj : j < ps.length * 2 := by rw [← cellsPm_length ps _ hlen]; exact (List.getElem?_eq_some_iff.1 hu).1
    have hi : j / 2 < ps.length := by omega
    have hp := List.getElem?_eq_getElem hi
    obtain ⟨k1, k2, _⟩ := hf _ hi _ hp
    obtain ⟨m1, m2⟩ := cellsPm_at ps _ _ _ _ hp (hat _ hi)
    rcases Nat.mod_two_eq_zero_or_one j with h2 | h2
    · have ej : j / 2 * 2 = j := by omega
      rw [ej] at k1 m1
      rw [k1, ← hu, m1]
    · have ej : j / 2 * 2 + 1 = j := by omega
      rw [Nat.add_assoc, ej] at k2
      rw [ej] at m2
      rw [k2, ← hu, m2]
theorem params_of_row {w : World} {base : Nat} {u : Value} {ps : List Pm} {vs : List Value} {t : TypeId} (hl : vs.length = ps.length) (hs : ∀ (i : Nat) (p : Pm) (v : Value), ps[i]? = some p → vs[i]? = some v → IsStrs w v p.2)
    (hr : w.ownsRow base t 2 u ps.length (cellsPm ps vs)) : IsParams w u ps := by
  rcases hr.2 with ⟨rfl, h0⟩ | ⟨g, cap, cur, rfl, _, hg, hc, _⟩
  · have : ps = [] := List.length_eq_zero_iff.1 h0
    subst this
    exact ⟨_, _, rfl, by simp, fun h => absurd rfl h⟩
  · refine ⟨_, _, rfl, hc, fun h0 => ⟨g, 0, rfl, (Array.getElem?_eq_some_iff.1 hg).1, fun i p hp => ?_⟩⟩
    have hi : i < ps.length := (List.getElem?_eq_some_iff.1 hp).1
    have hv := List.getElem?_eq_getElem (show i < vs.length by omega)
    obtain ⟨m1, m2⟩ := cellsPm_at ps vs i p _ hp hv
    have ea : ∀ j, (⟨g, 0, none⟩ : Addr).add j = ⟨g, 0 + j, none⟩ := fun j => by unfold Addr.add; split <;> simp_all
    have c1 := hr.cells (g := g) rfl _ _ m1
    have c2 := hr.cells (g := g) rfl _ _ m2
    rw [ea] at c1 c2
    exact ⟨_, c1, by rw [Nat.add_assoc]; exact c2, hs i p _ hp hv⟩
theorem infoParam : (Tryz.prog.info? 48).map (fun i => (i.zero, i.size, i.bytes)) = some (some (.agg #[.string ⟨#[]⟩, .slice none 0 0]), 2, 40) := by kernel_rfl
theorem params_snoc {w5 w' : World} {base : Nat} {u sv : Value} {ps : List Pm} {vs0 : List Value} {nm : List UInt8} {vs : List (List UInt8)} {t : TypeId} (hl : vs0.length = ps.length) (hs : ∀ (i : Nat) (p : Pm) (x : Value), ps[i]? = some p → vs0[i]? = some x → IsStrs w5 x p.2)
    (hsv : IsStrs w5 sv vs) (hg : G w5 w') (hr : w'.ownsRow base t 2 u (ps.length + 1) (cellsPm ps vs0 ++ [.string (S nm), sv])) : IsParams w' u (ps ++ [(nm, vs)]) := by
  refine params_of_row (vs := vs0 ++ [sv]) (by simp [hl]) ?_ (by rw [List.length_append, cellsPm_append _ _ _ _ hl]; exact hr)
  intro i p x hp hx
  rcases Nat.lt_or_ge i ps.length with hi | hi
  · rw [List.getElem?_append_left hi] at hp
    rw [List.getElem?_append_left (by omega)] at hx
    exact (hs i p x hp hx).grow hg
  · have hi2 : i = ps.length := by
      have := (List.getElem?_eq_some_iff.1 hp).1
      simp at this
      omega
    subst hi2
    rw [List.getElem?_append_right (Nat.le_refl _)] at hp
    rw [List.getElem?_append_right (by omega)] at hx
    simp [hl] at hp hx
    subst hp; subst hx
    exact hsv.grow hg
end Go.Proofs.YtfadckackdmbnaaGreatDoor

namespace Go.Proofs.YtfadckackdmbnaaGreatDoor
open Go.RowKit
set_option linter.unusedVariables false
set_option linter.unusedSimpArgs false
theorem decode_len (s : ByteArray) (pos : Nat) : (Utf8.decode s pos).2 ≤ 4 := by
  simp only [Utf8.decode]
  repeat' split
  all_goals omega
theorem decode_cont (s : ByteArray) (pos k : Nat) (h1 : 1 ≤ k) (h2 : k < (Utf8.decode s pos).2) : pos + k < s.size ∧ 128 ≤ (s.get! (pos + k)).toNat := by
  have h4 := decode_len s pos
  have hk : k = 1 ∨ k = 2 ∨ k = 3 := by omega
  clear h4 h1
  rcases hk with rfl | rfl | rfl
  all_goals
    simp only [Utf8.decode] at h2
    repeat' split at h2
    all_goals simp only [Bool.and_eq_true, decide_eq_true_eq, beq_iff_eq] at *
    all_goals omega
def asciiL (l : List UInt8) : Prop := ∀ c ∈ l, c.toNat < 128
theorem asciiL.drop {l : List UInt8} (h : asciiL l) (k : Nat) : asciiL (l.drop k) := fun c hc => h c (List.mem_of_mem_drop hc)
set_option maxRecDepth 100000 in
set_option maxHeartbeats 1000000 in
theorem indexRune_error (l : List UInt8) (w : World) (ha : asciiL l) (hl : l.length ≤ 1000) : Gives 104 #[.string (S l), .int .i32 65533] w (.int .i64 (-1)) := by
  have HA := hid ha; clear ha
  go_enter Tryz.func104, Tryz.ntmps104
  go_wp2
  go_loopg [] l.length (fun g wx => ∃ i : Nat, i + g = l.length ∧ wx = w.iter (S l) i)
  case atStart => exact ⟨0, by omega, rfl⟩
  case round =>
    obtain ⟨i, hig, rfl⟩ := hrel
    cases gk with
    | zero =>
      obtain rfl : i = l.length := by omega
      have hnx := run_next_end (P := Tryz.prog) w (S l) l.length
      go_wp2
      go_ret
      exact ⟨rfl, (G.refl _).alloc _⟩
    | succ g =>
      have hi : i < l.length := by omega
      have hx : l[i].toNat < 128 := HA.out _ (List.getElem_mem hi)
      have hnx := fun ty => run_next_ascii (P := Tryz.prog) w (S l) i ty (by simpa using hi) (by simpa using hx)
      rw [S_get] at hnx
      have hne : (((l[i].toNat : Nat) : Int) == 65533) = false := beq_eq_false_iff_ne.2 (by omega)
      go_wp2
      go_roundg g
      case measure => omega
      case rel => exact ⟨i + 1, by omega, rfl⟩
theorem utf8_encode_S (r : Int) : ∃ rs : List UInt8, Utf8.encode r = S rs := ⟨(Utf8.encode r).data.toList, rfl⟩
theorem encode_high (r : Int) (h : 128 ≤ r) (hv : Utf8.valid r = true) : ∃ init : List UInt8, ∃ c : UInt8, Utf8.encode r = S (init ++ [c]) ∧ 1 ≤ init.length ∧ init.length ≤ 3 ∧ 128 ≤ c.toNat := by
  obtain ⟨h1, h2, h3⟩ := encode_facts r hv h
  obtain ⟨rs, hrs⟩ := utf8_encode_S r
  rw [hrs] at h1 h2
  simp only [S_size] at h1 h2
  have hne : rs ≠ [] := by intro e; subst e; simp at h1
  refine ⟨rs.dropLast, rs.getLast hne, ?_, by simp; omega, by simp; omega, ?_⟩
  · rw [hrs, List.dropLast_concat_getLast]
  · have := h3 (by rw [hrs]; simp; omega)
    simp only [hrs] at this
    rw [List.getLast_eq_getElem]
    simpa using this
set_option maxRecDepth 100000 in
set_option maxHeartbeats 1000000 in
theorem validRune_any (r : Int) (w : World) (h1 : 0 ≤ r) (h2 : r ≤ 2147483647) : Pure 155 #[.int .i32 r] w (.bool (Utf8.valid r)) := by
  go_enter Tryz.func155, Tryz.ntmps155
  go_wp2
  all_goals go_ret
  all_goals refine ⟨ret_bool ?_, rfl⟩
  all_goals (rw [validRune_eq]; unfold validRune; first | exact (decide_eq_true (by omega)).symm | exact (decide_eq_false (by omega)).symm)
set_option maxRecDepth 100000 in
set_option maxHeartbeats 1000000 in
theorem indexRune_high (l : List UInt8) (r : Int) (w : World) (ha : asciiL l) (hl : l.length ≤ 1000) (h1 : 128 ≤ r) (h2 : r ≤ 2147483647) (h3 : (r == 65533) = false) : Gives 104 #[.string (S l), .int .i32 r] w (.int .i64 (-1)) := by
  have HA := hid ha; clear ha
  cases hv : Utf8.valid r with
  | false =>
    go_enter Tryz.func104, Tryz.ntmps104
    go_wp2_with (go_at_call 155; refine (validRune_any r _ (by omega) (by omega)).use ?_)
    go_ret
    exact ⟨rfl, G.refl _⟩
  | true =>
    obtain ⟨init, c, he, i1, i3, hc⟩ := encode_high r h1 hv
    have hlen : (init ++ [c]).length = init.length + 1 := by simp
    have hix := indexByte_none (l.drop (init.length + 1)) c (fun hm => by have := HA.out.drop _ c hm; omega)
    have HX : Hid (∀ w, Pure 122 #[.string (S (l.drop (init.length + 1))), .int .u8 (c.toNat : Int)] w (.int .i64 (-1))) := hid (fun w => by
      have := indexByte_any (l.drop (init.length + 1)) c w
      rw [hix] at this; exact this)
    clear hix
    have hcv : ∀ w, (convert 21 9 (.int .i32 r)).run Tryz.prog w = .ok (.string (S (init ++ [c]))) w := fun w => by
      rw [run_convert_int_string w _ _ _ _ (by kernel_rfl) Tryz.underlying9, he]
    clear he
    by_cases hlt : init.length < l.length
    · have hx : l[init.length].toNat < 128 := HA.out _ (List.getElem_mem hlt)
      have hcx : (((l[init.length].toNat : Nat) : Int) != (c.toNat : Int)) = true := by
        simp; intro e; omega
      have hgc : (init ++ [c])[init.length]'(by simp) = c := by simp
      go_enter Tryz.func104, Tryz.ntmps104
      go_wp2_with (go_at_call 155; refine (validRune_any r _ (by omega) (by omega)).use ?_)
      go_step3
      go_wp2_with fail
      refine wp_loop_rounds 1 ?_
      rw [rounds_succ]
      go_wp2_with fail
      go_step3
      go_wp2_with fail
      refine wp_region_grow (by kernel_rfl) (by kernel_rfl) ?_
      repeat (first | go_big_quiet_skip | (go_big_quiet_want; go_big_quiet_op; first | go_big_quiet_on | (apply Exists.intro; apply And.intro; (focus (intro _ hg; fail)); go_big_quiet_on) | (refine ⟨_, fun _ _ => rfl, ?_⟩; go_big_quiet_on)))
      refine wpQuiet_nil ?_
      intro wq gq
      go_wp2_with fail
      refine wp_region_grow (by kernel_rfl) (by kernel_rfl) ?_
      repeat (first | go_big_quiet_skip | (go_big_quiet_want; go_big_quiet_op; first | go_big_quiet_on | (apply Exists.intro; apply And.intro; (focus (intro _ hg; (go_at_call 122; exact Pure.gq hg (HX.out _)))); go_big_quiet_on) | (refine ⟨_, fun _ _ => rfl, ?_⟩; go_big_quiet_on)))
      refine wpQuiet_nil ?_
      intro wq gq
      go_wp2_with fail
      rw [Exit.noGoto_ret]
      go_wp2_with fail
      rw [Exit.noGoto_ret]
      go_wp2_with fail
      go_ret
      exact ⟨rfl, (by repeat (first | exact G.refl _ | assumption | apply G.drew | apply G.drewN | apply G.alloc | refine G.trans ?_ (by assumption)))⟩
    · go_enter Tryz.func104, Tryz.ntmps104
      go_wp2_with (go_at_call 155; refine (validRune_any r _ (by omega) (by omega)).use ?_)
      go_step3
      go_wp2_with fail
      refine wp_loop_rounds 1 ?_
      rw [rounds_succ]
      go_wp2_with fail
      rw [Exit.noGoto_ret]
      go_wp2_with fail
      go_ret
      exact ⟨rfl, G.refl _⟩
end Go.Proofs.YtfadckackdmbnaaGreatDoor

namespace Go.Proofs.YtfadckackdmbnaaGreatDoor
open Go.RowKit
set_option linter.unusedVariables false
set_option linter.unusedSimpArgs false
theorem noAny_more {s chars : List UInt8} {i j : Nat} (h : Lib.NoAny s chars i) (hij : i ≤ j) (ha : asciiL chars) (hh : ∀ k, i ≤ k → k < j → ∀ b, s[k]? = some b → 128 ≤ b.toNat) : Lib.NoAny s chars j := by
  intro k b hk hb
  by_cases hki : k < i
  · exact h k b hki hb
  · have h1 := hh k (by omega) hk b hb
    cases hc : chars.contains b with
    | false => rfl
    | true =>
      have := ha b (by simpa using hc)
      omega
def iterSet (w : World) (b : Nat) (s : ByteArray) (p : Nat) : World := { w with heap := w.heap.setIfInBounds b (.stringIter s p) }
theorem iterSet_at {w : World} {b : Nat} {s t : ByteArray} {p q : Nat} (h : w.heap[b]? = some (.stringIter t q)) : (iterSet w b s p).heap[b]? = some (.stringIter s p) := by
  have hb : b < w.heap.size := by
    rcases Nat.lt_or_ge b w.heap.size with h' | h'
    · exact h'
    · rw [Array.getElem?_eq_none h'] at h; cases h
  show (w.heap.setIfInBounds b _)[b]? = _
  rw [Array.getElem?_setIfInBounds_self_of_lt hb]
theorem G.iterSet {w0 w : World} {b : Nat} (g : G w0 w) (hb : w0.heap.size ≤ b) (s : ByteArray) (p : Nat) : G w0 (iterSet w b s p) := by
  refine ⟨g.1, g.2, g.3, ?_, ?_⟩
  · have := g.size; show _ ≤ (w.heap.setIfInBounds _ _).size; simpa using this
  · intro k hk
    show (w.heap.setIfInBounds b _)[k]? = _
    rw [Array.getElem?_setIfInBounds_ne (by omega)]
    exact g.below.block k hk
theorem next_end {P : Program} (w : World) (b : Nat) (s : ByteArray) (pos : Nat) (ty : TypeId) (hb : w.heap[b]? = some (.stringIter s pos)) (h : ¬ pos < s.size) :
    (Instr.next (.pointer (some ⟨b, 0, none⟩)) true ty).run P w = .ok (.tuple #[.bool false]) w := by
  simp [Instr.next, getObj, Sem.run, hb, h]
theorem next_any_iter {P : Program} (w : World) (b : Nat) (s : ByteArray) (pos : Nat) (ty : TypeId) (hb : w.heap[b]? = some (.stringIter s pos)) (h : pos < s.size) :
    (Instr.next (.pointer (some ⟨b, 0, none⟩)) true ty).run P w = .ok (.tuple #[.bool true, .int .i64 pos, .int .i32 (Utf8.decode s pos).1]) (iterSet w b s (pos + (Utf8.decode s pos).2)) := by
  simp only [Instr.next, getObj, setObj, Sem.run_bind, Sem.run, hb, Result.andThen, h, if_true]
  simp [goInt, iterSet]
theorem indexRune_beyond (l : List UInt8) (r : Nat) (w : World) (ha : asciiL l) (hl : l.length ≤ 1000) (h1 : 128 ≤ r) (h2 : r ≤ 2147483647) : Gives 104 #[.string (S l), .int .i32 (r : Int)] w (.int .i64 (-1)) := by
  by_cases h : r = 65533
  · subst h; exact indexRune_error l w ha hl
  · exact indexRune_high l r w ha hl (by omega) (by omega) (beq_eq_false_iff_ne.2 (by omega))
set_option maxRecDepth 100000 in
set_option maxHeartbeats 4000000 in
theorem indexAny_short (s chars : List UInt8) (w : World) (hs : s.length ≤ 8) (h2 : 2 ≤ chars.length) (hc : chars.length ≤ 1000) (ha : asciiL chars) : Gives 62 #[.string (S s), .string (S chars)] w (.int .i64 (Lib.indexAny s chars)) := by
  have HA := hid ha; clear ha
  have hemp : chars.isEmpty = false := by cases chars with
    | nil => simp at h2
    | cons _ _ => rfl
  have hn1 : ((chars.length : Int) == 1) = false := beq_eq_false_iff_ne.2 (by omega)
  have h8z : decide ((8 : Int) < (s.length : Int)) = false := decide_eq_false (by omega)
  go_enter Tryz.func62, Tryz.ntmps62
  go_wp2_with (go_at_call 105; refine (Tryz.strings_shouldUseASCIISet _ _).mono ?_; rintro e w' ⟨rfl, hw⟩; rw [hw, h8z])
  go_loopg [9, 10] s.length (fun g _ _ wx => ∃ i : Nat, i ≤ s.length ∧ s.length ≤ i + g ∧ wx.heap[w.heap.size]? = some (.stringIter (S s) i) ∧ G w wx ∧ Lib.NoAny s chars i)
  case atStart => exact ⟨0, by omega, by omega, World.iter_heap _ _ _, (G.refl _).alloc _, Lib.NoAny.zero _ _⟩
  case round =>
    obtain ⟨i, hi0, hig, hbk, hgr, hno⟩ := hrel
    have HN := hid hno
    have HG := hid hgr
    clear hno hgr
    by_cases hi : i < s.length
    · obtain ⟨g, rfl⟩ : ∃ g, gk = g + 1 := ⟨gk - 1, by omega⟩
      have hi' : i < (S s).size := by simpa using hi
      have hnx := fun ty => next_any_iter (P := Tryz.prog) _ _ (S s) i ty hbk hi'
      have HB : Hid (∀ p, (iterSet _ w.heap.size (S s) p).heap[w.heap.size]? = some (.stringIter (S s) p)) := hid (fun p => iterSet_at (p := p) (s := S s) hbk)
      clear hbk
      obtain ⟨x, hx⟩ : ∃ x : UInt8, s[i]'hi = x := ⟨_, rfl⟩
      have hxl : s[i]? = some x := by rw [← hx]; exact List.getElem?_eq_getElem hi
      by_cases hlow : x.toNat < 128
      · have hd := decode_ascii (S s) i hi' (by simpa [hx] using hlow)
        simp only [S_get, hx] at hd
        rw [hd] at hnx
        have Hx := hid hxl
        clear hd hxl hx
        have hcon := Lib.contains_iff_indexByte chars x
        have hback : ((x.toNat : Int)).toNat.toUInt8 = x := by simp
        cases hin : chars.contains x
        · rw [hin] at hcon
          have hlt : ¬ ((0 : Int) ≤ Lib.indexByte chars x) := of_decide_eq_false hcon.symm
          clear hcon
          go_wp2_with (go_at_call 104; refine (Tryz.strings_IndexRune_ascii _ _ _ (by omega) (by omega)).mono ?_; rintro e w' ⟨rfl, hw⟩; rw [hw, hback])
          go_roundg g
          case measure => omega
          case rel => exact ⟨i + 1, by omega, by omega, HB.out _, HG.out.iterSet (Nat.le_refl _) _ _, HN.out.succ Hx.out hin⟩
        · rw [hin] at hcon
          have hge : (0 : Int) ≤ Lib.indexByte chars x := of_decide_eq_true hcon.symm
          clear hcon
          go_wp2_with (go_at_call 104; refine (Tryz.strings_IndexRune_ascii _ _ _ (by omega) (by omega)).mono ?_; rintro e w' ⟨rfl, hw⟩; rw [hw, hback])
          go_ret
          exact ⟨by rw [Lib.indexAny_hit HN.out Hx.out hin]; rfl, HG.out.iterSet (Nat.le_refl _) _ _⟩
      · have hd := decode_high (S s) i hi' (by simp [hx]; omega)
        have hm := decode_le (S s) i
        have hcont := decode_cont (S s) i
        have hcont' := hid hcont
        clear hcont
        obtain ⟨r, n, hrn⟩ : ∃ r n, Utf8.decode (S s) i = (r, n) := ⟨_, _, rfl⟩
        rw [hrn] at hnx hd hm hcont'
        have hin : i + n ≤ s.length := by
          by_cases h1 : n = 1
          · omega
          · have := (hcont'.out (n - 1) (by have : 1 ≤ n := hd.2; omega) (by have : 1 ≤ n := hd.2; show n - 1 < n; omega)).1
            rw [S_size] at this; omega
        have HM : Hid (Lib.NoAny s chars (i + n)) := hid (noAny_more HN.out (by omega) HA.out (by
          intro k hk1 hk2 b hb
          by_cases hki : k = i
          · subst hki; rw [hxl] at hb; injection hb with hb; subst hb; omega
          · have := hcont'.out (k - i) (by omega) (by show k - i < n; omega)
            have hkl : k < s.length := by omega
            have e : i + (k - i) = k := by omega
            rw [e] at this
            have hg : (S s).get! k = b := by
              have h1 : (S s).get! k = (S s).data[k]'(by show k < s.toArray.size; simpa using hkl) := getElem!_pos (S s).data k _
              rw [h1]
              rw [List.getElem?_eq_getElem hkl] at hb
              injection hb with hb
            rw [hg] at this
            exact this.2))
        have hr1 : 128 ≤ r := hd.1
        have hr2 : r ≤ 2147483647 := hm
        have hn1' : 1 ≤ n := hd.2
        clear hd hm hcont' hxl hx
        have Hrn := hid hrn
        clear hrn
        dsimp only at hnx
        go_wp2_with (go_at_call 104; refine (indexRune_beyond chars r _ HA.out hc hr1 hr2).use ?_; intro w2 g2)
        go_roundg g
        case measure => omega
        case rel =>
          have hlt : w.heap.size < (iterSet wr w.heap.size (S s) (i + n)).heap.size := by
            rcases Nat.lt_or_ge w.heap.size (iterSet wr w.heap.size (S s) (i + n)).heap.size with h' | h'
            · exact h'
            · have := HB.out (i + n)
              rw [Array.getElem?_eq_none h'] at this; cases this
          exact ⟨i + n, hin, by omega, by rw [g2.below.block _ hlt]; exact HB.out _, (HG.out.iterSet (Nat.le_refl _) _ _).trans g2, HM.out⟩
    · obtain rfl : i = s.length := by omega
      have hnx := fun ty => next_end (P := Tryz.prog) _ _ (S s) s.length ty hbk (by simp)
      clear hbk
      go_wp2
      go_ret
      exact ⟨by rw [Lib.indexAny_none HN.out]; rfl, HG.out⟩
theorem zeroSet (w : World) : (zeroValue 137).run Tryz.prog w = .ok (.agg (Array.replicate 256 (.bool false))) w := by kernel_rfl
theorem indexAny_any (s chars : List UInt8) (w : World) (hs : s.length ≤ 1000000) (h2 : 2 ≤ chars.length) (hc : chars.length ≤ 1000) (ha : asciiL chars) : Gives 62 #[.string (S s), .string (S chars)] w (.int .i64 (Lib.indexAny s chars)) := by
  by_cases h8 : s.length ≤ 8
  · exact indexAny_short s chars w h8 h2 hc ha
  · refine (Tryz.strings_IndexAny_long zeroSet (S s) (S chars) w (by simpa using h2) (by simp; omega) (by simp; omega) (by simp; omega) ?_).mono ?_
    · intro j b hb
      exact ha b (List.mem_of_getElem? hb)
    · rintro e w' ⟨rfl, rfl⟩
      exact ⟨rfl, ((G.refl _).alloc _).alloc _⟩
set_option maxHeartbeats 1000000 in
theorem containsAny_any (s chars : List UInt8) (w : World) (hs : s.length ≤ 1000000) (h2 : 2 ≤ chars.length) (hc : chars.length ≤ 1000) (ha : asciiL chars) : Gives 29 #[.string (S s), .string (S chars)] w (.bool (Lib.containsAny s chars)) := by
  go_enter Tryz.func29, Tryz.ntmps29
  go_wp2_with fail
  refine (indexAny_any s chars _ hs h2 hc ha).use ?_; intro w1 g1
  go_wp2_with fail
  go_ret
  exact ⟨rfl, g1⟩
theorem indexAny_neg {s chars : List UInt8} (h : ∀ c ∈ s, chars.contains c = false) : Lib.indexAny s chars = -1 := Lib.indexAny_none fun j b _ hb => h b (List.mem_of_getElem? hb)
theorem indexAny_pos {s chars : List UInt8} {k : Nat} (hk : k < s.length) (h : ∀ i (hi : i < k), chars.contains (s[i]'(by omega)) = false) (hc : chars.contains (s[k]'hk) = true) : Lib.indexAny s chars = k :=
  Lib.indexAny_hit (x := s[k]'hk) (fun j b hj hb => by
    rw [List.getElem?_eq_getElem (show j < s.length by omega)] at hb
    injection hb with hb
    rw [← hb]; exact h j hj) (List.getElem?_eq_getElem hk) hc
end Go.Proofs.YtfadckackdmbnaaGreatDoor

namespace Go.Proofs.YtfadckackdmbnaaGreatDoor
open Go.RowKit
set_option linter.unusedVariables false
set_option linter.unusedSimpArgs false
end Go.Proofs.YtfadckackdmbnaaGreatDoor

namespace Go.Proofs.YtfadckackdmbnaaGreatDoor
open Go.RowKit
set_option linter.unusedVariables false
set_option linter.unusedSimpArgs false
theorem joinPR_ne {ls : List (List (List UInt8))} {v : Value} {w : World} (h : joinPR ls v w) (h1 : ls ≠ []) (h2 : ∀ l ∈ ls, l ≠ []) : v = .tuple #[.string (S (joinP ls)), .nilIface] := by
  rcases h with ⟨h, _⟩ | ⟨_, _, h⟩ | ⟨k, e, h, _⟩
  · exact absurd h h1
  · exact h
  · exact absurd rfl (h2 _ (List.mem_of_getElem? h))
end Go.Proofs.YtfadckackdmbnaaGreatDoor

namespace Go.Proofs.YtfadckackdmbnaaGreatDoor
open Go.RowKit
set_option linter.unusedVariables false
set_option linter.unusedSimpArgs false
theorem IsStrs.one {w : World} {v : Value} {ls : List (List UInt8)} (h : IsStrs w v ls) : v.oneCell' = true := by
  obtain ⟨a, c, rfl, _⟩ := h.len; rfl
theorem joinL_append (a b : List (List UInt8)) (ha : a ≠ []) (hb : b ≠ []) : joinL (a ++ b) = joinL a ++ 44 :: joinL b := by
  cases a with
  | nil => exact absurd rfl ha
  | cons x xs =>
    cases b with
    | nil => exact absurd rfl hb
    | cons y ys =>
      rw [List.cons_append, joinL_eq, joinL_eq, joinL_eq, joinS_tail, joinS_tail, joinS_tail]
      simp [Lib.joinTail]
end Go.Proofs.YtfadckackdmbnaaGreatDoor

namespace Go.Proofs.YtfadckackdmbnaaGreatDoor
open Go.RowKit
set_option linter.unusedVariables false
set_option linter.unusedSimpArgs false
set_option maxRecDepth 100000 in
set_option maxHeartbeats 400000 in
theorem scheme_any (l : List UInt8) (w : World) (hs : l.length ≤ 140737488351328) : Pure 76 #[.string (S l)] w (if begL l = 0 then .tuple #[.string (S []), eno 8] else .tuple #[.string (S (l.take (begL l))), .nilIface]) := by
  have hle := begL_le l
  by_cases h : begL l = 0
  · rw [if_pos h]
    go_enter Tryz.func76, Tryz.ntmps76
    go_wp2_with fail
    refine (begins_any l _ hs).use ?_
    rw [h]
    go_wp2_with fail
    go_ret2
    exact ⟨rfl, rfl⟩
  · rw [if_neg h]
    have h1 : ((begL l : Int) == 0) = false := beq_eq_false_iff_ne.2 (by omega)
    go_enter Tryz.func76, Tryz.ntmps76
    go_wp2_with fail
    refine (begins_any l _ hs).use ?_
    go_wp2_with fail
    go_ret2
    exact ⟨rfl, rfl⟩
set_option maxRecDepth 100000 in
set_option maxHeartbeats 400000 in
theorem media_any (l : List UInt8) (w : World) (hs : l.length ≤ 140737488351328) : Pure 82 #[.string (S l)] w (.bool (mediaB l)) := by
  go_enter Tryz.func82, Tryz.ntmps82
  go_wp2
  go_loop [6] (fun i => ∃ k : Nat, k ≤ l.length ∧ i = .int .i64 k ∧ (l.take k).all mediaP = true) (fun i => l.length - (intOf i).toNat)
  case atStart => exact ⟨0, Nat.zero_le _, rfl, rfl⟩
  case round =>
    obtain ⟨k, hk, rfl, hr⟩ := hrel
    have HR := hid hr; clear hr
    by_cases hlt : k < l.length
    case neg =>
      go_wp2
      go_ret
      exact ⟨ret_bool (all_end HR.out (by omega)).symm, rfl⟩
    have hb := l[k].toNat_lt
    go_wp2
    all_goals try (go_ret; refine ⟨ret_bool (all_at hlt (by unfold mediaP; rw [decide_eq_false_iff_not]; ((try simp only [beq_iff_eq, beq_eq_false_iff_ne, ne_eq] at *); omega))).symm, rfl⟩; done)
    all_goals go_round
    all_goals try (case measure => simp [intOf]; omega)
    all_goals exact ⟨k + 1, by omega, by go_num, all_step HR.out hlt (by unfold mediaP; rw [decide_eq_true_iff]; ((try simp only [beq_iff_eq, beq_eq_false_iff_ne, ne_eq] at *); omega))⟩
def dataP : List UInt8 := [100, 97, 116, 97, 58]
def base64P : List UInt8 := [59, 98, 97, 115, 101, 54, 52]
def dataU (k b : List UInt8) : List UInt8 := dataP ++ k ++ [59, 98, 97, 115, 101, 54, 52, 44] ++ b64E b
set_option maxRecDepth 100000 in
set_option maxHeartbeats 400000 in
theorem data_any (k b : List UInt8) (w : World) (hk : k.length ≤ 1099511627776) (hb : b.length ≤ 1099511627776) : Gives 149 #[.string (S k), .string (S b)] w (if mediaB k = true then .tuple #[.string (S (dataU k b)), .nilIface] else .tuple #[.string (S []), eno 3]) := by
  have hen : (b64E b).length ≤ 1466015503704 := by rw [b64E_length]; omega
  cases h : mediaB k with
  | true =>
    rw [if_pos rfl]
    go_enter Tryz.func149, Tryz.ntmps149
    go_wp2_with fail
    refine (media_any k _ (by omega)).use ?_
    rw [h]
    go_wp2_with (fail)
    refine (b64encode_any b _ hb).use ?_; intro w1 g1
    go_wp2_with fail
    go_ret2
    exact ⟨by simp [dataU, dataP], g1⟩
  | false =>
    rw [if_neg (by simp)]
    go_enter Tryz.func149, Tryz.ntmps149
    go_wp2_with fail
    refine (media_any k _ (by omega)).use ?_
    rw [h]
    go_wp2_with fail
    go_ret2
    exact ⟨rfl, G.refl _⟩
end Go.Proofs.YtfadckackdmbnaaGreatDoor

namespace Go.Proofs.YtfadckackdmbnaaGreatDoor
open Go.RowKit
set_option linter.unusedVariables false
set_option linter.unusedSimpArgs false
theorem IsStrs.one1 {w : World} {b : Nat} {x : List UInt8} (h : w.cell? ⟨b, 0, none⟩ = some (.string (S x))) : IsStrs w (.slice (some ⟨b, 0, none⟩) 1 1) [x] := by
  refine ⟨⟨by simp, by intro u hu; rw [List.mem_singleton.1 hu]; rfl, .inr ⟨b, 0, 1, rfl, World.block_lt_of_cell? _ _ h, by simp, ?_⟩⟩, by simp [capOk]⟩
  intro j hj
  obtain rfl : j = 0 := by simpa using hj
  simpa using h
theorem IsParams.one {w : World} {b c : Nat} {nm x : List UInt8} (h : w.cell? ⟨b, 0, none⟩ = some (.string (S x))) (h1 : w.cell? ⟨c, 0, none⟩ = some (.string (S nm))) (h2 : w.cell? ⟨c, 1, none⟩ = some (.slice (some ⟨b, 0, none⟩) 1 1)) :
    IsParams w (.slice (some ⟨c, 0, none⟩) 1 1) [(nm, [x])] := by
  refine ⟨_, _, rfl, by simp, fun _ => ⟨c, 0, rfl, World.block_lt_of_cell? _ _ h1, ?_⟩⟩
  intro i p hp
  match i, hp with
  | 0, hp =>
    simp at hp
    subst hp
    exact ⟨_, by simpa using h1, by simpa using h2, IsStrs.one1 h⟩
  | n + 1, hp => simp at hp
end Go.Proofs.YtfadckackdmbnaaGreatDoor
