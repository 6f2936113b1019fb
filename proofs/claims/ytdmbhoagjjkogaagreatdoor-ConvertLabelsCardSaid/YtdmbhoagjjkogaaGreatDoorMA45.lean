/-
  Texts merged into one: Code, SumTo, Wide, Parts, WhenDate, Uri, NameF.
-/
import Derived.Test.YtdmbhoagjjkogaaGreatDoorMUtf
import Derived.Test.YtdmbhoagjjkogaaGreatDoorMA44
import Derived.Test.YtdmbhoagjjkogaaGreatDoorMA36
import Derived.Test.YtdmbhoagjjkogaaGreatDoorMA54
import Derived.Test.YtdmbhoagjjkogaaGreatDoorMA47
import Derived.IntWalk
import Derived.Test.YtdmbhoagjjkogaaGreatDoorWhenPrint
import Derived.Deep.RegionHeld3
import Derived.WideMake
import Derived.Laws.Tables
import Derived.Shelf.Strings.MapAny
import Derived.Test.YtdmbhoagjjkogaaGreatDoorMA50
namespace Go.Proofs.YtdmbhoagjjkogaaGreatDoor
open Go.RowKit
set_option linter.unusedVariables false
set_option linter.unusedSimpArgs false
/-! ## code points -/
theorem next_ascii_val {b : UInt8} {t : List UInt8} (h : b.toNat < 128) : nextL (b :: t) = ((b.toNat : Int), 1) := by
  unfold nextL
  simp [h, show ¬ 128 ≤ b.toNat by omega]
theorem step_ascii {b : UInt8} {t : List UInt8} (h : b.toNat < 128) : stepL (b :: t) = 1 := by
  unfold stepL; rw [next_ascii_val h]; rfl
theorem bad_cons {b : UInt8} {t : List UInt8} (h : b.toNat < 128) : badL (b :: t) = (badL t).map (· + 1) := by
  have hs : stepL (b :: t) = 1 := step_ascii h
  rw [badL_step (by rw [hs]; decide), hs]; rfl
theorem bad_cons_none {b : UInt8} {t : List UInt8} (h : b.toNat < 128) : badL (b :: t) = none ↔ badL t = none := by
  rw [bad_cons h]; cases badL t <;> simp
theorem bad_ascii : ∀ (l : List UInt8), (∀ b ∈ l, b.toNat < 128) → badL l = none
  | [], _ => badL_nil
  | b :: t, h => (bad_cons_none (h b List.mem_cons_self)).2 (bad_ascii t fun x hx => h x (List.mem_cons_of_mem _ hx))
theorem step_high {l : List UInt8} (h : stepL l ≠ 0) : stepL l = 1 ∧ (∃ b t, l = b :: t ∧ b.toNat < 128) ∨ ∀ b ∈ l.take (stepL l), 128 ≤ b.toNat := by
  cases l with
  | nil => exact absurd rfl h
  | cons b t =>
    by_cases hb : b.toNat < 128
    · exact .inl ⟨step_ascii hb, b, t, rfl, hb⟩
    · right
      rcases nextL_bounds (b :: t) with hn | ⟨r, n, hn, hm, n1, n4, nl⟩
      · exact absurd (by unfold stepL; rw [hn]; rfl) h
      · have hs : stepL (b :: t) = n := stepL_of hn
        rw [hs]
        have hp := encode_next hn n1
        rw [← hp]
        have hr : ¬ r < 128 := by
          intro hr
          rw [pointL_1 hr] at hp
          have hl := congrArg List.length hp
          simp at hl
          have hn1 : n = 1 := by simp at nl; omega
          subst hn1
          simp at hp
          have := (may_range hm).1
          have hbn : (byteOf r).toNat = r.toNat := by unfold byteOf; simp; omega
          rw [hp] at hbn
          omega
        have hby : ∀ x : Int, 128 ≤ x → x < 256 → 128 ≤ (byteOf x).toNat := by
          intro x h1 h2
          have : (byteOf x).toNat = x.toNat := by unfold byteOf; simp; omega
          omega
        have hr2 := may_range hm
        intro c hc
        by_cases h2 : r < 2048
        · rw [pointL_2 hr h2] at hc
          simp only [List.mem_cons, List.not_mem_nil, or_false] at hc
          rcases hc with rfl | rfl <;> exact hby _ (by omega) (by omega)
        · by_cases h3 : r < 65536
          · rw [pointL_3 hr h2 h3] at hc
            simp only [List.mem_cons, List.not_mem_nil, or_false] at hc
            rcases hc with rfl | rfl | rfl <;> exact hby _ (by omega) (by omega)
          · rw [pointL_4 hr h2 h3] at hc
            simp only [List.mem_cons, List.not_mem_nil, or_false] at hc
            rcases hc with rfl | rfl | rfl | rfl <;> exact hby _ (by omega) (by omega)
theorem bad_take {l : List UInt8} (h : stepL l ≠ 0) : badL (l.take (stepL l)) = none := by
  obtain ⟨hn, hl⟩ : (nextL (l.take (stepL l)) = nextL l) ∧ (l.take (stepL l)).length = stepL l := by
    have hl : (l.take (stepL l)).length = stepL l := by have := step_le l; simp; omega
    refine ⟨?_, hl⟩
    rcases nextL_bounds l with h0 | ⟨r, n, hn, hm, n1, n4, nl⟩
    · exact absurd (by unfold stepL; rw [h0]; rfl) h
    · have hs : stepL l = n := stepL_of hn
      rw [hs, ← encode_next hn n1]
      have := next_point hm ([] : List UInt8)
      rw [List.append_nil] at this
      rw [this, encode_next hn n1, hn]
      have : (l.take n).length = n := by simp; omega
      rw [this]
  have hs : stepL (l.take (stepL l)) = stepL l := congrArg (fun p : Int × Int => p.2.toNat) hn
  rw [badL_step (by rw [hs]; exact h), hs, List.drop_eq_nil_of_le (by omega), badL_nil]; rfl
def txtP (lines : Bool) (c : UInt8) : Bool := decide ((32 ≤ (c.toNat : Int) ∨ (c.toNat : Int) = 9 ∨ ((c.toNat : Int) = 10 ∧ lines = true)) ∧ (c.toNat : Int) ≠ 127)
def holdsB (s : List UInt8) (lines : Bool) : Bool := s.all (txtP lines) && (badL s).isNone
theorem holds_no {s : List UInt8} {lines : Bool} (h : s.all (txtP lines) = false) : holdsB s lines = false := by unfold holdsB; rw [h]; rfl
theorem holds_bad {s : List UInt8} {lines : Bool} {k : Nat} (h : badL s = some k) : holdsB s lines = false := by unfold holdsB; rw [h]; simp
theorem holds_yes {s : List UInt8} {lines : Bool} (h : s.all (txtP lines) = true) (hb : badL s = none) : holdsB s lines = true := by unfold holdsB; rw [h, hb]; rfl
theorem holds_iff {s : List UInt8} {lines : Bool} : holdsB s lines = true ↔ (∀ c ∈ s, txtP lines c = true) ∧ badL s = none := by
  unfold holdsB
  rw [Bool.and_eq_true, List.all_eq_true, Option.isNone_iff_eq_none]
theorem holds_append {a b : List UInt8} {l : Bool} (ha : holdsB a l = true) (hb : holdsB b l = true) : holdsB (a ++ b) l = true := by
  obtain ⟨a1, a2⟩ := holds_iff.1 ha
  obtain ⟨b1, b2⟩ := holds_iff.1 hb
  refine holds_iff.2 ⟨fun c hc => ?_, bad_append_none a2 b2⟩
  rcases List.mem_append.1 hc with h | h
  · exact a1 c h
  · exact b1 c h
theorem holds_cons {c : UInt8} {b : List UInt8} {l : Bool} (hc : c.toNat < 128) (ht : txtP l c = true) (hb : holdsB b l = true) : holdsB (c :: b) l = true := by
  obtain ⟨b1, b2⟩ := holds_iff.1 hb
  refine holds_iff.2 ⟨fun x hx => ?_, (bad_cons_none hc).2 b2⟩
  rcases List.mem_cons.1 hx with rfl | h
  · exact ht
  · exact b1 x h
theorem holds_nil (l : Bool) : holdsB [] l = true := holds_iff.2 ⟨fun c hc => (by cases hc), badL_nil⟩
theorem holds_ascii {s : List UInt8} {l : Bool} (h : ∀ c ∈ s, 32 ≤ c.toNat ∧ c.toNat ≤ 126) : holdsB s l = true := by
  refine holds_iff.2 ⟨fun c hc => ?_, bad_ascii s fun b hb => by have := h b hb; omega⟩
  have := h c hc
  unfold txtP
  rw [decide_eq_true_iff]
  omega
end Go.Proofs.YtdmbhoagjjkogaaGreatDoor

namespace Go.Proofs.YtdmbhoagjjkogaaGreatDoor
end Go.Proofs.YtdmbhoagjjkogaaGreatDoor

namespace Go.Proofs.YtdmbhoagjjkogaaGreatDoor
open Go.RowKit
set_option linter.unusedVariables false
set_option linter.unusedSimpArgs false
def lensP (p : Pm) : Nat := p.1.length + p.2.length + (p.2.map List.length).sum
def wideN (ps : List Pm) : Nat := ps.length + (ps.map lensP).sum
end Go.Proofs.YtdmbhoagjjkogaaGreatDoor

namespace Go.Proofs.YtdmbhoagjjkogaaGreatDoor
open Go.RowKit
set_option linter.unusedVariables false
set_option linter.unusedSimpArgs false
structure OwnParts (w0 w : World) (v : Value) (done : List (List (List UInt8) × Value)) (last : List (List UInt8)) (fv : Value) : Prop where
  row : w.ownsRow w0.heap.size 23 1 v (done.length + 1) (done.map (·.2) ++ [fv])
  own : w.ownsRow w0.heap.size 9 1 fv last.length (last.map fun l => .string (S l))
  old : ∀ d ∈ done, w.ownsRow w0.heap.size 9 1 d.2 d.1.length (d.1.map fun l => .string (S l)) ∧ (d.2.ownBlock = none ∨ d.2.ownBlock ≠ fv.ownBlock)
theorem types_apart {w : World} {base base' : Nat} {s s' : Nat} {e e' : TypeId} {tv cv : Value} {n m : Nat} {xs ys : List Value} (hne : e ≠ e') (ht : w.ownsRow base e s tv n xs) (hc : w.ownsRow base' e' s' cv m ys) (q : Nat) (hq : tv.ownBlock = some q) : cv.ownBlock ≠ some q := by
  intro e
  rcases ht.2 with ⟨rfl, _⟩ | ⟨g1, c1, u1, rfl, _, h1, _⟩
  · cases hq
  · rcases hc.2 with ⟨rfl, _⟩ | ⟨g2, c2, u2, rfl, _, h2, _⟩
    · cases e
    · simp only [Value.ownBlock, Option.some.injEq] at hq e
      subst hq
      subst e
      rw [h1] at h2
      injection h2 with h2
      injection h2 with _ h2 _
      exact hne h2
theorem row_ne_str : 23 ≠ 9 := by decide
theorem OwnParts.keep {w0 w w' : World} {v : Value} {done : List (List (List UInt8) × Value)} {last : List (List UInt8)} {fv : Value} (h : OwnParts w0 w v done last fv) (hb : ∀ k, k < w.heap.size → w'.heap[k]? = w.heap[k]?) : OwnParts w0 w' v done last fv :=
  ⟨ownsRow_same h.row fun k _ hk => hb k hk, ownsRow_same h.own fun k _ hk => hb k hk, fun d hd => ⟨ownsRow_same (h.old d hd).1 fun k _ hk => hb k hk, (h.old d hd).2⟩⟩
theorem OwnParts.lists {w0 w : World} {v : Value} {done : List (List (List UInt8) × Value)} {last : List (List UInt8)} {fv : Value} (h : OwnParts w0 w v done last fv) : IsLists w v (done.map (·.1) ++ [last]) := by
  have hcap := cap_of_own h.row
  obtain ⟨q, cap, rfl, _, hlt⟩ := h.row.form (by omega)
  refine ⟨done.map (·.2) ++ [fv], ⟨by simp, ?_, .inr ⟨q, 0, cap, by simp, hlt, by simp, fun j hj => ?_⟩⟩, hcap, fun i l hl => ?_⟩
  · intro u hu
    rcases List.mem_append.1 hu with hu | hu
    · obtain ⟨d, hd, rfl⟩ := List.mem_map.1 hu
      rcases (h.old d hd).1.2 with ⟨e, _⟩ | ⟨g, cap, cur, e, _⟩
      · rw [e]; rfl
      · rw [e]; rfl
    · have : u = fv := List.mem_singleton.1 hu
      subst this
      rcases h.own.2 with ⟨e, _⟩ | ⟨g, cap, cur, e, _⟩
      · rw [e]; rfl
      · rw [e]; rfl
  · have := h.row.cells (g := q) rfl j _ (List.getElem?_eq_getElem hj)
    rw [Nat.zero_add]
    have e : (⟨q, 0, none⟩ : Addr).add j = ⟨q, j, none⟩ := by unfold Addr.add; split <;> simp_all
    rw [e] at this; exact this
  · rcases Nat.lt_or_ge i done.length with hi | hi
    · rw [List.getElem?_append_left (by simpa using hi), List.getElem?_map, List.getElem?_eq_getElem hi] at hl
      injection hl with hl
      refine ⟨done[i].2, by rw [List.getElem?_append_left (by simpa using hi), List.getElem?_map, List.getElem?_eq_getElem hi]; rfl, ?_⟩
      rw [← hl]
      exact strs_of_own (h.old _ (List.getElem_mem hi)).1
    · rw [List.getElem?_append_right (by simpa using hi)] at hl
      simp at hl
      have hi0 : i - done.length = 0 := by
        rcases Nat.eq_zero_or_pos (i - done.length) with h | h
        · exact h
        · obtain ⟨n, hn⟩ : ∃ n, i - done.length = n + 1 := ⟨i - done.length - 1, by omega⟩
          rw [hn] at hl; simp at hl
      rw [hi0] at hl
      simp at hl
      subst hl
      exact ⟨fv, by rw [List.getElem?_append_right (by simpa using hi)]; simp [hi0], strs_of_own h.own⟩
theorem OwnParts.begins {w0 w w' : World} {v : Value} {done : List (List (List UInt8) × Value)} {last : List (List UInt8)} {fv : Value} {g cap : Nat} (h : OwnParts w0 w v done last fv)
    (ho : w'.ownsRow w0.heap.size 23 1 (.slice (some ⟨g, 0, none⟩) (done.length + 1 + 1) cap) (done.length + 1 + 1) (done.map (·.2) ++ [fv] ++ [.slice none 0 0])) (hg : w.grownBy w' v.ownBlock) :
    OwnParts w0 w' (.slice (some ⟨g, 0, none⟩) (done.length + 1 + 1) cap) (done ++ [(last, fv)]) [] (.slice none 0 0) := by
  have key : ∀ {u : Value} {n : Nat} {xs : List Value}, w.ownsRow w0.heap.size 9 1 u n xs → w'.ownsRow w0.heap.size 9 1 u n xs := fun hu =>
    ownsRow_same hu fun k hv hk => grown_at hg hk fun e => types_apart row_ne_str h.row hu k e hv
  refine ⟨by simpa using ho, World.ownsRow_nil _ _ _ _, fun d hd => ?_⟩
  rcases List.mem_append.1 hd with hd | hd
  · refine ⟨key (h.old d hd).1, ?_⟩
    cases e : d.2.ownBlock with
    | none => exact .inl rfl
    | some k => exact .inr (by simp [Value.ownBlock])
  · have : d = (last, fv) := List.mem_singleton.1 hd
    subst this
    refine ⟨key h.own, ?_⟩
    show fv.ownBlock = none ∨ fv.ownBlock ≠ _
    cases e : fv.ownBlock with
    | none => exact .inl rfl
    | some k => exact .inr (by simp [Value.ownBlock])
theorem OwnParts.room {w0 w : World} {v : Value} {done : List (List (List UInt8) × Value)} {last : List (List UInt8)} {fv : Value} (h : OwnParts w0 w v done last fv) : ∃ q cap, v = .slice (some ⟨q, 0, none⟩) (done.length + 1) cap ∧ done.length + 1 ≤ cap ∧ w0.heap.size ≤ q ∧ q < w.heap.size
    ∧ w.cell? ⟨q, done.length, none⟩ = some fv ∧ w.frozen? ⟨q, done.length, none⟩ = false ∧ fv.ownBlock ≠ some q
    ∧ ∀ (g fcap : Nat) (w' : World) (t : List UInt8), w'.ownsRow w0.heap.size 9 1 (.slice (some ⟨g, 0, none⟩) (last.length + 1) fcap) (last.length + 1) ((last.map fun l => Value.string (S l)) ++ [.string (S t)]) →
      (∀ k, k < w.heap.size → some k ≠ fv.ownBlock → w'.heap[k]? = w.heap[k]?) → (fv.ownBlock = some g ∨ w.heap.size ≤ g) →
      OwnParts w0 (w'.setCell ⟨q, done.length, none⟩ (.slice (some ⟨g, 0, none⟩) (last.length + 1) fcap)) v done (last ++ [t]) (.slice (some ⟨g, 0, none⟩) (last.length + 1) fcap) := by
  have hcap := cap_of_own h.row
  obtain ⟨q, cap, rfl, hb, hlt⟩ := h.row.form (by omega)
  have hfq : fv.ownBlock ≠ some q := types_apart row_ne_str h.row h.own q rfl
  have hc := fun j (hj : j < done.length + 1) => h.row.cellAt j (by omega)
  refine ⟨q, cap, rfl, hcap, hb, hlt, by rw [hc _ (by omega), List.getElem?_append_right (by simp)]; simp, h.row.frozenAt _, hfq, fun g fcap w' t ho hk hat => ?_⟩
  have hgq : g ≠ q := by
    rintro rfl
    rcases hat with hat | hat
    · exact hfq hat
    · omega
  have r1 := ownsRow_same h.row (w' := w') (fun k hk2 hk1 => hk k hk1 (by
    have : k = q := by simpa [Value.ownBlock] using hk2.symm
    rw [this]; exact fun e => hfq e.symm))
  have r2 := (r1.stored done.length (.slice (some ⟨g, 0, none⟩) (last.length + 1) fcap)).1
  refine ⟨?_, ?_, fun d hd => ⟨?_, ?_⟩⟩
  · rw [List.set_append_right _ _ (by simp)] at r2
    simpa using r2
  · have r := ownsRow_same ho (w' := w'.setCell ⟨q, done.length, none⟩ (.slice (some ⟨g, 0, none⟩) (last.length + 1) fcap)) (fun k hk2 hk1 => by
      have : k = g := by simpa [Value.ownBlock] using hk2.symm
      subst this
      rw [Below.heap_setCell _ _ _ _ (by simpa using hgq)])
    simpa using r
  · obtain ⟨i1, i2⟩ := h.old d hd
    refine ownsRow_same i1 fun k hk2 hk1 => ?_
    have hkq : k ≠ q := by rintro rfl; exact types_apart row_ne_str h.row i1 k rfl hk2
    rw [Below.heap_setCell _ _ _ _ (by simpa using hkq)]
    refine hk k hk1 ?_
    rcases i2 with i2 | i2
    · rw [i2] at hk2; cases hk2
    · rw [← hk2]; exact i2
  · obtain ⟨i1, i2⟩ := h.old d hd
    rcases i2 with i2 | i2
    · exact .inl i2
    · right
      intro e
      have e' : d.2.ownBlock = some g := e
      rcases hat with hat | hat
      · exact i2 (by rw [e', hat])
      · have := (i1.lt g e').2; omega
theorem OwnParts.new (w : World) (t : List UInt8) : OwnParts w ((w.alloc (.cells #[.string (S t)] 9)).alloc (.cells #[.slice (some ⟨w.heap.size, 0, none⟩) 1 1] 23)) (.slice (some ⟨w.heap.size + 1, 0, none⟩) 1 1) [] [t] (.slice (some ⟨w.heap.size, 0, none⟩) 1 1) := by
  refine ⟨⟨rfl, .inr ⟨w.heap.size + 1, 1, #[.slice (some ⟨w.heap.size, 0, none⟩) 1 1], rfl, by omega, ?_, Nat.le_refl _, by unfold maxLen; omega, rfl, rfl⟩⟩, ⟨rfl, .inr ⟨w.heap.size, 1, #[.string (S t)], rfl, Nat.le_refl _, ?_, Nat.le_refl _, by unfold maxLen; omega, rfl, rfl⟩⟩, by simp⟩
  · have := heap_alloc_new (w.alloc (.cells #[.string (S t)] 9)) (.cells #[.slice (some ⟨w.heap.size, 0, none⟩) 1 1] 23)
    simpa using this
  · rw [Lib.alloc_old _ _ _ (by simp)]
    exact heap_alloc_new w _
def OwnLs (w : World) (base : Nat) (v : Value) (ls : List (List (List UInt8))) : Prop := ∃ vs : List Value, vs.length = ls.length ∧ (∀ (i : Nat) (l : List (List UInt8)) (u : Value), ls[i]? = some l → vs[i]? = some u → w.ownsRow base 9 1 u l.length (l.map fun x => .string (S x))) ∧ w.ownsRow base 23 1 v ls.length vs
theorem OwnLs.lists {w : World} {base : Nat} {v : Value} {ls : List (List (List UInt8))} (h : OwnLs w base v ls) : IsLists w v ls := by
  obtain ⟨vs, h1, h2, h3⟩ := h
  refine ⟨vs, row_of_own h3 (fun u hu => ?_), cap_of_own h3, fun i l hl => ?_⟩
  · obtain ⟨i, hi, rfl⟩ := List.getElem_of_mem hu
    have hl : i < ls.length := by omega
    rcases (h2 i ls[i] vs[i] (List.getElem?_eq_getElem hl) (List.getElem?_eq_getElem hi)).2 with ⟨e, _⟩ | ⟨g, cap, cur, e, _⟩
    · rw [e]; rfl
    · rw [e]; rfl
  · have hi : i < vs.length := by have := (List.getElem?_eq_some_iff.1 hl).1; omega
    exact ⟨vs[i], List.getElem?_eq_getElem hi, strs_of_own (h2 i l vs[i] hl (List.getElem?_eq_getElem hi))⟩
theorem OwnLs.kept {w w' : World} {base : Nat} {v : Value} {ls : List (List (List UInt8))} {k : Nat} (h : OwnLs w base v ls) (g : w.grownBy w' (some k)) (hk : k < base) : OwnLs w' base v ls := by
  obtain ⟨vs, h1, h2, h3⟩ := h
  exact ⟨vs, h1, fun i l u hl hu => (h2 i l u hl hu).kept g (row_under (h2 i l u hl hu) hk), h3.kept g (row_under h3 hk)⟩
theorem OwnLs.put {w : World} {base : Nat} {v : Value} {ls : List (List (List UInt8))} {k i : Nat} {x : Value} (h : OwnLs w base v ls) (hk : k < base) : OwnLs (w.setCell ⟨k, i, none⟩ x) base v ls := h.kept (mv_set w k i x) hk
theorem OwnLs.grow {w w' : World} {base : Nat} {v : Value} {ls : List (List (List UInt8))} (h : OwnLs w base v ls) (g : G w w') : OwnLs w' base v ls := by
  have e : ∀ v : Value, v.ownBlock = none ∨ v.ownBlock ≠ none := fun v => by cases v.ownBlock with | none => exact .inl rfl | some _ => exact .inr (by simp)
  obtain ⟨vs, h1, h2, h3⟩ := h
  exact ⟨vs, h1, fun i l u hl hu => (h2 i l u hl hu).kept (mv_of none g) (e _), h3.kept (mv_of none g) (e _)⟩
theorem OwnLs.one {w : World} {base : Nat} {u : Value} {l : List (List UInt8)} (h : w.ownsRow base 9 1 u l.length (l.map fun x => .string (S x))) (hb : base ≤ w.heap.size) : OwnLs (w.alloc (.cells #[u] 23)) base (.slice (some ⟨w.heap.size, 0, none⟩) 1 1) [l] := by
  refine ⟨[u], rfl, fun i l' u' hl hu => ?_, rfl, .inr ⟨w.heap.size, 1, #[u], rfl, hb, heap_alloc_new w _, Nat.le_refl _, by unfold maxLen; omega, rfl, rfl⟩⟩
  match i, hl, hu with
  | 0, hl, hu => cases hl; cases hu; exact ownsRow_same h fun k _ hk => Lib.alloc_old w _ k hk
theorem OwnParts.owns {w0 w : World} {v : Value} {done : List (List (List UInt8) × Value)} {last : List (List UInt8)} {fv : Value} (h : OwnParts w0 w v done last fv) : OwnLs w w0.heap.size v (done.map (·.1) ++ [last]) := by
  refine ⟨done.map (·.2) ++ [fv], by simp, fun i l u hl hu => ?_, by have := h.row; simpa using this⟩
  rcases Nat.lt_or_ge i done.length with hi | hi
  · rw [List.getElem?_append_left (by simpa using hi), List.getElem?_map, List.getElem?_eq_getElem hi] at hl hu
    cases hl; cases hu
    exact (h.old _ (List.getElem_mem hi)).1
  · rw [List.getElem?_append_right (by simpa using hi)] at hl hu
    have e0 : i - done.length = 0 := by
      have := (List.getElem?_eq_some_iff.1 hl).1
      simp at this; omega
    simp [e0] at hl hu
    subst hl; subst hu
    exact h.own
def PartsO (n : Nat) (r : PiecesR) (v : Value) (w' : World) : Prop :=
  match r with
  | .good ts cs => ∃ tv base, n ≤ base ∧ v = .tuple #[tv, .nilIface] ∧ OwnLs w' base tv (partsOf [ts.headD []] cs ts.tail)
  | .bad c p => ∃ e, v = .tuple #[.slice none 0 0, e] ∧ IsAt w' e c p
theorem PartsO.good {n base : Nat} {r : PiecesR} {t : List UInt8} {ts : List (List UInt8)} {cs : List UInt8} {tv : Value} {w' : World} (h : r = .good (t :: ts) cs) (hb : n ≤ base) (h1 : OwnLs w' base tv (partsOf [t] cs ts)) : PartsO n r (.tuple #[tv, .nilIface]) w' := by subst h; exact ⟨_, base, hb, rfl, h1⟩
theorem PartsO.bad {n : Nat} {r : PiecesR} {c : Int} {p : Nat} {e : Value} {w' : World} (h : r = .bad c p) (he : IsAt w' e c p) : PartsO n r (.tuple #[.slice none 0 0, e]) w' := by subst h; exact ⟨e, rfl, he⟩
def partsR (r : PiecesR) (v : Value) (w' : World) : Prop :=
  match r with
  | .good ts cs => ∃ tv, v = .tuple #[tv, .nilIface] ∧ IsLists w' tv (partsOf [ts.headD []] cs ts.tail)
  | .bad c p => ∃ e, v = .tuple #[.slice none 0 0, e] ∧ IsAt w' e c p
theorem partsR.good {r : PiecesR} {t : List UInt8} {ts : List (List UInt8)} {cs : List UInt8} {tv : Value} {w' : World} (h : r = .good (t :: ts) cs) (h1 : IsLists w' tv (partsOf [t] cs ts)) : partsR r (.tuple #[tv, .nilIface]) w' := by subst h; exact ⟨_, rfl, h1⟩
theorem partsR.bad {r : PiecesR} {c : Int} {p : Nat} {e : Value} {w' : World} (h : r = .bad c p) (he : IsAt w' e c p) : partsR r (.tuple #[.slice none 0 0, e]) w' := by subst h; exact ⟨e, rfl, he⟩
theorem IsBytes.at_ {w : World} {v : Value} {l : List UInt8} (h : IsBytes w v l) (h0 : l ≠ []) : ∃ b off cap, v = .slice (some ⟨b, off, none⟩) l.length cap ∧ b < w.heap.size ∧ ∀ (i : Nat) (c : UInt8), l[i]? = some c → w.cell? ⟨b, off + i, none⟩ = some (.int .u8 (c.toNat : Int)) := by
  obtain ⟨h1, h2, h3⟩ := h
  rcases h3 with ⟨h3, _⟩ | ⟨b, off, cap, e, hb, hn, hc⟩
  · exact absurd (List.eq_nil_of_length_eq_zero h3) h0
  · refine ⟨b, off, cap, e, hb, fun i c hl => ?_⟩
    have hi : i < l.length := by
      rcases Nat.lt_or_ge i l.length with h | h
      · exact h
      · rw [List.getElem?_eq_none h] at hl; cases hl
    rw [hc i (by simpa using hi)]
    rw [List.getElem?_eq_getElem hi] at hl
    injection hl with hl
    simp [hl]
end Go.Proofs.YtdmbhoagjjkogaaGreatDoor

namespace Go.Proofs.YtdmbhoagjjkogaaGreatDoor
open Go.RowKit
set_option linter.unusedVariables false
set_option linter.unusedSimpArgs false
def shF (x : Int) : Int := if 48 ≤ x ∧ x ≤ 57 then 57 else x
def shapeL (s : List UInt8) : List UInt8 := Lib.mapD shF s
def HasU (w : World) : Prop := Lib.Utf8Tabs 6 7 w
theorem HasU.grow {w w' : World} (h : HasU w) (g : G w w') : HasU w' := Utf8Tabs_below h g
/-! ## numbers -/
def dgB (c : UInt8) : Bool := decide (48 ≤ c.toNat) && decide (c.toNat ≤ 57)
def valL (l : List UInt8) : Nat := l.foldl (fun n c => 10 * n + (c.toNat - 48)) 0
theorem valL_snoc (l : List UInt8) (c : UInt8) : valL (l ++ [c]) = 10 * valL l + (c.toNat - 48) := by simp [valL]
end Go.Proofs.YtdmbhoagjjkogaaGreatDoor

namespace Go.Proofs.YtdmbhoagjjkogaaGreatDoor
open Go.RowKit
set_option linter.unusedVariables false
set_option linter.unusedSimpArgs false
set_option maxRecDepth 100000 in
set_option maxHeartbeats 400000 in
theorem media_any (l : List UInt8) (w : World) (hs : l.length ≤ 140737488351328) : Pure 152 #[.string (S l)] w (.bool (mediaB l)) := by
  go_enter Tryz.func152, Tryz.ntmps152
  go_wp2
  go_loop [6] (fun i => ∃ k : Nat, k ≤ l.length ∧ i = .int .i64 k ∧ (l.take k).all mediaP = true) (fun i => l.length - (intOf i).toNat)
  case atStart => exact ⟨0, Nat.zero_le _, rfl, rfl⟩
  case round =>
    obtain ⟨k, hk, rfl, hr⟩ := hrel
    have HR := hid hr; clear hr
    by_cases hlt : k < l.length
    case neg =>
      go_wp2
      go_ret
      exact ⟨ret_bool (all_end HR.out (by omega)).symm, rfl⟩
    have hb := l[k].toNat_lt
    go_wp2
    all_goals try (go_ret; refine ⟨ret_bool (all_at hlt (by unfold mediaP; rw [decide_eq_false_iff_not]; ((try simp only [beq_iff_eq, beq_eq_false_iff_ne, ne_eq] at *); omega))).symm, rfl⟩; done)
    all_goals go_round
    all_goals try (case measure => simp [intOf]; omega)
    all_goals exact ⟨k + 1, by omega, by go_num, all_step HR.out hlt (by unfold mediaP; rw [decide_eq_true_iff]; ((try simp only [beq_iff_eq, beq_eq_false_iff_ne, ne_eq] at *); omega))⟩
def dataP : List UInt8 := [100, 97, 116, 97, 58]
def dataU (k b : List UInt8) : List UInt8 := dataP ++ k ++ [59, 98, 97, 115, 101, 54, 52, 44] ++ b64E b
set_option maxRecDepth 100000 in
set_option maxHeartbeats 400000 in
theorem data_any (k b : List UInt8) (w : World) (hk : k.length ≤ 1099511627776) (hb : b.length ≤ 1099511627776) : Gives 113 #[.string (S k), .string (S b)] w (if mediaB k = true then .tuple #[.string (S (dataU k b)), .nilIface] else .tuple #[.string (S []), eno 3]) := by
  have hen : (b64E b).length ≤ 1466015503704 := by rw [b64E_length]; omega
  cases h : mediaB k with
  | true =>
    rw [if_pos rfl]
    go_enter Tryz.func113, Tryz.ntmps113
    go_wp2_with fail
    refine (media_any k _ (by omega)).use ?_
    rw [h]
    go_wp2_with (fail)
    refine (b64encode_any b _ hb).use ?_; intro w1 g1
    go_wp2_with fail
    go_ret2
    exact ⟨by simp [dataU, dataP], g1⟩
  | false =>
    rw [if_neg (by simp)]
    go_enter Tryz.func113, Tryz.ntmps113
    go_wp2_with fail
    refine (media_any k _ (by omega)).use ?_
    rw [h]
    go_wp2_with fail
    go_ret2
    exact ⟨rfl, G.refl _⟩
end Go.Proofs.YtdmbhoagjjkogaaGreatDoor

namespace Go.Proofs.YtdmbhoagjjkogaaGreatDoor
open Go.RowKit
set_option linter.unusedVariables false
set_option linter.unusedSimpArgs false
theorem upper_upper (l : List UInt8) : upperL (upperL l) = upperL l := by
  unfold upperL
  rw [List.map_map]
  exact List.map_congr_left fun c _ => of_decide_eq_true (byte_all (fun c => decide ((turn1 97 122 (-32) ∘ turn1 97 122 (-32)) c = turn1 97 122 (-32) c)) (by decide +kernel) c)
end Go.Proofs.YtdmbhoagjjkogaaGreatDoor
