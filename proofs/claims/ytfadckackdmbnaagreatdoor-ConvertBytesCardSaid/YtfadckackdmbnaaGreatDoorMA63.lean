/-
  Texts merged into one: Code, Parts, Lists, WhenRight.
-/
import Derived.Test.YtfadckackdmbnaaGreatDoorMUtf
import Derived.Test.YtfadckackdmbnaaGreatDoorMA48
import Derived.IntWalk
import Derived.Test.YtfadckackdmbnaaGreatDoorMA45
import Derived.Test.YtfadckackdmbnaaGreatDoorMTell
import Derived.Test.YtfadckackdmbnaaGreatDoorMA46
import Derived.Test.YtfadckackdmbnaaGreatDoorShelf
import Derived.Test.YtfadckackdmbnaaGreatDoorMA56
import Derived.Deep.RegionHeld3
import Derived.Deep.DeepCutAuto
import Derived.Deep.CutBlock
namespace Go.Proofs.YtfadckackdmbnaaGreatDoor
open Go.RowKit
set_option linter.unusedVariables false
set_option linter.unusedSimpArgs false
theorem next_ascii_val {b : UInt8} {t : List UInt8} (h : b.toNat < 128) : nextL (b :: t) = ((b.toNat : Int), 1) := by
  unfold nextL
  simp [h, show ¬ 128 ≤ b.toNat by omega]
theorem step_ascii {b : UInt8} {t : List UInt8} (h : b.toNat < 128) : stepL (b :: t) = 1 := by
  unfold stepL; rw [next_ascii_val h]; rfl
theorem bad_cons {b : UInt8} {t : List UInt8} (h : b.toNat < 128) : badL (b :: t) = (badL t).map (· + 1) := by
  have hs : stepL (b :: t) = 1 := step_ascii h
  rw [badL_step (by rw [hs]; decide), hs]; rfl
theorem bad_cons_none {b : UInt8} {t : List UInt8} (h : b.toNat < 128) : badL (b :: t) = none ↔ badL t = none := by
  rw [bad_cons h]; cases badL t <;> simp
theorem bad_ascii : ∀ (l : List UInt8), (∀ b ∈ l, b.toNat < 128) → badL l = none
  | [], _ => badL_nil
  | b :: t, h => (bad_cons_none (h b List.mem_cons_self)).2 (bad_ascii t fun x hx => h x (List.mem_cons_of_mem _ hx))
theorem step_high {l : List UInt8} (h : stepL l ≠ 0) : stepL l = 1 ∧ (∃ b t, l = b :: t ∧ b.toNat < 128) ∨ ∀ b ∈ l.take (stepL l), 128 ≤ b.toNat := by
  cases l with
  | nil => exact absurd rfl h
  | cons b t =>
    by_cases hb : b.toNat < 128
    · exact .inl ⟨step_ascii hb, b, t, rfl, hb⟩
    · right
      rcases nextL_bounds (b :: t) with hn | ⟨r, n, hn, hm, n1, n4, nl⟩
      · exact absurd (by unfold stepL; rw [hn]; rfl) h
      · have hs : stepL (b :: t) = n := stepL_of hn
        rw [hs]
        have hp := encode_next hn n1
        rw [← hp]
        have hr : ¬ r < 128 := by
          intro hr
          rw [pointL_1 hr] at hp
          have hl := congrArg List.length hp
          simp at hl
          have hn1 : n = 1 := by simp at nl; omega
          subst hn1
          simp at hp
          have := (may_range hm).1
          have hbn : (byteOf r).toNat = r.toNat := by unfold byteOf; simp; omega
          rw [hp] at hbn
          omega
        have hby : ∀ x : Int, 128 ≤ x → x < 256 → 128 ≤ (byteOf x).toNat := by
          intro x h1 h2
          have : (byteOf x).toNat = x.toNat := by unfold byteOf; simp; omega
          omega
        have hr2 := may_range hm
        intro c hc
        by_cases h2 : r < 2048
        · rw [pointL_2 hr h2] at hc
          simp only [List.mem_cons, List.not_mem_nil, or_false] at hc
          rcases hc with rfl | rfl <;> exact hby _ (by omega) (by omega)
        · by_cases h3 : r < 65536
          · rw [pointL_3 hr h2 h3] at hc
            simp only [List.mem_cons, List.not_mem_nil, or_false] at hc
            rcases hc with rfl | rfl | rfl <;> exact hby _ (by omega) (by omega)
          · rw [pointL_4 hr h2 h3] at hc
            simp only [List.mem_cons, List.not_mem_nil, or_false] at hc
            rcases hc with rfl | rfl | rfl | rfl <;> exact hby _ (by omega) (by omega)
theorem bad_take {l : List UInt8} (h : stepL l ≠ 0) : badL (l.take (stepL l)) = none := by
  obtain ⟨hn, hl⟩ : (nextL (l.take (stepL l)) = nextL l) ∧ (l.take (stepL l)).length = stepL l := by
    have hl : (l.take (stepL l)).length = stepL l := by have := step_le l; simp; omega
    refine ⟨?_, hl⟩
    rcases nextL_bounds l with h0 | ⟨r, n, hn, hm, n1, n4, nl⟩
    · exact absurd (by unfold stepL; rw [h0]; rfl) h
    · have hs : stepL l = n := stepL_of hn
      rw [hs, ← encode_next hn n1]
      have := next_point hm ([] : List UInt8)
      rw [List.append_nil] at this
      rw [this, encode_next hn n1, hn]
      have : (l.take n).length = n := by simp; omega
      rw [this]
  have hs : stepL (l.take (stepL l)) = stepL l := congrArg (fun p : Int × Int => p.2.toNat) hn
  rw [badL_step (by rw [hs]; exact h), hs, List.drop_eq_nil_of_le (by omega), badL_nil]; rfl
def txtP (lines : Bool) (c : UInt8) : Bool := decide ((32 ≤ (c.toNat : Int) ∨ (c.toNat : Int) = 9 ∨ ((c.toNat : Int) = 10 ∧ lines = true)) ∧ (c.toNat : Int) ≠ 127)
def holdsB (s : List UInt8) (lines : Bool) : Bool := s.all (txtP lines) && (badL s).isNone
theorem holds_no {s : List UInt8} {lines : Bool} (h : s.all (txtP lines) = false) : holdsB s lines = false := by unfold holdsB; rw [h]; rfl
theorem holds_bad {s : List UInt8} {lines : Bool} {k : Nat} (h : badL s = some k) : holdsB s lines = false := by unfold holdsB; rw [h]; simp
theorem holds_yes {s : List UInt8} {lines : Bool} (h : s.all (txtP lines) = true) (hb : badL s = none) : holdsB s lines = true := by unfold holdsB; rw [h, hb]; rfl
theorem holds_iff {s : List UInt8} {lines : Bool} : holdsB s lines = true ↔ (∀ c ∈ s, txtP lines c = true) ∧ badL s = none := by
  unfold holdsB
  rw [Bool.and_eq_true, List.all_eq_true, Option.isNone_iff_eq_none]
theorem holds_append {a b : List UInt8} {l : Bool} (ha : holdsB a l = true) (hb : holdsB b l = true) : holdsB (a ++ b) l = true := by
  obtain ⟨a1, a2⟩ := holds_iff.1 ha
  obtain ⟨b1, b2⟩ := holds_iff.1 hb
  refine holds_iff.2 ⟨fun c hc => ?_, bad_append_none a2 b2⟩
  rcases List.mem_append.1 hc with h | h
  · exact a1 c h
  · exact b1 c h
theorem holds_cons {c : UInt8} {b : List UInt8} {l : Bool} (hc : c.toNat < 128) (ht : txtP l c = true) (hb : holdsB b l = true) : holdsB (c :: b) l = true := by
  obtain ⟨b1, b2⟩ := holds_iff.1 hb
  refine holds_iff.2 ⟨fun x hx => ?_, (bad_cons_none hc).2 b2⟩
  rcases List.mem_cons.1 hx with rfl | h
  · exact ht
  · exact b1 x h
theorem holds_nil (l : Bool) : holdsB [] l = true := holds_iff.2 ⟨fun c hc => (by cases hc), badL_nil⟩
theorem holds_ascii {s : List UInt8} {l : Bool} (h : ∀ c ∈ s, 32 ≤ c.toNat ∧ c.toNat ≤ 126) : holdsB s l = true := by
  refine holds_iff.2 ⟨fun c hc => ?_, bad_ascii s fun b hb => by have := h b hb; omega⟩
  have := h c hc
  unfold txtP
  rw [decide_eq_true_iff]
  omega
end Go.Proofs.YtfadckackdmbnaaGreatDoor

namespace Go.Proofs.YtfadckackdmbnaaGreatDoor
open Go.RowKit
set_option linter.unusedVariables false
set_option linter.unusedSimpArgs false
structure OwnParts (w0 w : World) (v : Value) (done : List (List (List UInt8) × Value)) (last : List (List UInt8)) (fv : Value) : Prop where
  row : w.ownsRow w0.heap.size 23 1 v (done.length + 1) (done.map (·.2) ++ [fv])
  own : w.ownsRow w0.heap.size 9 1 fv last.length (last.map fun l => .string (S l))
  old : ∀ d ∈ done, w.ownsRow w0.heap.size 9 1 d.2 d.1.length (d.1.map fun l => .string (S l)) ∧ (d.2.ownBlock = none ∨ d.2.ownBlock ≠ fv.ownBlock)
theorem types_apart {w : World} {base base' : Nat} {s s' : Nat} {e e' : TypeId} {tv cv : Value} {n m : Nat} {xs ys : List Value} (hne : e ≠ e') (ht : w.ownsRow base e s tv n xs) (hc : w.ownsRow base' e' s' cv m ys) (q : Nat) (hq : tv.ownBlock = some q) : cv.ownBlock ≠ some q := by
  intro e
  rcases ht.2 with ⟨rfl, _⟩ | ⟨g1, c1, u1, rfl, _, h1, _⟩
  · cases hq
  · rcases hc.2 with ⟨rfl, _⟩ | ⟨g2, c2, u2, rfl, _, h2, _⟩
    · cases e
    · simp only [Value.ownBlock, Option.some.injEq] at hq e
      subst hq
      subst e
      rw [h1] at h2
      injection h2 with h2
      injection h2 with _ h2 _
      exact hne h2
theorem row_ne_str : 23 ≠ 9 := by decide
theorem OwnParts.keep {w0 w w' : World} {v : Value} {done : List (List (List UInt8) × Value)} {last : List (List UInt8)} {fv : Value} (h : OwnParts w0 w v done last fv) (hb : ∀ k, k < w.heap.size → w'.heap[k]? = w.heap[k]?) : OwnParts w0 w' v done last fv :=
  ⟨ownsRow_same h.row fun k _ hk => hb k hk, ownsRow_same h.own fun k _ hk => hb k hk, fun d hd => ⟨ownsRow_same (h.old d hd).1 fun k _ hk => hb k hk, (h.old d hd).2⟩⟩
theorem OwnParts.lists {w0 w : World} {v : Value} {done : List (List (List UInt8) × Value)} {last : List (List UInt8)} {fv : Value} (h : OwnParts w0 w v done last fv) : IsLists w v (done.map (·.1) ++ [last]) := by
  have hcap := cap_of_own h.row
  obtain ⟨q, cap, rfl, _, hlt⟩ := h.row.form (by omega)
  refine ⟨done.map (·.2) ++ [fv], ⟨by simp, ?_, .inr ⟨q, 0, cap, by simp, hlt, by simp, fun j hj => ?_⟩⟩, hcap, fun i l hl => ?_⟩
  · intro u hu
    rcases List.mem_append.1 hu with hu | hu
    · obtain ⟨d, hd, rfl⟩ := List.mem_map.1 hu
      rcases (h.old d hd).1.2 with ⟨e, _⟩ | ⟨g, cap, cur, e, _⟩
      · rw [e]; rfl
      · rw [e]; rfl
    · have : u = fv := List.mem_singleton.1 hu
      subst this
      rcases h.own.2 with ⟨e, _⟩ | ⟨g, cap, cur, e, _⟩
      · rw [e]; rfl
      · rw [e]; rfl
  · have := h.row.cells (g := q) rfl j _ (List.getElem?_eq_getElem hj)
    rw [Nat.zero_add]
    have e : (⟨q, 0, none⟩ : Addr).add j = ⟨q, j, none⟩ := by unfold Addr.add; split <;> simp_all
    rw [e] at this; exact this
  · rcases Nat.lt_or_ge i done.length with hi | hi
    · rw [List.getElem?_append_left (by simpa using hi), List.getElem?_map, List.getElem?_eq_getElem hi] at hl
      injection hl with hl
      refine ⟨done[i].2, by rw [List.getElem?_append_left (by simpa using hi), List.getElem?_map, List.getElem?_eq_getElem hi]; rfl, ?_⟩
      rw [← hl]
      exact strs_of_own (h.old _ (List.getElem_mem hi)).1
    · rw [List.getElem?_append_right (by simpa using hi)] at hl
      simp at hl
      have hi0 : i - done.length = 0 := by
        rcases Nat.eq_zero_or_pos (i - done.length) with h | h
        · exact h
        · obtain ⟨n, hn⟩ : ∃ n, i - done.length = n + 1 := ⟨i - done.length - 1, by omega⟩
          rw [hn] at hl; simp at hl
      rw [hi0] at hl
      simp at hl
      subst hl
      exact ⟨fv, by rw [List.getElem?_append_right (by simpa using hi)]; simp [hi0], strs_of_own h.own⟩
theorem OwnParts.begins {w0 w w' : World} {v : Value} {done : List (List (List UInt8) × Value)} {last : List (List UInt8)} {fv : Value} {g cap : Nat} (h : OwnParts w0 w v done last fv)
    (ho : w'.ownsRow w0.heap.size 23 1 (.slice (some ⟨g, 0, none⟩) (done.length + 1 + 1) cap) (done.length + 1 + 1) (done.map (·.2) ++ [fv] ++ [.slice none 0 0])) (hg : w.grownBy w' v.ownBlock) :
    OwnParts w0 w' (.slice (some ⟨g, 0, none⟩) (done.length + 1 + 1) cap) (done ++ [(last, fv)]) [] (.slice none 0 0) := by
  have key : ∀ {u : Value} {n : Nat} {xs : List Value}, w.ownsRow w0.heap.size 9 1 u n xs → w'.ownsRow w0.heap.size 9 1 u n xs := fun hu =>
    ownsRow_same hu fun k hv hk => grown_at hg hk fun e => types_apart row_ne_str h.row hu k e hv
  refine ⟨by simpa using ho, World.ownsRow_nil _ _ _ _, fun d hd => ?_⟩
  rcases List.mem_append.1 hd with hd | hd
  · refine ⟨key (h.old d hd).1, ?_⟩
    cases e : d.2.ownBlock with
    | none => exact .inl rfl
    | some k => exact .inr (by simp [Value.ownBlock])
  · have : d = (last, fv) := List.mem_singleton.1 hd
    subst this
    refine ⟨key h.own, ?_⟩
    show fv.ownBlock = none ∨ fv.ownBlock ≠ _
    cases e : fv.ownBlock with
    | none => exact .inl rfl
    | some k => exact .inr (by simp [Value.ownBlock])
theorem OwnParts.room {w0 w : World} {v : Value} {done : List (List (List UInt8) × Value)} {last : List (List UInt8)} {fv : Value} (h : OwnParts w0 w v done last fv) : ∃ q cap, v = .slice (some ⟨q, 0, none⟩) (done.length + 1) cap ∧ done.length + 1 ≤ cap ∧ w0.heap.size ≤ q ∧ q < w.heap.size
    ∧ w.cell? ⟨q, done.length, none⟩ = some fv ∧ w.frozen? ⟨q, done.length, none⟩ = false ∧ fv.ownBlock ≠ some q
    ∧ ∀ (g fcap : Nat) (w' : World) (t : List UInt8), w'.ownsRow w0.heap.size 9 1 (.slice (some ⟨g, 0, none⟩) (last.length + 1) fcap) (last.length + 1) ((last.map fun l => Value.string (S l)) ++ [.string (S t)]) →
      (∀ k, k < w.heap.size → some k ≠ fv.ownBlock → w'.heap[k]? = w.heap[k]?) → (fv.ownBlock = some g ∨ w.heap.size ≤ g) →
      OwnParts w0 (w'.setCell ⟨q, done.length, none⟩ (.slice (some ⟨g, 0, none⟩) (last.length + 1) fcap)) v done (last ++ [t]) (.slice (some ⟨g, 0, none⟩) (last.length + 1) fcap) := by
  have hcap := cap_of_own h.row
  obtain ⟨q, cap, rfl, hb, hlt⟩ := h.row.form (by omega)
  have hfq : fv.ownBlock ≠ some q := types_apart row_ne_str h.row h.own q rfl
  have hc := fun j (hj : j < done.length + 1) => h.row.cellAt j (by omega)
  refine ⟨q, cap, rfl, hcap, hb, hlt, by rw [hc _ (by omega), List.getElem?_append_right (by simp)]; simp, h.row.frozenAt _, hfq, fun g fcap w' t ho hk hat => ?_⟩
  have hgq : g ≠ q := by
    rintro rfl
    rcases hat with hat | hat
    · exact hfq hat
    · omega
  have r1 := ownsRow_same h.row (w' := w') (fun k hk2 hk1 => hk k hk1 (by
    have : k = q := by simpa [Value.ownBlock] using hk2.symm
    rw [this]; exact fun e => hfq e.symm))
  have r2 := (r1.stored done.length (.slice (some ⟨g, 0, none⟩) (last.length + 1) fcap)).1
  refine ⟨?_, ?_, fun d hd => ⟨?_, ?_⟩⟩
  · rw [List.set_append_right _ _ (by simp)] at r2
    simpa using r2
  · have r := ownsRow_same ho (w' := w'.setCell ⟨q, done.length, none⟩ (.slice (some ⟨g, 0, none⟩) (last.length + 1) fcap)) (fun k hk2 hk1 => by
      have : k = g := by simpa [Value.ownBlock] using hk2.symm
      subst this
      rw [Below.heap_setCell _ _ _ _ (by simpa using hgq)])
    simpa using r
  · obtain ⟨i1, i2⟩ := h.old d hd
    refine ownsRow_same i1 fun k hk2 hk1 => ?_
    have hkq : k ≠ q := by rintro rfl; exact types_apart row_ne_str h.row i1 k rfl hk2
    rw [Below.heap_setCell _ _ _ _ (by simpa using hkq)]
    refine hk k hk1 ?_
    rcases i2 with i2 | i2
    · rw [i2] at hk2; cases hk2
    · rw [← hk2]; exact i2
  · obtain ⟨i1, i2⟩ := h.old d hd
    rcases i2 with i2 | i2
    · exact .inl i2
    · right
      intro e
      have e' : d.2.ownBlock = some g := e
      rcases hat with hat | hat
      · exact i2 (by rw [e', hat])
      · have := (i1.lt g e').2; omega
theorem OwnParts.new (w : World) (t : List UInt8) : OwnParts w ((w.alloc (.cells #[.string (S t)] 9)).alloc (.cells #[.slice (some ⟨w.heap.size, 0, none⟩) 1 1] 23)) (.slice (some ⟨w.heap.size + 1, 0, none⟩) 1 1) [] [t] (.slice (some ⟨w.heap.size, 0, none⟩) 1 1) := by
  refine ⟨⟨rfl, .inr ⟨w.heap.size + 1, 1, #[.slice (some ⟨w.heap.size, 0, none⟩) 1 1], rfl, by omega, ?_, Nat.le_refl _, by unfold maxLen; omega, rfl, rfl⟩⟩, ⟨rfl, .inr ⟨w.heap.size, 1, #[.string (S t)], rfl, Nat.le_refl _, ?_, Nat.le_refl _, by unfold maxLen; omega, rfl, rfl⟩⟩, by simp⟩
  · have := heap_alloc_new (w.alloc (.cells #[.string (S t)] 9)) (.cells #[.slice (some ⟨w.heap.size, 0, none⟩) 1 1] 23)
    simpa using this
  · rw [Lib.alloc_old _ _ _ (by simp)]
    exact heap_alloc_new w _
def partsR (r : PiecesR) (v : Value) (w' : World) : Prop :=
  match r with
  | .good ts cs => ∃ tv, v = .tuple #[tv, .nilIface] ∧ IsLists w' tv (partsOf [ts.headD []] cs ts.tail)
  | .bad c p => ∃ e, v = .tuple #[.slice none 0 0, e] ∧ IsAt w' e c p
theorem partsR.good {r : PiecesR} {t : List UInt8} {ts : List (List UInt8)} {cs : List UInt8} {tv : Value} {w' : World} (h : r = .good (t :: ts) cs) (h1 : IsLists w' tv (partsOf [t] cs ts)) : partsR r (.tuple #[tv, .nilIface]) w' := by subst h; exact ⟨_, rfl, h1⟩
theorem partsR.bad {r : PiecesR} {c : Int} {p : Nat} {e : Value} {w' : World} (h : r = .bad c p) (he : IsAt w' e c p) : partsR r (.tuple #[.slice none 0 0, e]) w' := by subst h; exact ⟨e, rfl, he⟩
theorem IsBytes.at_ {w : World} {v : Value} {l : List UInt8} (h : IsBytes w v l) (h0 : l ≠ []) : ∃ b off cap, v = .slice (some ⟨b, off, none⟩) l.length cap ∧ b < w.heap.size ∧ ∀ (i : Nat) (c : UInt8), l[i]? = some c → w.cell? ⟨b, off + i, none⟩ = some (.int .u8 (c.toNat : Int)) := by
  obtain ⟨h1, h2, h3⟩ := h
  rcases h3 with ⟨h3, _⟩ | ⟨b, off, cap, e, hb, hn, hc⟩
  · exact absurd (List.eq_nil_of_length_eq_zero h3) h0
  · refine ⟨b, off, cap, e, hb, fun i c hl => ?_⟩
    have hi : i < l.length := by
      rcases Nat.lt_or_ge i l.length with h | h
      · exact h
      · rw [List.getElem?_eq_none h] at hl; cases hl
    rw [hc i (by simpa using hi)]
    rw [List.getElem?_eq_getElem hi] at hl
    injection hl with hl
    simp [hl]
end Go.Proofs.YtfadckackdmbnaaGreatDoor

namespace Go.Proofs.YtfadckackdmbnaaGreatDoor
open Go.RowKit
set_option linter.unusedVariables false
set_option linter.unusedSimpArgs false
set_option maxRecDepth 100000 in
set_option maxHeartbeats 2000000 in
theorem eqLists_any {va vb : Value} {xs ys : List (List (List UInt8))} {w : World} (ha : IsLists w va xs) (hb : IsLists w vb ys) (lx : sumP xs ≤ 1000000) (ly : sumP ys ≤ 1000000) :
    Gives 158 #[va, vb, .func (.func 27) #[] #[]] w (.bool (decide (xs = ys))) := by
  obtain ⟨aa, ca, hva, _⟩ := ha.len
  obtain ⟨ab, cb, hvb, _⟩ := hb.len
  have hlx := sumP_len xs
  have hly := sumP_len ys
  by_cases hn : xs.length = ys.length
  · have HA := hid ha
    have HB := hid hb
    have HMX : Hid (∀ l ∈ xs, sumL l + 1 ≤ sumP xs) := hid (fun l hl => sumP_mem hl)
    have HMY : Hid (∀ l ∈ ys, sumL l + 1 ≤ sumP ys) := hid (fun l hl => sumP_mem hl)
    subst hva; subst hvb
    clear ha hb
    have hb1 : ((xs.length : Int) != (ys.length : Int)) = false := by rw [hn]; simp
    have HN := hid hn
    clear hn
    go_enter Tryz.func158, Tryz.ntmps158
    go_wp2_with fail
    go_loopw [17] (fun i wr => ∃ k : Nat, k ≤ xs.length ∧ i = .int .i64 k ∧ G w wr ∧ ∀ j, j < k → xs[j]? = ys[j]?) (fun i _ => xs.length - (intOf i).toNat)
    case atStart => exact ⟨0, Nat.zero_le _, rfl, G.refl _, by omega⟩
    case round =>
      obtain ⟨k, hk, rfl, g, hall⟩ := hrel
      have HG := hid g
      have HALL := hid hall
      clear g hall
      by_cases hlt : k < xs.length
      · have hlt2 : k < ys.length := by rw [← HN.out]; exact hlt
        obtain ⟨b1, o1, c1, e1, _, hb1', hc1⟩ := HA.out.at_ (by rintro rfl; simp at hlt)
        obtain ⟨b2, o2, c2, e2, _, hb2', hc2⟩ := HB.out.at_ (by rintro rfl; simp at hlt2)
        simp only [Value.slice.injEq, true_and] at e1 e2
        obtain ⟨rfl, rfl⟩ := e1
        obtain ⟨rfl, rfl⟩ := e2
        obtain ⟨s1, d1, i1⟩ := hc1 k _ (List.getElem?_eq_getElem hlt)
        obtain ⟨s2, d2, i2⟩ := hc2 k _ (List.getElem?_eq_getElem hlt2)
        obtain ⟨x, hx⟩ : ∃ x, xs[k] = x := ⟨_, rfl⟩
        obtain ⟨y, hy⟩ : ∃ y, ys[k] = y := ⟨_, rfl⟩
        have sx := HMX.out _ (List.getElem_mem hlt)
        have sy := HMY.out _ (List.getElem_mem hlt2)
        rw [hx] at i1 sx
        rw [hy] at i2 sy
        have lx1 := sumL_len x
        have ly1 := sumL_len y
        have I1 := hid (i1.grow HG.out)
        have I2 := hid (i2.grow HG.out)
        rw [← HG.out.cell (p := ⟨b1, o1 + k, none⟩) hb1'] at d1
        rw [← HG.out.cell (p := ⟨b2, o2 + k, none⟩) hb2'] at d2
        have HX := hid hx
        have HY := hid hy
        clear hx hy i1 i2 hc1 hc2
        go_wp2_with fail
        refine (eqStrs_any I1.out I2.out (by omega) (by omega)).use ?_
        intro w1 g1
        by_cases hxy : x = y
        · rw [decide_eq_true hxy]
          go_wp2_with fail
          go_roundw
          case rel =>
            refine ⟨k + 1, by omega, by go_num, HG.out.trans g1, fun j hj => ?_⟩
            rcases Nat.lt_or_ge j k with h | h
            · exact HALL.out j h
            · obtain rfl : j = k := by omega
              rw [List.getElem?_eq_getElem hlt, List.getElem?_eq_getElem hlt2, HX.out, HY.out, hxy]
          case measure => simp [intOf]; omega
        · have HR : Hid (decide (xs = ys) = false) := hid (decide_eq_false (by
            intro e
            apply hxy
            rw [← HX.out, ← HY.out]
            simp only [e]))
          rw [decide_eq_false hxy]
          go_wp2_with fail
          go_ret
          exact ⟨ret_bool HR.out.symm, HG.out.trans g1⟩
      · have HR : Hid (decide (xs = ys) = true) := hid (decide_eq_true (by
          apply List.ext_getElem?
          intro j
          rcases Nat.lt_or_ge j k with h | h
          · exact HALL.out j h
          · rw [List.getElem?_eq_none (by omega), List.getElem?_eq_none (by have := HN.out; omega)]))
        go_wp2_with fail
        go_ret
        exact ⟨ret_bool HR.out.symm, HG.out⟩
  · subst hva; subst hvb
    clear ha hb
    have hb1 : ((xs.length : Int) != (ys.length : Int)) = true := by simp; omega
    have HR : Hid (decide (xs = ys) = false) := hid (decide_eq_false (fun e => hn (by rw [e])))
    clear hn
    go_enter Tryz.func158, Tryz.ntmps158
    go_wp2_with fail
    go_ret
    exact ⟨ret_bool HR.out.symm, G.refl _⟩
theorem sameLists_any {va vb : Value} {xs ys : List (List (List UInt8))} {w : World} (ha : IsLists w va xs) (hb : IsLists w vb ys) (lx : sumP xs ≤ 1000000) (ly : sumP ys ≤ 1000000) : Gives 110 #[va, vb] w (.bool (decide (xs = ys))) := by
  have HA := hid ha
  have HB := hid hb
  obtain ⟨aa, ca, hva, _⟩ := ha.len
  obtain ⟨ab, cb, hvb, _⟩ := hb.len
  subst hva; subst hvb
  clear ha hb
  go_enter Tryz.func110, Tryz.ntmps110
  go_wp2_with fail
  refine (eqLists_any HA.out HB.out lx ly).use ?_
  intro w1 g1
  go_wp2_with fail
  go_ret
  exact ⟨rfl, g1⟩
end Go.Proofs.YtfadckackdmbnaaGreatDoor

namespace Go.Proofs.YtfadckackdmbnaaGreatDoor
open Go.RowKit
set_option linter.unusedVariables false
set_option linter.unusedSimpArgs false
theorem bcell {W w1 : World} (hb : G W w1) : (∀ b o, b < W.heap.size → w1.cell? ⟨b, o, none⟩ = W.cell? ⟨b, o, none⟩) :=
  fun b o h => hb.cell (p := ⟨b, o, none⟩) h
theorem contains_any (s sub : List UInt8) (w : World) (hm : HasM w) (hs : s.length ≤ 1000000) : Pure 182 #[.string (S s), .string (S sub)] w (.bool (Lib.contains s sub)) := by
  obtain ⟨m, hm⟩ := hm
  refine (Tryz.strings_Contains (S s) (S sub) m w (by simp; omega) hm).mono ?_
  rintro e w' ⟨rfl, rfl⟩
  exact ⟨rfl, rfl⟩
theorem cell_alloc2 (w : World) (o : Obj) (cs : Array Value) (t : TypeId) (i : Nat) : ((w.alloc o).alloc (.cells cs t)).drew.cell? ⟨w.heap.size + 1, i, none⟩ = cs[i]? := by
  simp
def datesA : List UInt8 := [32, 45, 45, 45, 32, 57, 45, 45, 32, 57, 57, 45, 32, 57, 57, 57, 32, 45, 57, 45, 32, 45, 57, 57, 32, 45, 45, 57, 32]
def datesB : List UInt8 := [32, 57, 57, 57, 32, 45, 57, 57, 32, 45, 45, 57, 32]
def timesB : List UInt8 := [32, 57, 45, 45, 32, 57, 57, 45, 32, 57, 57, 57, 32]
def datesOf (D T : List UInt8) : List UInt8 := if D ≠ [45, 45, 45] ∧ T ≠ [45, 45, 45] then datesB else datesA
def timesOf (D T : List UInt8) : List UInt8 := if D ≠ [45, 45, 45] ∧ T ≠ [45, 45, 45] then timesB else datesA
def St.bad (t : St) : Bool :=
  let D := formL t.y t.m t.d; let T := formL t.h t.n t.s
  (decide (D = [45, 45, 45]) && decide (T = [45, 45, 45])) || !(Lib.contains (datesOf D T) (32 :: (D ++ [32]))) || !(Lib.contains (timesOf D T) (32 :: (T ++ [32]))) || (t.zd && decide (t.h = -1)) || (!t.zd && !decide (t.zn = 0))
def St.most (t : St) : Int := if t.m = -1 then 31 else daysL t.y t.m
def St.fits (t : St) : Bool := wth t.y 0 9999 && wth t.m 1 12 && wth t.d 1 t.most && wth t.h 0 23 && wth t.n 0 59 && wth t.s 0 59 && rightZ t.zn
def St.right (t : St) : Int := if t.bad then 3 else if t.fits then 0 else 2
set_option maxRecDepth 100000 in
set_option maxHeartbeats 4000000 in
theorem whenRight_any (t : St) (w : World) (hm : HasM w) (hy0 : -9223372036854775808 ≤ t.y) (hy1 : t.y ≤ 9223372036854775807) : Gives 139 #[.agg #[.int .i64 t.y, .int .i64 t.m, .int .i64 t.d, .int .i64 t.h, .int .i64 t.n, .int .i64 t.s, .bool t.zd, .int .i64 t.zn]] w (errV t.right) := by
  obtain ⟨y, m, d, h, n, s, zd, zn⟩ := t
  have HM := hid hm
  simp only at hy0 hy1
  clear hm
  obtain ⟨w1, hw1⟩ : ∃ w1, w.alloc (.cells #[.int .i64 y, .int .i64 m, .int .i64 d, .int .i64 h, .int .i64 n, .int .i64 s, .bool zd, .int .i64 zn] 32) = w1 := ⟨_, rfl⟩
  obtain ⟨B, hB⟩ : ∃ B, w.heap.size = B := ⟨_, rfl⟩
  have f0 : w1.cell? ⟨B, 0, none⟩ = some (.int .i64 y) := by rw [← hw1, ← hB, World.cell?_alloc_new]; rfl
  have f1 : w1.cell? ⟨B, 1, none⟩ = some (.int .i64 m) := by rw [← hw1, ← hB, World.cell?_alloc_new]; rfl
  have f2 : w1.cell? ⟨B, 2, none⟩ = some (.int .i64 d) := by rw [← hw1, ← hB, World.cell?_alloc_new]; rfl
  have f3 : w1.cell? ⟨B, 3, none⟩ = some (.int .i64 h) := by rw [← hw1, ← hB, World.cell?_alloc_new]; rfl
  have f4 : w1.cell? ⟨B, 4, none⟩ = some (.int .i64 n) := by rw [← hw1, ← hB, World.cell?_alloc_new]; rfl
  have f5 : w1.cell? ⟨B, 5, none⟩ = some (.int .i64 s) := by rw [← hw1, ← hB, World.cell?_alloc_new]; rfl
  have f6 : w1.cell? ⟨B, 6, none⟩ = some (.bool zd) := by rw [← hw1, ← hB, World.cell?_alloc_new]; rfl
  have f7 : w1.cell? ⟨B, 7, none⟩ = some (.int .i64 zn) := by rw [← hw1, ← hB, World.cell?_alloc_new]; rfl
  have hBlt : B < w1.heap.size := by rw [← hw1, ← hB]; simp
  have G1 : Hid (G w w1) := hid (by rw [← hw1]; exact (G.refl w).alloc _)
  go_enter Tryz.func139, Tryz.ntmps139
  go_upto_region 1 with fail
  clear hw1 hB
  go_cut [3, 4] (fun a b wx => a = .string (S (formL y m d)) ∧ b = .string (S (formL h n s)) ∧ G w1 wx)
  case first =>
    go_region_held3 (fun w' => w'.cell? ⟨B, 0, none⟩ = some (.int .i64 y) ∧ w'.cell? ⟨B, 1, none⟩ = some (.int .i64 m) ∧ w'.cell? ⟨B, 2, none⟩ = some (.int .i64 d) ∧ w'.cell? ⟨B, 3, none⟩ = some (.int .i64 h) ∧ w'.cell? ⟨B, 4, none⟩ = some (.int .i64 n) ∧ w'.cell? ⟨B, 5, none⟩ = some (.int .i64 s)) (go_keep)
      (first
        | (go_at_call 181; refine (form_any y m d _ _ ?_ ?_ ?_ ?_).mono ?_; (· (first | (simp [*]; done) | (rw [hc _ _ (by first | omega | (simp; done) | (simp; omega))]; simp [*, cell_alloc2]; done))); (· (first | (simp [*]; done) | (rw [hc _ _ (by first | omega | (simp; done) | (simp; omega))]; simp [*, cell_alloc2]; done))); (· (first | (simp [*]; done) | (rw [hc _ _ (by first | omega | (simp; done) | (simp; omega))]; simp [*, cell_alloc2]; done))); (· (first | omega | (simp; done) | (simp; omega))); rintro e w' ⟨rfl, hg⟩; have s0 := hg.cell (p := ⟨B, 0, none⟩) (by first | omega | (simp; done) | (simp; omega)); have s1 := hg.cell (p := ⟨B, 1, none⟩) (by first | omega | (simp; done) | (simp; omega)); have s2 := hg.cell (p := ⟨B, 2, none⟩) (by first | omega | (simp; done) | (simp; omega)); have s3 := hg.cell (p := ⟨B, 3, none⟩) (by first | omega | (simp; done) | (simp; omega)); have s4 := hg.cell (p := ⟨B, 4, none⟩) (by first | omega | (simp; done) | (simp; omega)); have s5 := hg.cell (p := ⟨B, 5, none⟩) (by first | omega | (simp; done) | (simp; omega)); have hc := bcell hg; have hz := hg.size; (try simp at hz); have hgx := hid hg; clear hg)
        | (go_at_call 181; refine (form_any h n s _ _ ?_ ?_ ?_ ?_).mono ?_; (· (first | (simp [*]; done) | (rw [hc _ _ (by first | omega | (simp; done) | (simp; omega))]; simp [*, cell_alloc2]; done))); (· (first | (simp [*]; done) | (rw [hc _ _ (by first | omega | (simp; done) | (simp; omega))]; simp [*, cell_alloc2]; done))); (· (first | (simp [*]; done) | (rw [hc _ _ (by first | omega | (simp; done) | (simp; omega))]; simp [*, cell_alloc2]; done))); (· (first | omega | (simp; done) | (simp; omega))); rintro e w' ⟨rfl, hg⟩; have s0 := hg.cell (p := ⟨B, 0, none⟩) (by first | omega | (simp; done) | (simp; omega)); have s1 := hg.cell (p := ⟨B, 1, none⟩) (by first | omega | (simp; done) | (simp; omega)); have s2 := hg.cell (p := ⟨B, 2, none⟩) (by first | omega | (simp; done) | (simp; omega)); have s3 := hg.cell (p := ⟨B, 3, none⟩) (by first | omega | (simp; done) | (simp; omega)); have s4 := hg.cell (p := ⟨B, 4, none⟩) (by first | omega | (simp; done) | (simp; omega)); have s5 := hg.cell (p := ⟨B, 5, none⟩) (by first | omega | (simp; done) | (simp; omega)); have hc := bcell hg; have hz := hg.size; (try simp at hz); have hgx := hid hg; clear hg))
    all_goals (go_wp2_with fail; go_meet; refine ⟨rfl, rfl, ?_⟩; exact by repeat (first | exact G.refl _ | apply G.drew | apply G.alloc | refine G.trans ?_ (Hid.out ‹Hid (G _ _)›)))
  case rest =>
    obtain ⟨rfl, rfl, gx⟩ := hcut
    obtain ⟨D, hD⟩ : ∃ D, formL y m d = D := ⟨_, rfl⟩
    obtain ⟨T, hT⟩ : ∃ T, formL h n s = T := ⟨_, rfl⟩
    rw [hD, hT]
    have HD := hid hD
    have HT := hid hT
    have hDl : D.length = 3 := by rw [← hD]; rfl
    have hTl : T.length = 3 := by rw [← hT]; rfl
    have GX := hid gx
    have HMX := hid (HM.out.grow (G1.out.trans gx))
    have k3 := (bcell gx B 3 hBlt).trans f3
    clear hD hT gx
    by_cases hA : D = [45, 45, 45] ∧ T = [45, 45, 45]
    · obtain ⟨rfl, rfl⟩ := hA
      have HR : Hid ((⟨y, m, d, h, n, s, zd, zn⟩ : St).right = 3) := hid (by unfold St.right St.bad; simp only [HD.out, HT.out]; rfl)
      go_wp2_with fail
      go_ret
      exact ⟨by rw [HR.out]; rfl, G1.out.trans GX.out⟩
    · obtain ⟨X, hX⟩ : ∃ X, X = datesOf D T := ⟨_, rfl⟩
      obtain ⟨Y, hY⟩ : ∃ Y, Y = timesOf D T := ⟨_, rfl⟩
      have hA2 : D = [45, 45, 45] ∧ (D == [45, 45, 45]) = true ∧ T ≠ [45, 45, 45] ∧ (T == [45, 45, 45]) = false ∧ (D == T) = false ∧ X = datesA ∧ Y = datesA ∨ D ≠ [45, 45, 45] ∧ (D == [45, 45, 45]) = false ∧ T = [45, 45, 45] ∧ (T == [45, 45, 45]) = true ∧ (D == T) = false ∧ X = datesA ∧ Y = datesA ∨ (D == [45, 45, 45]) = false ∧ (T == [45, 45, 45]) = false ∧ X = datesB ∧ Y = timesB := by
        by_cases hd : D = [45, 45, 45]
        · have ht : T ≠ [45, 45, 45] := fun e => hA ⟨hd, e⟩
          refine .inl ⟨hd, beq_iff_eq.2 hd, ht, beq_eq_false_iff_ne.2 ht, beq_eq_false_iff_ne.2 (fun e => ht (e ▸ hd)), ?_, ?_⟩
          · rw [hX]; unfold datesOf; rw [if_neg (fun h => h.1 hd)]
          · rw [hY]; unfold timesOf; rw [if_neg (fun h => h.1 hd)]
        · by_cases ht : T = [45, 45, 45]
          · refine .inr (.inl ⟨hd, beq_eq_false_iff_ne.2 hd, ht, beq_iff_eq.2 ht, beq_eq_false_iff_ne.2 (fun e => hd (e.trans ht)), ?_, ?_⟩)
            · rw [hX]; unfold datesOf; rw [if_neg (fun h => h.2 ht)]
            · rw [hY]; unfold timesOf; rw [if_neg (fun h => h.2 ht)]
          · refine .inr (.inr ⟨beq_eq_false_iff_ne.2 hd, beq_eq_false_iff_ne.2 ht, ?_, ?_⟩)
            · rw [hX]; unfold datesOf; rw [if_pos ⟨hd, ht⟩]
            · rw [hY]; unfold timesOf; rw [if_pos ⟨hd, ht⟩]
      have HXY := hid hA2
      have HX := hid hX
      have HY := hid hY
      have HA := hid hA
      clear hA2 hX hY hA
      go_upto_block 0 with fail
      go_cut [5, 6] (fun a b wz => a = .string (S X) ∧ b = .string (S Y) ∧ wz = wc)
      case first =>
        rcases HXY.out with ⟨q1, b1, q2, b2, b3, q3, q4⟩ | ⟨q1, b1, q2, b2, b3, q3, q4⟩ | ⟨b1, b2, q3, q4⟩
        all_goals
          have Q3 := hid q3
          have Q4 := hid q4
          clear q3 q4
          try clear q1
          try clear q2
          go_wp2_with fail
          go_meet
          exact ⟨by rw [Q3.out]; rfl, by rw [Q4.out]; rfl, rfl⟩
      case rest =>
        obtain ⟨rfl, rfl, rfl⟩ := hcut
        have hXl : X.length ≤ 1000 := by rw [HX.out]; unfold datesOf; split <;> decide
        have hYl : Y.length ≤ 1000 := by rw [HY.out]; unfold timesOf; split <;> decide
        have g6 := (bcell GX.out B 6 hBlt).trans f6
        have g7 := (bcell GX.out B 7 hBlt).trans f7
        obtain ⟨c1, hc1⟩ : ∃ c, Lib.contains X (32 :: (D ++ [32])) = c := ⟨_, rfl⟩
        obtain ⟨c2, hc2⟩ : ∃ c, Lib.contains Y (32 :: (T ++ [32])) = c := ⟨_, rfl⟩
        have HC1 := hid hc1
        have HC2 := hid hc2
        have HBAD : Hid ((⟨y, m, d, h, n, s, zd, zn⟩ : St).bad = (!c1 || !c2 || (zd && decide (h = -1)) || (!zd && !decide (zn = 0)))) := hid (by
          unfold St.bad
          simp only [HD.out, HT.out]
          rw [← HX.out, ← HY.out, hc1, hc2]
          have : (decide (D = [45, 45, 45]) && decide (T = [45, 45, 45])) = false := by
            cases e : (decide (D = [45, 45, 45]) && decide (T = [45, 45, 45])) with
            | false => rfl
            | true => simp only [Bool.and_eq_true, decide_eq_true_eq] at e; exact absurd e HA.out
          rw [this, Bool.false_or])
        clear hc1 hc2
        go_upto_region 7 with fail
        go_cut [68] (fun a wz => a = .bool (!c1 || !c2 || (zd && decide (h = -1)) || (!zd && !decide (zn = 0))) ∧ wz = wc)
        case first =>
          go_wp2_with fail
          refine (contains_any X (32 :: (D ++ [32])) _ HMX.out (by omega)).use ?_
          rw [HC1.out]
          cases c1 with
          | false => go_wp2_with fail; go_meet; exact ⟨by simp, rfl⟩
          | true =>
            go_wp2_with fail
            refine (contains_any Y (32 :: (T ++ [32])) _ HMX.out (by omega)).use ?_
            rw [HC2.out]
            cases c2 with
            | false => go_wp2_with fail; go_meet; exact ⟨by simp, rfl⟩
            | true =>
              cases zd with
              | true =>
                by_cases hh : h = -1
                · subst hh
                  go_wp2_with fail; go_meet; exact ⟨by simp, rfl⟩
                · have bh : (h == -1) = false := by simpa using hh
                  have HH := hid hh
                  clear hh
                  go_wp2_with fail; go_meet; exact ⟨by simp [HH.out], rfl⟩
              | false =>
                by_cases hz : zn = 0
                · subst hz
                  go_wp2_with fail; go_meet; exact ⟨by simp, rfl⟩
                · have bz : (zn != 0) = true := by simpa [bne_iff_ne] using hz
                  have HZ := hid hz
                  clear hz
                  go_wp2_with fail; go_meet; exact ⟨by simp [HZ.out], rfl⟩
        case rest =>
          obtain ⟨rfl, rfl⟩ := hcut
          cases hb : (!c1 || !c2 || (zd && decide (h = -1)) || (!zd && !decide (zn = 0))) with
          | true =>
            have HR : Hid ((⟨y, m, d, h, n, s, zd, zn⟩ : St).right = 3) := hid (by unfold St.right; rw [HBAD.out, hb]; rfl)
            clear hb
            go_wp2_with fail
            go_ret
            exact ⟨by rw [HR.out]; rfl, G1.out.trans GX.out⟩
          | false =>
            have HR : Hid ((⟨y, m, d, h, n, s, zd, zn⟩ : St).right = if (⟨y, m, d, h, n, s, zd, zn⟩ : St).fits then 0 else 2) := hid (by unfold St.right; rw [HBAD.out, hb]; rfl)
            clear hb
            have g0 := (bcell GX.out B 0 hBlt).trans f0
            have g1 := (bcell GX.out B 1 hBlt).trans f1
            have g2 := (bcell GX.out B 2 hBlt).trans f2
            have g4 := (bcell GX.out B 4 hBlt).trans f4
            have g5 := (bcell GX.out B 5 hBlt).trans f5
            obtain ⟨M, hM⟩ : ∃ M, (⟨y, m, d, h, n, s, zd, zn⟩ : St).most = M := ⟨_, rfl⟩
            obtain ⟨b1, hb1⟩ : ∃ b, wth y 0 9999 = b := ⟨_, rfl⟩
            obtain ⟨b2, hb2⟩ : ∃ b, wth m 1 12 = b := ⟨_, rfl⟩
            obtain ⟨b3, hb3⟩ : ∃ b, wth d 1 M = b := ⟨_, rfl⟩
            obtain ⟨b4, hb4⟩ : ∃ b, wth h 0 23 = b := ⟨_, rfl⟩
            obtain ⟨b5, hb5⟩ : ∃ b, wth n 0 59 = b := ⟨_, rfl⟩
            obtain ⟨b6, hb6⟩ : ∃ b, wth s 0 59 = b := ⟨_, rfl⟩
            obtain ⟨b7, hb7⟩ : ∃ b, rightZ zn = b := ⟨_, rfl⟩
            have HFITS : Hid ((⟨y, m, d, h, n, s, zd, zn⟩ : St).fits = (b1 && b2 && b3 && b4 && b5 && b6 && b7)) := hid (by unfold St.fits; rw [hM]; simp only [hb1, hb2, hb3, hb4, hb5, hb6, hb7])
            have HMM := hid hM
            have HB1 := hid hb1
            have HB2 := hid hb2
            have HB3 := hid hb3
            have HB4 := hid hb4
            have HB5 := hid hb5
            have HB6 := hid hb6
            have HB7 := hid hb7
            clear hb1 hb2 hb3 hb4 hb5 hb6 hb7 hM
            have hmm : m = -1 ∧ (m != -1) = false ∧ M = 31 ∨ (m != -1) = true ∧ M = daysL y m := by
              by_cases e : m = -1
              · exact .inl ⟨e, by simp [e], by rw [← HMM.out]; unfold St.most; rw [if_pos e]⟩
              · exact .inr ⟨by simpa [bne_iff_ne] using e, by rw [← HMM.out]; unfold St.most; rw [if_neg e]⟩
            rcases hmm with ⟨e1, bm, e3⟩ | ⟨bm, e3⟩
            · have E1 := hid e1
              clear e1
              subst e3
              go_upto_region 12 with fail
              go_cut [118] (fun a wz => a = .bool (!(b1 && b2 && b3 && b4 && b5 && b6 && b7)) ∧ wz = wc)
              case first =>
                go_wp2_with fail
                refine (within_any y 0 9999 _).use ?_
                rw [HB1.out]
                cases b1 with
                | false => go_wp2_with fail; go_meet; exact ⟨by simp, rfl⟩
                | true =>
                  go_wp2_with fail
                  refine (within_any m 1 12 _).use ?_
                  rw [HB2.out]
                  cases b2 with
                  | false => go_wp2_with fail; go_meet; exact ⟨by simp, rfl⟩
                  | true =>
                    go_wp2_with fail
                    refine (within_any d 1 31 _).use ?_
                    rw [HB3.out]
                    cases b3 with
                    | false => go_wp2_with fail; go_meet; exact ⟨by simp, rfl⟩
                    | true =>
                      go_wp2_with fail
                      refine (within_any h 0 23 _).use ?_
                      rw [HB4.out]
                      cases b4 with
                      | false => go_wp2_with fail; go_meet; exact ⟨by simp, rfl⟩
                      | true =>
                        go_wp2_with fail
                        refine (within_any n 0 59 _).use ?_
                        rw [HB5.out]
                        cases b5 with
                        | false => go_wp2_with fail; go_meet; exact ⟨by simp, rfl⟩
                        | true =>
                          go_wp2_with fail
                          refine (within_any s 0 59 _).use ?_
                          rw [HB6.out]
                          cases b6 with
                          | false => go_wp2_with fail; go_meet; exact ⟨by simp, rfl⟩
                          | true =>
                            go_wp2_with fail
                            refine (zoneRight_any zn _).use ?_
                            rw [HB7.out]
                            cases b7 with
                            | false => go_wp2_with fail; go_meet; exact ⟨by simp, rfl⟩
                            | true =>
                              go_wp2_with fail; go_meet; exact ⟨by simp, rfl⟩
              case rest =>
                obtain ⟨rfl, rfl⟩ := hcut
                cases hb : (b1 && b2 && b3 && b4 && b5 && b6 && b7) with
                | true =>
                  have HR2 : Hid (errV (⟨y, m, d, h, n, s, zd, zn⟩ : St).right = .nilIface) := hid (by rw [HR.out, HFITS.out, hb]; rfl)
                  clear hb
                  go_wp2_with fail
                  go_ret
                  exact ⟨by rw [HR2.out]; rfl, G1.out.trans GX.out⟩
                | false =>
                  have HR2 : Hid (errV (⟨y, m, d, h, n, s, zd, zn⟩ : St).right = eno 2) := hid (by rw [HR.out, HFITS.out, hb]; rfl)
                  clear hb
                  go_wp2_with fail
                  go_ret
                  exact ⟨by rw [HR2.out]; rfl, G1.out.trans GX.out⟩
            · subst e3
              go_upto_region 12 with (go_at_call 183; refine (days_any y m _ ⟨hy0, hy1⟩).use ?_)
              go_cut [118] (fun a wz => a = .bool (!(b1 && b2 && b3 && b4 && b5 && b6 && b7)) ∧ wz = wc)
              case first =>
                go_wp2_with fail
                refine (within_any y 0 9999 _).use ?_
                rw [HB1.out]
                cases b1 with
                | false => go_wp2_with fail; go_meet; exact ⟨by simp, rfl⟩
                | true =>
                  go_wp2_with fail
                  refine (within_any m 1 12 _).use ?_
                  rw [HB2.out]
                  cases b2 with
                  | false => go_wp2_with fail; go_meet; exact ⟨by simp, rfl⟩
                  | true =>
                    go_wp2_with fail
                    refine (within_any d 1 (daysL y m) _).use ?_
                    rw [HB3.out]
                    cases b3 with
                    | false => go_wp2_with fail; go_meet; exact ⟨by simp, rfl⟩
                    | true =>
                      go_wp2_with fail
                      refine (within_any h 0 23 _).use ?_
                      rw [HB4.out]
                      cases b4 with
                      | false => go_wp2_with fail; go_meet; exact ⟨by simp, rfl⟩
                      | true =>
                        go_wp2_with fail
                        refine (within_any n 0 59 _).use ?_
                        rw [HB5.out]
                        cases b5 with
                        | false => go_wp2_with fail; go_meet; exact ⟨by simp, rfl⟩
                        | true =>
                          go_wp2_with fail
                          refine (within_any s 0 59 _).use ?_
                          rw [HB6.out]
                          cases b6 with
                          | false => go_wp2_with fail; go_meet; exact ⟨by simp, rfl⟩
                          | true =>
                            go_wp2_with fail
                            refine (zoneRight_any zn _).use ?_
                            rw [HB7.out]
                            cases b7 with
                            | false => go_wp2_with fail; go_meet; exact ⟨by simp, rfl⟩
                            | true =>
                              go_wp2_with fail; go_meet; exact ⟨by simp, rfl⟩
              case rest =>
                obtain ⟨rfl, rfl⟩ := hcut
                cases hb : (b1 && b2 && b3 && b4 && b5 && b6 && b7) with
                | true =>
                  have HR2 : Hid (errV (⟨y, m, d, h, n, s, zd, zn⟩ : St).right = .nilIface) := hid (by rw [HR.out, HFITS.out, hb]; rfl)
                  clear hb
                  go_wp2_with fail
                  go_ret
                  exact ⟨by rw [HR2.out]; rfl, G1.out.trans GX.out⟩
                | false =>
                  have HR2 : Hid (errV (⟨y, m, d, h, n, s, zd, zn⟩ : St).right = eno 2) := hid (by rw [HR.out, HFITS.out, hb]; rfl)
                  clear hb
                  go_wp2_with fail
                  go_ret
                  exact ⟨by rw [HR2.out]; rfl, G1.out.trans GX.out⟩
end Go.Proofs.YtfadckackdmbnaaGreatDoor
