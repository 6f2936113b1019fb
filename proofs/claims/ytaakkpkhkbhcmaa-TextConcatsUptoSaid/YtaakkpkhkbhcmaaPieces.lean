/-
  text.pieces: what lies in memory while it cuts: a Builder, a row of texts, a row of bytes, apart from each other.
-/
import Derived.Test.YtaakkpkhkbhcmaaReset
import Derived.Test.YtaakkpkhkbhcmaaTextPlain
namespace Go.Proofs.Ytaakkpkhkbhcmaa
open Go.RowKit
set_option linter.unusedVariables false
set_option linter.unusedSimpArgs false

theorem ownsRow_same {w w' : World} {base : Nat} {e : TypeId} {size : Nat} {v : Value} {n : Nat} {xs : List Value} (h : w.ownsRow base e size v n xs) (hb : ∀ k, v.ownBlock = some k → k < w.heap.size → w'.heap[k]? = w.heap[k]?) : w'.ownsRow base e size v n xs := by
  refine ⟨h.1, ?_⟩
  rcases h.2 with hn | ⟨q, cap, cur, rfl, hbg, hgg, rest⟩
  · exact .inl hn
  · have hq : q < w.heap.size := by
      rcases Nat.lt_or_ge q w.heap.size with h' | h'
      · exact h'
      · rw [Array.getElem?_eq_none h'] at hgg; cases hgg
    exact .inr ⟨q, cap, cur, rfl, hbg, by rw [hb q rfl hq]; exact hgg, rest⟩
structure PState (w0 w : World) (b : Nat) (tv cv : Value) (cur : List UInt8) (ts : List (List UInt8)) (cs : List UInt8) : Prop where
  g : G w0 w
  ib : IsB w0 w b cur
  ot : w.ownsRow w0.heap.size 9 1 tv ts.length (ts.map fun t => .string (S t))
  oc : w.ownsRow w0.heap.size 5 1 cv cs.length (cs.map fun c => .int .u8 (c.toNat : Int))
  tb : tv.ownBlock ≠ some b
  cb : cv.ownBlock ≠ some b
  tu : ∀ q, bufOf w b = some q → tv.ownBlock ≠ some q ∧ cv.ownBlock ≠ some q
theorem PState.wrote {w0 w w' : World} {b : Nat} {tv cv : Value} {cur cur' : List UInt8} {ts : List (List UInt8)} {cs : List UInt8} (h : PState w0 w b tv cv cur ts cs) (ib' : IsB w0 w' b cur') (g' : G w0 w') (hk : KeptB w w' b)
    (hb : bufOf w' b = bufOf w b ∨ ∃ q, bufOf w' b = some q ∧ w.heap.size ≤ q) : PState w0 w' b tv cv cur' ts cs := by
  refine ⟨g', ib', ownsRow_same h.ot fun k hv hlt => hk k hlt ?_ ?_, ownsRow_same h.oc fun k hv hlt => hk k hlt ?_ ?_, h.tb, h.cb, fun q hq => ?_⟩
  · rintro rfl; exact h.tb hv
  · intro e; exact (h.tu k e).1 hv
  · rintro rfl; exact h.cb hv
  · intro e; exact (h.tu k e).2 hv
  · rcases hb with e | ⟨q', e, hle⟩
    · exact h.tu q (by rw [← e]; exact hq)
    · rw [e] at hq
      injection hq with hq
      subst hq
      refine ⟨fun e => ?_, fun e => ?_⟩
      · have := (h.ot.lt _ e).2; omega
      · have := (h.oc.lt _ e).2; omega
theorem PState.apart {w0 w : World} {b : Nat} {tv cv : Value} {cur : List UInt8} {ts : List (List UInt8)} {cs : List UInt8} (h : PState w0 w b tv cv cur ts cs) (q : Nat) (hq : tv.ownBlock = some q) : cv.ownBlock ≠ some q := by
  intro e
  rcases h.ot.2 with ⟨rfl, _⟩ | ⟨g1, c1, u1, rfl, _, h1, _⟩
  · cases hq
  · rcases h.oc.2 with ⟨rfl, _⟩ | ⟨g2, c2, u2, rfl, _, h2, _⟩
    · cases e
    · simp only [Value.ownBlock, Option.some.injEq] at hq e
      subst hq
      subst e
      rw [h1] at h2
      injection h2 with h2
      injection h2 with _ h2 _
      exact absurd h2 (by decide)

theorem PState.blk {w0 w : World} {b : Nat} {tv cv : Value} {cur : List UInt8} {ts : List (List UInt8)} {cs : List UInt8} (h : PState w0 w b tv cv cur ts cs) : w0.heap.size ≤ b ∧ ∃ p v, w.heap[b]? = some (.cells #[p, v] 62 (0, 0)) := by
  rcases h.ib with h | h
  · obtain ⟨hB, v, hbk, _⟩ := h; exact ⟨hB, _, v, hbk⟩
  · obtain ⟨hB, v, hbk, _⟩ := h; exact ⟨hB, _, v, hbk⟩
/-- the same, whatever the Builder holds -/
structure QState (w0 w : World) (b : Nat) (tv cv : Value) (ts : List (List UInt8)) (cs : List UInt8) : Prop where
  g : G w0 w
  hb : w0.heap.size ≤ b
  blk : ∃ p v, w.heap[b]? = some (.cells #[p, v] 62 (0, 0))
  ot : w.ownsRow w0.heap.size 9 1 tv ts.length (ts.map fun t => .string (S t))
  oc : w.ownsRow w0.heap.size 5 1 cv cs.length (cs.map fun c => .int .u8 (c.toNat : Int))
  tb : tv.ownBlock ≠ some b
  cb : cv.ownBlock ≠ some b
theorem PState.q {w0 w : World} {b : Nat} {tv cv : Value} {cur : List UInt8} {ts : List (List UInt8)} {cs : List UInt8} (h : PState w0 w b tv cv cur ts cs) : QState w0 w b tv cv ts cs :=
  ⟨h.g, h.blk.1, h.blk.2, h.ot, h.oc, h.tb, h.cb⟩
theorem lt_of_blk {w : World} {b : Nat} {o : Obj} (h : w.heap[b]? = some o) : b < w.heap.size := by
  rcases Nat.lt_or_ge b w.heap.size with h' | h'
  · exact h'
  · rw [Array.getElem?_eq_none h'] at h; cases h
theorem rows_apart {w0 w : World} {tv cv : Value} {n m : Nat} {xs ys : List Value} (ht : w.ownsRow w0.heap.size 9 1 tv n xs) (hc : w.ownsRow w0.heap.size 5 1 cv m ys) (q : Nat) (hq : tv.ownBlock = some q) : cv.ownBlock ≠ some q := by
  intro e
  rcases ht.2 with ⟨rfl, _⟩ | ⟨g1, c1, u1, rfl, _, h1, _⟩
  · cases hq
  · rcases hc.2 with ⟨rfl, _⟩ | ⟨g2, c2, u2, rfl, _, h2, _⟩
    · cases e
    · simp only [Value.ownBlock, Option.some.injEq] at hq e
      subst hq
      subst e
      rw [h1] at h2
      injection h2 with h2
      injection h2 with _ h2 _
      exact absurd h2 (by decide)
theorem QState.grow {w0 w w' : World} {b : Nat} {tv cv : Value} {ts : List (List UInt8)} {cs : List UInt8} (h : QState w0 w b tv cv ts cs) (g : G w w') : QState w0 w' b tv cv ts cs := by
  obtain ⟨p, v, hbk⟩ := h.blk
  exact ⟨h.g.trans g, h.hb, ⟨p, v, by rw [g.below.block b (lt_of_blk hbk)]; exact hbk⟩, ownsRow_same h.ot fun k _ hk => g.below.block k hk, ownsRow_same h.oc fun k _ hk => g.below.block k hk, h.tb, h.cb⟩
theorem bufOf_lt {w0 w : World} {b : Nat} {l : List UInt8} (h : IsB w0 w b l) : ∀ q, bufOf w b = some q → q < w.heap.size ∧ q ≠ b := by
  have key : ∀ p, Lib.BuilderAt 62 5 w0.heap.size b p (Lib.byteCells l) w → ∀ q, bufOf w b = some q → q < w.heap.size ∧ q ≠ b := by
    rintro p ⟨hB, v, hbk, hown, hne⟩ q hq
    rw [bufOf_at hbk] at hq
    exact ⟨(hown.lt q hq).2, by rintro rfl; exact hne hq⟩
  rcases h with h | h
  · exact key _ h
  · exact key _ h
theorem IsB.same {w0 w w' : World} {b : Nat} {l : List UInt8} (h : IsB w0 w b l) (hb : w'.heap[b]? = w.heap[b]?) (hq : ∀ q, bufOf w b = some q → w'.heap[q]? = w.heap[q]?) : IsB w0 w' b l := by
  have key : ∀ p, Lib.BuilderAt 62 5 w0.heap.size b p (Lib.byteCells l) w → Lib.BuilderAt 62 5 w0.heap.size b p (Lib.byteCells l) w' := by
    rintro p ⟨hB, v, hbk, hown, hne⟩
    refine ⟨hB, v, by rw [hb]; exact hbk, ownsRow_same hown fun k hv _ => hq k ?_, hne⟩
    rw [bufOf_at hbk]; exact hv
  rcases h with h | h
  · exact Or.inl (key _ h)
  · exact Or.inr (key _ h)
theorem bufOf_same {w w' : World} {b : Nat} (hb : w'.heap[b]? = w.heap[b]?) : bufOf w' b = bufOf w b := by unfold bufOf; rw [hb]
theorem PState.grow {w0 w w' : World} {b : Nat} {tv cv : Value} {cur : List UInt8} {ts : List (List UInt8)} {cs : List UInt8} (h : PState w0 w b tv cv cur ts cs) (g : G w w') : PState w0 w' b tv cv cur ts cs := by
  have q := h.q.grow g
  have hbl := h.ib.lt.2
  refine ⟨q.g, h.ib.grow g, q.ot, q.oc, q.tb, q.cb, ?_⟩
  rw [bufOf_same (g.below.block b hbl)]
  exact h.tu
/-- as it begins -/
theorem PState.new {w0 w : World} (g : G w0 w) : PState w0 (w.alloc (.cells #[.pointer none, .slice none 0 0] 62)) w.heap.size (.slice none 0 0) (.slice none 0 0) [] [] [] := by
  refine ⟨g.alloc _, IsB.new g, World.ownsRow_nil _ _ _ _, World.ownsRow_nil _ _ _ _, by simp [Value.ownBlock], by simp [Value.ownBlock], fun q _ => ⟨by simp [Value.ownBlock], by simp [Value.ownBlock]⟩⟩
theorem PState.str {w0 w : World} {b : Nat} {tv cv : Value} {cur : List UInt8} {ts : List (List UInt8)} {cs : List UInt8} (h : PState w0 w b tv cv cur ts cs) :
    Calls Try.prog 40 #[.pointer (some ⟨b, 0, none⟩)] w fun e w' => e = .returned (.string (S cur)) ∧ QState w0 w' b tv cv ts cs ∧ w.heap.size ≤ w'.heap.size ∧ ∀ k, k < w.heap.size → bufOf w b ≠ some k → w'.heap[k]? = w.heap[k]? := by
  refine (string_any h.ib h.g).mono ?_
  rintro e w' ⟨rfl, g', hsz, hk⟩
  obtain ⟨hb, p, v, hbk⟩ := h.blk
  have hbl := lt_of_blk hbk
  have hbb : w'.heap[b]? = w.heap[b]? := hk b hbl (fun e => (bufOf_lt h.ib b e).2 rfl)
  refine ⟨rfl, ⟨g', hb, ⟨p, v, by rw [hbb]; exact hbk⟩, ownsRow_same h.ot fun k hv hlt => hk k hlt fun e => (h.tu k e).1 hv, ownsRow_same h.oc fun k hv hlt => hk k hlt fun e => (h.tu k e).2 hv, h.tb, h.cb⟩, hsz, hk⟩

theorem grown_at {w w' : World} {v : Value} {k : Nat} (hg : w.grownBy w' v.ownBlock) (hk : k < w.heap.size) (hne : v.ownBlock ≠ some k) : w'.heap[k]? = w.heap[k]? := hg.block k hk (fun e => hne e.symm)
theorem own_lt {w : World} {base : Nat} {e : TypeId} {size : Nat} {v : Value} {n : Nat} {xs : List Value} (h : w.ownsRow base e size v n xs) (k : Nat) (hk : v.ownBlock = some k) : k < w.heap.size := (h.lt k hk).2
/-- one text more -/
theorem QState.pushT {w0 w w' : World} {b g cap H : Nat} {tv cv : Value} {ts : List (List UInt8)} {cs : List UInt8} (h : QState w0 w b tv cv ts cs) (t : List UInt8)
    (ho : w'.ownsRow w0.heap.size 9 1 (.slice (some ⟨g, 0, none⟩) (ts.length + 1) cap) (ts.length + 1) ((ts.map fun t => Value.string (S t)) ++ [.string (S t)])) (hg : w.grownBy w' tv.ownBlock) (hat : tv.ownBlock = some g ∨ g = H) (hH : w.heap.size = H) :
    QState w0 w' b (.slice (some ⟨g, 0, none⟩) (ts.length + 1) cap) cv (ts ++ [t]) cs := by
  obtain ⟨p, v, hbk⟩ := h.blk
  have hbl := lt_of_blk hbk
  refine ⟨Below.grown h.g hg h.g.size (fun k hk => (h.ot.lt k hk).1), h.hb, ⟨p, v, by rw [grown_at hg hbl h.tb]; exact hbk⟩, by simpa using ho, ownsRow_same h.oc fun k hv hk => grown_at hg hk fun e => rows_apart h.ot h.oc k e hv, ?_, h.cb⟩
  simp only [Value.ownBlock, ne_eq, Option.some.injEq]
  rintro rfl
  rcases hat with hat | hat
  · exact h.tb hat
  · omega
/-- one byte more -/
theorem QState.pushC {w0 w w' : World} {b g cap H : Nat} {tv cv : Value} {ts : List (List UInt8)} {cs : List UInt8} (h : QState w0 w b tv cv ts cs) (c : UInt8)
    (ho : w'.ownsRow w0.heap.size 5 1 (.slice (some ⟨g, 0, none⟩) (cs.length + 1) cap) (cs.length + 1) ((cs.map fun c => Value.int .u8 (c.toNat : Int)) ++ [.int .u8 (c.toNat : Int)])) (hg : w.grownBy w' cv.ownBlock) (hat : cv.ownBlock = some g ∨ g = H) (hH : w.heap.size = H) :
    QState w0 w' b tv (.slice (some ⟨g, 0, none⟩) (cs.length + 1) cap) ts (cs ++ [c]) := by
  obtain ⟨p, v, hbk⟩ := h.blk
  have hbl := lt_of_blk hbk
  refine ⟨Below.grown h.g hg h.g.size (fun k hk => (h.oc.lt k hk).1), h.hb, ⟨p, v, by rw [grown_at hg hbl h.cb]; exact hbk⟩, ownsRow_same h.ot fun k hv hk => grown_at hg hk fun e => rows_apart h.ot h.oc k hv e, by simpa using ho, h.tb, ?_⟩
  simp only [Value.ownBlock, ne_eq, Option.some.injEq]
  rintro rfl
  rcases hat with hat | hat
  · exact h.cb hat
  · omega
theorem PState.pushC {w0 w w' : World} {b g cap H : Nat} {tv cv : Value} {cur : List UInt8} {ts : List (List UInt8)} {cs : List UInt8} (h : PState w0 w b tv cv cur ts cs) (c : UInt8)
    (ho : w'.ownsRow w0.heap.size 5 1 (.slice (some ⟨g, 0, none⟩) (cs.length + 1) cap) (cs.length + 1) ((cs.map fun c => Value.int .u8 (c.toNat : Int)) ++ [.int .u8 (c.toNat : Int)])) (hg : w.grownBy w' cv.ownBlock) (hat : cv.ownBlock = some g ∨ g = H) (hH : w.heap.size = H) :
    PState w0 w' b tv (.slice (some ⟨g, 0, none⟩) (cs.length + 1) cap) cur ts (cs ++ [c]) := by
  have q := h.q.pushC c ho hg hat hH
  have hbl := h.ib.lt.2
  have hbb : w'.heap[b]? = w.heap[b]? := grown_at hg hbl h.cb
  refine ⟨q.g, h.ib.same hbb fun k hk => grown_at hg (bufOf_lt h.ib k hk).1 (h.tu k hk).2, q.ot, q.oc, q.tb, q.cb, ?_⟩
  rw [bufOf_same hbb]
  intro k hk
  refine ⟨(h.tu k hk).1, ?_⟩
  simp only [Value.ownBlock, ne_eq, Option.some.injEq]
  rintro rfl
  rcases hat with hat | hat
  · exact (h.tu _ hk).2 hat
  · have := (bufOf_lt h.ib _ hk).1; omega
/-- begun anew -/
theorem QState.reset {w0 w : World} {b : Nat} {tv cv : Value} {ts : List (List UInt8)} {cs : List UInt8} (h : QState w0 w b tv cv ts cs) :
    Calls Try.prog 51 #[.pointer (some ⟨b, 0, none⟩)] w fun e w' => e = .returned (.tuple #[]) ∧ PState w0 w' b tv cv [] ts cs := by
  obtain ⟨p, v, hbk⟩ := h.blk
  refine (reset_any h.g h.hb hbk).mono ?_
  rintro e w' ⟨rfl, g', ib', hsz, hbf, hk⟩
  refine ⟨rfl, g', ib', ownsRow_same h.ot fun k hv _ => hk k ?_, ownsRow_same h.oc fun k hv _ => hk k ?_, h.tb, h.cb, fun q hq => by rw [hbf] at hq; cases hq⟩
  · rintro rfl; exact h.tb hv
  · rintro rfl; exact h.cb hv
theorem PState.byte {w0 w : World} {b : Nat} {tv cv : Value} {cur : List UInt8} {ts : List (List UInt8)} {cs : List UInt8} (h : PState w0 w b tv cv cur ts cs) (c : UInt8) (hl : cur.length ≤ 1000000) :
    Calls Try.prog 50 #[.pointer (some ⟨b, 0, none⟩), .int .u8 (c.toNat : Int)] w fun e w' => e = .returned .nilIface ∧ PState w0 w' b tv cv (cur ++ [c]) ts cs := by
  refine (writeByte_at h.ib h.g (c.toNat : Int) (by omega) (by have := c.toNat_lt; omega) (by omega)).mono ?_
  rintro e w' ⟨rfl, ib', g', hk, hb⟩
  rw [byteOf_cast] at ib'
  exact ⟨rfl, h.wrote ib' g' hk hb⟩

theorem PState.byteI {w0 w : World} {b : Nat} {tv cv : Value} {cur : List UInt8} {ts : List (List UInt8)} {cs : List UInt8} (h : PState w0 w b tv cv cur ts cs) (n : Int) (c : UInt8) (hn : n = (c.toNat : Int)) (hl : cur.length ≤ 1000000) :
    Calls Try.prog 50 #[.pointer (some ⟨b, 0, none⟩), .int .u8 n] w fun e w' => e = .returned .nilIface ∧ PState w0 w' b tv cv (cur ++ [c]) ts cs := by
  subst hn; exact h.byte c hl

end Go.Proofs.Ytaakkpkhkbhcmaa
