/-
  Trees in memory (p: the blocks in which their rows lie). Plain.
-/
import Derived.Test.YtlejbindochiiaaDoorJsonPlain
import Derived.Test.YtlejbindochiiaaDoorOwnStr
import Derived.Test.YtlejbindochiiaaDoorRdr
namespace Go.Proofs.YtlejbindochiiaaDoor
open Go.RowKit
set_option linter.unusedVariables false
set_option linter.unusedSimpArgs false

def cellsU : Value → List Value
  | .agg a => a.toList
  | v => [v]
def cellsJ (vs : List Value) : List Value := vs.flatMap cellsU
theorem cellsJ_append (vs : List Value) (u : Value) : cellsJ (vs ++ [u]) = cellsJ vs ++ cellsU u := by unfold cellsJ; simp
/-- the blocks of a row that has elements -/
def RowIn (p : Nat → Prop) (v : Value) (n : Nat) : Prop := 0 < n → ∀ b, v.ownBlock = some b → p b
theorem IsRow.kept {k : Nat} {w w' : World} {v : Value} {n : Nat} {cs : List Value} (h : IsRow k w v n cs) (hs : w.heap.size ≤ w'.heap.size) (hb : 0 < n → ∀ b, v.ownBlock = some b → b < w.heap.size → w'.heap[b]? = w.heap[b]?) : IsRow k w' v n cs := by
  obtain ⟨h1, h2, h3⟩ := h
  refine ⟨h1, h2, ?_⟩
  rcases h3 with h3 | ⟨b, off, cap, e, hlt, h0, hc⟩
  · exact .inl h3
  · subst e
    have hk := hb h0 b rfl hlt
    exact .inr ⟨b, off, cap, rfl, Nat.lt_of_lt_of_le hlt hs, h0, fun j hj => by rw [← hc j hj]; exact World.cell?_of_block hk⟩
theorem IsRow.lt {k : Nat} {w : World} {v : Value} {n : Nat} {cs : List Value} (h : IsRow k w v n cs) (h0 : 0 < n) {b : Nat} (e : v.ownBlock = some b) : b < w.heap.size := by
  obtain ⟨h1, h2, h3⟩ := h
  rcases h3 with ⟨h3, _⟩ | ⟨b', off, cap, e', hlt, _, _⟩
  · omega
  · subst e'; injection e with e; subst e; exact hlt
/-- the value v is the tree x (d: more than its depth) -/
def JAt : Nat → (Nat → Prop) → World → Value → Jt → Prop
  | 0, _, _, _, _ => False
  | d + 1, p, w, v, x => ∃ kv lv vs, v = .agg #[.int .i64 x.kind, .string (S x.text), kv, lv] ∧ IsStrs w kv x.keys ∧ RowIn p kv x.keys.length ∧ IsRow 4 w lv x.list.length (cellsJ vs) ∧ capOk lv ∧ RowIn p lv x.list.length ∧ vs.length = x.list.length ∧
      ∀ (i : Nat) (y : Jt) (u : Value), x.list[i]? = some y → vs[i]? = some u → JAt d p w u y
theorem JAt.kept : ∀ {d : Nat} {p : Nat → Prop} {w w' : World} {v : Value} {x : Jt}, JAt d p w v x → w.heap.size ≤ w'.heap.size → (∀ b, p b → b < w.heap.size → w'.heap[b]? = w.heap[b]?) → JAt d p w' v x
  | 0, _, _, _, _, _, h, _, _ => h
  | d + 1, p, w, w', v, x, h, hs, hb => by
    obtain ⟨kv, lv, vs, e, hk, hkp, hl, hc, hlp, hn, hx⟩ := h
    exact ⟨kv, lv, vs, e, ⟨hk.1.kept hs fun h0 b eb hlt => hb b (hkp h0 b eb) hlt, hk.2⟩, hkp, hl.kept hs fun h0 b eb hlt => hb b (hlp h0 b eb) hlt, hc, hlp, hn, fun i y u hy hu => (hx i y u hy hu).kept hs hb⟩
theorem JAt.mono : ∀ {d : Nat} {p q : Nat → Prop} {w : World} {v : Value} {x : Jt}, JAt d p w v x → (∀ b, p b → b < w.heap.size → q b) → JAt d q w v x
  | 0, _, _, _, _, _, h, _ => h
  | d + 1, p, q, w, v, x, h, hpq => by
    obtain ⟨kv, lv, vs, e, hk, hkp, hl, hc, hlp, hn, hx⟩ := h
    exact ⟨kv, lv, vs, e, hk, fun h0 b eb => hpq b (hkp h0 b eb) (hk.1.lt h0 eb), hl, hc, fun h0 b eb => hpq b (hlp h0 b eb) (hl.lt h0 eb), hn, fun i y u hy hu => (hx i y u hy hu).mono hpq⟩
theorem JAt.fuel : ∀ {d e : Nat} {p : Nat → Prop} {w : World} {v : Value} {x : Jt}, JAt d p w v x → d ≤ e → JAt e p w v x
  | 0, _, _, _, _, _, h, _ => h.elim
  | d + 1, 0, _, _, _, _, _, he => by omega
  | d + 1, e + 1, p, w, v, x, h, he => by
    obtain ⟨kv, lv, vs, e', hk, hkp, hl, hc, hlp, hn, hx⟩ := h
    exact ⟨kv, lv, vs, e', hk, hkp, hl, hc, hlp, hn, fun i y u hy hu => (hx i y u hy hu).fuel (by omega)⟩
theorem JAt.grow {d : Nat} {p : Nat → Prop} {w w' : World} {v : Value} {x : Jt} (h : JAt d p w v x) (g : G w w') : JAt d p w' v x := h.kept g.size fun b _ hb => g.below.block b hb
theorem JAt.shape {d : Nat} {p : Nat → Prop} {w : World} {v : Value} {x : Jt} (h : JAt d p w v x) : ∃ kv lv, v = .agg #[.int .i64 x.kind, .string (S x.text), kv, lv] := by
  cases d with
  | zero => exact h.elim
  | succ d => obtain ⟨kv, lv, vs, e, _⟩ := h; exact ⟨kv, lv, e⟩
theorem JAt.leaf {d : Nat} {p : Nat → Prop} {w : World} (k : Int) (t : List UInt8) : JAt (d + 1) p w (.agg #[.int .i64 k, .string (S t), .slice none 0 0, .slice none 0 0]) (.mk k t [] []) :=
  ⟨.slice none 0 0, .slice none 0 0, [], rfl, ⟨⟨rfl, by simp [Jt.keys], .inl ⟨rfl, .inl rfl⟩⟩, Nat.le_refl _⟩, fun h => absurd h (by simp [Jt.keys]), ⟨rfl, by simp [cellsJ], .inl ⟨rfl, .inl rfl⟩⟩, Nat.le_refl _, fun h => absurd h (by simp [Jt.list]), rfl, fun i y u hy => by simp [Jt.list] at hy⟩

theorem IsStrs.one {w : World} {v : Value} {l : List (List UInt8)} (h : IsStrs w v l) : v.oneCell' = true := by obtain ⟨a, c, rfl, _⟩ := h.len; rfl
theorem IsRow.one {k : Nat} {w : World} {v : Value} {n : Nat} {cs : List Value} (h : IsRow k w v n cs) : v.oneCell' = true := by obtain ⟨a, c, rfl⟩ := h.len; rfl
theorem JAt.cells {d : Nat} {p : Nat → Prop} {w : World} {v : Value} {x : Jt} (h : JAt d p w v x) : (cellsU v).length = 4 ∧ ∀ c ∈ cellsU v, c.oneCell' = true := by
  cases d with
  | zero => exact h.elim
  | succ d =>
    obtain ⟨kv, lv, vs, rfl, hk, _, hl, _⟩ := h
    refine ⟨rfl, fun c hc => ?_⟩
    simp [cellsU] at hc
    rcases hc with rfl | rfl | rfl | rfl
    · rfl
    · rfl
    · exact hk.one
    · exact hl.one
theorem JAt.shape4 {d : Nat} {p : Nat → Prop} {w : World} {v : Value} {x : Jt} (h : JAt d p w v x) : ∃ ka kc la lc, v = .agg #[.int .i64 x.kind, .string (S x.text), .slice ka x.keys.length kc, .slice la x.list.length lc] := by
  cases d with
  | zero => exact h.elim
  | succ d =>
    obtain ⟨kv, lv, vs, e, hk, _, hl, _⟩ := h
    obtain ⟨ka, kc, rfl, _⟩ := hk.len
    obtain ⟨la, lc, rfl⟩ := hl.len
    exact ⟨ka, kc, la, lc, e⟩
/-- the elements that have been read, in a row of their own above J; they lie in blocks for which q holds -/
structure ElQ (q : Nat → Prop) (wr : World) (J d : Nat) (xs : List Jt) (lv : Value) (vs : List Value) : Prop where
  row : wr.ownsRow (J + 1) 25 4 lv xs.length (cellsJ vs)
  len : vs.length = xs.length
  els : ∀ (i : Nat) (y : Jt) (u : Value), xs[i]? = some y → vs[i]? = some u → JAt d (fun b => (J + 1 ≤ b ∧ q b) ∧ lv.ownBlock ≠ some b) wr u y
abbrev ElSt (wr : World) (J d : Nat) (xs : List Jt) (lv : Value) (vs : List Value) : Prop := ElQ (fun _ => True) wr J d xs lv vs
theorem ElQ.nil {q : Nat → Prop} (w : World) (J d : Nat) : ElQ q w J d [] (.slice none 0 0) [] := ⟨World.ownsRow_nil _ _ _ _, rfl, fun i y u h => by simp at h⟩
theorem ElSt.nil (w : World) (J d : Nat) : ElSt w J d [] (.slice none 0 0) [] := ElQ.nil w J d
section
variable {q : Nat → Prop}
theorem ElQ.mv {w w' : World} {J d r : Nat} {xs : List Jt} {lv : Value} {vs : List Value} (h : ElQ q w J d xs lv vs) (g : w.grownBy w' (some r)) (hr : r ≤ J) : ElQ q w' J d xs lv vs :=
  ⟨h.row.kept g (row_under h.row (by omega)), h.len, fun i y u hy hu => (h.els i y u hy hu).kept g.size fun b hb hlt => g.block b hlt (by have := hb.1.1; simp; omega)⟩
/-- another row grows, in whose block none of the elements lies -/
theorem ElQ.beside {w w' : World} {J d : Nat} {row : Option Nat} {xs : List Jt} {lv : Value} {vs : List Value} (h : ElQ q w J d xs lv vs) (g : w.grownBy w' row) (hr : lv.ownBlock = none ∨ lv.ownBlock ≠ row) (hq : ∀ b, q b → some b ≠ row) : ElQ q w' J d xs lv vs :=
  ⟨h.row.kept g hr, h.len, fun i y u hy hu => (h.els i y u hy hu).kept g.size fun b hb hlt => g.block b hlt (hq b hb.1.2)⟩
theorem ElQ.turn {q' : Nat → Prop} {w : World} {J d : Nat} {xs : List Jt} {lv : Value} {vs : List Value} (h : ElQ q w J d xs lv vs) (hq : ∀ b, b < w.heap.size → q b → q' b) : ElQ q' w J d xs lv vs :=
  ⟨h.row, h.len, fun i y u hy hu => (h.els i y u hy hu).mono fun b hb hlt => ⟨⟨hb.1.1, hq b hlt hb.1.2⟩, hb.2⟩⟩
theorem ElQ.grow {w w' : World} {J d : Nat} {xs : List Jt} {lv : Value} {vs : List Value} (h : ElQ q w J d xs lv vs) (g : G w w') : ElQ q w' J d xs lv vs := by
  refine ⟨h.row.kept (mv_of none g) ?_, h.len, fun i y u hy hu => (h.els i y u hy hu).grow g⟩
  cases lv.ownBlock with
  | none => exact .inl rfl
  | some _ => exact .inr (by simp)
theorem ElQ.push {w4 w4' w5 : World} {J d g cap lo : Nat} {xs : List Jt} {lv u : Value} {vs : List Value} {y : Jt} (h : ElQ q w4 J d xs lv vs) (hu : JAt d (fun b => lo ≤ b) w4 u y) (hlo : J + 1 ≤ lo) (hq : ∀ b, lo ≤ b → q b) (hlv : ∀ b, lv.ownBlock = some b → b < lo) (g4 : G w4 w4')
    (hg : w4'.grownBy w5 lv.ownBlock) (hown : w5.ownsRow (J + 1) 25 4 (.slice (some ⟨g, 0, none⟩) (xs.length + 1) cap) (xs.length + 1) (cellsJ vs ++ cellsU u)) (hgg : lv.ownBlock = some g ∨ g = w4'.heap.size) : ElQ q w5 J d (xs ++ [y]) (.slice (some ⟨g, 0, none⟩) (xs.length + 1) cap) (vs ++ [u]) := by
  have key : ∀ {u : Value} {y : Jt}, JAt d (fun b => (J + 1 ≤ b ∧ q b) ∧ lv.ownBlock ≠ some b) w4 u y → JAt d (fun b => (J + 1 ≤ b ∧ q b) ∧ (Value.slice (some ⟨g, 0, none⟩) (xs.length + 1) cap).ownBlock ≠ some b) w5 u y := fun {u y} h1 => by
    refine (((h1.mono (q := fun b => (J + 1 ≤ b ∧ q b) ∧ lv.ownBlock ≠ some b ∧ b < w4.heap.size) fun b hb hlt => ⟨hb.1, hb.2, hlt⟩).grow g4).kept hg.size fun b hb hlt => hg.block b hlt (fun e => hb.2.1 e.symm)).mono fun b hb _ => ⟨hb.1, fun e => ?_⟩
    obtain rfl : g = b := Option.some.inj e
    rcases hgg with e | e
    · exact hb.2.1 e
    · have := g4.size; omega
  refine ⟨by rw [cellsJ_append]; simpa using hown, by simp [h.len], fun i z x hz hx => ?_⟩
  rcases Nat.lt_or_ge i xs.length with hi | hi
  · rw [List.getElem?_append_left hi] at hz
    rw [List.getElem?_append_left (by rw [h.len]; exact hi)] at hx
    exact key (h.els i z x hz hx)
  · have hi2 : i = xs.length := by have := (List.getElem?_eq_some_iff.1 hz).1; simp at this; omega
    subst hi2
    rw [List.getElem?_append_right (Nat.le_refl _)] at hz
    rw [List.getElem?_append_right (by rw [h.len]; exact Nat.le_refl _)] at hx
    simp [h.len] at hz hx
    subst hz; subst hx
    exact key (hu.mono fun b hb _ => ⟨⟨by omega, hq b hb⟩, fun e => by have := hlv b e; omega⟩)
theorem ElQ.cells {w : World} {J d : Nat} {xs : List Jt} {lv : Value} {vs : List Value} (h : ElQ q w J d xs lv vs) : ∀ c ∈ cellsJ vs, c.oneCell' = true := by
  intro c hc
  obtain ⟨u, hu, hc⟩ := List.mem_flatMap.1 hc
  obtain ⟨i, hi, e⟩ := List.mem_iff_getElem.1 hu
  have hix : i < xs.length := by rw [← h.len]; exact hi
  exact (h.els i xs[i] u (List.getElem?_eq_getElem hix) (by rw [List.getElem?_eq_getElem hi, e])).cells.2 c hc
theorem ElQ.row4 {w : World} {J d : Nat} {xs : List Jt} {lv : Value} {vs : List Value} (h : ElQ q w J d xs lv vs) : IsRow 4 w lv xs.length (cellsJ vs) := row_of_own h.row h.cells
theorem ElQ.tree {w : World} {J d lo : Nat} {xs : List Jt} {lv kv : Value} {vs : List Value} {k : Int} {t : List UInt8} {ks : List (List UInt8)} (h : ElQ q w J d xs lv vs) (hk : IsStrs w kv ks) (hkp : RowIn (fun b => lo ≤ b) kv ks.length) (hlo : lo ≤ J + 1) : JAt (d + 1) (fun b => lo ≤ b) w (.agg #[.int .i64 k, .string (S t), kv, lv]) (.mk k t ks xs) :=
  ⟨kv, lv, vs, rfl, hk, hkp, h.row4, cap_of_own h.row, fun _ b e => by have := (h.row.lt b e).1; omega, h.len, fun i y u hy hu => (h.els i y u hy hu).mono fun b hb _ => by have := hb.1.1; omega⟩
end

end Go.Proofs.YtlejbindochiiaaDoor
