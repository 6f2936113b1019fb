/-
  Texts merged into one: Stab, SortRow, SortIns.
-/
import Derived.Test.YtniidkkldoijcaaDoorMMem
import Derived.Deep.DrawnRows
import Derived.Deep.LoopGhost
import Derived.BigRegion
namespace Go.Proofs.YtniidkkldoijcaaDoor.Stab
set_option linter.unusedVariables false

/-- by key, then by number -/
def L (k : Int → Int) (x y : Int) : Prop := k x < k y ∨ (k x = k y ∧ x < y)
theorem L.trans {k : Int → Int} {x y z : Int} (h : L k x y) (g : L k y z) : L k x z := by
  unfold L at *; omega
theorem L.of_lt {k : Int → Int} {x y : Int} (h : x < y) : L k x y ↔ ¬ k y < k x := by
  unfold L; omega
theorem L.gt_lt {k : Int → Int} {x y : Int} (h : x < y) : L k y x ↔ k y < k x := by
  unfold L; omega

abbrev Srt (k : Int → Int) (l : List Int) : Prop := l.Pairwise (L k)
/-- all of one list stand, by number, ahead of all of the other -/
def Bef (u v : List Int) : Prop := ∀ x ∈ u, ∀ y ∈ v, x < y

theorem all_last {k : Int → Int} {u : List Int} {x z : Int} (h : Srt k (u ++ [x])) (hz : L k x z) : ∀ y ∈ u ++ [x], L k y z := by
  intro y hy
  rcases List.mem_append.1 hy with hy | hy
  · exact ((List.pairwise_append.1 h).2.2 y hy x (by simp)).trans hz
  · simp at hy; subst hy; exact hz
theorem all_head {k : Int → Int} {u : List Int} {x z : Int} (h : Srt k (x :: u)) (hz : L k z x) : ∀ y ∈ x :: u, L k z y := by
  intro y hy
  rcases List.mem_cons.1 hy with rfl | hy
  · exact hz
  · exact hz.trans ((List.pairwise_cons.1 h).1 y hy)
/-- two lists of which the last of the one stands ahead of the first of the other -/
theorem cross {k : Int → Int} {u v : List Int} (hu : Srt k u) (hv : Srt k v) (h : ∀ x y, u.getLast? = some x → v.head? = some y → L k x y) : ∀ x ∈ u, ∀ y ∈ v, L k x y := by
  intro x hx y hy
  rcases List.eq_nil_or_concat u with rfl | ⟨u', a, rfl⟩
  · simp at hx
  · cases v with
    | nil => simp at hy
    | cons b v' =>
      have h1 := all_last (by simpa using hu) (h a b (by simp) rfl) x (by simpa using hx)
      exact all_head hv h1 y hy
/-- what a rotation parts: sorted halves make a sorted whole -/
theorem halves {k : Int → Int} {u1 u2 v1 v2 s1 s2 : List Int} (hu : Srt k (u1 ++ u2)) (hv : Srt k (v1 ++ v2)) (h1 : ∀ x ∈ u1, ∀ y ∈ v2, L k x y) (h2 : ∀ x ∈ v1, ∀ y ∈ u2, L k x y)
    (p1 : s1.Perm (u1 ++ v1)) (p2 : s2.Perm (u2 ++ v2)) (q1 : Srt k s1) (q2 : Srt k s2) : Srt k (s1 ++ s2) ∧ (s1 ++ s2).Perm ((u1 ++ u2) ++ (v1 ++ v2)) := by
  refine ⟨List.pairwise_append.2 ⟨q1, q2, fun x hx y hy => ?_⟩, ?_⟩
  · have hx := p1.mem_iff.1 hx
    have hy := p2.mem_iff.1 hy
    rcases List.mem_append.1 hx with hx | hx <;> rcases List.mem_append.1 hy with hy | hy
    · exact (List.pairwise_append.1 hu).2.2 x hx y hy
    · exact h1 x hx y hy
    · exact h2 x hx y hy
    · exact (List.pairwise_append.1 hv).2.2 x hx y hy
  · refine (p1.append p2).trans ?_
    have e1 : (u1 ++ v1) ++ (u2 ++ v2) = u1 ++ (v1 ++ (u2 ++ v2)) := by simp
    have e2 : (u1 ++ u2) ++ (v1 ++ v2) = u1 ++ (u2 ++ (v1 ++ v2)) := by simp
    rw [e1, e2]
    refine List.Perm.append_left u1 ?_
    have e3 : v1 ++ (u2 ++ v2) = (v1 ++ u2) ++ v2 := by simp
    have e4 : u2 ++ (v1 ++ v2) = (u2 ++ v1) ++ v2 := by simp
    rw [e3, e4]
    exact List.Perm.append_right v2 List.perm_append_comm
/-- one put into its place -/
theorem put_right {k : Int → Int} {x : Int} {v1 v2 : List Int} (hv : Srt k (v1 ++ v2)) (h1 : ∀ y ∈ v1, L k y x) (h2 : ∀ y ∈ v2, L k x y) : Srt k (v1 ++ x :: v2) := by
  obtain ⟨a, b, c⟩ := List.pairwise_append.1 hv
  refine List.pairwise_append.2 ⟨a, List.pairwise_cons.2 ⟨h2, b⟩, fun y hy z hz => ?_⟩
  rcases List.mem_cons.1 hz with rfl | hz
  · exact h1 y hy
  · exact c y hy z hz

/-- a number list that lies between -/
theorem Bef.perm {u v u' v' : List Int} (h : Bef u v) (p : u'.Perm u) (q : v'.Perm v) : Bef u' v' := fun x hx y hy => h x (p.mem_iff.1 hx) y (q.mem_iff.1 hy)

/-- chunks, each but the last one of so many, the last one of no more, none empty -/
def Sizes (n : Nat) : List (List Int) → Prop
  | [] => True
  | [c] => 0 < c.length ∧ c.length ≤ n
  | c :: d :: r => c.length = n ∧ Sizes n (d :: r)
/-- chunks in order, each sorted -/
def Chunks (k : Int → Int) (n : Nat) (cs : List (List Int)) : Prop := Sizes n cs ∧ cs.Pairwise Bef ∧ ∀ c ∈ cs, Srt k c

theorem Sizes.snoc {n : Nat} : ∀ {cs : List (List Int)} {c : List Int}, (∀ d ∈ cs, d.length = n) → 0 < c.length → c.length ≤ n → Sizes n (cs ++ [c])
  | [], c, _, h0, h1 => ⟨h0, h1⟩
  | [d], c, h, h0, h1 => ⟨h d (by simp), h0, h1⟩
  | d :: e :: r, c, h, h0, h1 => ⟨h d (by simp), Sizes.snoc (cs := e :: r) (fun x hx => h x (by simp at hx ⊢; right; exact hx)) h0 h1⟩
theorem Sizes.full {n : Nat} (hn : 0 < n) : ∀ {cs : List (List Int)}, (∀ d ∈ cs, d.length = n) → Sizes n cs
  | [], _ => trivial
  | [d], h => ⟨by rw [h d (by simp)]; exact hn, Nat.le_of_eq (h d (by simp))⟩
  | d :: e :: r, h => ⟨h d (by simp), Sizes.full hn (cs := e :: r) (fun x hx => h x (by simp at hx ⊢; right; exact hx))⟩
/-- one chunk alone is all -/
theorem Chunks.done {k : Int → Int} {n : Nat} {cs : List (List Int)} (h : Chunks k n cs) (hl : cs.flatten.length ≤ n) : Srt k cs.flatten := by
  obtain ⟨h1, h2, h3⟩ := h
  match cs, h1, hl, h3 with
  | [], _, _, _ => exact List.Pairwise.nil
  | [c], _, _, h3 => simpa using h3 c (by simp)
  | c :: d :: r, h1, hl, _ =>
    exfalso
    have hd : 0 < d.length ∨ d.length = n := by
      cases r with
      | nil => exact .inl h1.2.1
      | cons e r => exact .inr h1.2.1
    have hc := h1.1
    simp only [List.flatten_cons, List.length_append] at hl
    have hn : d.length = 0 := by omega
    have hcn : 0 < n ∨ n = 0 := by omega
    rcases hd with hd | hd
    · omega
    · cases r with
      | nil => have := h1.2.1; omega
      | cons e r => 
        -- n = 0: chunks of none
        have hn0 : n = 0 := by omega
        subst hn0
        have : ∀ (r : List (List Int)) (e : List Int), Sizes 0 (e :: r) → False := by
          intro r
          induction r with
          | nil => intro e h; exact absurd h.2 (by have := h.1; omega)
          | cons f r ih => intro e h; exact ih f h.2
        exact this r e h1.2.2

/-- a pass: chunks that are merged, and others -/
def Pass (k : Int → Int) (n : Nat) (D E : List (List Int)) : Prop := (∀ d ∈ D, d.length = 2 * n) ∧ Sizes n E ∧ (D ++ E).Pairwise Bef ∧ ∀ c ∈ D ++ E, Srt k c
theorem Pass.start {k : Int → Int} {n : Nat} {cs : List (List Int)} (h : Chunks k n cs) : Pass k n [] cs :=
  ⟨fun d hd => by simp at hd, h.1, by simpa using h.2.1, by simpa using h.2.2⟩
theorem Pass.bef {k : Int → Int} {n : Nat} {D r : List (List Int)} {c d : List Int} (h : Pass k n D (c :: d :: r)) : Bef c d ∧ Srt k c ∧ Srt k d ∧ c.length = n := by
  obtain ⟨-, h1, h2, h3⟩ := h
  have h4 := (List.pairwise_append.1 h2).2.1
  exact ⟨(List.pairwise_cons.1 h4).1 d (by simp), h3 c (by simp), h3 d (by simp), h1.1⟩
theorem Pass.pair {k : Int → Int} {n : Nat} {D r : List (List Int)} {c d s : List Int} (h : Pass k n D (c :: d :: r)) (hp : s.Perm (c ++ d)) (hs : Srt k s) : (D ++ s :: r).Pairwise Bef ∧ ∀ x ∈ D ++ s :: r, Srt k x := by
  obtain ⟨-, -, h2, h3⟩ := h
  obtain ⟨a1, a2, a3⟩ := List.pairwise_append.1 h2
  obtain ⟨b1, b2⟩ := List.pairwise_cons.1 a2
  obtain ⟨c1, c2⟩ := List.pairwise_cons.1 b2
  refine ⟨List.pairwise_append.2 ⟨a1, List.pairwise_cons.2 ⟨fun x hx y hy z hz => ?_, c2⟩, fun x hx y hy z hz w hw => ?_⟩, fun x hx => ?_⟩
  · rcases List.mem_append.1 (hp.mem_iff.1 hy) with hy | hy
    · exact b1 x (by simp [hx]) y hy z hz
    · exact c1 x hx y hy z hz
  · rcases List.mem_cons.1 hy with rfl | hy
    · rcases List.mem_append.1 (hp.mem_iff.1 hw) with hw | hw
      · exact a3 x hx c (by simp) z hz w hw
      · exact a3 x hx d (by simp) z hz w hw
    · exact a3 x hx y (by simp [hy]) z hz w hw
  · rcases List.mem_append.1 hx with hx | hx
    · exact h3 x (by simp [hx])
    · rcases List.mem_cons.1 hx with rfl | hx
      · exact hs
      · exact h3 x (by simp [hx])
theorem Sizes.tail {n : Nat} {c : List Int} {r : List (List Int)} (h : Sizes n (c :: r)) : Sizes n r := by
  cases r with
  | nil => trivial
  | cons d r => exact h.2
theorem Pass.step {k : Int → Int} {n : Nat} {D r : List (List Int)} {c d s : List Int} (h : Pass k n D (c :: d :: r)) (hd : d.length = n) (hp : s.Perm (c ++ d)) (hs : Srt k s) : Pass k n (D ++ [s]) r := by
  obtain ⟨p1, p2⟩ := h.pair hp hs
  refine ⟨fun x hx => ?_, (h.2.1.tail).tail, by simpa using p1, by simpa using p2⟩
  rcases List.mem_append.1 hx with hx | hx
  · exact h.1 x hx
  · simp at hx; subst hx
    have := hp.length_eq
    rw [List.length_append, hd, h.bef.2.2.2] at this; omega
theorem Pass.end0 {k : Int → Int} {n : Nat} {D : List (List Int)} (hn : 0 < n) (h : Pass k n D []) : Chunks k (2 * n) D :=
  ⟨Sizes.full (by omega) h.1, by simpa using h.2.2.1, by simpa using h.2.2.2⟩
theorem Pass.end1 {k : Int → Int} {n : Nat} {D : List (List Int)} {c : List Int} (h : Pass k n D [c]) : Chunks k (2 * n) (D ++ [c]) :=
  ⟨Sizes.snoc h.1 h.2.1.1 (by have := h.2.1.2; omega), h.2.2.1, h.2.2.2⟩
theorem Pass.end2 {k : Int → Int} {n : Nat} {D : List (List Int)} {c d s : List Int} (h : Pass k n D [c, d]) (hp : s.Perm (c ++ d)) (hs : Srt k s) : Chunks k (2 * n) (D ++ [s]) := by
  obtain ⟨p1, p2⟩ := h.pair hp hs
  have hl := hp.length_eq
  have h1 : 0 < d.length ∧ d.length ≤ n := h.2.1.2
  have h2 := h.bef.2.2.2
  rw [List.length_append] at hl
  exact ⟨Sizes.snoc h.1 (by omega) (by omega), p1, p2⟩

/-- chunks of the first loop -/
def First (k : Int → Int) (n : Nat) (D : List (List Int)) (t : List Int) : Prop := (∀ d ∈ D, d.length = n) ∧ (D ++ [t]).Pairwise Bef ∧ (∀ c ∈ D, Srt k c) ∧ t.Pairwise (· < ·)
theorem First.start {k : Int → Int} {n : Nat} {t : List Int} (h : t.Pairwise (· < ·)) : First k n [] t := ⟨fun d hd => by simp at hd, by simp, fun c hc => by simp at hc, h⟩
theorem First.step {k : Int → Int} {n : Nat} {D : List (List Int)} {t1 t2 s : List Int} (h : First k n D (t1 ++ t2)) (hl : t1.length = n) (hp : s.Perm t1) (hs : Srt k s) : First k n (D ++ [s]) t2 := by
  obtain ⟨h1, h2, h3, h4⟩ := h
  obtain ⟨a1, -, a3⟩ := List.pairwise_append.1 h2
  obtain ⟨b1, b2, b3⟩ := List.pairwise_append.1 h4
  refine ⟨fun d hd => ?_, ?_, fun c hc => ?_, b2⟩
  · rcases List.mem_append.1 hd with hd | hd
    · exact h1 d hd
    · simp at hd; subst hd; rw [hp.length_eq]; exact hl
  · rw [List.append_assoc]
    refine List.pairwise_append.2 ⟨a1, ?_, fun x hx y hy z hz w hw => ?_⟩
    · simp only [List.singleton_append, List.pairwise_cons, List.mem_singleton]
      exact ⟨fun y hy => by subst hy; exact fun x hx z hz => b3 x (hp.mem_iff.1 hx) z hz, fun y hy => absurd hy List.not_mem_nil, List.Pairwise.nil⟩
    · simp at hy
      have key := a3 x hx (t1 ++ t2) (List.mem_singleton.2 rfl) z hz w
      rcases hy with hy | hy
      · rw [hy] at hw; exact key (List.mem_append.2 (.inl (hp.mem_iff.1 hw)))
      · rw [hy] at hw; exact key (List.mem_append.2 (.inr hw))
  · rcases List.mem_append.1 hc with hc | hc
    · exact h3 c hc
    · simp at hc; subst hc; exact hs
theorem First.done {k : Int → Int} {n : Nat} {D : List (List Int)} {t s : List Int} (hn : 0 < n) (h : First k n D t) (hl : t.length ≤ n) (hp : s.Perm t) (hs : Srt k s) : ∃ cs, Chunks k n cs ∧ cs.flatten = D.flatten ++ s := by
  obtain ⟨h1, h2, h3, h4⟩ := h
  obtain ⟨a1, -, a3⟩ := List.pairwise_append.1 h2
  cases s with
  | nil => exact ⟨D, ⟨Sizes.full hn h1, a1, h3⟩, by simp⟩
  | cons x s =>
    refine ⟨D ++ [x :: s], ⟨Sizes.snoc h1 (by simp) (by rw [hp.length_eq]; exact hl), ?_, fun c hc => ?_⟩, by simp⟩
    · refine List.pairwise_append.2 ⟨a1, by simp, fun y hy z hz u hu w hw => ?_⟩
      simp at hz; subst hz
      exact a3 y hy t (by simp) u hu w (hp.mem_iff.1 hw)
    · rcases List.mem_append.1 hc with hc | hc
      · exact h3 c hc
      · simp at hc; subst hc; exact hs
/-- the sorted list is the one that stands so -/
theorem unique {k : Int → Int} : ∀ {a b : List Int}, Srt k a → Srt k b → a.Perm b → a = b
  | [], b, _, _, p => (List.Perm.nil_eq p)
  | x :: a, [], _, _, p => by have := p.length_eq; simp at this
  | x :: a, y :: b, ha, hb, p => by
    have hxy : x = y := by
      by_cases hh : x = y
      · exact hh
      · exfalso
        have h1 : x ∈ b := by have := p.mem_iff.1 (List.mem_cons_self (a := x) (l := a)); simp at this; rcases this with h | h; (· exact absurd h hh); exact h
        have h2 : y ∈ a := by have := p.mem_iff.2 (List.mem_cons_self (a := y) (l := b)); simp at this; rcases this with h | h; (· exact absurd h.symm hh); exact h
        have g1 := (List.pairwise_cons.1 ha).1 y h2
        have g2 := (List.pairwise_cons.1 hb).1 x h1
        have g3 := g1.trans g2
        unfold L at g3; omega
    subst hxy
    rw [unique (List.pairwise_cons.1 ha).2 (List.pairwise_cons.1 hb).2 ((List.perm_cons x).1 p)]

end Go.Proofs.YtniidkkldoijcaaDoor.Stab

namespace Go.Proofs.YtniidkkldoijcaaDoor
open Go.RowKit
set_option linter.unusedVariables false
set_option linter.unusedSimpArgs false

/-- W is w0, grown, but for block B, which holds from off on these ints, free -/
structure SR (w0 : World) (B off : Nat) (l : List Int) (W : World) : Prop where
  mv : w0.grownBy W (some B)
  lt : B < W.heap.size
  cell : ∀ (i : Nat) (x : Int), l[i]? = some x → W.cell? ⟨B, off + i, none⟩ = some (.int .i64 x) ∧ W.frozen? ⟨B, off + i, none⟩ = false
  blk : ∀ cur T fr, w0.heap[B]? = some (.cells cur T fr) → ∃ cur', W.heap[B]? = some (.cells cur' T fr) ∧ cur'.size = cur.size
variable {w0 W W' : World} {B off : Nat} {l : List Int}
theorem SR.grow (h : SR w0 B off l W) (g : G W W') : SR w0 B off l W' :=
  ⟨mv_g h.mv g, Nat.lt_of_lt_of_le h.lt g.size, fun i x hx => ⟨by rw [g.cell h.lt]; exact (h.cell i x hx).1, by rw [g.below.frozen h.lt]; exact (h.cell i x hx).2⟩, fun cur T fr e => by rw [g.below.block B h.lt]; exact h.blk cur T fr e⟩
theorem SR.drew (h : SR w0 B off l W) : SR w0 B off l W.drew := h.grow ((G.refl _).drew)
theorem SR.set (h : SR w0 B off l W) (p : Nat) (y : Int) : SR w0 B off (l.set p y) (W.setCell ⟨B, off + p, none⟩ (.int .i64 y)) := by
  refine ⟨mv_st h.mv, by simpa using h.lt, fun i x hx => ?_, fun cur T fr e => ?_⟩
  case refine_2 =>
    obtain ⟨cur', h1, h2⟩ := h.blk cur T fr e
    exact ⟨cur'.setIfInBounds (off + p) (.int .i64 y), by rw [World.setCell]; simp [Array.getElem?_modify, h1], by simp [h2]⟩
  rw [List.getElem?_set] at hx
  rw [World.frozen?_setCell]
  by_cases e : p = i
  · subst e
    rw [if_pos rfl] at hx
    split at hx
    · rename_i hp
      obtain ⟨h1, h2⟩ := h.cell p _ (List.getElem?_eq_getElem hp)
      cases hx
      exact ⟨World.cell?_setCell_same _ _ _ h1, h2⟩
    · cases hx
  · rw [if_neg e] at hx
    obtain ⟨h1, h2⟩ := h.cell i x hx
    exact ⟨by rw [World.cell?_setCell_other _ _ _ _ (by simp; try omega)]; exact h1, h2⟩
theorem SR.start {base n cap : Nat} (h : W.ownsRow base 3 1 (.slice (some ⟨B, 0, none⟩) n cap) n (l.map (Value.int .i64))) : SR W B 0 l W := by
  rcases h.2 with ⟨e, _⟩ | ⟨g, c, cur, e, hb, hg, hn, hm, hs, ht⟩
  · cases e
  · cases e
    have hlen : l.length = n := by have := h.1; simpa using this
    refine ⟨mv_refl _ _, (Array.getElem?_eq_some_iff.1 hg).1, fun i x hx => ?_, fun cur T fr e => ⟨cur, e, rfl⟩⟩
    have hi : i < l.length := (List.getElem?_eq_some_iff.1 hx).1
    have e2 : cur[i]? = some (.int .i64 x) := by
      have := congrArg (fun z => z[i]?) ht
      simp only [List.getElem?_take, List.getElem?_map, hx] at this
      rw [if_pos (by omega)] at this
      simpa using this
    exact ⟨by rw [cell_of_row W B (0 + i) _ _ _ hg, Nat.zero_add]; exact e2, frozen_of_row W B (0 + i) _ _ hg⟩
theorem SR.own {base n cap : Nat} {l' : List Int} (h0 : w0.ownsRow base 3 1 (.slice (some ⟨B, 0, none⟩) n cap) n (l.map (Value.int .i64))) (h : SR w0 B 0 l' W) (hl : l'.length = n) : W.ownsRow base 3 1 (.slice (some ⟨B, 0, none⟩) n cap) n (l'.map (Value.int .i64)) := by
  rcases h0.2 with ⟨e, _⟩ | ⟨g, c, cur, e, hb, hg, hn, hm, hs, ht⟩
  · cases e
  · cases e
    obtain ⟨cur', h1, h2⟩ := h.blk _ _ _ hg
    refine ⟨by simp [hl], .inr ⟨B, cap, cur', rfl, hb, h1, hn, hm, by omega, ?_⟩⟩
    apply List.ext_getElem?
    intro i
    by_cases hi : i < n
    · obtain ⟨x, hx⟩ : ∃ x, l'[i]? = some x := ⟨_, List.getElem?_eq_getElem (by omega)⟩
      have c1 := (h.cell i x hx).1
      rw [cell_of_row W B (0 + i) _ _ _ h1, Nat.zero_add] at c1
      simp only [List.getElem?_take, List.getElem?_map, hx]
      rw [if_pos (by omega)]
      simpa using c1
    · rw [List.getElem?_eq_none (by simp; omega), List.getElem?_eq_none (by simp; omega)]
theorem sw_eq (A M C : List Int) (x y : Int) (p q : Nat) (hp : p = A.length) (hq : q = A.length + 1 + M.length) : ((A ++ x :: M ++ y :: C).set p y).set q x = A ++ y :: M ++ x :: C := by
  subst hp hq
  have e : A.length + 1 + M.length = A.length + (M.length + 1) := by omega
  simp [List.set_append, e]
theorem sw_eq' (A M C : List Int) (x y : Int) (p q : Nat) (hp : p = A.length) (hq : q = A.length + 1 + M.length) : ((A ++ x :: M ++ y :: C).set q x).set p y = A ++ y :: M ++ x :: C := by
  rw [List.set_comm _ _ (by omega)]; exact sw_eq A M C x y p q hp hq
theorem getA (A C : List Int) (x : Int) (p : Nat) (hp : p = A.length) : (A ++ x :: C)[p]? = some x := by subst hp; simp
theorem getB (A M C : List Int) (y x : Int) (q : Nat) (hq : q = A.length + 1 + M.length) : (A ++ y :: M ++ x :: C)[q]? = some x :=
  getA (A ++ y :: M) C x q (by rw [hq]; simp; omega)
/-- what a step of the sort leaves -/
def SortP (w0 : World) (B off : Nat) (R : List Int → Prop) (e : Ending) (w' : World) : Prop := e = .returned (.tuple #[]) ∧ ∃ l, R l ∧ SR w0 B off l w'

end Go.Proofs.YtniidkkldoijcaaDoor

namespace Go.Proofs.YtniidkkldoijcaaDoor
open Go.RowKit Stab
set_option linter.unusedVariables false
set_option linter.unusedSimpArgs false

def cmpV (cv : Value) : Value := .func (.func 40) #[] #[cv]
def CmpOk (w0 : World) (B : Nat) (cv : Value) (cf : Int → Int → Int) (dom : Int → Prop) : Prop :=
  ∀ W, w0.grownBy W (some B) → ∀ x y, dom x → dom y → Gives 40 #[.int .i64 x, .int .i64 y, cv] W (.int .i64 (cf x y))

set_option maxRecDepth 100000 in
set_option maxHeartbeats 4000000 in
theorem ins_any {w0 : World} {B off n cap : Nat} {cv : Value} {cf : Int → Int → Int} {key : Int → Int} {dom : Int → Prop} (hK : ∀ x y, cf x y < 0 ↔ key x < key y) (hC : CmpOk w0 B cv cf dom)
    (P t Q : List Int) (W : World) (a b : Nat) (hS : SR w0 B off (P ++ t ++ Q) W) (hD : ∀ x ∈ t, dom x) (hI : t.Pairwise (· < ·)) (hn : n = (P ++ t ++ Q).length) (hb : n ≤ 1000000) (ha : a = P.length) (he : b = a + t.length) :
    Calls Tryd.prog 67 #[.slice (some ⟨B, off, none⟩) n cap, .int .i64 (a : Int), .int .i64 (b : Int), cmpV cv] W (SortP w0 B off fun l => ∃ s, s.Perm t ∧ Srt key s ∧ l = P ++ s ++ Q) := by
  have hbn : b ≤ n := by rw [hn, he, ha]; simp
  have HS := hid hS
  have HC := hid hC
  have HK := hid hK
  have HI := hid hI
  have HA := hid ha
  have HN := hid hn
  have HE := hid he
  have hab : a ≤ b := by omega
  unfold cmpV
  clear hS hC hK hI ha hn he
  go_enter Tryd.func67, Tryd.ntmps67
  go_wp2_with fail
  go_loopg [8] (b - a) (fun g1 vi wr => ∃ i : Nat, vi = .int .i64 (i : Int) ∧ a < i ∧ i ≤ b + 1 ∧ b + 1 - i ≤ g1 + 1 ∧ ∃ s r : List Int, Hid ((∃ t0, t = t0 ++ r ∧ s.Perm t0) ∧ Srt key s ∧ (i = a + s.length ∨ t = []) ∧ SR w0 B off (P ++ s ++ r ++ Q) wr))
  case atStart =>
    refine ⟨a + 1, by go_num, by omega, by omega, by omega, ?_⟩
    cases t with
    | nil => exact ⟨[], [], hid ⟨⟨[], rfl, List.Perm.refl _⟩, List.Pairwise.nil, .inr rfl, by simpa using HS.out⟩⟩
    | cons x t => exact ⟨[x], t, hid ⟨⟨[x], rfl, List.Perm.refl _⟩, by simp, .inl rfl, by simpa using HS.out⟩⟩
  case round =>
    obtain ⟨i, rfl, hai, hib, hg1, s, r, HR⟩ := hrel
    by_cases hlt : i < b
    · obtain ⟨⟨t0, ht, hp⟩, hs, hi, hR⟩ := HR.out
      have hlen := hp.length_eq
      have hbt := HE.out
      have htl : t.length = t0.length + r.length := by rw [ht]; simp
      have hi2 : i = a + s.length := by rcases hi with h | h; (· exact h); (· exfalso; rw [h] at hbt; simp at hbt; omega)
      obtain ⟨x, r', rfl⟩ : ∃ x r', r = x :: r' := by
        cases r with
        | nil => simp at htl; omega
        | cons x r' => exact ⟨x, r', rfl⟩
      have HX : Hid (dom x) := hid (hD x (by rw [ht]; simp))
      have HBX : Hid (∀ y ∈ s, y < x ∧ dom y) := hid (fun y hy => by
        have h1 := hp.mem_iff.1 hy
        have h2 := HI.out
        rw [ht] at h2
        exact ⟨(List.pairwise_append.1 h2).2.2 y h1 x (by simp), hD y (by rw [ht]; simp [h1])⟩)
      have HS2 : Hid (Srt key s) := hid hs
      have HT : Hid (t = (t0 ++ [x]) ++ r' ∧ s.Perm t0) := hid ⟨by rw [ht]; simp, hp⟩
      have HI2 := hid hi2
      have HR2 := hid hR
      clear HR ht hp hs hi hR hlen hbt htl hi2
      go_wp2_with fail
      go_loopg [9] i (fun g2 vj wq => ∃ j : Nat, vj = .int .i64 (j : Int) ∧ a ≤ j ∧ j ≤ i ∧ j ≤ g2 ∧ ∃ s1 s2 : List Int, Hid (s = s1 ++ s2 ∧ j = a + s1.length ∧ (∀ y ∈ s2, key x < key y) ∧ SR w0 B off (P ++ s1 ++ x :: s2 ++ r' ++ Q) wq))
      case atStart => exact ⟨i, rfl, by omega, Nat.le_refl _, Nat.le_refl _, s, [], hid ⟨by simp, HI2.out, by simp, by simpa using HR2.out⟩⟩
      case round =>
        obtain ⟨j, rfl, haj, hji, hg2, s1, s2, HJ⟩ := hrel
        have OUT : ∀ wz, (∀ z ∈ s1, L key z x) → SR w0 B off (P ++ s1 ++ x :: s2 ++ r' ++ Q) wz → Hid ((∃ t0, t = t0 ++ r' ∧ (s1 ++ x :: s2).Perm t0) ∧ Srt key (s1 ++ x :: s2) ∧ (i + 1 = a + (s1 ++ x :: s2).length ∨ t = []) ∧ SR w0 B off (P ++ (s1 ++ x :: s2) ++ r' ++ Q) wz) := fun wz hz hw => by
          obtain ⟨h1, h2, h3, h4⟩ := HJ.out
          obtain ⟨k1, k2⟩ := HT.out
          have k3 := HI2.out
          have k4 := HS2.out
          have k5 := HBX.out
          subst h1
          refine ⟨⟨_, k1, ?_⟩, put_right k4 hz (fun y hy => .inl (h3 y hy)), .inl (by simp at k3 ⊢; omega), by simpa using hw⟩
          exact List.perm_middle.trans ((List.perm_append_singleton _ _).symm.trans (k2.append_right [x]))
        have HOUT := hid OUT
        clear OUT
        by_cases hja : a < j
        · obtain ⟨p, rfl⟩ : ∃ p, j = p + 1 := ⟨j - 1, by omega⟩
          obtain ⟨h1, h2, h3, h4⟩ := HJ.out
          obtain ⟨s1', y, rfl⟩ : ∃ s1' y, s1 = s1' ++ [y] := by
            rcases List.eq_nil_or_concat s1 with h | ⟨u, v, h⟩
            · rw [h] at h2; simp at h2; omega
            · exact ⟨u, v, by rw [h]; simp⟩
          have hA := HA.out
          have hq : p = (P ++ s1').length := by simp at h2 ⊢; omega
          have e0 : P ++ (s1' ++ [y]) ++ x :: s2 ++ r' ++ Q = (P ++ s1') ++ y :: [] ++ x :: (s2 ++ r' ++ Q) := by simp
          rw [e0] at h4
          have HE0 := hid e0
          obtain ⟨cp, fp⟩ := h4.cell p y (by rw [List.append_assoc]; exact getA _ _ _ _ hq)
          obtain ⟨cq, fq⟩ := h4.cell (p + 1) x (getB _ [] _ _ _ _ (by rw [hq]; rfl))
          have hy := HBX.out y (by rw [h1]; simp)
          have HQ := hid hq
          have hlB := h4.lt
          have HLB := hid hlB
          have hcf := fun W' (g : G wr W') => HC.out W' (mv_g h4.mv g) x y HX.out hy.2
          have HCF := hid hcf
          have H4 := hid h4
          have HY := hid hy.1
          have H3 := hid (show s = s1' ++ [y] ++ s2 ∧ p + 1 = a + (s1' ++ [y]).length ∧ ∀ y ∈ s2, key x < key y from ⟨h1, h2, h3⟩)
          have CP := hid cp
          have CQ := hid cq
          have FP := hid fp
          have FQ := hid fq
          clear h1 h2 h3 h4 e0 hA hq hy hcf cp cq fp fq HJ
          have i0 : (0 : Int) ≤ (p : Int) + 1 := by omega
          have i1 : (p : Int) + 1 < (n : Int) := by omega
          have i2 : (0 : Int) ≤ (p : Int) := by omega
          have i3 : (p : Int) < (n : Int) := by omega
          have i4 : ((p : Int) + 1).toNat = p + 1 := by omega
          have i5 : IntKind.i64.wrap (p : Int) = (p : Int) := by rw [IntKind.wrap_i64]; omega
          have hjz : (a : Int) < (p : Int) + 1 := by omega
          by_cases hlv : cf x y < 0
          · have hdl : decide (cf x y < 0) = true := decide_eq_true hlv
            go_wp2_with fail
            refine wp_region_grow (by kernel_rfl) (by kernel_rfl) ?_
            repeat (first | go_big_quiet_skip | (go_big_quiet_want; go_big_quiet_op; first | go_big_quiet_on | (apply Exists.intro; apply And.intro; (focus (intro _ hg; first | (rw [G.cell hg (p := ⟨B, off + (p + 1), none⟩) HLB.out, CQ.out]; exact ⟨rfl, rfl⟩) | (rw [G.cell hg (p := ⟨B, off + p, none⟩) HLB.out, CP.out]; exact ⟨rfl, rfl⟩) | (with_reducible exact Gives.gq hg (HCF.out _ hg)))); go_big_quiet_on) | (refine ⟨_, fun _ _ => rfl, ?_⟩; go_big_quiet_on)))
            refine wpQuiet_nil ?_
            intro wq gq
            go_wp2_with fail
            have SQ := H4.out.grow gq
            obtain ⟨cp, fp⟩ := SQ.cell p y (by rw [List.append_assoc]; exact getA _ _ _ _ HQ.out)
            obtain ⟨cq, fq⟩ := SQ.cell (p + 1) x (getB _ [] _ _ _ _ (by rw [HQ.out]; rfl))
            have hne : (⟨B, off + p, none⟩ : Addr) ≠ ⟨B, off + (p + 1), none⟩ := by simp
            have s2 := ((SQ.set (p + 1) y).set p x).drew
            rw [sw_eq' (P ++ s1') [] _ y x p (p + 1) HQ.out (by rw [HQ.out]; rfl)] at s2
            have SS2 := hid s2
            clear SQ s2
            go_region
            generalize (World.drew (World.setCell _ _ _)) = wz at SS2 ⊢
            go_wp2
            go_roundg p
            case measure => omega
            case rel => exact ⟨p, by go_num, by omega, by omega, Nat.le_refl _, s1', y :: s2, hid ⟨by rw [H3.out.1]; simp, by have := H3.out.2.1; simp at this; omega, fun z hz => by rcases List.mem_cons.1 hz with rfl | hz; (· exact (HK.out _ _).1 hlv); (· exact H3.out.2.2 z hz), by simpa using SS2.out⟩⟩
          · have hdl : decide (cf x y < 0) = false := decide_eq_false hlv
            have HL : Hid (∀ z ∈ s1' ++ [y], L key z x) := hid (by
              have hs := HS2.out
              rw [H3.out.1] at hs
              exact all_last (List.pairwise_append.1 hs).1 ((L.of_lt HY.out).2 (fun h => hlv ((HK.out _ _).2 h))))
            go_wp2_with fail
            refine wp_region_grow (by kernel_rfl) (by kernel_rfl) ?_
            repeat (first | go_big_quiet_skip | (go_big_quiet_want; go_big_quiet_op; first | go_big_quiet_on | (apply Exists.intro; apply And.intro; (focus (intro _ hg; first | (rw [G.cell hg (p := ⟨B, off + (p + 1), none⟩) HLB.out, CQ.out]; exact ⟨rfl, rfl⟩) | (rw [G.cell hg (p := ⟨B, off + p, none⟩) HLB.out, CP.out]; exact ⟨rfl, rfl⟩) | (with_reducible exact Gives.gq hg (HCF.out _ hg)))); go_big_quiet_on) | (refine ⟨_, fun _ _ => rfl, ?_⟩; go_big_quiet_on)))
            refine wpQuiet_nil ?_
            intro wq gq
            have SQ := hid (HOUT.out wq HL.out (by rw [HE0.out]; exact H4.out.grow gq))
            go_wp2
            go_roundg (b - (i + 1))
            case measure => omega
            case rel => exact ⟨i + 1, by go_num, by omega, by omega, by omega, _, r', SQ.out⟩
        · obtain rfl : j = a := by omega
          obtain ⟨h1, h2, h3, h4⟩ := HJ.out
          have h5 : s1 = [] := List.eq_nil_of_length_eq_zero (by omega)
          have SQ : ∀ wq, G wr wq → _ := fun wq g => HOUT.out wq (by rw [h5]; simp) (h4.grow g)
          have HSQ := hid SQ
          have hjaz : decide ((j : Int) > (j : Int)) = false := decide_eq_false (by omega)
          have hjaz' : ¬ (j : Int) < (j : Int) := by omega
          clear h1 h2 h3 h4 h5 HJ HOUT SQ
          go_wp2_with fail
          refine wp_region_grow (by kernel_rfl) (by kernel_rfl) ?_
          repeat (first | go_big_quiet_skip | (go_big_quiet_want; go_big_quiet_op; first | go_big_quiet_on | (apply Exists.intro; apply And.intro; (focus (intro _ hg; fail)); go_big_quiet_on) | (refine ⟨_, fun _ _ => rfl, ?_⟩; go_big_quiet_on)))
          refine wpQuiet_nil ?_
          intro wq gq
          go_wp2
          go_roundg (b - (i + 1))
          case measure => omega
          case rel => exact ⟨i + 1, by go_num, by omega, by omega, by omega, _, r', HSQ.out _ gq⟩
    · go_wp2_with fail
      go_end0
      obtain ⟨⟨t0, ht, hp⟩, hs, hi, hR⟩ := HR.out
      have hlen := hp.length_eq
      have hbt := HE.out
      have htl : t.length = t0.length + r.length := by rw [ht]; simp
      have hr : r = [] := List.eq_nil_of_length_eq_zero (by rcases hi with h | h; (· omega); (· rw [h] at htl; simp at htl; omega))
      subst hr
      exact ⟨rfl, _, ⟨s, by rw [ht]; simpa using hp, hs, rfl⟩, by simpa using hR⟩

end Go.Proofs.YtniidkkldoijcaaDoor
