/-
  Trees that a law builds itself: arrays and objects of one or two elements. Plain.
-/
import Derived.Test.YtlejbindochiiaaDoorJsonBack
namespace Go.Proofs.YtlejbindochiiaaDoor
open Go.RowKit
set_option linter.unusedVariables false
set_option linter.unusedSimpArgs false

theorem row_block {W : World} {b k n : Nat} {cs : Array Value} {T : TypeId} (h : W.heap[b]? = some (.cells cs T)) (hl : cs.toList.length = n * k) (h1 : ∀ u ∈ cs.toList, u.oneCell' = true) (h0 : 0 < n) : IsRow k W (.slice (some ⟨b, 0, none⟩) n n) n cs.toList :=
  ⟨hl, h1, .inr ⟨b, 0, n, rfl, lt_of_row h, h0, fun j hj => by
    rw [Nat.zero_add, cell_of_row W b j _ _ _ h]
    simp at hj ⊢⟩⟩
theorem strs_block {W : World} {b n : Nat} {cs : Array Value} {T : TypeId} {ks : List (List UInt8)} (h : W.heap[b]? = some (.cells cs T)) (hc : cs.toList = ks.map fun k => .string (S k)) (hn : n = ks.length) (h0 : 0 < n) : IsStrs W (.slice (some ⟨b, 0, none⟩) n n) ks := by
  subst hn
  refine ⟨?_, Nat.le_refl _⟩
  rw [← hc]
  exact row_block h (by rw [hc]; simp) (by rw [hc]; intro u hu; obtain ⟨k, _, rfl⟩ := List.mem_map.1 hu; rfl) h0
theorem JAt.of {n : Nat} {W : World} {k : Int} {kv lv : Value} {ks : List (List UInt8)} {l : List Jt} {vs : List Value} (hk : IsStrs W kv ks) (hl : IsRow 4 W lv l.length (cellsJ vs)) (hc : capOk lv) (hn : vs.length = l.length) (hx : ∀ (i : Nat) (y : Jt) (u : Value), l[i]? = some y → vs[i]? = some u → JAt n (fun _ => True) W u y) :
    JAt (n + 1) (fun _ => True) W (.agg #[.int .i64 k, .string (S []), kv, lv]) (.mk k [] ks l) := ⟨kv, lv, vs, rfl, hk, fun _ _ _ => trivial, hl, hc, fun _ _ _ => trivial, hn, hx⟩
theorem strs_none (w : World) : IsStrs w (.slice none 0 0) [] := ⟨⟨rfl, by simp, .inl ⟨rfl, .inl rfl⟩⟩, Nat.le_refl _⟩
/-- one element -/
theorem JAt.one {n : Nat} {W : World} {k : Int} {kv : Value} {ks : List (List UInt8)} {lb : Nat} {c0 c1 c2 c3 : Value} {x : Jt} (hk : IsStrs W kv ks) (hb : W.heap[lb]? = some (.cells #[c0, c1, c2, c3] 25)) (hx : JAt n (fun _ => True) W (.agg #[c0, c1, c2, c3]) x) :
    JAt (n + 1) (fun _ => True) W (.agg #[.int .i64 k, .string (S []), kv, .slice (some ⟨lb, 0, none⟩) 1 1]) (.mk k [] ks [x]) := by
  refine JAt.of (vs := [.agg #[c0, c1, c2, c3]]) hk (row_block (n := 1) hb rfl hx.cells.2 (by decide)) (Nat.le_refl _) rfl fun i y u hy hu => ?_
  cases i with
  | zero => simp at hy hu; subst hy; subst hu; exact hx
  | succ i => simp at hy
/-- two elements -/
theorem JAt.two {n : Nat} {W : World} {k : Int} {kv : Value} {ks : List (List UInt8)} {lb : Nat} {c0 c1 c2 c3 d0 d1 d2 d3 : Value} {x y : Jt} (hk : IsStrs W kv ks) (hb : W.heap[lb]? = some (.cells #[c0, c1, c2, c3, d0, d1, d2, d3] 25)) (hx : JAt n (fun _ => True) W (.agg #[c0, c1, c2, c3]) x) (hy : JAt n (fun _ => True) W (.agg #[d0, d1, d2, d3]) y) :
    JAt (n + 1) (fun _ => True) W (.agg #[.int .i64 k, .string (S []), kv, .slice (some ⟨lb, 0, none⟩) 2 2]) (.mk k [] ks [x, y]) := by
  refine JAt.of (vs := [.agg #[c0, c1, c2, c3], .agg #[d0, d1, d2, d3]]) hk (row_block (n := 2) hb rfl (fun u hu => ?_) (by decide)) (Nat.le_refl _) rfl fun i z u hz hu => ?_
  · have hu : u ∈ [c0, c1, c2, c3] ++ [d0, d1, d2, d3] := hu
    rcases List.mem_append.1 hu with hu | hu
    · exact hx.cells.2 u hu
    · exact hy.cells.2 u hu
  · match i, hz, hu with
    | 0, hz, hu => simp at hz hu; subst hz; subst hu; exact hx
    | 1, hz, hu => simp at hz hu; subst hz; subst hu; exact hy
    | n + 2, hz, hu => simp at hz
theorem sz_built {d : Nat} {k : Int} {ks : List (List UInt8)} {l : List Jt} {N : Nat} (hk : ks.length ≤ 5000) (hl : l.length ≤ 5000) (hkl : ∀ k ∈ ks, k.length ≤ N) (hx : ∀ y ∈ l, SzJ 5000 N d y) : SzJ 5000 N (d + 1) (.mk k [] ks l) := ⟨Nat.zero_le _, hk, hl, hkl, hx⟩

end Go.Proofs.YtlejbindochiiaaDoor
