/-
  Texts merged into one: Row, IsStrs, Data.
-/
import Derived.Test.YtniidkkldoijcaaDoorBase
import Derived.Test.YtniidkkldoijcaaDoorMErr
namespace Go.Proofs.YtniidkkldoijcaaDoor
open Go.RowKit
set_option linter.unusedVariables false
set_option linter.unusedSimpArgs false

/-- the slice value holds n elements of k cells each: these cells -/
def IsRow (k : Nat) (w : World) (v : Value) (n : Nat) (cs : List Value) : Prop :=
  cs.length = n * k ∧ (∀ u ∈ cs, u.oneCell' = true) ∧
  ((n = 0 ∧ (v = .slice none 0 0 ∨ ∃ a c, v = .slice (some a) 0 c)) ∨ ∃ b off cap, v = .slice (some ⟨b, off, none⟩) n cap ∧ b < w.heap.size ∧ 0 < n ∧ ∀ j (h : j < cs.length), w.cell? ⟨b, off + j, none⟩ = some cs[j])
theorem IsRow.grow {k : Nat} {w w' : World} {v : Value} {n : Nat} {cs : List Value} (h : IsRow k w v n cs) (g : G w w') : IsRow k w' v n cs := by
  obtain ⟨h1, h1c, h2⟩ := h
  refine ⟨h1, h1c, ?_⟩
  rcases h2 with h2 | ⟨b, off, cap, e, hb, h0, hc⟩
  · exact .inl h2
  · exact .inr ⟨b, off, cap, e, Nat.lt_of_lt_of_le hb g.size, h0, fun j hj => by rw [g.cell hb]; exact hc j hj⟩
theorem IsRow.len {k : Nat} {w : World} {v : Value} {n : Nat} {cs : List Value} (h : IsRow k w v n cs) : ∃ a c, v = .slice a n c := by
  rcases h.2.2 with ⟨rfl, e | ⟨a, c, e⟩⟩ | ⟨b, off, cap, e, _⟩
  · exact ⟨_, _, e⟩
  · exact ⟨_, _, e⟩
  · exact ⟨_, _, e⟩

end Go.Proofs.YtniidkkldoijcaaDoor

namespace Go.Proofs.YtniidkkldoijcaaDoor
open Go.RowKit
set_option linter.unusedVariables false
set_option linter.unusedSimpArgs false

/-- no more elements than there is room for -/
def capOk : Value → Prop
  | .slice _ n c => n ≤ c
  | _ => True
/-- the slice value holds these texts -/
def IsStrs (w : World) (v : Value) (ls : List (List UInt8)) : Prop := IsRow 1 w v ls.length (ls.map fun l => .string (S l)) ∧ capOk v
theorem IsStrs.grow {w w' : World} {v : Value} {ls : List (List UInt8)} (h : IsStrs w v ls) (g : G w w') : IsStrs w' v ls := ⟨IsRow.grow h.1 g, h.2⟩
theorem IsStrs.len {w : World} {v : Value} {ls : List (List UInt8)} (h : IsStrs w v ls) : ∃ a c, v = .slice a ls.length c ∧ ls.length ≤ c := by
  obtain ⟨a, c, e⟩ := IsRow.len h.1
  exact ⟨a, c, e, by have := h.2; rw [e] at this; exact this⟩
theorem IsStrs.at_ {w : World} {v : Value} {ls : List (List UInt8)} (h : IsStrs w v ls) (h0 : ls ≠ []) : ∃ b off cap, v = .slice (some ⟨b, off, none⟩) ls.length cap ∧ ls.length ≤ cap ∧ b < w.heap.size ∧ ∀ (i : Nat) (l : List UInt8), ls[i]? = some l → w.cell? ⟨b, off + i, none⟩ = some (.string (S l)) := by
  obtain ⟨⟨h1, h2, h3⟩, hk⟩ := h
  rcases h3 with ⟨h3, _⟩ | ⟨b, off, cap, e, hb, hn, hc⟩
  · exact absurd (List.eq_nil_of_length_eq_zero h3) h0
  · refine ⟨b, off, cap, e, by rw [e] at hk; exact hk, hb, fun i l hl => ?_⟩
    have hi : i < ls.length := by
      rcases Nat.lt_or_ge i ls.length with h | h
      · exact h
      · rw [List.getElem?_eq_none h] at hl; cases hl
    rw [hc i (by simpa using hi)]
    rw [List.getElem?_eq_getElem hi] at hl
    injection hl with hl
    simp [hl]

end Go.Proofs.YtniidkkldoijcaaDoor

namespace Go.Proofs.YtniidkkldoijcaaDoor
open Go.RowKit
set_option linter.unusedVariables false

structure St where
  y : Int
  m : Int
  d : Int
  h : Int
  n : Int
  s : Int
  zd : Bool
  zn : Int
def St.cells (t : St) : Array Value := #[.int .i64 t.y, .int .i64 t.m, .int .i64 t.d, .int .i64 t.h, .int .i64 t.n, .int .i64 t.s, .bool t.zd, .int .i64 t.zn]
def St.v (t : St) : Value := .agg #[.int .i64 t.y, .int .i64 t.m, .int .i64 t.d, .int .i64 t.h, .int .i64 t.n, .int .i64 t.s, .bool t.zd, .int .i64 t.zn]
def St0 : St := ⟨0, 0, 0, 0, 0, 0, false, 0⟩
structure Vl where
  ty : Int
  tx : List UInt8
  ps : List (List (List UInt8))
  st : St
  n : Int
def Vl.v (x : Vl) (pv : Value) : Value := .agg #[.int .i64 x.ty, .string (S x.tx), pv, .int .i64 x.st.y, .int .i64 x.st.m, .int .i64 x.st.d, .int .i64 x.st.h, .int .i64 x.st.n, .int .i64 x.st.s, .bool x.st.zd, .int .i64 x.st.zn, .int .i64 x.n]

end Go.Proofs.YtniidkkldoijcaaDoor
