/-
  Items of a card in memory, and cards. Plain.
-/
import Derived.Test.YtniidkkldoijcaaDoorParams
import Derived.Test.YtniidkkldoijcaaDoorIsLists
import Derived.Test.YtniidkkldoijcaaDoorMBase
import Derived.Shelf.SlicesQ.Load
namespace Go.Proofs.YtniidkkldoijcaaDoor
open Go.RowKit
set_option linter.unusedVariables false
set_option linter.unusedSimpArgs false

/-- an item: its group, its name, its parameters, its value -/
structure It where
  g : List UInt8
  n : List UInt8
  ps : List Pm
  v : Vl
/-- the cells of a value, of an item -/
def Vl.cells (x : Vl) (lv : Value) : List Value := [.int .i64 x.ty, .string (S x.tx), lv, .int .i64 x.st.y, .int .i64 x.st.m, .int .i64 x.st.d, .int .i64 x.st.h, .int .i64 x.st.n, .int .i64 x.st.s, .bool x.st.zd, .int .i64 x.st.zn, .int .i64 x.n]
def It.cells (x : It) (pv lv : Value) : List Value := [.string (S x.g), .string (S x.n), pv, .int .i64 x.v.ty, .string (S x.v.tx), lv, .int .i64 x.v.st.y, .int .i64 x.v.st.m, .int .i64 x.v.st.d, .int .i64 x.v.st.h, .int .i64 x.v.st.n, .int .i64 x.v.st.s, .bool x.v.st.zd, .int .i64 x.v.st.zn, .int .i64 x.v.n]
abbrev It.val (x : It) (pv lv : Value) : Value := .agg #[.string (S x.g), .string (S x.n), pv, .int .i64 x.v.ty, .string (S x.v.tx), lv, .int .i64 x.v.st.y, .int .i64 x.v.st.m, .int .i64 x.v.st.d, .int .i64 x.v.st.h, .int .i64 x.v.st.n, .int .i64 x.v.st.s, .bool x.v.st.zd, .int .i64 x.v.st.zn, .int .i64 x.v.n]
/-- what the pointers of an item hold -/
structure ItOk (w : World) (x : It) (pv lv : Value) : Prop where
  p : IsParams w pv x.ps
  l : IsLists w lv x.v.ps
  f : pv = .slice none 0 0 ∨ ∃ a n c, pv = .slice (some a) n c
  y : -9223372036854775808 ≤ x.v.st.y ∧ x.v.st.y ≤ 9223372036854775807
  t : -9223372036854775808 ≤ x.v.ty ∧ x.v.ty ≤ 9223372036854775807
theorem ItOk.grow {w w' : World} {x : It} {pv lv : Value} (h : ItOk w x pv lv) (g : G w w') : ItOk w' x pv lv := ⟨h.p.grow g, h.l.grow g, h.f, h.y, h.t⟩
theorem ItOk.pv {w : World} {x : It} {pv lv : Value} (h : ItOk w x pv lv) : ∃ a c, pv = .slice a x.ps.length c := by obtain ⟨a, c, e, _⟩ := h.p; exact ⟨a, c, e⟩
theorem ItOk.lv {w : World} {x : It} {pv lv : Value} (h : ItOk w x pv lv) : ∃ a c, lv = .slice a x.v.ps.length c := by obtain ⟨a, c, e, _⟩ := h.l.len; exact ⟨a, c, e⟩
/-- an item lies there -/
structure ItAt (w : World) (b o : Nat) (x : It) (pv lv : Value) : Prop where
  c : ∀ (j : Nat) (u : Value), (x.cells pv lv)[j]? = some u → w.cell? ⟨b, o + j, none⟩ = some u
  ok : ItOk w x pv lv
theorem ItAt.grow {w w' : World} {b o : Nat} {x : It} {pv lv : Value} (h : ItAt w b o x pv lv) (hb : b < w.heap.size) (g : G w w') : ItAt w' b o x pv lv :=
  ⟨fun j u hu => by rw [g.cell hb]; exact h.c j u hu, h.ok.grow g⟩
/-- its cells, one by one -/
theorem ItAt.e {w : World} {b o : Nat} {x : It} {pv lv : Value} (h : ItAt w b o x pv lv) : w.cell? ⟨b, o, none⟩ = some (.string (S x.g)) ∧ w.cell? ⟨b, o + 1, none⟩ = some (.string (S x.n)) ∧ w.cell? ⟨b, o + 2, none⟩ = some (pv) ∧ w.cell? ⟨b, o + 3, none⟩ = some (.int .i64 x.v.ty) ∧ w.cell? ⟨b, o + 4, none⟩ = some (.string (S x.v.tx)) ∧ w.cell? ⟨b, o + 5, none⟩ = some (lv) ∧ w.cell? ⟨b, o + 6, none⟩ = some (.int .i64 x.v.st.y) ∧ w.cell? ⟨b, o + 7, none⟩ = some (.int .i64 x.v.st.m) ∧ w.cell? ⟨b, o + 8, none⟩ = some (.int .i64 x.v.st.d) ∧ w.cell? ⟨b, o + 9, none⟩ = some (.int .i64 x.v.st.h) ∧ w.cell? ⟨b, o + 10, none⟩ = some (.int .i64 x.v.st.n) ∧ w.cell? ⟨b, o + 11, none⟩ = some (.int .i64 x.v.st.s) ∧ w.cell? ⟨b, o + 12, none⟩ = some (.bool x.v.st.zd) ∧ w.cell? ⟨b, o + 13, none⟩ = some (.int .i64 x.v.st.zn) ∧ w.cell? ⟨b, o + 14, none⟩ = some (.int .i64 x.v.n) :=
  ⟨h.c 0 _ rfl, h.c 1 _ rfl, h.c 2 _ rfl, h.c 3 _ rfl, h.c 4 _ rfl, h.c 5 _ rfl, h.c 6 _ rfl, h.c 7 _ rfl, h.c 8 _ rfl, h.c 9 _ rfl, h.c 10 _ rfl, h.c 11 _ rfl, h.c 12 _ rfl, h.c 13 _ rfl, h.c 14 _ rfl⟩
/-- such a load -/
theorem ItAt.load {w : World} {b o : Nat} {x : It} {pv lv : Value} (h : ItAt w b o x pv lv) : Sem.run Tryd.prog (loadCellsFrom ⟨b, o, none⟩ 0 15 #[]) w = .ok (x.cells pv lv).toArray w :=
  run_loadCellsFrom_list Tryd.prog w _ _ 15 rfl fun j u hu => by
    have e : (⟨b, o, none⟩ : Addr).add j = ⟨b, o + j, none⟩ := by unfold Addr.add; split <;> simp_all
    rw [e]; exact h.c j u hu
/-- the slice value holds these items -/
def IsItems (w : World) (v : Value) (xs : List It) : Prop :=
  ∃ a cap, v = .slice a xs.length cap ∧ xs.length ≤ cap ∧ (xs ≠ [] → ∃ b off, a = some ⟨b, off, none⟩ ∧ b < w.heap.size ∧ ∀ (i : Nat) (x : It), xs[i]? = some x → ∃ pv lv, ItAt w b (off + i * 15) x pv lv)
theorem IsItems.grow {w w' : World} {v : Value} {xs : List It} (h : IsItems w v xs) (g : G w w') : IsItems w' v xs := by
  obtain ⟨a, cap, e, hc, h⟩ := h
  refine ⟨a, cap, e, hc, fun h0 => ?_⟩
  obtain ⟨b, off, e2, hb, h⟩ := h h0
  refine ⟨b, off, e2, Nat.lt_of_lt_of_le hb g.size, fun i x hx => ?_⟩
  obtain ⟨pv, lv, h1⟩ := h i x hx
  exact ⟨pv, lv, h1.grow hb g⟩
theorem IsItems.len {w : World} {v : Value} {xs : List It} (h : IsItems w v xs) : ∃ a c, v = .slice a xs.length c ∧ xs.length ≤ c := by
  obtain ⟨a, c, e, h1, _⟩ := h
  exact ⟨a, c, e, h1⟩
/-- so much has an item, so much a card's items -/
def It.big (x : It) : Nat := x.g.length + x.n.length + (x.ps.map fun p => p.1.length + (p.2.map fun s => s.length + 1).sum + 1).sum + x.v.tx.length + sumP x.v.ps
def bigs (xs : List It) : Nat := (xs.map fun x => x.big + 1).sum
theorem bigs_mem {xs : List It} {x : It} (h : x ∈ xs) : x.big + 1 ≤ bigs xs := by
  induction xs with
  | nil => cases h
  | cons a xs ih =>
    have e : bigs (a :: xs) = a.big + 1 + bigs xs := by simp [bigs]
    rw [e]
    rcases List.mem_cons.1 h with rfl | h
    · omega
    · have := ih h; omega
theorem bigs_len (xs : List It) : xs.length ≤ bigs xs := by
  induction xs with
  | nil => simp
  | cons a xs ih =>
    have e : bigs (a :: xs) = a.big + 1 + bigs xs := by simp [bigs]
    rw [e]; simp; omega
/-- a card's value -/
def cardV (ver : Int) (iv : Value) : Value := .agg #[.int .i64 ver, iv]

end Go.Proofs.YtniidkkldoijcaaDoor
