/-
  A Builder beside a block that turns (a reader's).
-/
import Derived.Test.YtlejbindochiiaaDoorBuilder
import Derived.Test.YtlejbindochiiaaDoorRdr
namespace Go.Proofs.YtlejbindochiiaaDoor
open Go.RowKit
set_option linter.unusedVariables false
set_option linter.unusedSimpArgs false

/-- the first blocks of a memory -/
def cutW (w : World) (n : Nat) : World := { w with heap := w.heap.extract 0 n }
theorem cutW_size {w : World} {n : Nat} (h : n ≤ w.heap.size) : (cutW w n).heap.size = n := by
  show (w.heap.extract 0 n).size = n
  simp; omega
theorem cutW_g {w : World} {n : Nat} (h : n ≤ w.heap.size) : G (cutW w n) w := by
  refine ⟨rfl, rfl, rfl, by rw [cutW_size h]; exact h, fun k hk => ?_⟩
  rw [cutW_size h] at hk
  show w.heap[k]? = (w.heap.extract 0 n)[k]?
  rw [Array.getElem?_extract]
  simp; omega
theorem cutW_below {w w' : World} {n : Nat} (h : n ≤ w.heap.size) (g : G (cutW w n) w') : ∀ k, k < n → w'.heap[k]? = w.heap[k]? := fun k hk => by
  have hk' : k < (cutW w n).heap.size := by rw [cutW_size h]; exact hk
  rw [g.below.block k hk', (cutW_g h).below.block k hk']
/-- what is written beside the blocks that there were -/
theorem mv_cut {a b c : World} {row : Option Nat} (h : a.grownBy b row) (g : G (cutW b a.heap.size) c) : a.grownBy c row :=
  ⟨g.below.os.trans h.os, g.below.tape.trans h.tape, g.below.output.trans h.output, by have := g.size; rwa [cutW_size h.size] at this, fun k hk hne => (cutW_below h.size g k hk).trans (h.block k hk hne)⟩
theorem RdO.cut {T : TypeId} {tl : List Value} {a w w' : World} {R k : Nat} {s : List UInt8} (h : RdO T tl w R s k) (hs : a.heap.size ≤ w.heap.size) (hR : R < a.heap.size) (g : G (cutW w a.heap.size) w') : RdO T tl w' R s k :=
  (cutW_below hs g R hR).trans h
theorem IsB.base {w0 w1 w : World} {b : Nat} {l : List UInt8} (h : IsB w0 w b l) (e : w0.heap.size = w1.heap.size) : IsB w1 w b l := by
  unfold IsB at *; rwa [← e]
theorem IsB.mv {w0 w w' : World} {b R : Nat} {l : List UInt8} (h : IsB w0 w b l) (g : w.grownBy w' (some R)) (hR : R < w0.heap.size) : IsB w0 w' b l := by
  have key : ∀ p, Lib.BuilderAt 46 5 w0.heap.size b p (Lib.byteCells l) w → Lib.BuilderAt 46 5 w0.heap.size b p (Lib.byteCells l) w' := by
    intro p h
    have hlt := h.lt
    obtain ⟨hB, v, hbk, hown, hne⟩ := h
    refine ⟨hB, v, ?_, ⟨hown.1, ?_⟩, hne⟩
    · rw [g.block b hlt (by simp; omega)]; exact hbk
    · rcases hown.2 with h | ⟨q, cap, cur, hv, hbq, hq, r⟩
      · exact Or.inl h
      · refine Or.inr ⟨q, cap, cur, hv, hbq, ?_, r⟩
        have : q < w.heap.size := by
          rcases Nat.lt_or_ge q w.heap.size with h' | h'
          · exact h'
          · rw [Array.getElem?_eq_none h'] at hq; cases hq
        rw [g.block q this (by simp; omega)]; exact hq
  rcases h with h | h
  · exact Or.inl (key _ h)
  · exact Or.inr (key _ h)
theorem writeByte_mv {w0 w : World} {b : Nat} {l : List UInt8} (h : IsB w0 w b l) (hs : w0.heap.size ≤ w.heap.size) (c : Int) (hc0 : 0 ≤ c) (hc1 : c < 256) (hlen : l.length + 1 ≤ 140737488355328) :
    Calls Tryd.prog 42 #[.pointer (some ⟨b, 0, none⟩), .int .u8 c] w fun e w' => e = .returned .nilIface ∧ IsB w0 w' b (l ++ [byteOf c]) ∧ G (cutW w w0.heap.size) w' :=
  (writeByte_any (h.base (cutW_size hs).symm) (cutW_g hs) c hc0 hc1 hlen).mono fun e w' ⟨h1, h2, h3, _⟩ => ⟨h1, h2.base (cutW_size hs), h3⟩
theorem writeString_mv {w0 w : World} {b : Nat} {l : List UInt8} (h : IsB w0 w b l) (hs : w0.heap.size ≤ w.heap.size) (s : List UInt8) (hlen : l.length + s.length ≤ 140737488355328) :
    Calls Tryd.prog 27 #[.pointer (some ⟨b, 0, none⟩), .string (S s)] w fun e w' => e = .returned (.tuple #[.int .i64 s.length, .nilIface]) ∧ IsB w0 w' b (l ++ s) ∧ G (cutW w w0.heap.size) w' :=
  (writeString_any (h.base (cutW_size hs).symm) (cutW_g hs) s hlen).mono fun e w' ⟨h1, h2, h3, _⟩ => ⟨h1, h2.base (cutW_size hs), h3⟩
theorem string_mv {w0 w : World} {b : Nat} {l : List UInt8} (h : IsB w0 w b l) (hs : w0.heap.size ≤ w.heap.size) :
    Calls Tryd.prog 17 #[.pointer (some ⟨b, 0, none⟩)] w fun e w' => e = .returned (.string (S l)) ∧ G (cutW w w0.heap.size) w' :=
  (string_any (h.base (cutW_size hs).symm) (cutW_g hs)).mono fun e w' ⟨h1, h2, _⟩ => ⟨h1, h2⟩

end Go.Proofs.YtlejbindochiiaaDoor
