/-
  CONTRACT of (*strings.Builder).Reset.
-/
import Derived.Test.YtaakkpkhkbhcmaaBuilder
import Derived.Laws.Tables
import Derived.Laws.CopyOwn
import Derived.Deep.AppendLies
namespace Go.Proofs.Ytaakkpkhkbhcmaa
open Go.RowKit
set_option linter.unusedVariables false
set_option linter.unusedSimpArgs false

set_option maxRecDepth 100000 in
set_option maxHeartbeats 1600000 in
theorem reset_any {w0 w : World} {b : Nat} {p v : Value} (g : G w0 w) (hb : w0.heap.size ≤ b) (hbk : w.heap[b]? = some (.cells #[p, v] 62 (0, 0))) :
    Calls Try.prog 51 #[.pointer (some ⟨b, 0, none⟩)] w fun e w' => e = .returned (.tuple #[]) ∧ G w0 w' ∧ IsB w0 w' b [] ∧ w'.heap.size = w.heap.size ∧ bufOf w' b = none ∧ ∀ k, k ≠ b → w'.heap[k]? = w.heap[k]? := by
  have c0 : w.cell? ⟨b, 0, none⟩ = some p := by rw [cell_of_row w b 0 _ _ _ hbk]; rfl
  have c1 : w.cell? ⟨b, 1, none⟩ = some v := by rw [cell_of_row w b 1 _ _ _ hbk]; rfl
  have z0 : w.frozen? ⟨b, 0, none⟩ = false := frozen_of_row w b 0 _ _ hbk
  have z1 : w.frozen? ⟨b, 1, none⟩ = false := frozen_of_row w b 1 _ _ hbk
  have e1 : w.setCell ⟨b, 0, none⟩ (.pointer none) = w.setRow b #[.pointer none, v] := by
    rw [setCell_eq_setRow w b 0 _ _ _ _ hbk]; rfl
  have h1 : (w.setRow b #[.pointer none, v]).heap[b]? = some (.cells #[.pointer none, v] 62 (0, 0)) := setRow_heap w b _ _ _ _ hbk
  have e2 : (w.setCell ⟨b, 0, none⟩ (.pointer none)).setCell ⟨b, 1, none⟩ (.slice none 0 0) = w.setRow b #[.pointer none, .slice none 0 0] := by
    rw [e1, setCell_eq_setRow _ b 1 _ _ _ _ h1, setRow_setRow]; rfl
  have hrow : (w.setRow b #[.pointer none, .slice none 0 0]).heap[b]? = some (.cells #[.pointer none, .slice none 0 0] 62 (0, 0)) := setRow_heap w b _ _ _ _ hbk
  have E2 := hid e2
  have HROW := hid hrow
  clear e1 e2 h1 hrow hbk
  go_enter Try.func51, Try.ntmps51
  go_wp2
  go_end0
  rw [E2.out]
  refine ⟨rfl, ?_, ?_, by simp, bufOf_at HROW.out, fun k hk => setRow_other w b k _ hk⟩
  · exact below_setRow g.below hb _
  · exact Or.inl ⟨hb, .slice none 0 0, HROW.out, World.ownsRow_nil _ _ _ _, by simp [Value.ownBlock]⟩

set_option maxRecDepth 100000 in
set_option maxHeartbeats 2000000 in
theorem writeByte_at {w0 w : World} {b : Nat} {l : List UInt8} (h : IsB w0 w b l) (g : G w0 w) (c : Int) (hc0 : 0 ≤ c) (hc1 : c < 256) (hlen : l.length + 1 ≤ 140737488355328) :
    Calls Try.prog 50 #[.pointer (some ⟨b, 0, none⟩), .int .u8 c] w fun e w' => e = .returned .nilIface ∧ IsB w0 w' b (l ++ [byteOf c]) ∧ G w0 w' ∧ KeptB w w' b ∧ (bufOf w' b = bufOf w b ∨ ∃ q, bufOf w' b = some q ∧ w.heap.size ≤ q) := by
  obtain ⟨i0, hi, hz0, hz1, hz2⟩ := info_parts infoByte
  have hbl : (Lib.byteCells l).length = l.length := Lib.byteCells_length l
  have hBw := g.size
  have H := hid h
  have HG := hid g
  clear h g
  go_enter Try.func50, Try.ntmps50
  go_wp2_with fail
  refine (copyCheck_any w0.heap.size b _ _ H.out).mono ?_
  rintro e w1 ⟨rfl, h1, hb1, hsz, hbf, hk1⟩
  obtain ⟨hB, v, hbk, hown, hne⟩ := h1
  have HK1 := hid hk1
  have HBF := hid hbf
  have HSZ := hid hsz
  have hszl : w.heap.size ≤ w1.heap.size := by omega
  clear hk1 hbf hsz
  have c0 : w1.cell? ⟨b, 0, none⟩ = some (.pointer (some ⟨b, 0, none⟩)) := by rw [Lib.cell_of_heap hbk]; rfl
  have c1 : w1.cell? ⟨b, 1, none⟩ = some v := by rw [Lib.cell_of_heap hbk]; rfl
  have HBK := hid hbk
  have HB1 := hid hb1
  clear hbk hb1
  go_wp2_with (at_builtin; refine wpList_append_lies _ rfl _ _ 50 rfl w0.heap.size 5 i0 (.int .u8 0) 1 1 Try.underlying50 hi hz0 hz1 hz2 rfl (by decide) _ _ _ rfl (hown.alloc _) ⟨w1.heap.size, 0, none⟩ 1 1 [.int .u8 c] rfl rfl ?c1 ?c2 (by omega) ?c3 ?c4 ?c5 _ rfl ?_)
  case c1 =>
    intro j u hj
    match j, hj with
    | 0, hj => simp at hj; subst hj; simp [Addr.add]
  case c2 => intro u hu; simp at hu; subst hu; rfl
  case c3 => unfold maxLen; omega
  case c4 => omega
  case c5 => simp; omega
  intro q cap w2 hown' hgrow hat _
  have hbk := HBK.out
  have hlt : b < w1.heap.size := by
    rcases Nat.lt_or_ge b w1.heap.size with h' | h'
    · exact h'
    · rw [Array.getElem?_eq_none h'] at hbk; cases hbk
  have hb2 : w2.heap[b]? = some (.cells #[.pointer (some ⟨b, 0, none⟩), v] 62 (0, 0)) := by
    rw [hgrow.block b (by simp; omega) (fun e => hne e.symm), Lib.alloc_old w1 _ b hlt]
    exact hbk
  have d0 : w2.cell? ⟨b, 0, none⟩ = some (.pointer (some ⟨b, 0, none⟩)) := by rw [Lib.cell_of_heap hb2]; rfl
  have d1 : w2.cell? ⟨b, 1, none⟩ = some v := by rw [Lib.cell_of_heap hb2]; rfl
  have f1 : w2.frozen? ⟨b, 1, none⟩ = false := Lib.frozen_of_heap hb2 1
  have HB2 := hid hb2
  have HGR := hid hgrow
  have HAT := hid hat
  clear hbk hb2 hgrow hat
  go_wp2
  go_ret
  have hgg : G w0 (w2.setCell ⟨b, 1, none⟩ (.slice (some ⟨q, 0, none⟩) (l.length + 1) cap)) := by
    have x1 : Below w0.heap.size w0 w1 := HG.out.below.trans HB1.out
    exact ((x1.alloc (by omega) _).grown HGR.out (by simp; omega) (fun k hk => (hown.lt k hk).1)).setCell (p := ⟨b, 1, none⟩) hB _
  refine ⟨rfl, Or.inr ?_, hgg, ?_, ?_⟩
  · have e : Lib.byteCells (l ++ [byteOf c]) = Lib.byteCells l ++ [.int .u8 c] := by
      simp [Lib.byteCells]; exact (byteOf_toNat hc0 hc1)
    rw [e]
    exact Lib.BuilderAt.put (T := 62) (e := 5) hB HB2.out (bs' := Lib.byteCells l ++ [.int .u8 c]) (by simpa [Lib.byteCells_length] using hown') (by decide)
  · intro k hk hkb hkv
    rw [Below.heap_setCell _ _ _ _ hkb]
    rw [← HBF.out, bufOf_at HBK.out] at hkv
    rw [HGR.out.block k (by simp; omega) (fun e => hkv e.symm), Lib.alloc_old w1 _ k (by omega)]
    exact HK1.out k hkb
  · have hbuf : bufOf (w2.setCell ⟨b, 1, none⟩ (.slice (some ⟨q, 0, none⟩) (l.length + 1) cap)) b = some q := by
      rw [setCell_eq_setRow w2 b 1 _ _ _ _ HB2.out]
      exact bufOf_at (setRow_heap w2 b _ _ _ _ HB2.out)
    rw [hbuf]
    rcases HAT.out with h | h
    · left
      rw [← HBF.out, bufOf_at HBK.out, h]
    · right
      refine ⟨q, rfl, ?_⟩
      have := HSZ.out; omega

end Go.Proofs.Ytaakkpkhkbhcmaa
