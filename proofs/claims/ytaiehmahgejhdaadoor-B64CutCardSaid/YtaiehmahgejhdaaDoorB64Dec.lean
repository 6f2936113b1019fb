/-
  THE PLAIN FUNCTION of b64.Decode, and what is known of letters.
-/
import Derived.Test.YtaiehmahgejhdaaDoorB64
import Derived.Test.YtaiehmahgejhdaaDoorStrs
import Derived.Test.YtaiehmahgejhdaaDoorErr
namespace Go.Proofs.YtaiehmahgejhdaaDoor
open Go.RowKit
set_option linter.unusedVariables false
set_option linter.unusedSimpArgs false

def idxB (c : UInt8) : Int := Lib.indexByte lettersL c
theorem idxB_cases (c : UInt8) : idxB c = -1 ∨ (0 ≤ idxB c ∧ idxB c < 64 ∧ byteOf (letB (idxB c)) = c ∧ c ≠ 61) := by
  have := byte_all (fun c => decide (idxB c = -1 ∨ (0 ≤ idxB c ∧ idxB c < 64 ∧ byteOf (letB (idxB c)) = c ∧ c ≠ 61))) (by decide +kernel) c
  exact of_decide_eq_true this
theorem idxB_letter (k : Int) (h0 : 0 ≤ k) (h1 : k < 64) : idxB (byteOf (letB k)) = k := by
  have h : (List.range 64).all (fun n => decide (idxB (byteOf (letB (n : Int))) = (n : Int))) = true := by decide +kernel
  have := List.all_eq_true.1 h k.toNat (by simp; omega)
  have e : ((k.toNat : Nat) : Int) = k := by omega
  rw [e] at this
  exact of_decide_eq_true this
theorem letB_ne (k : Int) (h0 : 0 ≤ k) (h1 : k < 64) : byteOf (letB k) ≠ 61 := by
  intro h
  have := idxB_letter k h0 h1
  rw [h] at this
  have h2 : idxB 61 = -1 := by decide +kernel
  omega
theorem idx61 : idxB 61 = -1 := by decide +kernel

/-- the bytes of a number -/
def bytes3 (n : Int) : List UInt8 := [byteOf (n / 65536), byteOf (n / 256 % 256), byteOf (n % 256)]
def num4 (a b c d : Int) : Int := ((a * 64 + b) * 64 + c) * 64 + d
/-- four letters' bytes, or the place of what is wrong -/
def decQ (last : Bool) (c0 c1 c2 c3 : UInt8) : Except Nat (List UInt8) :=
  if idxB c0 < 0 then .error 0
  else if idxB c1 < 0 then .error 1
  else if last = true ∧ c3 = 61 ∧ c2 = 61 then
    (if num4 (idxB c0) (idxB c1) 0 0 % 65536 = 0 then .ok ((bytes3 (num4 (idxB c0) (idxB c1) 0 0)).take 1) else .error 1)
  else if idxB c2 < 0 then .error 2
  else if last = true ∧ c3 = 61 then
    (if num4 (idxB c0) (idxB c1) (idxB c2) 0 % 256 = 0 then .ok ((bytes3 (num4 (idxB c0) (idxB c1) (idxB c2) 0)).take 2) else .error 2)
  else if idxB c3 < 0 then .error 3
  else .ok (bytes3 (num4 (idxB c0) (idxB c1) (idxB c2) (idxB c3)))
def decL : List UInt8 → Except Nat (List UInt8)
  | c0 :: c1 :: c2 :: c3 :: t =>
    match decQ t.isEmpty c0 c1 c2 c3 with
    | .error p => .error p
    | .ok bs => match decL t with
      | .error p => .error (p + 4)
      | .ok cs => .ok (bs ++ cs)
  | _ => .ok []

/-- xs = append(xs, us[:m]...) where us has just been laid, xs the call's own -/
theorem wpList_pushM {ops : Array Oper} {rest : List Oper} {o : Oper} {a : Act} {Q : Exit → Act → World → Prop} {w wr : World} (hgd : o.guard = none) (s x : Operand) (t : TypeId)
    (ho : o.op = .call { callee := .builtin .append, args := #[s, x], argTypes := #[t, t] })
    (e : TypeId) (i : TypeInfo) (z : Value) (bytes : Nat) (ht : Tryd.prog.underlying t = some (.slice e)) (hi : Tryd.prog.info? e = some i) (hz : i.zero = some z)
    (hsize : i.size = 1) (hby : i.bytes = bytes) (hzs : z.cells.size = 1)
    (v : Value) (n : Nat) (xs : List Value) (hs : a.eval s = v) (hown : wr.ownsRow w.heap.size e 1 v n xs) (hg : G w wr)
    (us : List Value) (m cap : Nat) (hm : m ≤ us.length) (hx : a.eval x = .slice (some ⟨wr.heap.size, 0, none⟩) m cap) (h1 : ∀ u ∈ us, u.oneCell' = true)
    (hbytes : (n + m) * bytes ≤ 140737488355328) (h63 : n + m ≤ 140737488355328)
    (h : ∀ v' w', w'.ownsRow w.heap.size e 1 v' (n + m) (xs ++ us.take m) → G w w' → wpList Tryd.prog ops Q rest (a.put o.dst v') w') :
    wpList Tryd.prog ops Q (o :: rest) a (wr.alloc (.cells us.toArray e)) := by
  refine wpList_append_own _ hgd s x t ho w.heap.size e i z 1 bytes ht hi hz hsize hby hzs (by decide) v n xs hs (hown.alloc _) ⟨wr.heap.size, 0, none⟩ m cap (us.take m) hx (by simp; omega) ?_ (fun u hu => h1 u (List.mem_of_mem_take hu)) (by unfold maxLen; omega) hbytes (by have := hg.size; simp; omega) ?_
  · intro j u hj
    have : (⟨wr.heap.size, 0, none⟩ : Addr).add j = ⟨wr.heap.size, j, none⟩ := by unfold Addr.add; split <;> simp_all
    rw [this, World.cell?_alloc_new]
    have hjm : j < m := by
      rcases Nat.lt_or_ge j m with h | h
      · exact h
      · rw [List.getElem?_eq_none (by simp; omega)] at hj; cases hj
    rw [List.getElem?_take_of_lt hjm] at hj
    simpa using hj
  · intro v' w' h2 h3 h4
    refine h v' w' h2 ?_
    refine (hg.alloc (.cells us.toArray e)).grown h3 (by have := hg.size; simp; omega) ?_
    intro k hk
    exact ((hown.alloc (.cells us.toArray e)).lt k hk).1
/-- string(b), b the call's own -/
theorem conv_own {w : World} {B : Nat} {v : Value} {bs : List UInt8} (h : w.ownsRow B 5 1 v bs.length (bs.map fun c => Value.int .u8 (c.toNat : Int))) :
    (convert 24 9 v).run Tryd.prog w = .ok (.string (S bs)) w := by
  obtain ⟨h1, h2⟩ := h
  rcases h2 with ⟨rfl, h0⟩ | ⟨g, cap, cur, hv, hb, hh, hn, hm, hcs, ht⟩
  · have : bs = [] := List.eq_nil_of_length_eq_zero h0
    subst this
    exact run_convert_bytes_nil (P := Tryd.prog) w 24 5 Tryd.underlying24 Tryd.underlying5 0 0 9 Tryd.underlying9
  · subst hv
    refine run_convert_bytes_back (P := Tryd.prog) w 24 9 5 ⟨g, 0, none⟩ cap bs Tryd.underlying24 Tryd.underlying5 Tryd.underlying9 (fun j hj => ?_)
    have e : (⟨g, 0, none⟩ : Addr).add j = ⟨g, j, none⟩ := by unfold Addr.add; split <;> simp_all
    rw [e]
    have := World.ownsRow.cellAt (w := w) (base := B) (e := 5) (size := 1) (g := g) (n := bs.length) (cap := cap) (xs := bs.map fun c => Value.int .u8 (c.toNat : Int)) ⟨h1, Or.inr ⟨g, cap, cur, rfl, hb, hh, hn, hm, hcs, ht⟩⟩ j (by omega)
    rw [this]
    simp [List.getElem?_eq_getElem hj]

end Go.Proofs.YtaiehmahgejhdaaDoor
