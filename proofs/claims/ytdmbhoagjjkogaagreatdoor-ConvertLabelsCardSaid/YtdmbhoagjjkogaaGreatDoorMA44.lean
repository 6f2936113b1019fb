/-
  Texts merged into one: Base, Strs, Name, Err.
-/
import Derived.Test.YtdmbhoagjjkogaaGreatDoorRows
import Derived.WalkKit
import Derived.WalkSpells
import Derived.WalkLawsBesides
import Derived.SizedLaws
import Derived.Deep.QuietTactic
import Derived.BigQuiet
import Derived.Laws.BytesArg
import Derived.Lib.Bytealg
import Derived.OwnWalk
namespace Go.Proofs.YtdmbhoagjjkogaaGreatDoor
open Go.RowKit
set_option linter.unusedVariables false
set_option linter.unusedSimpArgs false
theorem hid {p : Prop} (h : p) : Hid p := h
theorem ret_bool {a b : Bool} (h : a = b) : Ending.returned (.bool a) = .returned (.bool b) := by rw [h]
theorem ret_int {k : IntKind} {a b : Int} (h : a = b) : Ending.returned (.int k a) = .returned (.int k b) := by rw [h]
theorem ret_val {a b : Value} (h : a = b) : Ending.returned a = .returned b := by rw [h]
def G (w w' : World) : Prop := Below w.heap.size w w'
theorem G.refl (w : World) : G w w := Below.refl _ _
theorem G.trans {a b c : World} (h : G a b) (k : G b c) : G a c := Below.trans h (Below.mono k h.size)
theorem G.drew {a b : World} (h : G a b) : G a b.drew := Below.drew h
theorem G.alloc {a b : World} (h : G a b) (o : Obj) : G a (b.alloc o) := Below.alloc h h.size o
theorem G.size {a b : World} (h : G a b) : a.heap.size ≤ b.heap.size := Below.size h
theorem G.below {a b : World} (h : G a b) : Below a.heap.size a b := h
theorem G.cell {w w' : World} (h : G w w') {p : Addr} (hp : p.block < w.heap.size) : w'.cell? p = w.cell? p := Below.cell h hp
def Pure (f : FuncId) (args : Array Value) (w : World) (v : Value) : Prop := Calls Tryz.prog f args w fun e w' => e = .returned v ∧ w = w'
theorem Pure.use {f : FuncId} {args : Array Value} {w : World} {v : Value} (h : Pure f args w v) {R : Ending → World → Prop} (k : R (.returned v) w) : Calls Tryz.prog f args w R :=
  Calls.mono h (by rintro e w' ⟨rfl, rfl⟩; exact k)
def Gives (f : FuncId) (args : Array Value) (w : World) (v : Value) : Prop := Calls Tryz.prog f args w fun e w' => e = .returned v ∧ G w w'
theorem Gives.use {f : FuncId} {args : Array Value} {w : World} {v : Value} (h : Gives f args w v) {R : Ending → World → Prop} (k : ∀ w', G w w' → R (.returned v) w') : Calls Tryz.prog f args w R :=
  Calls.mono h (by rintro e w' ⟨rfl, hg⟩; exact k w' hg)
theorem Pure.gives {f : FuncId} {args : Array Value} {w : World} {v : Value} (h : Pure f args w v) : Gives f args w v :=
  Calls.mono h (by rintro e w' ⟨rfl, rfl⟩; exact ⟨rfl, G.refl _⟩)
def Makes (f : FuncId) (args : Array Value) (w : World) (Q : Value → World → Prop) : Prop := Calls Tryz.prog f args w fun e w' => ∃ v, e = .returned v ∧ Q v w' ∧ G w w'
theorem Makes.use {f : FuncId} {args : Array Value} {w : World} {Q : Value → World → Prop} (h : Makes f args w Q) {R : Ending → World → Prop} (k : ∀ v w', Q v w' → G w w' → R (.returned v) w') : Calls Tryz.prog f args w R :=
  Calls.mono h (by rintro e w' ⟨v, rfl, hq, hg⟩; exact k v w' hq hg)
theorem Makes.mono {f : FuncId} {args : Array Value} {w : World} {Q Q' : Value → World → Prop} (h : Makes f args w Q) (k : ∀ v w', G w w' → Q v w' → Q' v w') : Makes f args w Q' :=
  Calls.mono h (by rintro e w' ⟨v, rfl, hq, hg⟩; exact ⟨v, rfl, k v w' hg hq, hg⟩)
theorem G.drewN {a b : World} (h : G a b) (n : Nat) : G a (b.drewN n) := below_drewN h n
theorem wp_region_grow {id : Nat} {Q : Exit → Act → World → Prop} {a : Act} {w : World} {l : List Oper} (hm : Tryz.prog.follows .mixedOrders = true) (hB : Region.lexB .any l.toArray = true)
    (h : wpQuiet Tryz.prog l.toArray (fun w' => G w w') (fun a' => ∀ w', G w w' → Q .normal a' w') l a) : (Code.region id l.toArray true).wp Tryz.prog Q a w :=
  wp_region_quiet (C := fun w' => G w w') hm hB ((G.refl w).drew) (by simpa using h)
theorem Gives.gq {f : FuncId} {args : Array Value} {w w' : World} {v : Value} (hg : G w w') (h : Gives f args w' v) : Calls Tryz.prog f args w' fun e w'' => e = .returned v ∧ G w w'' :=
  Calls.mono h (by rintro e w2 ⟨rfl, h2⟩; exact ⟨rfl, hg.trans h2⟩)
theorem Pure.gq {f : FuncId} {args : Array Value} {w w' : World} {v : Value} (hg : G w w') (h : Pure f args w' v) : Calls Tryz.prog f args w' fun e w'' => e = .returned v ∧ G w w'' :=
  Gives.gq hg h.gives
def S (l : List UInt8) : ByteArray := ⟨l.toArray⟩
@[simp, go_sem] theorem S_data (l : List UInt8) : (S l).data.toList = l := rfl
@[simp, go_sem] theorem S_size (l : List UInt8) : (S l).size = l.length := by simp [S, ByteArray.size]
theorem toList_loop (s : ByteArray) : ∀ (n i : Nat) (r : List UInt8), s.size - i = n → ByteArray.toList.loop s i r = r.reverse ++ s.data.toList.drop i := by
  intro n
  induction n with
  | zero =>
    intro i r h
    unfold ByteArray.toList.loop
    rw [if_neg (by omega)]
    rw [List.drop_eq_nil_of_le (by simp; show s.data.size ≤ i; have : s.size = s.data.size := rfl; omega)]
    simp
  | succ n ih =>
    intro i r h
    unfold ByteArray.toList.loop
    have hi : i < s.data.size := by have : s.size = s.data.size := rfl; omega
    rw [if_pos (by omega), ih (i + 1) _ (by omega)]
    rw [List.drop_eq_getElem_cons (i := i) (by simpa using hi)]
    have hg : s.get! i = s.data[i] := getElem!_pos s.data i hi
    rw [hg]; simp
theorem toList_eq (s : ByteArray) : s.toList = s.data.toList := by
  unfold ByteArray.toList
  rw [toList_loop s s.size 0 [] (by omega)]
  simp
@[simp, go_sem] theorem S_toList (l : List UInt8) : (S l).toList = l := by rw [toList_eq]; rfl
@[simp, go_sem] theorem S_append (a b : List UInt8) : S a ++ S b = S (a ++ b) := by
  apply ByteArray.ext
  simp [S]
@[simp, go_sem] theorem S_get (l : List UInt8) (k : Nat) (h : k < (S l).size) : (S l)[k]'h = l[k]'(by simpa using h) := rfl
theorem S_extract (l : List UInt8) (a b : Nat) : (S l).extract a b = S ((l.drop a).take (b - a)) := ByteArray.extract_mk l a b
@[simp, go_sem] theorem S_from (l : List UInt8) (a : Nat) : (S l).extract a l.length = S (l.drop a) := by
  rw [S_extract, List.take_of_length_le (by simp)]
@[simp, go_sem] theorem S_to (l : List UInt8) (b : Nat) : (S l).extract 0 b = S (l.take b) := by
  rw [S_extract]; simp
@[simp, go_sem] theorem S_mid (l : List UInt8) (a b : Nat) : (S l).extract a b = S ((l.take b).drop a) := by
  rw [S_extract, List.drop_take]
theorem S_inj {a b : List UInt8} : S a = S b ↔ a = b := by
  constructor
  · intro h
    have := congrArg (fun s : ByteArray => s.data.toList) h
    simpa using this
  · intro h; rw [h]
@[go_sem] theorem mk_append_S (a b : List UInt8) : ByteArray.mk a.toArray ++ S b = S (a ++ b) := S_append a b
@[go_sem] theorem S_append_mk (a b : List UInt8) : S a ++ ByteArray.mk b.toArray = S (a ++ b) := S_append a b
@[go_sem] theorem mk_toList (l : List UInt8) : (ByteArray.mk l.toArray).toList = l := S_toList l
@[go_sem] theorem mk_size (l : List UInt8) : (ByteArray.mk l.toArray).size = l.length := S_size l
def OwnB (w : World) (b : Nat) (l : List UInt8) : Prop :=
  ∀ j (h : j < l.length), w.cell? ⟨b, j, none⟩ = some (.int .u8 (l[j].toNat : Int)) ∧ w.frozen? ⟨b, j, none⟩ = false
theorem OwnB.drew {w : World} {b : Nat} {l : List UInt8} (h : OwnB w b l) : OwnB w.drew b l := fun j hj => h j hj
theorem OwnB.set {w : World} {b : Nat} {l : List UInt8} (h : OwnB w b l) (k : Nat) (hk : k < l.length) (c : UInt8) :
    OwnB (w.setCell ⟨b, k, none⟩ (.int .u8 (c.toNat : Int))) b (l.set k c) := by
  intro j hj
  have hj' : j < l.length := by simpa using hj
  obtain ⟨h1, h2⟩ := h j hj'
  refine ⟨?_, ?_⟩
  · by_cases e : j = k
    · subst e
      rw [World.cell?_setCell_same _ _ _ h1]
      simp
    · rw [World.cell?_setCell_other _ _ _ _ (by simp [Ne.symm e]), h1]
      simp [List.getElem_set, Ne.symm e]
  · rw [World.frozen?_setCell, h2]
theorem OwnB.of_bytes (w : World) (e : TypeId) (s : ByteArray) :
    OwnB (w.drew.alloc (.cells (bytesRow s (grownCap w s.size 0 e)) e ((bytesRow s (grownCap w s.size 0 e)).size, (bytesRow s (grownCap w s.size 0 e)).size + 1))) w.heap.size s.data.toList := by
  intro j hj
  have hj' : j < s.data.size := by simpa using hj
  have hz : (bytesRow s (grownCap w s.size 0 e)).size = s.data.size + (grownCap w s.size 0 e - s.size) := by simp [bytesRow]
  have h1 := World.cell?_alloc_mark w.drew (bytesRow s (grownCap w s.size 0 e)) e ((bytesRow s (grownCap w s.size 0 e)).size, (bytesRow s (grownCap w s.size 0 e)).size + 1) j
  have h2 := World.frozen?_alloc_mark w.drew (bytesRow s (grownCap w s.size 0 e)) e (bytesRow s (grownCap w s.size 0 e)).size ((bytesRow s (grownCap w s.size 0 e)).size + 1) j
  refine ⟨?_, ?_⟩
  · refine h1.trans ?_
    rw [bytesRow_at s _ j hj']
    simp
  · refine h2.trans ?_
    simp; omega
theorem OwnB.back {P : Program} {w : World} {b : Nat} {l : List UInt8} (h : OwnB w b l) (src dst e : TypeId) (cap : Nat) (hs : P.underlying src = some (.slice e)) (he : P.underlying e = some (.int .u8)) (hd : P.underlying dst = some .string) :
    (convert src dst (.slice (some ⟨b, 0, none⟩) l.length cap)).run P w = .ok (.string (S l)) w := by
  refine run_convert_bytes_back w src dst e ⟨b, 0, none⟩ cap l hs he hd (fun j hj => ?_)
  rw [← (h j hj).1]
  congr 1
  by_cases e : j = 0
  · subst e; rfl
  · simp [Addr.add, e]
def upTo (f : UInt8 → UInt8) (k : Nat) (l : List UInt8) : List UInt8 := (l.take k).map f ++ l.drop k
theorem upTo_length (f : UInt8 → UInt8) (k : Nat) (l : List UInt8) : (upTo f k l).length = l.length := by
  unfold upTo; simp; omega
theorem upTo_all (f : UInt8 → UInt8) (l : List UInt8) (k : Nat) (h : l.length ≤ k) : upTo f k l = l.map f := by
  unfold upTo; rw [List.take_of_length_le h, List.drop_eq_nil_of_le h]; simp
theorem upTo_at (f : UInt8 → UInt8) (l : List UInt8) (k : Nat) (h : k < l.length) : (upTo f k l)[k]'(by rw [upTo_length]; exact h) = l[k] := by
  unfold upTo
  rw [List.getElem_append_right (by simp; omega)]
  simp [Nat.min_eq_left (Nat.le_of_lt h)]
theorem upTo_set (f : UInt8 → UInt8) (l : List UInt8) (k : Nat) (h : k < l.length) : (upTo f k l).set k (f l[k]) = upTo f (k + 1) l := by
  unfold upTo
  rw [List.set_append_right _ _ (by simp; omega)]
  simp only [List.length_map, List.length_take, Nat.min_eq_left (Nat.le_of_lt h), Nat.sub_self]
  rw [List.drop_eq_getElem_cons h, List.set_cons_zero, List.take_succ_eq_append_getElem h, List.map_append]
  simp
theorem upTo_same (f : UInt8 → UInt8) (l : List UInt8) (k : Nat) (h : k < l.length) (hf : f l[k] = l[k]) : upTo f k l = upTo f (k + 1) l := by
  rw [← upTo_set f l k h, hf]
  conv => rhs; rw [← upTo_at f l k h]
  simp
/-! ## string([]byte{..}): a literal's row becomes a text -/
theorem run_convN {P : Program} (w : World) (src dst e : TypeId) (ns : List Int) (hs : P.underlying src = some (.slice e)) (he : P.underlying e = some (.int .u8)) (hd : P.underlying dst = some .string) :
    (convert src dst (.slice (some ⟨w.heap.size, 0, none⟩) ns.length ns.length)).run P (w.alloc (.cells (ns.map (Value.int .u8)).toArray e)) = .ok (.string (S (ns.map fun n => UInt8.ofNat n.toNat))) (w.alloc (.cells (ns.map (Value.int .u8)).toArray e)) := by
  have h := run_convert_bytes_arg (P := P) (w.alloc (.cells (ns.map (Value.int .u8)).toArray e)) src e hs he w.heap.size 0 ns.length ns.length ns rfl (fun i hi => by
    rw [Nat.zero_add, World.cell?_alloc_new]
    simp [List.getElem?_eq_getElem hi]) dst hd
  exact h
@[go_sem] theorem run_conv1 {P : Program} (w : World) (src dst e : TypeId) (a : Int) (hs : P.underlying src = some (.slice e)) (he : P.underlying e = some (.int .u8)) (hd : P.underlying dst = some .string) :
    (convert src dst (.slice (some ⟨w.heap.size, 0, none⟩) 1 1)).run P (w.alloc (.cells #[.int .u8 a] e)) = .ok (.string (S [UInt8.ofNat a.toNat])) (w.alloc (.cells #[.int .u8 a] e)) :=
  run_convN w src dst e [a] hs he hd
@[go_sem] theorem run_conv2 {P : Program} (w : World) (src dst e : TypeId) (a b : Int) (hs : P.underlying src = some (.slice e)) (he : P.underlying e = some (.int .u8)) (hd : P.underlying dst = some .string) :
    (convert src dst (.slice (some ⟨w.heap.size, 0, none⟩) 2 2)).run P (w.alloc (.cells #[.int .u8 a, .int .u8 b] e)) = .ok (.string (S [UInt8.ofNat a.toNat, UInt8.ofNat b.toNat])) (w.alloc (.cells #[.int .u8 a, .int .u8 b] e)) :=
  run_convN w src dst e [a, b] hs he hd
@[go_sem] theorem run_conv3 {P : Program} (w : World) (src dst e : TypeId) (a b c : Int) (hs : P.underlying src = some (.slice e)) (he : P.underlying e = some (.int .u8)) (hd : P.underlying dst = some .string) :
    (convert src dst (.slice (some ⟨w.heap.size, 0, none⟩) 3 3)).run P (w.alloc (.cells #[.int .u8 a, .int .u8 b, .int .u8 c] e)) = .ok (.string (S [UInt8.ofNat a.toNat, UInt8.ofNat b.toNat, UInt8.ofNat c.toNat])) (w.alloc (.cells #[.int .u8 a, .int .u8 b, .int .u8 c] e)) :=
  run_convN w src dst e [a, b, c] hs he hd
@[go_sem] theorem run_conv4 {P : Program} (w : World) (src dst e : TypeId) (a b c d : Int) (hs : P.underlying src = some (.slice e)) (he : P.underlying e = some (.int .u8)) (hd : P.underlying dst = some .string) :
    (convert src dst (.slice (some ⟨w.heap.size, 0, none⟩) 4 4)).run P (w.alloc (.cells #[.int .u8 a, .int .u8 b, .int .u8 c, .int .u8 d] e)) = .ok (.string (S [UInt8.ofNat a.toNat, UInt8.ofNat b.toNat, UInt8.ofNat c.toNat, UInt8.ofNat d.toNat])) (w.alloc (.cells #[.int .u8 a, .int .u8 b, .int .u8 c, .int .u8 d] e)) :=
  run_convN w src dst e [a, b, c, d] hs he hd
theorem wraps_i64 (n : Int) (h₀ : 0 ≤ n) (h₁ : n < 2 ^ 62) : IntKind.i64.wrap n = n := by rw [IntKind.wrap_i64]; omega
theorem i64_mask (i : Nat) (hi : i ≤ 62) (x m : Int) (h₀ : 0 ≤ x) (h₁ : x < 4611686018427387904) (hm : m = 2 ^ i - 1) : bits .and .i64 x m = x % 2 ^ i := by
  subst hm; exact bits_mask .i64 62 (by decide) wraps_i64 i hi x h₀ h₁
theorem i64_join (i : Nat) (x y : Int) (hx₀ : 0 ≤ x) (hx : x % 2 ^ i = 0) (hx₁ : x < 4611686018427387904) (h₀ : 0 ≤ y) (h₁ : y < 2 ^ i) (hi : y < 2 ^ 62) : bits .or .i64 x y = x + y :=
  bits_join .i64 62 (by decide) wraps_i64 i x y hx₀ hx hx₁ h₀ h₁ hi
def byteOf (n : Int) : UInt8 := UInt8.ofNat n.toNat
theorem byteOf_eq {n : Int} {c : UInt8} (h : n = c.toNat) : byteOf n = c := by subst h; unfold byteOf; simp
@[simp] theorem byteOf_cast (c : UInt8) : byteOf (c.toNat : Int) = c := byteOf_eq rfl
theorem byteOf_toNat {n : Int} (h0 : 0 ≤ n) (h1 : n < 256) : ((byteOf n).toNat : Int) = n := by unfold byteOf; simp; omega
@[simp] theorem byteOf_61 : byteOf 61 = 61 := by decide
theorem byte_all (p : UInt8 → Bool) (h : (List.range 256).all (fun n => p (UInt8.ofNat n)) = true) (c : UInt8) : p c = true := by
  have := List.all_eq_true.1 h c.toNat (by simp; exact c.toNat_lt)
  simpa using this
end Go.Proofs.YtdmbhoagjjkogaaGreatDoor

namespace Go.Proofs.YtdmbhoagjjkogaaGreatDoor
open Go.RowKit
set_option linter.unusedVariables false
set_option linter.unusedSimpArgs false
set_option maxRecDepth 100000 in
set_option maxHeartbeats 400000 in
theorem liteIndexByte_any (l : List UInt8) (c : UInt8) (w : World) : Pure 177 #[.string (S l), .int .u8 (c.toNat : Int)] w (.int .i64 (Lib.indexByte l c)) := by
  go_enter Tryz.func177, Tryz.ntmps177
  go_wp2
  rw [run_callFunc_extern Tryz.func204 (by kernel_rfl) (by kernel_rfl) (by kernel_rfl) (e := Extern.BytealgIndexByte.indexByte) (by kernel_rfl), Lib.run_indexByteString]
  simp only [Result.andThen]
  rw [Oper.upon_value]
  go_wp2
  go_ret
  exact ⟨ret_int (by simp), rfl⟩
set_option maxHeartbeats 400000 in
theorem indexByte_any (l : List UInt8) (c : UInt8) (w : World) : Pure 146 #[.string (S l), .int .u8 (c.toNat : Int)] w (.int .i64 (Lib.indexByte l c)) := by
  go_enter Tryz.func146, Tryz.ntmps146
  go_wp2_with fail
  refine (liteIndexByte_any l c _).use ?_
  go_wp2
  go_ret
  exact ⟨rfl, rfl⟩
/-! ## the first byte of a kind -/
theorem indexByte_none (l : List UInt8) (c : UInt8) (h : c ∉ l) : Lib.indexByte l c = -1 := by
  induction l with
  | nil => rfl
  | cons b l ih =>
    have h1 : (b == c) = false := beq_eq_false_iff_ne.2 fun e => h (e ▸ List.mem_cons_self)
    rw [Lib.indexByte, ih fun m => h (List.mem_cons_of_mem _ m)]
    simp [h1]
theorem indexByte_some (a r : List UInt8) (c : UInt8) (h : c ∉ a) : Lib.indexByte (a ++ c :: r) c = a.length := by
  induction a with
  | nil => simp [Lib.indexByte]
  | cons b l ih =>
    have h1 : (b == c) = false := beq_eq_false_iff_ne.2 fun e => h (e ▸ List.mem_cons_self)
    rw [List.cons_append, Lib.indexByte, ih fun m => h (List.mem_cons_of_mem _ m)]
    have h2 : (((l.length : Int)) == -1) = false := beq_eq_false_iff_ne.2 (by omega)
    simp [h1, h2]
end Go.Proofs.YtdmbhoagjjkogaaGreatDoor

namespace Go.Proofs.YtdmbhoagjjkogaaGreatDoor
open Go.RowKit
set_option linter.unusedVariables false
set_option linter.unusedSimpArgs false
def letterB (c : Int) : Bool := decide ((97 ≤ c ∧ c ≤ 122) ∨ (65 ≤ c ∧ c ≤ 90) ∨ (48 ≤ c ∧ c ≤ 57) ∨ c = 45)
def isNameL (l : List UInt8) : Bool := l.all (fun c => letterB c.toNat) && (!l.isEmpty && decide ((l.length : Int) ≤ 40))
def turn1 (low high by_ : Int) (c : UInt8) : UInt8 := if low ≤ c.toNat ∧ c.toNat ≤ high then UInt8.ofNat ((c.toNat + by_) % 256).toNat else c
def upperL (l : List UInt8) : List UInt8 := l.map (turn1 97 122 (-32))
def lowerL (l : List UInt8) : List UInt8 := l.map (turn1 65 90 32)
def sameL (a b : List UInt8) : Bool := upperL a == upperL b
theorem turn1_yes {low high by_ : Int} {c : UInt8} (h1 : low ≤ c.toNat) (h2 : (c.toNat : Int) ≤ high) : ((turn1 low high by_ c).toNat : Int) = (c.toNat + by_) % 256 := by
  unfold turn1
  rw [if_pos ⟨h1, h2⟩]
  simp; omega
theorem turn1_no {low high by_ : Int} {c : UInt8} (h : (c.toNat : Int) < low ∨ high < c.toNat) : turn1 low high by_ c = c := by
  unfold turn1; rw [if_neg (by omega)]
@[simp] theorem upperL_length (l : List UInt8) : (upperL l).length = l.length := by simp [upperL]
@[simp] theorem lowerL_length (l : List UInt8) : (lowerL l).length = l.length := by simp [lowerL]
set_option maxRecDepth 100000 in
set_option maxHeartbeats 400000 in
theorem letter_any (c : Int) (w : World) :
    Pure 145 #[.int .u8 c] w (.bool (letterB c)) := by
  go_enter Tryz.func145, Tryz.ntmps145
  go_wp2
  all_goals go_ret
  all_goals exact ⟨ret_bool (by unfold letterB; rw [Bool.eq_iff_iff]; simp; omega), rfl⟩
theorem all_take_succ (p : UInt8 → Bool) (l : List UInt8) (k : Nat) (h : k < l.length) : (l.take (k + 1)).all p = ((l.take k).all p && p l[k]) := by
  rw [List.take_succ_eq_append_getElem h, List.all_append]; simp
set_option maxRecDepth 100000 in
set_option maxHeartbeats 400000 in
theorem is_any (l : List UInt8) (w : World) (hs : l.length ≤ 140737488355328) :
    Pure 98 #[.string (S l)] w (.bool (isNameL l)) := by
  go_enter Tryz.func98, Tryz.ntmps98
  go_wp2
  go_loop [6] (fun i => ∃ k : Nat, k ≤ l.length ∧ i = .int .i64 k ∧ (l.take k).all (fun c => letterB c.toNat) = true) (fun i => l.length - (intOf i).toNat)
  case atStart => exact ⟨0, Nat.zero_le _, rfl, rfl⟩
  case round =>
    obtain ⟨k, hk, rfl, hall⟩ := hrel
    have Hall := hid hall; clear hall
    by_cases hlt : k < l.length
    · have hsn := all_take_succ (fun c => letterB c.toNat) l k hlt
      have Hsn := hid hsn; clear hsn
      go_wp2_with (go_at_call 145; refine (letter_any _ _).use ?_)
      · rename_i h
        go_ret
        refine ⟨ret_bool ?_, rfl⟩
        have h2 : letterB (l[k].toNat : Int) = false := by simpa using h
        have : l.all (fun c => letterB c.toNat) = false := by
          rw [List.all_eq_false]
          exact ⟨l[k], List.getElem_mem hlt, by simpa using h2⟩
        simp [isNameL, this]
      · rename_i h
        go_round
        case rel =>
          refine ⟨k + 1, by omega, by go_num, ?_⟩
          rw [Hsn.out, Hall.out]; simpa using h
        case measure => simp [intOf]; omega
    · have hk' : k = l.length := by omega
      have ha := Hall.out
      rw [List.take_of_length_le (by omega)] at ha
      have Ha := hid ha
      clear ha hk' Hall
      go_wp2
      all_goals go_ret
      all_goals refine ⟨ret_bool ?_, rfl⟩
      all_goals unfold isNameL
      all_goals first | (simp; done) | (rw [Ha.out]; simp [*])
set_option maxRecDepth 100000 in
set_option maxHeartbeats 400000 in
theorem turn_any (l : List UInt8) (low high by_ : Int) (w : World) (hs : l.length ≤ 140737488355328) (h3 : -256 ≤ by_) (h4 : by_ ≤ 256) :
    Gives 65 #[.string (S l), .int .u8 low, .int .u8 high, .int .i64 by_] w (.string (S (l.map (turn1 low high by_)))) := by
  have hconv := run_bytes_of_string (P := Tryz.prog) w 9 125 5 (S l) Tryz.underlying9 Tryz.underlying125 Tryz.underlying5
  go_enter Tryz.func65, Tryz.ntmps65
  go_wp2
  have hown := OwnB.of_bytes w 5 (S l)
  rw [S_size, S_data] at hown
  generalize hcap : grownCap w l.length 0 5 = cap at hown ⊢
  have hbel : Below w.heap.size w (w.alloc (.cells (bytesRow (S l) cap) 5 ((bytesRow (S l) cap).size, (bytesRow (S l) cap).size + 1))).drew := ((Below.refl _ _).alloc (Nat.le_refl _) _).drew
  have hownH := hid hown; clear hown
  clear hcap hconv
  go_loopw [16] (fun i wr => ∃ k : Nat, k ≤ l.length ∧ i = .int .i64 k ∧ OwnB wr w.heap.size (upTo (turn1 low high by_) k l) ∧ Below w.heap.size w wr) (fun i _ => l.length - (intOf i).toNat)
  case atStart => exact ⟨0, Nat.zero_le _, rfl, hownH.out, hbel⟩
  case round =>
    obtain ⟨k, hk, rfl, ho, hb⟩ := hrel
    clear hbel hownH
    by_cases hlt : k < l.length
    · obtain ⟨hc, hf⟩ := ho k (by rw [upTo_length]; exact hlt)
      rw [upTo_at _ _ _ hlt] at hc
      have ho' := hid ho; clear ho
      have hb1 : l[k].toNat < 256 := UInt8.toNat_lt _
      go_wp2
      all_goals go_roundw
      all_goals try (case measure => simp [intOf]; omega)
      case rel =>
        refine ⟨k + 1, by omega, by go_num, ?_, hb.setCell (Nat.le_refl _) _⟩
        rw [← turn1_yes (by assumption) (by assumption), ← upTo_set _ _ _ hlt]
        exact ho'.out.set k (by rw [upTo_length]; exact hlt) _
      all_goals
        refine ⟨k + 1, by omega, by go_num, ?_, hb⟩
        rw [← upTo_same _ _ _ hlt (turn1_no (by omega))]
        exact ho'.out
    · have hback := ho.back (P := Tryz.prog) 125 9 5 cap Tryz.underlying125 Tryz.underlying5 Tryz.underlying9
      rw [upTo_all _ _ _ (by omega)] at hback
      rw [upTo_all _ _ _ (by omega)] at ho
      rw [List.length_map] at hback
      go_wp2
      go_ret
      exact ⟨rfl, hb⟩
set_option maxRecDepth 100000 in
set_option maxHeartbeats 400000 in
theorem upper_any (l : List UInt8) (w : World) (hs : l.length ≤ 140737488355328) :
    Gives 37 #[.string (S l)] w (.string (S (upperL l))) := by
  go_enter Tryz.func37, Tryz.ntmps37
  go_wp2_with (go_at_call 65; refine (turn_any l 97 122 (-32) _ hs (by omega) (by omega)).use ?_; intro w' hb)
  go_ret
  exact ⟨rfl, hb⟩
set_option maxRecDepth 100000 in
set_option maxHeartbeats 400000 in
theorem lower_any (l : List UInt8) (w : World) (hs : l.length ≤ 140737488355328) :
    Gives 73 #[.string (S l)] w (.string (S (lowerL l))) := by
  go_enter Tryz.func73, Tryz.ntmps73
  go_wp2_with (go_at_call 65; refine (turn_any l 65 90 32 _ hs (by omega) (by omega)).use ?_; intro w' hb)
  go_ret
  exact ⟨rfl, hb⟩
set_option maxRecDepth 100000 in
set_option maxHeartbeats 400000 in
theorem same_any (a b : List UInt8) (w : World) (ha : a.length ≤ 140737488355328) (hb : b.length ≤ 140737488355328) :
    Gives 15 #[.string (S a), .string (S b)] w (.bool (sameL a b)) := by
  go_enter Tryz.func15, Tryz.ntmps15
  go_wp2_with fail
  refine (upper_any a _ ha).use ?_; intro w1 hb1
  go_wp2_with fail
  refine (upper_any b _ hb).use ?_; intro w2 hb2
  go_wp2_with fail
  go_ret
  exact ⟨ret_bool rfl, hb1.trans hb2⟩
end Go.Proofs.YtdmbhoagjjkogaaGreatDoor

namespace Go.Proofs.YtdmbhoagjjkogaaGreatDoor
open Go.RowKit
set_option linter.unusedVariables false
set_option linter.unusedSimpArgs false
@[go_sem] def eno (n : Int) : Value := .iface 61 (.int .i64 n)
def IsAt (w : World) (v : Value) (code place : Int) : Prop := ∃ b, v = .iface 70 (.pointer (some ⟨b, 0, none⟩)) ∧ w.cell? ⟨b, 0, none⟩ = some (.int .i64 code) ∧ w.cell? ⟨b, 1, none⟩ = some (.int .i64 place) ∧ b < w.heap.size
theorem IsAt.grow {w w' : World} {v : Value} {code place : Int} (h : IsAt w v code place) (g : G w w') : IsAt w' v code place := by
  obtain ⟨b, h1, h2, h3, h4⟩ := h
  exact ⟨b, h1, by rw [g.cell h4]; exact h2, by rw [g.cell h4]; exact h3, Nat.lt_of_lt_of_le h4 g.size⟩
theorem IsAt.new (w : World) (t : TypeId) (code place : Int) : IsAt (w.alloc (.cells #[.int .i64 code, .int .i64 place] t)) (.iface 70 (.pointer (some ⟨w.heap.size, 0, none⟩))) code place :=
  ⟨w.heap.size, rfl, by rw [World.cell?_alloc_new]; rfl, by rw [World.cell?_alloc_new]; rfl, by simp⟩
theorem IsAt.newAt (w : World) (t : TypeId) (code place : Int) (n : Nat) (h : n = w.heap.size) : IsAt (w.alloc (.cells #[.int .i64 code, .int .i64 place] t)) (.iface 70 (.pointer (some ⟨n, 0, none⟩))) code place := by
  subst h; exact IsAt.new w t code place
end Go.Proofs.YtdmbhoagjjkogaaGreatDoor
