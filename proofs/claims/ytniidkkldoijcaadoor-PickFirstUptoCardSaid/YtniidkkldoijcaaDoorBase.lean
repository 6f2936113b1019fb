/-
  WHAT ALL TEXTS OF THIS SEAT SHARE: strings as lists of bytes (S), closers of walks, rows of bytes in memory, Below. Plain lemmas; no function of the program.
-/
import Derived.Test.YtniidkkldoijcaaDoorRows
import Derived.WalkKit
import Derived.WalkSpells
import Derived.WalkLawsBesides
import Derived.SizedLaws
import Derived.Deep.QuietTactic
import Derived.BigQuiet
import Derived.Laws.BytesArg
namespace Go.Proofs.YtniidkkldoijcaaDoor
open Go.RowKit
set_option linter.unusedVariables false
set_option linter.unusedSimpArgs false

theorem hid {p : Prop} (h : p) : Hid p := h
theorem ret_bool {a b : Bool} (h : a = b) : Ending.returned (.bool a) = .returned (.bool b) := by rw [h]
theorem ret_int {k : IntKind} {a b : Int} (h : a = b) : Ending.returned (.int k a) = .returned (.int k b) := by rw [h]
theorem ret_val {a b : Value} (h : a = b) : Ending.returned a = .returned b := by rw [h]

/-- the world has grown: what was there is as it was -/
def G (w w' : World) : Prop := Below w.heap.size w w'
theorem G.refl (w : World) : G w w := Below.refl _ _
theorem G.trans {a b c : World} (h : G a b) (k : G b c) : G a c := Below.trans h (Below.mono k h.size)
theorem G.drew {a b : World} (h : G a b) : G a b.drew := Below.drew h
theorem G.alloc {a b : World} (h : G a b) (o : Obj) : G a (b.alloc o) := Below.alloc h h.size o
theorem G.size {a b : World} (h : G a b) : a.heap.size ≤ b.heap.size := Below.size h
theorem G.below {a b : World} (h : G a b) : Below a.heap.size a b := h
theorem G.cell {w w' : World} (h : G w w') {p : Addr} (hp : p.block < w.heap.size) : w'.cell? p = w.cell? p := Below.cell h hp

/-- a call that returns v and leaves the world alone -/
def Pure (f : FuncId) (args : Array Value) (w : World) (v : Value) : Prop := Calls Tryd.prog f args w fun e w' => e = .returned v ∧ w = w'
theorem Pure.use {f : FuncId} {args : Array Value} {w : World} {v : Value} (h : Pure f args w v) {R : Ending → World → Prop} (k : R (.returned v) w) : Calls Tryd.prog f args w R :=
  Calls.mono h (by rintro e w' ⟨rfl, rfl⟩; exact k)
/-- a call that returns v and makes memory at most -/
def Gives (f : FuncId) (args : Array Value) (w : World) (v : Value) : Prop := Calls Tryd.prog f args w fun e w' => e = .returned v ∧ G w w'
theorem Gives.use {f : FuncId} {args : Array Value} {w : World} {v : Value} (h : Gives f args w v) {R : Ending → World → Prop} (k : ∀ w', G w w' → R (.returned v) w') : Calls Tryd.prog f args w R :=
  Calls.mono h (by rintro e w' ⟨rfl, hg⟩; exact k w' hg)
theorem Pure.gives {f : FuncId} {args : Array Value} {w : World} {v : Value} (h : Pure f args w v) : Gives f args w v :=
  Calls.mono h (by rintro e w' ⟨rfl, rfl⟩; exact ⟨rfl, G.refl _⟩)
/-- a call that returns some value of which Q holds in the world behind it, and makes memory at most -/
def Makes (f : FuncId) (args : Array Value) (w : World) (Q : Value → World → Prop) : Prop := Calls Tryd.prog f args w fun e w' => ∃ v, e = .returned v ∧ Q v w' ∧ G w w'
theorem Makes.use {f : FuncId} {args : Array Value} {w : World} {Q : Value → World → Prop} (h : Makes f args w Q) {R : Ending → World → Prop} (k : ∀ v w', Q v w' → G w w' → R (.returned v) w') : Calls Tryd.prog f args w R :=
  Calls.mono h (by rintro e w' ⟨v, rfl, hq, hg⟩; exact k v w' hq hg)
theorem Makes.mono {f : FuncId} {args : Array Value} {w : World} {Q Q' : Value → World → Prop} (h : Makes f args w Q) (k : ∀ v w', G w w' → Q v w' → Q' v w') : Makes f args w Q' :=
  Calls.mono h (by rintro e w' ⟨v, rfl, hq, hg⟩; exact ⟨v, rfl, k v w' hg hq, hg⟩)

theorem G.drewN {a b : World} (h : G a b) (n : Nat) : G a (b.drewN n) := below_drewN h n
/-- a region that draws its order, whose operations read nothing that may change and whose callees make memory at most: one walk in the order of the text -/
theorem wp_region_grow {id : Nat} {Q : Exit → Act → World → Prop} {a : Act} {w : World} {l : List Oper} (hm : Tryd.prog.follows .mixedOrders = true) (hB : Region.lexB .any l.toArray = true)
    (h : wpQuiet Tryd.prog l.toArray (fun w' => G w w') (fun a' => ∀ w', G w w' → Q .normal a' w') l a) : (Code.region id l.toArray true).wp Tryd.prog Q a w :=
  wp_region_quiet (C := fun w' => G w w') hm hB ((G.refl w).drew) (by simpa using h)
theorem Gives.gq {f : FuncId} {args : Array Value} {w w' : World} {v : Value} (hg : G w w') (h : Gives f args w' v) : Calls Tryd.prog f args w' fun e w'' => e = .returned v ∧ G w w'' :=
  Calls.mono h (by rintro e w2 ⟨rfl, h2⟩; exact ⟨rfl, hg.trans h2⟩)
theorem Pure.gq {f : FuncId} {args : Array Value} {w w' : World} {v : Value} (hg : G w w') (h : Pure f args w' v) : Calls Tryd.prog f args w' fun e w'' => e = .returned v ∧ G w w'' :=
  Gives.gq hg h.gives
/-- a callee that only reads, in a region walked by go_quiet -/
theorem Pure.quiet {f : FuncId} {args : Array Value} {w : World} {n : Nat} {v : Value} (h : Pure f args (w.drewN n) v) : Calls Tryd.prog f args (w.drewN n) fun e w'' => e = .returned v ∧ ∃ m, w'' = w.drewN m :=
  Calls.mono h (by rintro e w2 ⟨rfl, rfl⟩; exact ⟨rfl, n, rfl⟩)

/-- a string out of a list of bytes -/
def S (l : List UInt8) : ByteArray := ⟨l.toArray⟩
theorem S_of (s : ByteArray) : ∃ l, s = S l := ⟨s.data.toList, rfl⟩
@[simp, go_sem] theorem S_data (l : List UInt8) : (S l).data.toList = l := rfl
@[simp, go_sem] theorem S_size (l : List UInt8) : (S l).size = l.length := by simp [S, ByteArray.size]
theorem toList_loop (s : ByteArray) : ∀ (n i : Nat) (r : List UInt8), s.size - i = n → ByteArray.toList.loop s i r = r.reverse ++ s.data.toList.drop i := by
  intro n
  induction n with
  | zero =>
    intro i r h
    unfold ByteArray.toList.loop
    rw [if_neg (by omega)]
    rw [List.drop_eq_nil_of_le (by simp; show s.data.size ≤ i; have : s.size = s.data.size := rfl; omega)]
    simp
  | succ n ih =>
    intro i r h
    unfold ByteArray.toList.loop
    have hi : i < s.data.size := by have : s.size = s.data.size := rfl; omega
    rw [if_pos (by omega), ih (i + 1) _ (by omega)]
    rw [List.drop_eq_getElem_cons (i := i) (by simpa using hi)]
    have hg : s.get! i = s.data[i] := getElem!_pos s.data i hi
    rw [hg]; simp
theorem toList_eq (s : ByteArray) : s.toList = s.data.toList := by
  unfold ByteArray.toList
  rw [toList_loop s s.size 0 [] (by omega)]
  simp
@[simp, go_sem] theorem S_toList (l : List UInt8) : (S l).toList = l := by rw [toList_eq]; rfl
@[simp, go_sem] theorem S_append (a b : List UInt8) : S a ++ S b = S (a ++ b) := by
  apply ByteArray.ext
  simp [S]
@[simp, go_sem] theorem S_get (l : List UInt8) (k : Nat) (h : k < (S l).size) : (S l)[k]'h = l[k]'(by simpa using h) := rfl
theorem S_extract (l : List UInt8) (a b : Nat) : (S l).extract a b = S ((l.drop a).take (b - a)) := ByteArray.extract_mk l a b
@[simp, go_sem] theorem S_from (l : List UInt8) (a : Nat) : (S l).extract a l.length = S (l.drop a) := by
  rw [S_extract, List.take_of_length_le (by simp)]
@[simp, go_sem] theorem S_to (l : List UInt8) (b : Nat) : (S l).extract 0 b = S (l.take b) := by
  rw [S_extract]; simp
@[simp, go_sem] theorem S_mid (l : List UInt8) (a b : Nat) : (S l).extract a b = S ((l.take b).drop a) := by
  rw [S_extract, List.drop_take]
theorem S_inj {a b : List UInt8} : S a = S b ↔ a = b := by
  constructor
  · intro h
    have := congrArg (fun s : ByteArray => s.data.toList) h
    simpa using this
  · intro h; rw [h]
theorem mk_S (l : List UInt8) : (ByteArray.mk l.toArray) = S l := rfl
@[go_sem] theorem mk_append_S (a b : List UInt8) : ByteArray.mk a.toArray ++ S b = S (a ++ b) := S_append a b
@[go_sem] theorem S_append_mk (a b : List UInt8) : S a ++ ByteArray.mk b.toArray = S (a ++ b) := S_append a b
@[go_sem] theorem mk_toList (l : List UInt8) : (ByteArray.mk l.toArray).toList = l := S_toList l
@[go_sem] theorem mk_size (l : List UInt8) : (ByteArray.mk l.toArray).size = l.length := S_size l

/-- block b of the world holds the bytes l, none frozen -/
def OwnB (w : World) (b : Nat) (l : List UInt8) : Prop :=
  ∀ j (h : j < l.length), w.cell? ⟨b, j, none⟩ = some (.int .u8 (l[j].toNat : Int)) ∧ w.frozen? ⟨b, j, none⟩ = false
theorem OwnB.drew {w : World} {b : Nat} {l : List UInt8} (h : OwnB w b l) : OwnB w.drew b l := fun j hj => h j hj
theorem OwnB.set {w : World} {b : Nat} {l : List UInt8} (h : OwnB w b l) (k : Nat) (hk : k < l.length) (c : UInt8) :
    OwnB (w.setCell ⟨b, k, none⟩ (.int .u8 (c.toNat : Int))) b (l.set k c) := by
  intro j hj
  have hj' : j < l.length := by simpa using hj
  obtain ⟨h1, h2⟩ := h j hj'
  refine ⟨?_, ?_⟩
  · by_cases e : j = k
    · subst e
      rw [World.cell?_setCell_same _ _ _ h1]
      simp
    · rw [World.cell?_setCell_other _ _ _ _ (by simp [Ne.symm e]), h1]
      simp [List.getElem_set, Ne.symm e]
  · rw [World.frozen?_setCell, h2]
theorem OwnB.of_bytes (w : World) (e : TypeId) (s : ByteArray) :
    OwnB (w.drew.alloc (.cells (bytesRow s (grownCap w s.size 0 e)) e ((bytesRow s (grownCap w s.size 0 e)).size, (bytesRow s (grownCap w s.size 0 e)).size + 1))) w.heap.size s.data.toList := by
  intro j hj
  have hj' : j < s.data.size := by simpa using hj
  have hz : (bytesRow s (grownCap w s.size 0 e)).size = s.data.size + (grownCap w s.size 0 e - s.size) := by simp [bytesRow]
  have h1 := World.cell?_alloc_mark w.drew (bytesRow s (grownCap w s.size 0 e)) e ((bytesRow s (grownCap w s.size 0 e)).size, (bytesRow s (grownCap w s.size 0 e)).size + 1) j
  have h2 := World.frozen?_alloc_mark w.drew (bytesRow s (grownCap w s.size 0 e)) e (bytesRow s (grownCap w s.size 0 e)).size ((bytesRow s (grownCap w s.size 0 e)).size + 1) j
  refine ⟨?_, ?_⟩
  · refine h1.trans ?_
    rw [bytesRow_at s _ j hj']
    simp
  · refine h2.trans ?_
    simp; omega
theorem OwnB.back {P : Program} {w : World} {b : Nat} {l : List UInt8} (h : OwnB w b l) (src dst e : TypeId) (cap : Nat) (hs : P.underlying src = some (.slice e)) (he : P.underlying e = some (.int .u8)) (hd : P.underlying dst = some .string) :
    (convert src dst (.slice (some ⟨b, 0, none⟩) l.length cap)).run P w = .ok (.string (S l)) w := by
  refine run_convert_bytes_back w src dst e ⟨b, 0, none⟩ cap l hs he hd (fun j hj => ?_)
  rw [← (h j hj).1]
  congr 1
  by_cases e : j = 0
  · subst e; rfl
  · simp [Addr.add, e]

/-- a list of which the first k elements are turned -/
def upTo (f : UInt8 → UInt8) (k : Nat) (l : List UInt8) : List UInt8 := (l.take k).map f ++ l.drop k
theorem upTo_length (f : UInt8 → UInt8) (k : Nat) (l : List UInt8) : (upTo f k l).length = l.length := by
  unfold upTo; simp; omega
theorem upTo_zero (f : UInt8 → UInt8) (l : List UInt8) : upTo f 0 l = l := by simp [upTo]
theorem upTo_all (f : UInt8 → UInt8) (l : List UInt8) (k : Nat) (h : l.length ≤ k) : upTo f k l = l.map f := by
  unfold upTo; rw [List.take_of_length_le h, List.drop_eq_nil_of_le h]; simp
theorem upTo_at (f : UInt8 → UInt8) (l : List UInt8) (k : Nat) (h : k < l.length) : (upTo f k l)[k]'(by rw [upTo_length]; exact h) = l[k] := by
  unfold upTo
  rw [List.getElem_append_right (by simp; omega)]
  simp [Nat.min_eq_left (Nat.le_of_lt h)]
theorem upTo_set (f : UInt8 → UInt8) (l : List UInt8) (k : Nat) (h : k < l.length) : (upTo f k l).set k (f l[k]) = upTo f (k + 1) l := by
  unfold upTo
  rw [List.set_append_right _ _ (by simp; omega)]
  simp only [List.length_map, List.length_take, Nat.min_eq_left (Nat.le_of_lt h), Nat.sub_self]
  rw [List.drop_eq_getElem_cons h, List.set_cons_zero, List.take_succ_eq_append_getElem h, List.map_append]
  simp
theorem upTo_same (f : UInt8 → UInt8) (l : List UInt8) (k : Nat) (h : k < l.length) (hf : f l[k] = l[k]) : upTo f k l = upTo f (k + 1) l := by
  rw [← upTo_set f l k h, hf]
  conv => rhs; rw [← upTo_at f l k h]
  simp

/-! ## string([]byte{..}): a literal's row becomes a text -/
theorem run_convN {P : Program} (w : World) (src dst e : TypeId) (ns : List Int) (hs : P.underlying src = some (.slice e)) (he : P.underlying e = some (.int .u8)) (hd : P.underlying dst = some .string) :
    (convert src dst (.slice (some ⟨w.heap.size, 0, none⟩) ns.length ns.length)).run P (w.alloc (.cells (ns.map (Value.int .u8)).toArray e)) = .ok (.string (S (ns.map fun n => UInt8.ofNat n.toNat))) (w.alloc (.cells (ns.map (Value.int .u8)).toArray e)) := by
  have h := run_convert_bytes_arg (P := P) (w.alloc (.cells (ns.map (Value.int .u8)).toArray e)) src e hs he w.heap.size 0 ns.length ns.length ns rfl (fun i hi => by
    rw [Nat.zero_add, World.cell?_alloc_new]
    simp [List.getElem?_eq_getElem hi]) dst hd
  exact h
@[go_sem] theorem run_conv1 {P : Program} (w : World) (src dst e : TypeId) (a : Int) (hs : P.underlying src = some (.slice e)) (he : P.underlying e = some (.int .u8)) (hd : P.underlying dst = some .string) :
    (convert src dst (.slice (some ⟨w.heap.size, 0, none⟩) 1 1)).run P (w.alloc (.cells #[.int .u8 a] e)) = .ok (.string (S [UInt8.ofNat a.toNat])) (w.alloc (.cells #[.int .u8 a] e)) :=
  run_convN w src dst e [a] hs he hd
@[go_sem] theorem run_conv2 {P : Program} (w : World) (src dst e : TypeId) (a b : Int) (hs : P.underlying src = some (.slice e)) (he : P.underlying e = some (.int .u8)) (hd : P.underlying dst = some .string) :
    (convert src dst (.slice (some ⟨w.heap.size, 0, none⟩) 2 2)).run P (w.alloc (.cells #[.int .u8 a, .int .u8 b] e)) = .ok (.string (S [UInt8.ofNat a.toNat, UInt8.ofNat b.toNat])) (w.alloc (.cells #[.int .u8 a, .int .u8 b] e)) :=
  run_convN w src dst e [a, b] hs he hd
@[go_sem] theorem run_conv3 {P : Program} (w : World) (src dst e : TypeId) (a b c : Int) (hs : P.underlying src = some (.slice e)) (he : P.underlying e = some (.int .u8)) (hd : P.underlying dst = some .string) :
    (convert src dst (.slice (some ⟨w.heap.size, 0, none⟩) 3 3)).run P (w.alloc (.cells #[.int .u8 a, .int .u8 b, .int .u8 c] e)) = .ok (.string (S [UInt8.ofNat a.toNat, UInt8.ofNat b.toNat, UInt8.ofNat c.toNat])) (w.alloc (.cells #[.int .u8 a, .int .u8 b, .int .u8 c] e)) :=
  run_convN w src dst e [a, b, c] hs he hd
@[go_sem] theorem run_conv4 {P : Program} (w : World) (src dst e : TypeId) (a b c d : Int) (hs : P.underlying src = some (.slice e)) (he : P.underlying e = some (.int .u8)) (hd : P.underlying dst = some .string) :
    (convert src dst (.slice (some ⟨w.heap.size, 0, none⟩) 4 4)).run P (w.alloc (.cells #[.int .u8 a, .int .u8 b, .int .u8 c, .int .u8 d] e)) = .ok (.string (S [UInt8.ofNat a.toNat, UInt8.ofNat b.toNat, UInt8.ofNat c.toNat, UInt8.ofNat d.toNat])) (w.alloc (.cells #[.int .u8 a, .int .u8 b, .int .u8 c, .int .u8 d] e)) :=
  run_convN w src dst e [a, b, c, d] hs he hd

theorem wraps_i64 (n : Int) (h₀ : 0 ≤ n) (h₁ : n < 2 ^ 62) : IntKind.i64.wrap n = n := by rw [IntKind.wrap_i64]; omega
/-- a mask, and a joint, on ints that are not negative -/
theorem i64_mask (i : Nat) (hi : i ≤ 62) (x m : Int) (h₀ : 0 ≤ x) (h₁ : x < 4611686018427387904) (hm : m = 2 ^ i - 1) : bits .and .i64 x m = x % 2 ^ i := by
  subst hm; exact bits_mask .i64 62 (by decide) wraps_i64 i hi x h₀ h₁
theorem i64_join (i : Nat) (x y : Int) (hx₀ : 0 ≤ x) (hx : x % 2 ^ i = 0) (hx₁ : x < 4611686018427387904) (h₀ : 0 ≤ y) (h₁ : y < 2 ^ i) (hi : y < 2 ^ 62) : bits .or .i64 x y = x + y :=
  bits_join .i64 62 (by decide) wraps_i64 i x y hx₀ hx hx₁ h₀ h₁ hi

/-- xs = append(xs, u) where xs is the call's own and u (its cells us) has just been laid -/
theorem wpList_push {ops : Array Oper} {rest : List Oper} {o : Oper} {a : Act} {Q : Exit → Act → World → Prop} {w wr : World} (hgd : o.guard = none) (s x : Operand) (t : TypeId)
    (ho : o.op = .call { callee := .builtin .append, args := #[s, x], argTypes := #[t, t] })
    (e : TypeId) (i : TypeInfo) (z : Value) (size bytes : Nat) (ht : Tryd.prog.underlying t = some (.slice e)) (hi : Tryd.prog.info? e = some i) (hz : i.zero = some z)
    (hsize : i.size = size) (hby : i.bytes = bytes) (hzs : z.cells.size = size) (hsz : 0 < size)
    (v : Value) (n : Nat) (xs : List Value) (hs : a.eval s = v) (hown : wr.ownsRow w.heap.size e size v n xs) (hg : G w wr)
    (us : List Value) (hx : a.eval x = .slice (some ⟨wr.heap.size, 0, none⟩) 1 1) (hl : us.length = size) (h1 : ∀ u ∈ us, u.oneCell' = true)
    (hbytes : (n + 1) * bytes ≤ 140737488355328) (h63 : n + 1 ≤ 140737488355328)
    (h : ∀ v' w', w'.ownsRow w.heap.size e size v' (n + 1) (xs ++ us) → G w w' → v' ≠ .slice none 0 0 → wpList Tryd.prog ops Q rest (a.put o.dst v') w') :
    wpList Tryd.prog ops Q (o :: rest) a (wr.alloc (.cells us.toArray e)) := by
  refine wpList_append_own _ hgd s x t ho w.heap.size e i z size bytes ht hi hz hsize hby hzs hsz v n xs hs (hown.alloc _) ⟨wr.heap.size, 0, none⟩ 1 1 us hx (by omega) ?_ h1 (by unfold maxLen; omega) hbytes (by have := hg.size; simp; omega) ?_
  · intro j u hj
    have : (⟨wr.heap.size, 0, none⟩ : Addr).add j = ⟨wr.heap.size, j, none⟩ := by unfold Addr.add; split <;> simp_all
    rw [this, World.cell?_alloc_new]
    simpa using hj
  · intro v' w' h2 h3 h4
    refine h v' w' h2 ?_ ?_
    · refine (hg.alloc (.cells us.toArray e)).grown h3 (by have := hg.size; simp; omega) ?_
      intro k hk
      exact ((hown.alloc (.cells us.toArray e)).lt k hk).1
    · intro h5; have := h4.1 h5; omega

def byteOf (n : Int) : UInt8 := UInt8.ofNat n.toNat
theorem byteOf_eq {n : Int} {c : UInt8} (h : n = c.toNat) : byteOf n = c := by subst h; unfold byteOf; simp
@[simp] theorem byteOf_cast (c : UInt8) : byteOf (c.toNat : Int) = c := byteOf_eq rfl
theorem byteOf_toNat {n : Int} (h0 : 0 ≤ n) (h1 : n < 256) : ((byteOf n).toNat : Int) = n := by unfold byteOf; simp; omega

@[simp] theorem byteOf_61 : byteOf 61 = 61 := by decide

/-- what holds of all 256 bytes -/
theorem byte_all (p : UInt8 → Bool) (h : (List.range 256).all (fun n => p (UInt8.ofNat n)) = true) (c : UInt8) : p c = true := by
  have := List.all_eq_true.1 h c.toNat (by simp; exact c.toNat_lt)
  simpa using this

end Go.Proofs.YtniidkkldoijcaaDoor
