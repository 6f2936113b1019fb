/-
  CONTRACTS of strings.trieNode's add, as caret.Decode's trie asks for it (under way).
-/
import Derived.Test.YthbjabjchfmmoaaTrie
import Derived.Deep.RegionHeld3
namespace Go.Proofs.Ythbjabjchfmmoaa
open Go.RowKit
set_option linter.unusedVariables false
set_option linter.unusedSimpArgs false

/-- a node in memory: its value, its priority, its prefix, what follows, its table -/
structure Node (w : World) (B o : Nat) (val : List UInt8) (pr : Int) (pre : List UInt8) (nx tb : Value) : Prop where
  c0 : w.cell? ⟨B, o, none⟩ = some (.string (S val))
  c1 : w.cell? ⟨B, o + 1, none⟩ = some (.int .i64 pr)
  c2 : w.cell? ⟨B, o + 2, none⟩ = some (.string (S pre))
  c3 : w.cell? ⟨B, o + 3, none⟩ = some nx
  c4 : w.cell? ⟨B, o + 4, none⟩ = some tb
  fz : ∀ j, w.frozen? ⟨B, j, none⟩ = false
/-- nothing but the blocks named has turned -/
structure Away (bs : List Nat) (w w' : World) : Prop where
  size : w.heap.size ≤ w'.heap.size
  bl : ∀ b, b < w.heap.size → b ∉ bs → w'.heap[b]? = w.heap[b]?
  fz : ∀ b o, b < w.heap.size → w'.frozen? ⟨b, o, none⟩ = w.frozen? ⟨b, o, none⟩
  os : w'.os = w.os
  tape : w'.tape = w.tape
  output : w'.output = w.output
theorem Away.cell {bs : List Nat} {w w' : World} (h : Away bs w w') (b o : Nat) (hb : b < w.heap.size) (hn : b ∉ bs) : w'.cell? ⟨b, o, none⟩ = w.cell? ⟨b, o, none⟩ := World.cell?_of_block (w := w) (h.bl b hb hn)
theorem Away.refl (bs : List Nat) (w : World) : Away bs w w := ⟨Nat.le_refl _, fun _ _ _ => rfl, fun _ _ _ => rfl, rfl, rfl, rfl⟩
theorem Away.drew {bs : List Nat} {w w' : World} (h : Away bs w w') : Away bs w w'.drew := ⟨h.size, h.bl, h.fz, h.os, h.tape, h.output⟩
theorem Away.trans {bs cs : List Nat} {a b c : World} (h : Away bs a b) (k : Away cs b c) (hs : ∀ x ∈ cs, x ∈ bs ∨ a.heap.size ≤ x) : Away bs a c :=
  ⟨Nat.le_trans h.size k.size, fun x hx hn => (k.bl x (Nat.lt_of_lt_of_le hx h.size) (fun hc => by rcases hs x hc with h1 | h1; exact hn h1; omega)).trans (h.bl x hx hn),
    fun x o hx => (k.fz x o (Nat.lt_of_lt_of_le hx h.size)).trans (h.fz x o hx), k.os.trans h.os, k.tape.trans h.tape, k.output.trans h.output⟩
/-- what was ahead of the blocks named stays -/
theorem Away.g {bs : List Nat} {w0 w w' : World} (h : Away bs w w') (g : G w0 w) (hs : ∀ b ∈ bs, w0.heap.size ≤ b) : G w0 w' :=
  g.below.trans ⟨h.os, h.tape, h.output, h.size, fun k hk => h.bl k (Nat.lt_of_lt_of_le hk g.size) (fun hc => by have := hs k hc; omega)⟩
theorem Away.set {bs : List Nat} {w w' : World} (h : Away bs w w') (b o : Nat) (v : Value) (hb : b ∈ bs ∨ w.heap.size ≤ b) : Away bs w (w'.setCell ⟨b, o, none⟩ v) :=
  ⟨by simpa [World.setCell] using h.size, fun c hc hn => by
    rw [Below.heap_setCell _ _ _ _ (by
      have : b ≠ c := by rintro rfl; rcases hb with h1 | h1; exact hn h1; omega
      exact Ne.symm this)]
    exact h.bl c hc hn, fun c j hc => by rw [World.frozen?_setCell]; exact h.fz c j hc, h.os, h.tape, h.output⟩
theorem Away.alloc {bs : List Nat} {w w' : World} (h : Away bs w w') (o : Obj) : Away bs w (w'.alloc o) :=
  ⟨by have := h.size; simp; omega, fun c hc hn => by rw [Below.heap_alloc _ _ _ (Nat.lt_of_lt_of_le hc h.size)]; exact h.bl c hc hn,
    fun c j hc => by
      have := h.fz c j hc
      rw [← this]
      exact World.frozen?_of_block (Below.heap_alloc _ _ _ (Nat.lt_of_lt_of_le hc h.size)), h.os, h.tape, h.output⟩
theorem Node.set0 {w : World} {B o : Nat} {val : List UInt8} {pr : Int} {pre : List UInt8} {nx tb : Value} (h : Node w B o val pr pre nx tb) (x : List UInt8) : Node (w.setCell ⟨B, o, none⟩ (.string (S x))) B o x pr pre nx tb :=
  ⟨World.cell?_setCell_same _ _ _ h.c0, by rw [World.cell?_setCell_other _ _ _ _ (by simp)]; exact h.c1, by rw [World.cell?_setCell_other _ _ _ _ (by simp)]; exact h.c2, by rw [World.cell?_setCell_other _ _ _ _ (by simp)]; exact h.c3, by rw [World.cell?_setCell_other _ _ _ _ (by simp)]; exact h.c4, fun j => by rw [World.frozen?_setCell]; exact h.fz j⟩
theorem Node.set1 {w : World} {B o : Nat} {val : List UInt8} {pr : Int} {pre : List UInt8} {nx tb : Value} (h : Node w B o val pr pre nx tb) (x : Int) : Node (w.setCell ⟨B, o + 1, none⟩ (.int .i64 x)) B o val x pre nx tb :=
  ⟨by rw [World.cell?_setCell_other _ _ _ _ (by simp)]; exact h.c0, World.cell?_setCell_same _ _ _ h.c1, by rw [World.cell?_setCell_other _ _ _ _ (by simp)]; exact h.c2, by rw [World.cell?_setCell_other _ _ _ _ (by simp)]; exact h.c3, by rw [World.cell?_setCell_other _ _ _ _ (by simp)]; exact h.c4, fun j => by rw [World.frozen?_setCell]; exact h.fz j⟩
theorem Node.set2 {w : World} {B o : Nat} {val : List UInt8} {pr : Int} {pre : List UInt8} {nx tb : Value} (h : Node w B o val pr pre nx tb) (x : List UInt8) : Node (w.setCell ⟨B, o + 2, none⟩ (.string (S x))) B o val pr x nx tb :=
  ⟨by rw [World.cell?_setCell_other _ _ _ _ (by simp)]; exact h.c0, by rw [World.cell?_setCell_other _ _ _ _ (by simp)]; exact h.c1, World.cell?_setCell_same _ _ _ h.c2, by rw [World.cell?_setCell_other _ _ _ _ (by simp)]; exact h.c3, by rw [World.cell?_setCell_other _ _ _ _ (by simp)]; exact h.c4, fun j => by rw [World.frozen?_setCell]; exact h.fz j⟩
theorem Node.set3 {w : World} {B o : Nat} {val : List UInt8} {pr : Int} {pre : List UInt8} {nx tb : Value} (h : Node w B o val pr pre nx tb) (x : Value) : Node (w.setCell ⟨B, o + 3, none⟩ x) B o val pr pre x tb :=
  ⟨by rw [World.cell?_setCell_other _ _ _ _ (by simp)]; exact h.c0, by rw [World.cell?_setCell_other _ _ _ _ (by simp)]; exact h.c1, by rw [World.cell?_setCell_other _ _ _ _ (by simp)]; exact h.c2, World.cell?_setCell_same _ _ _ h.c3, by rw [World.cell?_setCell_other _ _ _ _ (by simp)]; exact h.c4, fun j => by rw [World.frozen?_setCell]; exact h.fz j⟩
theorem Node.set4 {w : World} {B o : Nat} {val : List UInt8} {pr : Int} {pre : List UInt8} {nx tb : Value} (h : Node w B o val pr pre nx tb) (x : Value) : Node (w.setCell ⟨B, o + 4, none⟩ x) B o val pr pre nx x :=
  ⟨by rw [World.cell?_setCell_other _ _ _ _ (by simp)]; exact h.c0, by rw [World.cell?_setCell_other _ _ _ _ (by simp)]; exact h.c1, by rw [World.cell?_setCell_other _ _ _ _ (by simp)]; exact h.c2, by rw [World.cell?_setCell_other _ _ _ _ (by simp)]; exact h.c3, World.cell?_setCell_same _ _ _ h.c4, fun j => by rw [World.frozen?_setCell]; exact h.fz j⟩
theorem Node.away {w w' : World} {bs : List Nat} {B o : Nat} {val : List UInt8} {pr : Int} {pre : List UInt8} {nx tb : Value} (h : Node w B o val pr pre nx tb) (a : Away bs w w') (hB : B ∉ bs) : Node w' B o val pr pre nx tb := by
  have hb : B < w.heap.size := World.block_lt_of_cell? _ _ h.c0
  exact ⟨(a.cell B _ hb hB).trans h.c0, (a.cell B _ hb hB).trans h.c1, (a.cell B _ hb hB).trans h.c2, (a.cell B _ hb hB).trans h.c3, (a.cell B _ hb hB).trans h.c4, fun j => (a.fz B j hb).trans (h.fz j)⟩
theorem Node.new (w : World) (t : TypeId) : Node (w.alloc (.cells #[.string ⟨#[]⟩, .int .i64 0, .string ⟨#[]⟩, .pointer none, .slice none 0 0] t)) w.heap.size 0 [] 0 [] (.pointer none) (.slice none 0 0) := by
  refine ⟨?_, ?_, ?_, ?_, ?_, fun j => World.frozen?_alloc_at _ _ _ _ rfl⟩ <;> simp [go_sem] <;> rfl

set_option maxRecDepth 100000 in
set_option maxHeartbeats 1000000 in
theorem add_leaf (w : World) (B o : Nat) (val x pre : List UInt8) (p : Int) (nx tb rr : Value) (h : Node w B o val 0 pre nx tb) :
    Calls Try.prog 37 #[.pointer (some ⟨B, o, none⟩), .string (S []), .string (S x), .int .i64 p, rr] w fun e w' => e = .returned (.tuple #[]) ∧ Node w' B o x p pre nx tb ∧ Away [B] w w' := by
  have c0 := h.c0
  have c1 := h.c1
  have f0 := h.fz o
  have f1 := h.fz (o + 1)
  have H := hid h
  clear h
  go_enter Try.func37, Try.ntmps37
  go_wp2_with fail
  refine bodyPost_ret (results_none rfl _ _ _) rfl ⟨rfl, (H.out.set0 x).set1 p, ((Away.refl _ _).set _ _ _ (.inl (by simp))).set _ _ _ (.inl (by simp))⟩
set_option maxRecDepth 100000 in
set_option maxHeartbeats 2000000 in
theorem add_fresh (w : World) (B : Nat) (k : UInt8) (x : List UInt8) (p : Int) (rr : Value) (h : Node w B 0 [] 0 [] (.pointer none) (.slice none 0 0)) :
    Calls Try.prog 37 #[.pointer (some ⟨B, 0, none⟩), .string (S [k]), .string (S x), .int .i64 p, rr] w fun e w' => e = .returned (.tuple #[]) ∧ Node w' B 0 [] 0 [k] (.pointer (some ⟨w.heap.size, 0, none⟩)) (.slice none 0 0) ∧ Node w' w.heap.size 0 x p [] (.pointer none) (.slice none 0 0) ∧ Away [B] w w' ∧ w.heap.size < w'.heap.size := by
  have hb : B < w.heap.size := World.block_lt_of_cell? _ _ h.c0
  have c2 := h.c2
  have c3 := h.c3
  have c4 := h.c4
  have f2 := h.fz 2
  have f3 := h.fz 3
  simp only [Nat.zero_add] at c2 c3 c4
  have H := hid h
  have ne : ([k] == []) = false := rfl
  clear h
  go_enter Try.func37, Try.ntmps37
  go_wp2_with fail
  have h2 := (H.out.set2 [k]).set3 (.pointer (some ⟨w.heap.size, 0, none⟩))
  have a2 : Away [B] w ((w.setCell ⟨B, 0 + 2, none⟩ (.string (S [k]))).setCell ⟨B, 0 + 3, none⟩ (.pointer (some ⟨w.heap.size, 0, none⟩))) := ((Away.refl _ _).set _ _ _ (.inl (by simp))).set _ _ _ (.inl (by simp))
  simp only [Nat.zero_add] at h2 a2
  generalize hW2 : (w.setCell ⟨B, 2, none⟩ (.string (S [k]))).setCell ⟨B, 3, none⟩ (.pointer (some ⟨w.heap.size, 0, none⟩)) = W2 at h2 a2 ⊢
  have hs2 : W2.heap.size = w.heap.size := by rw [← hW2]; simp [World.setCell]
  have hn := Node.new W2 87
  rw [hs2] at hn
  have h3 := h2.away ((Away.refl [] W2).alloc (.cells #[.string ⟨#[]⟩, .int .i64 0, .string ⟨#[]⟩, .pointer none, .slice none 0 0] 87)) (by simp)
  have a3 := a2.alloc (.cells #[.string ⟨#[]⟩, .int .i64 0, .string ⟨#[]⟩, .pointer none, .slice none 0 0] 87)
  have hs3 : w.heap.size < (W2.alloc (.cells #[.string ⟨#[]⟩, .int .i64 0, .string ⟨#[]⟩, .pointer none, .slice none 0 0] 87)).heap.size := by simp; omega
  have H3 := hid h3
  have A3 := hid a3
  have HS3 := hid hs3
  refine (add_leaf _ w.heap.size 0 [] x [] p (.pointer none) (.slice none 0 0) rr hn).mono ?_
  rintro e w3 ⟨rfl, hl, hal⟩
  have HL := hid hl
  have HAL := hid hal
  clear h2 a2 hn h3 a3 hs3 hl hal hW2 H c2 c3 c4 f2 f3
  go_wp2_with fail
  refine bodyPost_end (results_none rfl _ _ _) rfl ⟨rfl, H3.out.away HAL.out (by simp; omega), HL.out, ?_, Nat.lt_of_lt_of_le HS3.out HAL.out.size⟩
  exact A3.out.trans HAL.out (by simp)

set_option maxRecDepth 100000 in
set_option maxHeartbeats 4000000 in
/-- a node with a table, whose place for the key's first byte holds a node already: the rest is put there -/
theorem add_down (w : World) (B o R T X xo m : Nat) (k : UInt8) (ks x val : List UInt8) (p pr : Int) (nx : Value) (Q : World → Prop) (h : Node w B o val pr [] nx (.slice (some ⟨T, 0, none⟩) 3 3)) (hm : w.cell? ⟨R, 6 + k.toNat, none⟩ = some (.int .u8 m)) (hm3 : m < 3)
    (ht : w.cell? ⟨T, m, none⟩ = some (.pointer (some ⟨X, xo, none⟩))) (hks : ks.length ≤ 100)
    (hc : ∀ W : World, G w W → Calls Try.prog 37 #[.pointer (some ⟨X, xo, none⟩), .string (S ks), .string (S x), .int .i64 p, .pointer (some ⟨R, 0, none⟩)] W fun e w' => e = .returned (.tuple #[]) ∧ Q w' ∧ w'.cell? ⟨B, o + 4, none⟩ = some (.slice (some ⟨T, 0, none⟩) 3 3) ∧ w'.cell? ⟨T, m, none⟩ = some (.pointer (some ⟨X, xo, none⟩))) :
    Calls Try.prog 37 #[.pointer (some ⟨B, o, none⟩), .string (S (k :: ks)), .string (S x), .int .i64 p, .pointer (some ⟨R, 0, none⟩)] w fun e w' => e = .returned (.tuple #[]) ∧ Q w' := by
  have c2 := h.c2
  have c4 := h.c4
  have hb : B < w.heap.size := World.block_lt_of_cell? _ _ h.c0
  have hr : R < w.heap.size := World.block_lt_of_cell? _ _ hm
  have htl : T < w.heap.size := World.block_lt_of_cell? _ _ ht
  have hk256 : (k.toNat : Int) < 256 := by have := k.toNat_lt; omega
  have ne : (k :: ks == []) = false := rfl
  have HC := hid hc
  clear h hc
  go_enter Try.func37, Try.ntmps37
  go_wp2_with fail
  refine wp_region_grow (by kernel_rfl) (by kernel_rfl) ?_
  repeat (first | go_big_quiet_skip | (go_big_quiet_want; go_big_quiet_op; first | go_big_quiet_on | (apply Exists.intro; apply And.intro; (focus (intro _ hg; (rw [G.cell hg (p := ⟨R, 6 + k.toNat, none⟩) hr, hm]; exact ⟨rfl, rfl⟩))); go_big_quiet_on) | (refine ⟨_, fun _ _ => rfl, ?_⟩; go_big_quiet_on)))
  refine wpQuiet_nil ?_
  intro wq gq
  have d4 := (G.cell gq (p := ⟨B, o + 4, none⟩) hb).trans c4
  have dt := (G.cell gq (p := ⟨T, m, none⟩) htl).trans ht
  have GQ := hid gq
  clear gq c2 c4 hm ht
  go_wp2_with fail
  have hm3i : (m : Int) < 3 := by omega
  have hm0i : (0 : Int) ≤ (m : Int) := by omega
  have hsl1 : (1 : Int) ≤ (ks.length : Int) + 1 := by omega
  have hsl0 : (0 : Int) ≤ (ks.length : Int) := by omega
  go_region_held3 (fun w' => w'.cell? ⟨B, o + 4, none⟩ = some (.slice (some ⟨T, 0, none⟩) 3 3) ∧ w'.cell? ⟨T, m, none⟩ = some (.pointer (some ⟨X, xo, none⟩))) (first | exact ⟨s4, st⟩ | go_keep)
    (first
      | (go_at_call 37; refine (HC.out _ ?_).mono ?_; (· first | with_reducible exact GQ.out | with_reducible exact GQ.out.drew); rintro e w3 ⟨rfl, hq, s4, st⟩; have HQ := hid hq; clear hq))
  all_goals
    go_wp2_with fail
    refine bodyPost_end (results_none rfl _ _ _) rfl ⟨rfl, HQ.out⟩

theorem away_of_g {w W : World} (g : G w W) : Away [] w W := ⟨g.size, fun b hb _ => g.below.block b hb, fun b o hb => g.below.frozen (p := ⟨b, o, none⟩) hb, g.below.os, g.below.tape, g.below.output⟩
theorem Away.mono {bs cs : List Nat} {w W : World} (h : Away bs w W) (hs : ∀ b ∈ bs, b ∈ cs ∨ w.heap.size ≤ b) : Away cs w W :=
  ⟨h.size, fun b hb hn => h.bl b hb (fun hc => by rcases hs b hc with h1 | h1; exact hn h1; omega), h.fz, h.os, h.tape, h.output⟩
set_option maxRecDepth 100000 in
set_option maxHeartbeats 4000000 in
/-- a node with a table, whose place for the key's first byte is empty: a new node comes there, the rest is put into it -/
theorem add_new (w : World) (B o R T m : Nat) (k : UInt8) (ks x val : List UInt8) (p pr : Int) (nx : Value) (Q : World → Prop) (h : Node w B o val pr [] nx (.slice (some ⟨T, 0, none⟩) 3 3)) (hm : w.cell? ⟨R, 6 + k.toNat, none⟩ = some (.int .u8 m)) (hm3 : m < 3)
    (ht : w.cell? ⟨T, m, none⟩ = some (.pointer none)) (htz : w.frozen? ⟨T, m, none⟩ = false) (hBT : B ≠ T) (hks : ks.length ≤ 100)
    (hc : ∀ (W : World) (M : Nat), w.heap.size ≤ M → Away [T] w W → Node W M 0 [] 0 [] (.pointer none) (.slice none 0 0) → W.cell? ⟨T, m, none⟩ = some (.pointer (some ⟨M, 0, none⟩)) → (∀ j, j ≠ m → W.cell? ⟨T, j, none⟩ = w.cell? ⟨T, j, none⟩) →
      Calls Try.prog 37 #[.pointer (some ⟨M, 0, none⟩), .string (S ks), .string (S x), .int .i64 p, .pointer (some ⟨R, 0, none⟩)] W fun e w' => e = .returned (.tuple #[]) ∧ Q w' ∧ w'.cell? ⟨B, o + 4, none⟩ = some (.slice (some ⟨T, 0, none⟩) 3 3) ∧ w'.cell? ⟨T, m, none⟩ = some (.pointer (some ⟨M, 0, none⟩))) :
    Calls Try.prog 37 #[.pointer (some ⟨B, o, none⟩), .string (S (k :: ks)), .string (S x), .int .i64 p, .pointer (some ⟨R, 0, none⟩)] w fun e w' => e = .returned (.tuple #[]) ∧ Q w' := by
  have c2 := h.c2
  have c4 := h.c4
  have hb : B < w.heap.size := World.block_lt_of_cell? _ _ h.c0
  have hr : R < w.heap.size := World.block_lt_of_cell? _ _ hm
  have htl : T < w.heap.size := World.block_lt_of_cell? _ _ ht
  have hk256 : (k.toNat : Int) < 256 := by have := k.toNat_lt; omega
  have ne : (k :: ks == []) = false := rfl
  have HC := hid hc
  clear h hc
  go_enter Try.func37, Try.ntmps37
  go_wp2_with fail
  refine wp_region_grow (by kernel_rfl) (by kernel_rfl) ?_
  repeat (first | go_big_quiet_skip | (go_big_quiet_want; go_big_quiet_op; first | go_big_quiet_on | (apply Exists.intro; apply And.intro; (focus (intro _ hg; (rw [G.cell hg (p := ⟨R, 6 + k.toNat, none⟩) hr, hm]; exact ⟨rfl, rfl⟩))); go_big_quiet_on) | (refine ⟨_, fun _ _ => rfl, ?_⟩; go_big_quiet_on)))
  refine wpQuiet_nil ?_
  intro wq gq
  have d4 := (G.cell gq (p := ⟨B, o + 4, none⟩) hb).trans c4
  have dt := (G.cell gq (p := ⟨T, m, none⟩) htl).trans ht
  have ft : wq.frozen? ⟨T, m, none⟩ = false := (gq.below.frozen (p := ⟨T, m, none⟩) htl).trans htz
  have htq : T < wq.heap.size := World.block_lt_of_cell? _ _ dt
  have hbq : B < wq.heap.size := World.block_lt_of_cell? _ _ d4
  have et : ∀ ob, (wq.alloc ob).cell? ⟨T, m, none⟩ = some (.pointer none) := fun ob => by rw [World.cell?_alloc_lt _ _ ⟨T, m, none⟩ htq]; exact dt
  have ef : ∀ ob, (wq.alloc ob).frozen? ⟨T, m, none⟩ = false := fun ob => by rw [← ft]; exact World.frozen?_of_block (Below.heap_alloc _ _ _ htq)
  have GQ := hid gq
  clear gq c2 c4 hm ht htz
  go_wp2_with fail
  generalize hW2 : wq.setCell ⟨T, m, none⟩ (.pointer (some ⟨wq.heap.size, 0, none⟩)) = W2
  have hs2 : W2.heap.size = wq.heap.size := by rw [← hW2]; simp [World.setCell]
  have a2 : Away [T] w W2 := by
    rw [← hW2]
    exact ((away_of_g GQ.out).mono (fun b hb' => by cases hb')).set T m _ (.inl (by simp))
  have t2 : W2.cell? ⟨T, m, none⟩ = some (.pointer (some ⟨wq.heap.size, 0, none⟩)) := by rw [← hW2]; exact World.cell?_setCell_same _ _ _ dt
  have t3 : ∀ j, j ≠ m → W2.cell? ⟨T, j, none⟩ = w.cell? ⟨T, j, none⟩ := fun j hj => by
    rw [← hW2, World.cell?_setCell_other _ _ _ _ (by first | (simp; done) | (simp; omega) | (simp; exact Ne.symm hj))]
    exact GQ.out.cell (p := ⟨T, j, none⟩) htl
  have b2 : W2.cell? ⟨B, o + 4, none⟩ = some (.slice (some ⟨T, 0, none⟩) 3 3) := by
    rw [← hW2, World.cell?_setCell_other _ _ _ _ (by simp [Ne.symm hBT])]; exact d4
  have hn := Node.new W2 87
  obtain ⟨M, hM⟩ : ∃ M, M = wq.heap.size := ⟨_, rfl⟩
  rw [hs2, ← hM] at hn
  rw [← hM] at t2 ⊢
  generalize hW3 : W2.alloc _ = W3 at hn ⊢
  have a3 : Away [T] w W3 := by rw [← hW3]; exact a2.alloc _
  have x3 : ∀ c j, c < W2.heap.size → W3.cell? ⟨c, j, none⟩ = W2.cell? ⟨c, j, none⟩ := fun c j hc => by rw [← hW3]; exact World.cell?_alloc_lt _ _ ⟨c, j, none⟩ hc
  have t4 := (x3 T m (by omega)).trans t2
  have b4 := (x3 B (o + 4) (by omega)).trans b2
  have t5 : ∀ j, j ≠ m → W3.cell? ⟨T, j, none⟩ = w.cell? ⟨T, j, none⟩ := fun j hj => (x3 T j (by omega)).trans (t3 j hj)
  have hMw : w.heap.size ≤ M := by rw [hM]; exact GQ.out.size
  have nd : Node W3.drew M 0 [] 0 [] (.pointer none) (.slice none 0 0) := ⟨hn.c0, hn.c1, hn.c2, hn.c3, hn.c4, hn.fz⟩
  have ad : Away [T] w W3.drew := a3.drew
  have CC := hid (HC.out W3.drew M hMw ad nd t4 t5)
  have BT4 := hid b4
  have TT4 := hid t4
  clear hW2 hs2 a2 t2 t3 b2 hM hW3 a3 x3 t5 hMw nd ad hn d4 dt ft et ef htq hbq HC GQ
  have hm3i : (m : Int) < 3 := by omega
  have hm0i : (0 : Int) ≤ (m : Int) := by omega
  have hsl1 : (1 : Int) ≤ (ks.length : Int) + 1 := by omega
  have hsl0 : (0 : Int) ≤ (ks.length : Int) := by omega
  go_region_held3 (fun w' => w'.cell? ⟨B, o + 4, none⟩ = some (.slice (some ⟨T, 0, none⟩) 3 3) ∧ w'.cell? ⟨T, m, none⟩ = some (.pointer (some ⟨M, 0, none⟩))) (first | exact ⟨s4, st⟩ | go_keep)
    (first
      | (go_at_call 37; (with_reducible refine CC.out.mono ?_); rintro e w3 ⟨rfl, hq, s4, st⟩; have HQ := hid hq; clear hq))
  all_goals
    go_wp2_with fail
    refine bodyPost_end (results_none rfl _ _ _) rfl ⟨rfl, HQ.out⟩

end Go.Proofs.Ythbjabjchfmmoaa
