/-
  The fact 'noted'; contracts of json in the form that the laws use.
-/
import Derived.Test.YtlejbindochiiaaDoorJsonRead
import Derived.Test.YtlejbindochiiaaDoorJsonWrite
import Derived.Test.YtlejbindochiiaaDoorJsonSame
namespace Go.Proofs.YtlejbindochiiaaDoor
open Go.RowKit
set_option linter.unusedVariables false
set_option linter.unusedSimpArgs false

theorem box4 {W : World} {B : Nat} {a b c d : Value} {T : TypeId} (h : W.heap[B]? = some (.cells #[a, b, c, d] T)) : W.cell? ⟨B, 0, none⟩ = some a ∧ W.cell? ⟨B, 1, none⟩ = some b ∧ W.cell? ⟨B, 2, none⟩ = some c ∧ W.cell? ⟨B, 3, none⟩ = some d :=
  ⟨by rw [cell_of_row W B 0 _ _ _ h]; rfl, by rw [cell_of_row W B 1 _ _ _ h]; rfl, by rw [cell_of_row W B 2 _ _ _ h]; rfl, by rw [cell_of_row W B 3 _ _ _ h]; rfl⟩
theorem items_mem {f : Jt → List UInt8} {obj : Bool} {y : Jt} : ∀ {l : List Jt} {first : Bool} {ks : List (List UInt8)}, y ∈ l → (f y).length ≤ (itemsJ f obj first ks l).length
  | [], _, _, h => by cases h
  | x :: l, first, ks, h => by
    simp only [itemsJ, List.length_append]
    rcases List.mem_cons.1 h with rfl | h
    · omega
    · have := items_mem (f := f) (obj := obj) (first := false) (ks := ks.tail) h; omega
theorem items_key {f : Jt → List UInt8} {k : List UInt8} : ∀ {l : List Jt} {first : Bool} {ks : List (List UInt8)}, k ∈ ks → ks.length = l.length → (quoteJ k).length ≤ (itemsJ f true first ks l).length
  | l, first, [], h, _ => by cases h
  | [], first, k' :: ks, _, h => by simp at h
  | x :: l, first, k' :: ks, h, hl => by
    simp only [itemsJ, List.length_append, if_true, List.headD_cons, List.tail_cons]
    rcases List.mem_cons.1 h with rfl | h
    · omega
    · have := items_key (f := f) (first := false) (l := l) h (by simp at hl; omega); omega
/-- a tree that is written in so many bytes holds no more -/
theorem sz_of_write : ∀ (d : Nat) (x : Jt) (N : Nat), rightJ d x = none → (writeJ d x).length ≤ N → SzJ N N d x
  | 0, x, _, _, _ => trivial
  | d + 1, .mk k t ks l, N, hr, hl => by
    obtain ⟨h1, ⟨ha, hb, h7, hc⟩, _, _, _, h6⟩ := right_parts_J hr
    have hq : ∀ s : List UInt8, s.length ≤ (quoteJ s).length := fun s => by have := flat_len1 s; unfold quoteJ; simp only [List.length_cons, List.length_append, List.length_nil]; omega
    rcases kinds h1 with rfl | rfl | rfl | rfl | rfl | rfl | rfl
    · obtain rfl : t = [] := by simpa using ha
      obtain rfl : ks = [] := by simpa using hb
      obtain rfl : l = [] := by simpa using hc
      exact ⟨Nat.zero_le _, Nat.zero_le _, Nat.zero_le _, by simp [Jt.keys], by simp [Jt.list]⟩
    · obtain rfl : t = [] := by simpa using ha
      obtain rfl : ks = [] := by simpa using hb
      obtain rfl : l = [] := by simpa using hc
      exact ⟨Nat.zero_le _, Nat.zero_le _, Nat.zero_le _, by simp [Jt.keys], by simp [Jt.list]⟩
    · obtain rfl : t = [] := by simpa using ha
      obtain rfl : ks = [] := by simpa using hb
      obtain rfl : l = [] := by simpa using hc
      exact ⟨Nat.zero_le _, Nat.zero_le _, Nat.zero_le _, by simp [Jt.keys], by simp [Jt.list]⟩
    · obtain rfl : ks = [] := by simpa using hb
      obtain rfl : l = [] := by simpa using hc
      exact ⟨hl, Nat.zero_le _, Nat.zero_le _, by simp [Jt.keys], by simp [Jt.list]⟩
    · obtain rfl : ks = [] := by simpa using hb
      obtain rfl : l = [] := by simpa using hc
      exact ⟨Nat.le_trans (hq t) hl, Nat.zero_le _, Nat.zero_le _, by simp [Jt.keys], by simp [Jt.list]⟩
    · obtain rfl : t = [] := by simpa using ha
      obtain rfl : ks = [] := by simpa using hb
      have e : writeJ (d + 1) (.mk 6 [] [] l) = 91 :: (itemsJ (writeJ d) false true [] l ++ [93]) := rfl
      rw [e] at hl
      simp only [List.length_cons, List.length_append, List.length_nil] at hl
      have hi := items_len l false true [] h6
      exact ⟨Nat.zero_le _, Nat.zero_le _, by show l.length ≤ N; omega, by simp [Jt.keys], fun y hy => sz_of_write d y N (h6 y hy) (by have := items_mem (f := writeJ d) (obj := false) (first := true) (ks := []) (l := l) hy; omega)⟩
    · obtain rfl : t = [] := by simpa using ha
      have e : writeJ (d + 1) (.mk 7 [] ks l) = 123 :: (itemsJ (writeJ d) true true ks l ++ [125]) := rfl
      rw [e] at hl
      simp only [List.length_cons, List.length_append, List.length_nil] at hl
      have hi := items_len l true true ks h6
      have hkl := h7 rfl
      exact ⟨Nat.zero_le _, by show ks.length ≤ N; omega, by show l.length ≤ N; omega, fun k hk => by have := items_key (f := writeJ d) (first := true) (l := l) (ks := ks) hk hkl; have := hq k; omega,
        fun y hy => sz_of_write d y N (h6 y hy) (by have := items_mem (f := writeJ d) (obj := true) (first := true) (ks := ks) (l := l) hy; omega)⟩
/-- Read of what is a tree -/
theorem read_good {s : List UInt8} {x : Jt} (h : readJ s = .ok x) (w : World) : Makes 10 #[.string (S s)] w (fun v w' => ∃ u, v = .tuple #[u, .nilIface] ∧ JAt 12 (fun b => w.heap.size ≤ b) w' u x) := by
  have := read_any s w
  rw [h] at this
  exact this
/-- Read of what is none -/
theorem read_wrong {s : List UInt8} {e : Int × Option Nat} (h : readJ s = .error e) (w : World) : Makes 10 #[.string (S s)] w (fun v w' => ∃ t z, v = .tuple #[zeroJ, .iface t z]) := by
  refine (read_any s w).mono fun e9 w' ⟨v, e1, hq, hg⟩ => ⟨v, e1, ?_, hg⟩
  rw [h] at hq
  obtain ⟨c, k⟩ := e
  cases k with
  | none => exact ⟨_, _, hq⟩
  | some k =>
    obtain ⟨z, rfl, b, rfl, _⟩ := hq
    exact ⟨_, _, rfl⟩
/-- what a right tree of few bytes gives: its sizes -/
theorem right_sz {x : Jt} {N : Nat} (hr : rightJ 12 x = none) (hl : (writeJ 12 x).length ≤ N) : SzJ N N 12 x := sz_of_write 12 x N hr hl
theorem write_good {n N : Nat} {p : Nat → Prop} {w : World} {v : Value} {x : Jt} (hv : JAt n p w v x) (hr : rightJ 12 x = none) (hl : (writeJ 12 x).length ≤ N) (hN : N ≤ 999999) : ∀ W, G w W → Gives 8 #[v] W (.tuple #[.string (S (writeJ 12 x)), .nilIface]) := fun W g => by
  have := jwrite_any N N n p W v x hN (by omega) (hv.grow g) (right_sz hr hl) (fun _ => by omega)
  unfold wrJ at this
  rwa [if_pos hr, hr] at this
theorem right_good {n N : Nat} {p : Nat → Prop} {w : World} {v : Value} {x : Jt} (hv : JAt n p w v x) (hr : rightJ 12 x = none) (hl : (writeJ 12 x).length ≤ N) (hN : N ≤ 999999) : ∀ W, G w W → Gives 13 #[v] W .nilIface := fun W g => by
  have := jright_any N N n p W v x hN (by omega) (hv.grow g) (right_sz hr hl)
  rwa [hr] at this

def notedS : List UInt8 := [32, 123, 34, 97, 34, 58, 91, 49, 44, 34, 92, 117, 48, 48, 101, 57, 34, 44, 110, 117, 108, 108, 93, 125, 32]
def notedT : Jt := .mk 7 [] [[97]] [.mk 6 [] [] [.mk 4 [49] [] [], .mk 5 [195, 169] [] [], .mk 1 [] [] []]]
theorem notedR : readJ notedS = .ok notedT := by
  unfold readJ
  rw [if_neg (by decide), bad_ascii notedS (by decide)]
  rfl
theorem notedW : writeJ 12 notedT = [123, 34, 97, 34, 58, 91, 49, 44, 34, 195, 169, 34, 44, 110, 117, 108, 108, 93, 125] := by decide +kernel
set_option maxRecDepth 100000 in
set_option maxHeartbeats 1000000 in
theorem noted_any (w : World) : Gives 6 #[] w (.bool true) := by
  have hr := (read_right notedR).1
  go_enter Tryd.func6, Tryd.ntmps6
  go_wp2_with fail
  refine (read_good notedR w).use ?_
  rintro v w1 ⟨u, rfl, hu⟩ g1
  have WG := hid (write_good (N := 100) hu hr (by rw [notedW]; decide) (by decide))
  obtain ⟨ka, kc, la, lc, rfl⟩ := hu.shape4
  have G1 := hid g1
  clear hu g1 hr
  rw [notedW] at WG
  simp only [notedT, Jt.kind, Jt.text, Jt.keys, Jt.list, List.length_cons, List.length_nil]
  have hb := (MapKept.heap_alloc w1 (.cells #[.int .i64 7, .string (S []), .slice ka 1 kc, .slice la 1 lc] 25)).1
  go_wp2_with fail
  refine (WG.out _ ((G.refl w1).alloc _)).mono ?_
  rintro e w2 ⟨rfl, g2⟩
  obtain ⟨c0, c1, c2, c3⟩ := box4 ((g2.below.block _ (by simp)).trans hb)
  have G2 := hid ((G1.out.alloc _).trans g2)
  clear g2 hb WG
  go_wp2_with fail
  go_ret
  exact ⟨rfl, G2.out⟩

end Go.Proofs.YtlejbindochiiaaDoor
