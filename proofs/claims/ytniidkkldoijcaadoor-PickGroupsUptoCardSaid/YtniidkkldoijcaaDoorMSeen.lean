/-
  Texts merged into one: Seen, GroupFn.
-/
import Derived.Test.YtniidkkldoijcaaDoorPickGroup
import Derived.Test.YtniidkkldoijcaaDoorNameF
import Derived.Test.YtniidkkldoijcaaDoorNums
import Derived.Test.YtniidkkldoijcaaDoorParams
namespace Go.Proofs.YtniidkkldoijcaaDoor
open Go.RowKit Stab
set_option linter.unusedVariables false
set_option linter.unusedSimpArgs false

/-- the row at block b holds f's values at 0 .. n-1 -/
def Sn (w : World) (b n : Nat) (f : Nat → Int) : Prop := w.heap[b]? = some (.cells ((List.range n).map fun j => Value.int .i64 (f j)).toArray 3 (0, 0))
theorem Sn.lt {w : World} {b n : Nat} {f : Nat → Int} (h : Sn w b n f) : b < w.heap.size := (Array.getElem?_eq_some_iff.1 h).1
theorem Sn.cell {w : World} {b n : Nat} {f : Nat → Int} (h : Sn w b n f) {j : Nat} (hj : j < n) : w.cell? ⟨b, j, none⟩ = some (.int .i64 (f j)) := by
  rw [cell_of_row w b j _ _ _ h]
  simp [hj]
theorem Sn.fz {w : World} {b n : Nat} {f : Nat → Int} (h : Sn w b n f) (j : Nat) : w.frozen? ⟨b, j, none⟩ = false := Lib.frozen_of_heap h j
theorem Sn.congr {w : World} {b n : Nat} {f f' : Nat → Int} (h : Sn w b n f) (e : ∀ j, j < n → f j = f' j) : Sn w b n f' := by
  unfold Sn at h ⊢
  rw [h]
  have : (List.range n).map (fun j => Value.int .i64 (f j)) = (List.range n).map fun j => Value.int .i64 (f' j) := List.map_congr_left fun j hj => by rw [e j (List.mem_range.1 hj)]
  rw [this]
theorem Sn.grow {w w' : World} {b n : Nat} {f : Nat → Int} (h : Sn w b n f) (g : G w w') : Sn w' b n f := (g.below.block b h.lt).trans h
theorem Sn.inc {w : World} {b n : Nat} {f : Nat → Int} (h : Sn w b n f) {i : Nat} (hi : i < n) (v : Int) (hv : v = f i + 1) : Sn (w.setCell ⟨b, i, none⟩ (.int .i64 v)) b n (fun j => f j + if j = i then 1 else 0) := by
  subst hv
  unfold Sn
  rw [heap_setCell_same w b i _ _ _ h]
  congr 2
  apply Array.ext_getElem?
  intro j
  rw [Array.getElem?_setIfInBounds]
  simp only [List.getElem?_toArray, List.size_toArray, List.length_map, List.length_range, List.getElem?_map]
  by_cases hj : j < n
  · rw [List.getElem?_range hj]
    by_cases e : i = j
    · subst e; simp [hj]
    · rw [if_neg e]; simp [show ¬ j = i from fun x => e x.symm]
  · have : (List.range n)[j]? = none := by simp; omega
    rw [this]
    rw [if_neg (by omega)]
    rfl
theorem Sn.nums {w : World} {b n : Nat} {f : Nat → Int} (h : Sn w b n f) (c : Nat) (hc : n ≤ c) : IsNums w (.slice (some ⟨b, 0, none⟩) n c) ((List.range n).map f) := by
  refine ⟨_, _, by simp; rfl, by simpa using hc, fun _ => ⟨b, 0, rfl, h.lt, fun i x hx => ?_⟩⟩
  rw [List.getElem?_map] at hx
  by_cases hi : i < n
  · rw [List.getElem?_range hi] at hx
    rw [Nat.zero_add, h.cell hi]
    simpa using hx
  · have : (List.range n)[i]? = none := by simp; omega
    rw [this] at hx
    cases hx
/-- how often an item has been seen behind these groups -/
def seenF (xs : List It) (ds : List (List UInt8)) (j : Nat) : Int := match xs[j]? with | some x => if lowerL x.g ∈ ds then 1 else 0 | none => 0
theorem seen_start (xs : List It) (j : Nat) : seenF xs [] j = 0 := by
  unfold seenF
  cases xs[j]? <;> simp
theorem seen_more {xs : List It} {ds : List (List UInt8)} {g : List UInt8} (hg : lowerL g ∉ ds) {j : Nat} (hj : j < xs.length) :
    seenF xs (ds ++ [lowerL g]) j = seenF xs ds j + if (j : Int) ∈ idxL (ofGroup g) xs then 1 else 0 := by
  have hx := List.getElem?_eq_getElem hj
  have hm : (j : Int) ∈ idxL (ofGroup g) xs ↔ lowerL (xs[j]).g = lowerL g := by
    rw [show idxL (ofGroup g) xs = idxFrom (ofGroup g) xs 0 from rfl, idx_mem]
    constructor
    · rintro ⟨k, x, e, h1, h2⟩
      obtain rfl : j = k := by omega
      rw [hx] at h1
      cases h1
      unfold ofGroup at h2
      rw [same_iff_lower] at h2
      simpa using h2
    · intro h
      refine ⟨j, _, by omega, hx, ?_⟩
      unfold ofGroup
      rw [same_iff_lower]
      simpa using h
  unfold seenF
  rw [hx]
  simp only [List.mem_append, List.mem_singleton]
  by_cases h1 : lowerL (xs[j]).g = lowerL g
  · have h2 : lowerL (xs[j]).g ∉ ds := by rw [h1]; exact hg
    rw [if_pos (.inr h1), if_neg h2, if_pos (hm.2 h1)]
    rfl
  · rw [if_neg (fun h => h1 (hm.1 h))]
    by_cases h2 : lowerL (xs[j]).g ∈ ds
    · rw [if_pos (.inl h2), if_pos h2]; rfl
    · rw [if_neg (by rintro (h | h); exact h2 h; exact h1 h), if_neg h2]; rfl
theorem seen_all {xs : List It} {ds : List (List UInt8)} (h : ∀ x ∈ xs, lowerL x.g ∈ ds) : ∀ v ∈ (List.range xs.length).map (seenF xs ds), v = 1 := by
  intro v hv
  obtain ⟨j, hj, rfl⟩ := List.mem_map.1 hv
  have hj' := List.mem_range.1 hj
  unfold seenF
  rw [List.getElem?_eq_getElem hj']
  simp only
  rw [if_pos (h _ (List.getElem_mem hj'))]
/-- one number more -/
theorem take_more {l : List Int} (hl : l.Pairwise (· < ·)) {m : Nat} {i : Int} (hm : l[m]? = some i) (j : Nat) (h0 : 0 ≤ i) :
    (if (j : Int) ∈ l.take (m + 1) then (1 : Int) else 0) = (if (j : Int) ∈ l.take m then 1 else 0) + if j = i.toNat then 1 else 0 := by
  have e : l.take (m + 1) = l.take m ++ [i] := by rw [List.take_add_one, hm]; rfl
  have hn : i ∉ l.take m := by
    intro h
    have hp : (l.take (m + 1)).Pairwise (· < ·) := hl.sublist (List.take_sublist _ _)
    rw [e, List.pairwise_append] at hp
    exact absurd (hp.2.2 i h i (by simp)) (by omega)
  rw [e]
  simp only [List.mem_append, List.mem_singleton]
  by_cases h1 : j = i.toNat
  · have h2 : (j : Int) = i := by omega
    rw [if_pos (.inr h2), if_pos h1, if_neg (by rw [h2]; exact hn)]
    rfl
  · have h2 : ¬ (j : Int) = i := by omega
    rw [if_neg h1]
    by_cases h3 : (j : Int) ∈ l.take m
    · rw [if_pos (.inl h3), if_pos h3]; rfl
    · rw [if_neg (by rintro (h | h); exact h3 h; exact h2 h), if_neg h3]; rfl

end Go.Proofs.YtniidkkldoijcaaDoor

namespace Go.Proofs.YtniidkkldoijcaaDoor
open Go.RowKit
set_option linter.unusedVariables false
set_option linter.unusedSimpArgs false

set_option maxRecDepth 100000 in
set_option maxHeartbeats 1000000 in
theorem notOne_any (x : Int) (w : World) : Pure 21 #[.int .i64 x] w (.bool (!decide (x = 1))) := by
  go_enter Tryd.func21, Tryd.ntmps21
  go_wp2_with fail
  go_ret
  exact ⟨ret_bool (by by_cases h : x = 1 <;> simp [h]), rfl⟩
set_option maxRecDepth 100000 in
set_option maxHeartbeats 2000000 in
theorem firstNotOne_any (v : Value) (xs : List Int) (w : World) (h : IsNums w v xs) (hl : xs.length ≤ 1000000) :
    Pure 45 #[v, .func (.func 21) #[] #[]] w (.int .i64 (findV (xs.findIdx? fun x => !decide (x = 1)))) := by
  have H := hid h
  obtain ⟨a, cap, rfl, _, _⟩ := h
  go_enter Tryd.func45, Tryd.ntmps45
  go_wp2_with fail
  go_loopw [8] (fun i wr => ∃ k : Nat, k ≤ xs.length ∧ i = .int .i64 k ∧ (∀ j (h : j < xs.length), j < k → xs[j] = 1) ∧ wr = w) (fun i _ => xs.length - (intOf i).toNat)
  case atStart => exact ⟨0, Nat.zero_le _, rfl, fun j _ h => by omega, rfl⟩
  case round =>
    obtain ⟨k, hk, rfl, hnn, rfl⟩ := hrel
    have HN := hid hnn
    clear hnn
    by_cases hlt' : k < xs.length
    · obtain ⟨a2, cap2, e1, _, hc⟩ := H.out
      obtain ⟨b, off, e2, hbl, hcc⟩ := hc (by rintro rfl; simp at hlt')
      clear hc
      simp only [Value.slice.injEq, true_and] at e1
      obtain ⟨rfl, rfl⟩ := e1
      subst e2
      have c1 := hcc k _ (List.getElem?_eq_getElem hlt')
      obtain ⟨x, hxe⟩ : ∃ x, xs[k] = x := ⟨_, rfl⟩
      have HXE := hid hxe
      rw [hxe] at c1
      have hcl := notOne_any x wr
      obtain ⟨t, hsm⟩ : ∃ t, (!decide (x = 1)) = t := ⟨_, rfl⟩
      rw [hsm] at hcl
      have CL := hid hcl
      clear hcc hxe hcl
      cases t with
      | true =>
        have HF : Hid ((xs.findIdx? fun x => !decide (x = 1)) = some k) := hid (List.findIdx?_eq_some_iff_getElem.2 ⟨hlt', by rw [HXE.out]; exact hsm, fun j hj => by rw [HN.out j (by omega) hj]; decide⟩)
        clear hsm
        go_wp2_with (go_at_call 21; refine CL.out.use ?_)
        go_ret
        exact ⟨ret_int (by rw [HF.out]; rfl), rfl⟩
      | false =>
        have HF : Hid (∀ j (h : j < xs.length), j < k + 1 → xs[j] = 1) := hid (fun j h hj => by
          rcases Nat.lt_or_ge j k with h1 | h1
          · exact HN.out j h h1
          · obtain rfl : j = k := by omega
            rw [HXE.out]; simpa using hsm)
        clear hsm
        go_wp2_with (go_at_call 21; refine CL.out.use ?_)
        go_roundw
        case rel => exact ⟨k + 1, by omega, by go_num, HF.out, by trivial⟩
        case measure => simp [intOf]; omega
    · obtain rfl : k = xs.length := by omega
      have HF : Hid ((xs.findIdx? fun x => !decide (x = 1)) = none) := hid (by
        rw [List.findIdx?_eq_none_iff]
        intro x hx
        obtain ⟨j, hj, rfl⟩ := List.mem_iff_getElem.1 hx
        rw [HN.out j hj hj]; decide)
      go_wp2_with fail
      go_ret
      exact ⟨ret_int (by rw [HF.out]; rfl), rfl⟩
set_option maxRecDepth 100000 in
set_option maxHeartbeats 1000000 in
theorem someNotOne_any (v : Value) (xs : List Int) (w : World) (h : IsNums w v xs) (hl : xs.length ≤ 1000000) (ho : ∀ x ∈ xs, x = 1) :
    Pure 20 #[v, .func (.func 21) #[] #[]] w (.bool false) := by
  have hix := firstNotOne_any v xs w h hl
  rw [show (xs.findIdx? fun x => !decide (x = 1)) = none by rw [List.findIdx?_eq_none_iff]; intro x hx; rw [ho x hx]; decide] at hix
  have HIX := hid hix
  clear hix
  go_enter Tryd.func20, Tryd.ntmps20
  go_wp2_with fail
  refine HIX.out.use ?_
  simp only [findV]
  go_wp2_with fail
  go_ret
  exact ⟨rfl, rfl⟩

end Go.Proofs.YtniidkkldoijcaaDoor
