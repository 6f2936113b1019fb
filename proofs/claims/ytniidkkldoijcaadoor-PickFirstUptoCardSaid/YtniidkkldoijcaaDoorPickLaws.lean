/-
  Laws of which of many, plain: all of a name, those of a type, who is preferred most.
-/
import Derived.Test.YtniidkkldoijcaaDoorPickMorePlain
import Derived.Test.YtniidkkldoijcaaDoorNameF
namespace Go.Proofs.YtniidkkldoijcaaDoor
open Go.RowKit Stab
set_option linter.unusedVariables false
set_option linter.unusedSimpArgs false

theorem of_low (s : List UInt8) : ofName (lowerL s) = ofName s := funext fun x => by unfold ofName sameL; rw [upper_lower]
theorem of_up (s : List UInt8) : ofName (upperL s) = ofName s := funext fun x => by unfold ofName sameL; rw [upper_upper]
theorem sort_back {l0 l : List Int} (h : l.Perm l0) (hi : l0.Pairwise (· < ·)) : l.mergeSort (fun x y => decide (x ≤ y)) = l0 := by
  refine List.Perm.eq_of_pairwise (le := fun x y => x ≤ y) ?_ ?_ ?_ ((List.mergeSort_perm _ _).trans h)
  · intro a b _ _ h1 h2; omega
  · have := List.pairwise_mergeSort (le := fun x y : Int => decide (x ≤ y)) (fun a b c h1 h2 => by simp at h1 h2 ⊢; omega) (fun a b => by simp; omega) l
    exact this.imp fun h => by simpa using h
  · exact hi.imp fun h => by omega

def typeP : List UInt8 := [84, 89, 80, 69]
def typedL (kind : List UInt8) (ps : List Pm) : Bool := ps.any fun p => sameL p.1 typeP && p.2.any fun v => sameL v kind
def typedI (xs : List It) (kind : List UInt8) (i : Int) : Bool := match xs[i.toNat]? with | some x => typedL kind x.ps | none => false
theorem filter_step {p : Int → Bool} {l : List Int} {m : Nat} {i : Int} (h : l[m]? = some i) :
    (p i = true → (l.filter p)[((l.take m).filter p).length]? = some i ∧ ((l.take (m + 1)).filter p).length = ((l.take m).filter p).length + 1) ∧
    (p i = false → (∀ j, (l.filter p)[((l.take m).filter p).length]? = some j → j ≠ i) ∧ ((l.take (m + 1)).filter p).length = ((l.take m).filter p).length) := by
  have e : l.take (m + 1) = l.take m ++ [i] := by rw [List.take_add_one, h]; rfl
  have e2 : l.filter p = (l.take m).filter p ++ (l.drop m).filter p := by rw [← List.filter_append, List.take_append_drop]
  obtain ⟨hm, rfl⟩ := List.getElem?_eq_some_iff.1 h
  have e3 : l.drop m = l[m] :: l.drop (m + 1) := List.drop_eq_getElem_cons hm
  constructor
  · intro hp
    rw [e, e2, e3]
    simp only [List.filter_append, List.filter_cons, hp, List.filter_nil, if_true]
    exact ⟨by rw [List.getElem?_append_right (Nat.le_refl _), Nat.sub_self]; rfl, by rw [List.length_append]; rfl⟩
  · intro hp
    rw [e, e2, e3]
    simp only [List.filter_append, List.filter_cons, hp, List.filter_nil, List.append_nil, and_true, Bool.false_eq_true, if_false]
    intro j hj
    rw [List.getElem?_append_right (Nat.le_refl _)] at hj
    have := List.mem_of_getElem? hj
    simp at this
    rintro rfl
    rw [hp] at this
    exact absurd this.2 (by simp)
theorem find_more {ps : List Pm} {q : Pm} {s : List UInt8} (hq : sameL q.1 s = false) : findL (ps ++ [q]) s = findL ps s := by
  unfold findL
  rw [List.findIdx?_append]
  simp [List.findIdx?_cons, hq]
theorem find_last {ps : List Pm} {q : Pm} {s : List UInt8} (h : ∀ p ∈ ps, sameL p.1 s = false) (hq : sameL q.1 s = true) : findL (ps ++ [q]) s = some ps.length := by
  unfold findL
  rw [List.findIdx?_append, List.findIdx?_eq_none_iff.2 (fun p hp => by simp [h p hp])]
  simp [List.findIdx?_cons, hq]
theorem worth_more {ps : List Pm} {q : Pm} (hq : sameL q.1 prefP = false) : worthL (ps ++ [q]) = worthL ps := by
  unfold worthL
  rw [find_more hq]
  obtain ⟨o, ho⟩ : ∃ o, findL ps prefP = o := ⟨_, rfl⟩
  rw [ho]
  cases o with
  | none => rfl
  | some k =>
    obtain ⟨p, hp, _⟩ := find_some ho
    unfold worthO
    dsimp only
    rw [List.getElem?_append_left (List.getElem?_eq_some_iff.1 hp).1]
theorem keyL_map {f : It → It} (hf : ∀ x, worthL (f x).ps = worthL x.ps) (xs : List It) : keyL (xs.map f) = keyL xs := by
  funext i
  unfold keyL
  rw [List.getElem?_map]
  cases xs[i.toNat]? with
  | none => rfl
  | some x => exact hf x
theorem idx_map {f : It → It} {p : It → Bool} (hf : ∀ x, p (f x) = p x) : ∀ (xs : List It) (k : Nat), idxFrom p (xs.map f) k = idxFrom p xs k
  | [], _ => rfl
  | x :: xs, k => by
    rw [List.map_cons]
    unfold idxFrom
    rw [hf, idx_map hf xs]
/-- an item with one type more -/
def withType (kind : List UInt8) (x : It) : It := { x with ps := x.ps ++ [(typeP, [kind])] }
theorem with_typed (kind : List UInt8) (x : It) : typedL kind (withType kind x).ps = true := by
  unfold typedL withType
  simp [List.any_append, sameL]
theorem typed_all {xs : List It} {s kind : List UInt8} {la lb : List Int} (ha : Sorted (keyL xs) (idxL (ofName s) xs) la) (hb : Sorted (keyL (xs.map (withType kind))) (idxL (ofName s) (xs.map (withType kind))) lb) :
    lb.filter (typedI (xs.map (withType kind)) kind) = la := by
  rw [keyL_map (fun x => worth_more (by show sameL typeP prefP = false; decide)), show idxL (ofName s) (xs.map (withType kind)) = idxL (ofName s) xs from idx_map (f := withType kind) (fun x => rfl) xs 0] at hb
  obtain rfl := sorted_unique ha hb
  refine List.filter_eq_self.2 fun i hi => ?_
  obtain ⟨h0, h1⟩ := idx_lt (ha.1.mem_iff.1 hi)
  unfold typedI
  rw [List.getElem?_map, List.getElem?_eq_getElem h1]
  exact with_typed kind _
theorem typed_fine {xs : List It} {kind : List UInt8} (h1 : bigC xs = false) (hk : kind.length ≤ 100) : Fine (xs.map (withType kind)) := by
  refine ⟨by rw [List.length_map]; have := (bigC_small h1).1; omega, fun y hy => ?_⟩
  obtain ⟨x, hx, rfl⟩ := List.mem_map.1 hy
  have := big_small ((bigC_small h1).2 x hx)
  unfold It.big at this ⊢
  unfold withType
  simp only [List.map_append, List.sum_append, List.map_cons, List.map_nil, List.sum_cons, List.sum_nil]
  have e : typeP.length = 4 := rfl
  omega
theorem srt_self {l : List Int} (h : l.Pairwise (· < ·)) : Srt (fun i => i) l := h.imp fun h => .inl h
/-- an item without a preference -/
def noPref (x : It) : It := { x with ps := x.ps.filter fun p => !sameL p.1 prefP }
def prefMore : Pm := ([112, 114, 101, 102], [[49]])
/-- an item with the preference 1 behind all -/
def withPref (x : It) : It := { x with ps := x.ps ++ [prefMore] }
theorem no_worth (x : It) : worthL (noPref x).ps = 101 := by
  unfold worthL findL
  rw [List.findIdx?_eq_none_iff.2 (fun p hp => by have := (List.mem_filter.1 hp).2; simpa using this)]
  rfl
theorem first_worth (x : It) : worthL (withPref (noPref x)).ps = 1 := by
  unfold worthL
  rw [show (withPref (noPref x)).ps = (noPref x).ps ++ [prefMore] from rfl, find_last (fun p hp => by have := (List.mem_filter.1 hp).2; simpa using this) (by decide)]
  unfold worthO
  dsimp only
  rw [List.getElem?_append_right (Nat.le_refl _), Nat.sub_self]
  decide +kernel
theorem srt_level {k : Int → Int} {l : List Int} {n : Int} (h : l.Pairwise (· < ·)) (hk : ∀ i ∈ l, k i = n) : Srt k l :=
  List.Pairwise.imp_of_mem (fun {a b} ha hb hab => .inr ⟨by rw [hk a ha, hk b hb], hab⟩) h
theorem key_no {xs : List It} {i : Int} (h : i.toNat < xs.length) : keyL (xs.map noPref) i = 101 := by
  unfold keyL
  rw [List.getElem?_map, List.getElem?_eq_getElem h]
  exact no_worth _
theorem first_idx {xs : List It} {s : List UInt8} {l : List Int} (h : Sorted (keyL (xs.map noPref)) (idxL (ofName s) (xs.map noPref)) l) : l = idxL (ofName s) (xs.map noPref) :=
  sorted_unique h ⟨List.Perm.refl _, srt_level (idx_sorted _ _ _) (n := 101) fun i hi => key_no (by have := (idx_lt hi).2; rwa [List.length_map] at this)⟩
theorem first_best {xs : List It} {n : Nat} {x : It} {l : List Int} (hn : xs[n]? = some x) (h : Sorted (keyL ((xs.map noPref).set n (withPref (noPref x)))) (idxL (ofName x.n) ((xs.map noPref).set n (withPref (noPref x)))) l) :
    l = (n : Int) :: (idxL (ofName x.n) (xs.map noPref)).filter fun i => !decide (i = (n : Int)) := by
  obtain ⟨hl, rfl⟩ := List.getElem?_eq_some_iff.1 hn
  have hset : ∀ (j : Nat), (((xs.map noPref).set n (withPref (noPref xs[n]))))[j]? = if j = n then some (withPref (noPref xs[n])) else (xs.map noPref)[j]? := by
    intro j
    rw [List.getElem?_set]
    by_cases hj : n = j
    · subst hj; simp [hl]
    · rw [if_neg hj, if_neg (fun e => hj e.symm)]
  have hidx : idxL (ofName xs[n].n) ((xs.map noPref).set n (withPref (noPref xs[n]))) = idxL (ofName xs[n].n) (xs.map noPref) := by
    refine sorted_unique (k := fun i => i) ⟨?_, srt_self (idx_sorted _ _ _)⟩ ⟨List.Perm.refl _, srt_self (idx_sorted _ _ _)⟩
    refine (List.perm_ext_iff_of_nodup ((idx_sorted _ _ _).imp fun h => by omega) ((idx_sorted _ _ _).imp fun h => by omega)).2 fun i => ?_
    rw [idx_mem, idx_mem]
    constructor
    · rintro ⟨j, y, e, hy, hp⟩
      rw [hset] at hy
      by_cases hj : j = n
      · subst hj
        rw [if_pos rfl] at hy
        cases hy
        exact ⟨j, noPref xs[j], e, by rw [List.getElem?_map, hn]; rfl, hp⟩
      · rw [if_neg hj] at hy
        exact ⟨j, y, e, hy, hp⟩
    · rintro ⟨j, y, e, hy, hp⟩
      by_cases hj : j = n
      · subst hj
        rw [List.getElem?_map, hn] at hy
        cases hy
        exact ⟨j, withPref (noPref xs[j]), e, by rw [hset, if_pos rfl], hp⟩
      · exact ⟨j, y, e, by rw [hset, if_neg hj]; exact hy, hp⟩
  rw [hidx] at h
  have hmem : (n : Int) ∈ idxL (ofName xs[n].n) (xs.map noPref) := by
    unfold idxL
    rw [idx_mem]
    exact ⟨n, noPref xs[n], by simp, by rw [List.getElem?_map, hn]; rfl, by unfold ofName sameL; exact beq_self_eq_true _⟩
  have hnd : (idxL (ofName xs[n].n) (xs.map noPref)).Nodup := (idx_sorted _ _ _).imp fun h => by omega
  have key_at : keyL ((xs.map noPref).set n (withPref (noPref xs[n]))) (n : Int) = 1 := by
    unfold keyL
    rw [show ((n : Int)).toNat = n by simp, hset, if_pos rfl]
    exact first_worth _
  have key_off : ∀ i ∈ idxL (ofName xs[n].n) (xs.map noPref), i ≠ (n : Int) → keyL ((xs.map noPref).set n (withPref (noPref xs[n]))) i = 101 := by
    intro i hi hne
    have h1 := idx_lt hi
    rw [List.length_map] at h1
    unfold keyL
    rw [hset, if_neg (by omega), List.getElem?_map, List.getElem?_eq_getElem h1.2]
    exact no_worth _
  refine sorted_unique h ⟨?_, ?_⟩
  · refine (List.perm_ext_iff_of_nodup (List.nodup_cons.2 ⟨by simp, hnd.filter _⟩) hnd).2 fun i => ?_
    by_cases hi : i = (n : Int)
    · subst hi; simp [hmem]
    · simp [hi]
  · refine List.pairwise_cons.2 ⟨fun i hi => .inl ?_, srt_level (n := 101) ((idx_sorted _ _ _).filter _) fun i hi => ?_⟩
    · have := List.mem_filter.1 hi
      rw [key_at, key_off i this.1 (by simpa using this.2)]
      omega
    · have := List.mem_filter.1 hi
      exact key_off i this.1 (by simpa using this.2)
theorem sum_filter {α : Type} (f : α → Nat) (p : α → Bool) : ∀ l : List α, ((l.filter p).map f).sum ≤ (l.map f).sum
  | [] => Nat.le_refl _
  | x :: l => by
    have ih := sum_filter f p l
    rw [List.filter_cons]
    split <;> simp only [List.map_cons, List.sum_cons] <;> omega
theorem no_fine {xs : List It} (h1 : bigC xs = false) : Fine (xs.map noPref) ∧ ∀ x ∈ xs, (noPref x).big ≤ 10000 := by
  have hb : ∀ x ∈ xs, (noPref x).big ≤ 10000 := fun x hx => by
    have := big_small ((bigC_small h1).2 x hx)
    have h2 : ((noPref x).ps.map fun p => p.1.length + (p.2.map fun s => s.length + 1).sum + 1).sum ≤ (x.ps.map fun p => p.1.length + (p.2.map fun s => s.length + 1).sum + 1).sum :=
      sum_filter _ _ _
    unfold It.big at this ⊢
    have e1 : (noPref x).g = x.g := rfl
    have e2 : (noPref x).n = x.n := rfl
    have e3 : (noPref x).v = x.v := rfl
    rw [e1, e2, e3]
    omega
  refine ⟨⟨by rw [List.length_map]; have := (bigC_small h1).1; omega, fun y hy => ?_⟩, hb⟩
  obtain ⟨x, hx, rfl⟩ := List.mem_map.1 hy
  have := hb x hx
  omega
theorem pref_fine {xs : List It} {n : Nat} {x : It} (h1 : bigC xs = false) (hn : xs[n]? = some x) : Fine ((xs.map noPref).set n (withPref (noPref x))) := by
  obtain ⟨h2, h3⟩ := no_fine h1
  refine ⟨by rw [List.length_set]; exact h2.1, fun y hy => ?_⟩
  rcases List.mem_or_eq_of_mem_set hy with hy | rfl
  · exact h2.2 y hy
  · have := h3 x (List.mem_of_getElem? hn)
    unfold It.big at this ⊢
    have e1 : (withPref (noPref x)).g = (noPref x).g := rfl
    have e2 : (withPref (noPref x)).n = (noPref x).n := rfl
    have e3 : (withPref (noPref x)).v = (noPref x).v := rfl
    have e4 : (withPref (noPref x)).ps = (noPref x).ps ++ [prefMore] := rfl
    rw [e1, e2, e3, e4]
    simp only [List.map_append, List.sum_append, List.map_cons, List.map_nil, List.sum_cons, List.sum_nil]
    have e5 : prefMore.1.length = 4 := rfl
    have e6 : (prefMore.2.map fun s => s.length + 1).sum = 2 := rfl
    omega

end Go.Proofs.YtniidkkldoijcaaDoor
