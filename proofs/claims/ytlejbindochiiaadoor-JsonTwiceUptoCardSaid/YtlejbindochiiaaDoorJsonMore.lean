/-
  Trees within trees; a key that stands twice; texts whose code points are written by numbers. Plain.
-/
import Derived.Test.YtlejbindochiiaaDoorJsonWriteL
namespace Go.Proofs.YtlejbindochiiaaDoor
open Go.RowKit
set_option linter.unusedVariables false
set_option linter.unusedSimpArgs false

/-! ## one deep more -/
theorem right_list {d e : Nat} {k : Int} {t : List UInt8} {ks : List (List UInt8)} {l : List Jt} (h : rightJ (d + 1) (.mk k t ks l) = none) : rightJ (e + 1) (.mk k t ks l) = l.findSome? (rightJ e) := by
  obtain ⟨h1, h2, h3, h4, h5, _⟩ := right_parts_J h
  unfold rightJ
  rw [if_neg (fun h => h h1), if_neg (fun h => h h2), if_neg h3, if_neg (by rintro ⟨x, hx, hb⟩; exact hb (h4 x hx)), if_neg (fun h => h h5)]
theorem findSome_two {f : Jt → Option Int} : ∀ {l : List Jt}, (∀ x ∈ l, f x = none ∨ f x = some 4) → l.findSome? f = none ∨ l.findSome? f = some 4
  | [], _ => .inl rfl
  | x :: l, h => by
    rcases h x List.mem_cons_self with e | e
    · rw [List.findSome?_cons, e]; exact findSome_two fun y hy => h y (List.mem_cons_of_mem _ hy)
    · rw [List.findSome?_cons, e]; exact .inr rfl
theorem right_less : ∀ (d : Nat) (x : Jt), rightJ (d + 1) x = none → rightJ d x = none ∨ rightJ d x = some 4
  | 0, x, h => .inr (by cases x; rfl)
  | d + 1, .mk k t ks l, h => by
    rw [right_list h]
    exact findSome_two fun x hx => right_less d x ((right_parts_J h).2.2.2.2.2 x hx)
theorem right_up : ∀ (d : Nat) (x : Jt), rightJ d x = none → rightJ (d + 1) x = none
  | 0, x, h => by cases x; cases h
  | d + 1, .mk k t ks l, h => by
    rw [right_list h]
    exact List.findSome?_eq_none_iff.2 fun x hx => right_up d x ((right_parts_J h).2.2.2.2.2 x hx)
theorem items_congr {f g : Jt → List UInt8} {obj : Bool} : ∀ {l : List Jt} {first : Bool} {ks : List (List UInt8)}, (∀ x ∈ l, f x = g x) → itemsJ f obj first ks l = itemsJ g obj first ks l
  | [], _, _, _ => by simp [itemsJ]
  | x :: l, first, ks, h => by
    simp only [itemsJ]
    rw [h x List.mem_cons_self, items_congr fun y hy => h y (List.mem_cons_of_mem _ hy)]
theorem write_fuel : ∀ (d : Nat) (x : Jt), rightJ d x = none → writeJ (d + 1) x = writeJ d x
  | 0, x, h => by cases x; cases h
  | d + 1, .mk k t ks l, h => by
    have ih : ∀ obj, itemsJ (writeJ (d + 1)) obj true ks l = itemsJ (writeJ d) obj true ks l := fun obj => items_congr fun x hx => write_fuel d x ((right_parts_J h).2.2.2.2.2 x hx)
    unfold writeJ
    rw [ih, ih]
theorem wrap_arr (d : Nat) (j : Jt) : rightJ (d + 1) (.mk 6 [] [] [j, j]) = rightJ d j := by
  conv => lhs; unfold rightJ
  rw [if_neg (by decide), if_neg (by simp), if_neg (by simp [badL_nil]), if_neg (by simp), if_neg (by simp)]
  simp only [List.findSome?_cons, List.findSome?_nil]
  cases h : rightJ d j <;> simp
theorem wrap_obj (d : Nat) {j : Jt} {key : List UInt8} (hk : badL key = none) : rightJ (d + 1) (.mk 7 [] [key] [j]) = rightJ d j := by
  conv => lhs; unfold rightJ
  rw [if_neg (by decide), if_neg (by simp), if_neg (by simp [badL_nil]), if_neg (by simp [hk]), if_neg (by simp)]
  simp only [List.findSome?_cons, List.findSome?_nil]
  cases h : rightJ d j <;> simp
theorem wrap_two (d : Nat) {a b : Jt} {key : List UInt8} (hk : badL key = none) : rightJ (d + 1) (.mk 7 [] [key, key] [a, b]) = some 9 := by
  conv => lhs; unfold rightJ
  rw [if_neg (by decide), if_neg (by simp), if_neg (by simp [badL_nil]), if_neg (by simp [hk]), if_pos (by simp)]
theorem write_arr (d : Nat) (j : Jt) : writeJ (d + 1) (.mk 6 [] [] [j, j]) = [91] ++ writeJ d j ++ [44] ++ writeJ d j ++ [93] := by
  conv => lhs; unfold writeJ
  simp [itemsJ]
theorem write_obj (d : Nat) (j : Jt) (key : List UInt8) : writeJ (d + 1) (.mk 7 [] [key] [j]) = 123 :: (quoteJ key ++ 58 :: (writeJ d j ++ [125])) := by
  conv => lhs; unfold writeJ
  simp [itemsJ]

/-! ## a key that stands twice -/
theorem step_first {d : Nat} {a : Jt} {key X : List UInt8} (ha : rightJ d a = none) (hX : stopJ X) (n : Nat) : membJ (treeJ d) (n + 1) [] (quoteJ key ++ 58 :: (writeJ d a ++ X)) =
    JRs.next (membJ (treeJ d) n [key] (blankJ X)) fun p z => .ok ((key :: p.1, a :: p.2), z) := by
  rw [membJ_step, show isJ 125 (quoteJ key ++ 58 :: (writeJ d a ++ X)) = none from by unfold quoteJ; rw [List.cons_append, isJ_eq, if_neg (by decide)]]
  simp only [if_true]
  rw [jnext_pos, str_read, jnext_pos, if_neg (by simp), blank_not (by decide), wantJ, isJ_cons]
  simp only
  rw [jnext_pos, tree_read d a ha X hX, jnext_pos]; rfl
theorem step_again {d : Nat} {key X : List UInt8} (n : Nat) : membJ (treeJ d) (n + 1) [key] (44 :: (quoteJ key ++ X)) = .error (9, (quoteJ key ++ X).length) := by
  rw [membJ_step, isJ_eq, if_neg (by decide)]
  simp only
  rw [if_neg (by simp), wantJ, isJ_cons]
  simp only
  have hb : blankJ (quoteJ key ++ X) = quoteJ key ++ X := by unfold quoteJ; rw [List.cons_append]; exact blank_not (by decide)
  rw [jnext_pos, hb, jnext_pos, str_read, jnext_pos, if_pos (by simp)]
/-- a text in which a key stands twice -/
theorem read_twice {a b : Jt} {key : List UInt8} (ha : rightJ 11 a = none) (hb : rightJ 11 b = none) (hk : badL key = none) {s t : List UInt8} (hs : s = 123 :: (quoteJ key ++ 58 :: (writeJ 11 a ++ [44]))) (ht : t = quoteJ key ++ 58 :: (writeJ 11 b ++ [125])) (hl : (s ++ t).length ≤ 20000) :
    ∃ k, readJ (s ++ t) = .error (9, some k) := by
  have hq := quote_bad hk
  have e1 : badL s = none := by
    rw [hs]
    exact (bad_small_append (a := [123]) (by simp)).2 (bad_append_none hq ((bad_small_append (a := [58]) (by simp)).2 (bad_append_none (write_bad 11 a ha) (small_bad (by simp)))))
  have e2 : badL t = none := by
    rw [ht]
    exact bad_append_none hq ((bad_small_append (a := [58]) (by simp)).2 (bad_append_none (write_bad 11 b hb) (small_bad (by simp))))
  have htree : ∃ k, treeJ 12 (s ++ t) = .error (9, k) := by
    have hst : s ++ t = 123 :: (quoteJ key ++ 58 :: (writeJ 11 a ++ 44 :: (quoteJ key ++ 58 :: (writeJ 11 b ++ [125])))) := by rw [hs, ht]; simp
    rw [hst, tree_pre (by decide) (by decide) (by decide) (by decide) (by decide) (by decide), if_neg (by decide), if_neg (by decide), if_pos rfl]
    have hb : blankJ (quoteJ key ++ 58 :: (writeJ 11 a ++ 44 :: (quoteJ key ++ 58 :: (writeJ 11 b ++ [125])))) = quoteJ key ++ 58 :: (writeJ 11 a ++ 44 :: (quoteJ key ++ 58 :: (writeJ 11 b ++ [125]))) := by
      unfold quoteJ; rw [List.cons_append]; exact blank_not (by decide)
    obtain ⟨n, hn⟩ : ∃ n, (quoteJ key ++ 58 :: (writeJ 11 a ++ 44 :: (quoteJ key ++ 58 :: (writeJ 11 b ++ [125])))).length = n + 1 := ⟨_, (Nat.succ_pred_eq_of_pos (by simp only [List.length_append, List.length_cons]; omega)).symm⟩
    rw [hb, hn, step_first ha (stop44 _), blank_not (by decide), step_again n]
    exact ⟨_, rfl⟩
  obtain ⟨k, htree⟩ := htree
  unfold readJ
  rw [if_neg (by omega), bad_append_none e1 e2, htree]
  exact ⟨_, rfl⟩

/-! ## code points by numbers -/
def uJ (n : Nat) : List UInt8 := [92, 117, hexJ (n / 4096 % 16), hexJ (n / 256 % 16), hexJ (n / 16 % 16), hexJ (n % 16)]
def ptJ (p : Int) : List UInt8 := if 65535 < p then uJ (55296 + (p.toNat - 65536) / 1024) ++ uJ (56320 + (p.toNat - 65536) % 1024) else uJ p.toNat
theorem four_hex {n : Nat} (hn : n < 65536) (r : List UInt8) : fourJ 4 0 (hexJ (n / 4096 % 16) :: hexJ (n / 256 % 16) :: hexJ (n / 16 % 16) :: hexJ (n % 16) :: r) = .ok (n, r) := by
  have h : ∀ m, digitJ (hexJ (m % 16)) = some (m % 16) := fun m => hex_digit _ (Nat.mod_lt _ (by decide))
  unfold fourJ; rw [h]; simp only
  unfold fourJ; rw [h]; simp only
  unfold fourJ; rw [h]; simp only
  unfold fourJ; rw [h]; simp only
  unfold fourJ
  congr 2; omega
theorem pt_read {p : Int} (hp : mayB p = true) (f : Nat) (X : List UInt8) : textJ (f + 1) (ptJ p ++ X) = JRs.next (textJ f X) fun b u => .ok (pointL p ++ b, u) := by
  have hm : 0 ≤ p ∧ p ≤ 1114111 ∧ (p < 55296 ∨ 57343 < p) := of_decide_eq_true hp
  obtain ⟨n, rfl⟩ : ∃ n : Nat, p = (n : Int) := ⟨p.toNat, by omega⟩
  unfold ptJ
  by_cases h : (65535 : Int) < (n : Int)
  · rw [if_pos h, Int.toNat_natCast]
    obtain ⟨q, hq⟩ : ∃ q, n - 65536 = q := ⟨_, rfl⟩
    rw [hq]
    have hq1 : q / 1024 < 1024 := by omega
    have hq2 : q % 1024 < 1024 := Nat.mod_lt _ (by decide)
    show textJ (f + 1) (92 :: (117 :: (hexJ _ :: hexJ _ :: hexJ _ :: hexJ _ :: (uJ (56320 + q % 1024) ++ X)))) = _
    rw [textJ_step, if_neg (by decide), if_pos rfl, escJ_cons, if_pos rfl, four_hex (by omega), jnext_pos, if_pos ⟨by omega, by omega, rfl⟩]
    show JRs.next (JRs.next (fourJ 4 0 (hexJ _ :: hexJ _ :: hexJ _ :: hexJ _ :: X)) _) _ = _
    rw [four_hex (by omega), jnext_pos, if_pos ⟨by omega, by omega⟩]
    have e : 65536 + (55296 + q / 1024 - 55296) * 1024 + (56320 + q % 1024 - 56320) = n := by omega
    rw [e]
    unfold pointJ
    rw [if_pos hp, jnext_pos]
  · rw [if_neg h, Int.toNat_natCast]
    show textJ (f + 1) (92 :: (117 :: (hexJ _ :: hexJ _ :: hexJ _ :: hexJ _ :: X))) = _
    rw [textJ_step, if_neg (by decide), if_pos rfl, escJ_cons, if_pos rfl, four_hex (by omega), jnext_pos, if_neg (by omega)]
    unfold pointJ
    rw [if_pos hp, jnext_pos]
theorem pts_read (r : List UInt8) : ∀ (ps : List Int) (f : Nat), (∀ p ∈ ps, mayB p = true) → ps.length < f → textJ f (ps.flatMap ptJ ++ 34 :: r) = .ok (ps.flatMap pointL, r)
  | [], f, _, hf => by
    obtain ⟨g, rfl⟩ : ∃ g, f = g + 1 := ⟨f - 1, by simp at hf; omega⟩
    rw [List.flatMap_nil, List.nil_append, textJ_step, if_pos rfl]; rfl
  | p :: ps, f, h, hf => by
    obtain ⟨g, rfl⟩ : ∃ g, f = g + 1 := ⟨f - 1, by simp at hf; omega⟩
    rw [List.flatMap_cons, List.append_assoc, pt_read (h p List.mem_cons_self), pts_read r ps g (fun q hq => h q (List.mem_cons_of_mem _ hq)) (by simp at hf; omega), jnext_pos, List.flatMap_cons]
theorem u_small (n : Nat) : ∀ c ∈ uJ n, c.toNat < 128 := by
  intro c hc
  have h : ∀ m, (hexJ (m % 16)).toNat < 128 := fun m => hexJ_small (Nat.mod_lt _ (by decide))
  unfold uJ at hc
  simp only [List.mem_cons, List.not_mem_nil, or_false] at hc
  rcases hc with rfl | rfl | rfl | rfl | rfl | rfl
  · decide
  · decide
  · exact h _
  · exact h _
  · exact h _
  · exact h _
theorem pt_small (p : Int) : ∀ c ∈ ptJ p, c.toNat < 128 := by
  intro c hc
  unfold ptJ at hc
  split at hc
  · rcases List.mem_append.1 hc with hc | hc
    · exact u_small _ c hc
    · exact u_small _ c hc
  · exact u_small _ c hc
theorem pt_len (p : Int) : 1 ≤ (ptJ p).length ∧ (ptJ p).length ≤ 12 := by
  unfold ptJ
  split <;> simp [uJ]
theorem flat_len (ps : List Int) : ps.length ≤ (ps.flatMap ptJ).length ∧ (ps.flatMap ptJ).length ≤ 12 * ps.length := by
  induction ps with
  | nil => simp
  | cons p ps ih =>
    have := pt_len p
    simp only [List.flatMap_cons, List.length_append, List.length_cons]; omega
/-- a text whose code points are written by numbers -/
theorem read_pts {s : List UInt8} (hs : badL s = none) (hl : (ptsL s).length ≤ 1000) : readJ (34 :: ((ptsL s).flatMap ptJ ++ [34])) = .ok (.mk 5 s [] []) := by
  have hf := flat_len (ptsL s)
  have hb : badL (34 :: ((ptsL s).flatMap ptJ ++ [34])) = none := small_bad fun c hc => by
    simp only [List.mem_cons, List.mem_append, List.mem_flatMap, List.not_mem_nil, or_false] at hc
    rcases hc with rfl | ⟨p, _, hc⟩ | rfl
    · decide
    · exact pt_small p c hc
    · decide
  have ht : treeJ 12 (34 :: ((ptsL s).flatMap ptJ ++ [34])) = .ok (.mk 5 s [] [], []) := by
    rw [tree_pre (by decide) (by decide) (by decide) (by decide) (by decide) (by decide), if_pos rfl]
    unfold strJ
    rw [wantJ, isJ_cons]
    simp only
    rw [jnext_pos, pts_read [] (ptsL s) _ (pts_may hs) (by simp only [List.length_append, List.length_cons, List.length_nil]; omega), jnext_pos, pts_join hs]
  unfold readJ
  rw [if_neg (by simp only [List.length_append, List.length_cons, List.length_nil]; omega), hb, ht]
  rfl

end Go.Proofs.YtlejbindochiiaaDoor
