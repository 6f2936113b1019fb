/-
  CONTRACTS of package zone: Right, two, Print, Parse, for all texts of at most 2 to the 47 bytes, and the plain functions that they compute.
-/
import Derived.Test.YtkhnghcecnghmaaDoorErr
namespace Go.Proofs.YtkhnghcecnghmaaDoor
open Go.RowKit
set_option linter.unusedVariables false
set_option linter.unusedSimpArgs false

def rightZ (n : Int) : Bool := decide (-840 ≤ n) && decide (n ≤ 840)

set_option maxRecDepth 100000 in
set_option maxHeartbeats 400000 in
theorem zoneRight_any (n : Int) (w : World) : Pure 22 #[.int .i64 n] w (.bool (rightZ n)) := by
  by_cases h1 : -840 ≤ n <;> by_cases h2 : n ≤ 840
  all_goals
    go_enter Tryd.func22, Tryd.ntmps22
    go_wp2
    go_ret
    exact ⟨ret_bool (by simp [rightZ, h1, h2]), rfl⟩

/-- two digits -/
def twoL (n : Int) : List UInt8 := [UInt8.ofNat (48 + n / 10).toNat, UInt8.ofNat (48 + n % 10).toNat]
@[simp, go_sem] theorem twoL_length (n : Int) : (twoL n).length = 2 := rfl
set_option maxRecDepth 100000 in
set_option maxHeartbeats 400000 in
theorem two_any (n : Int) (w : World) (h0 : 0 ≤ n) (h1 : n ≤ 99) : Gives 30 #[.int .i64 n] w (.string (S (twoL n))) := by
  go_enter Tryd.func30, Tryd.ntmps30
  go_wp2
  go_ret
  exact ⟨rfl, (G.refl _).alloc _⟩

def printZ (n : Int) : List UInt8 := if n = 0 then [90] else if n < 0 then 45 :: (twoL ((-n) / 60) ++ twoL ((-n) % 60)) else 43 :: (twoL (n / 60) ++ twoL (n % 60))

set_option maxRecDepth 100000 in
set_option maxHeartbeats 400000 in
theorem zonePrint_bad (n : Int) (w : World) (h : rightZ n = false) : Gives 19 #[.int .i64 n] w (.tuple #[.string (S []), eno 2]) := by
  go_enter Tryd.func19, Tryd.ntmps19
  go_wp2_with fail
  refine (zoneRight_any n _).use ?_
  rw [h]
  go_wp2_with fail
  go_ret2
  exact ⟨rfl, (by repeat (first | exact G.refl _ | assumption | apply G.drew | apply G.alloc | refine G.trans ?_ (by assumption)))⟩
set_option maxRecDepth 100000 in
set_option maxHeartbeats 400000 in
theorem zonePrint_any (n : Int) (w : World) (h : rightZ n = true) : Gives 19 #[.int .i64 n] w (.tuple #[.string (S (printZ n)), .nilIface]) := by
  have hb : -840 ≤ n ∧ n ≤ 840 := by simpa [rightZ] using h
  by_cases h0 : n = 0
  · subst h0
    go_enter Tryd.func19, Tryd.ntmps19
    go_wp2_with fail
    refine (zoneRight_any _ _).use ?_
    rw [h]
    go_wp2_with fail
    go_ret2
    exact ⟨rfl, (by repeat (first | exact G.refl _ | assumption | apply G.drew | apply G.alloc | refine G.trans ?_ (by assumption)))⟩
  · by_cases h1 : n < 0
    · obtain ⟨m, rfl⟩ : ∃ m, n = -m := ⟨-n, by omega⟩
      have h3 : 0 < m := by omega
      have h4 : m ≤ 840 := by omega
      have HP : Hid (printZ (-m) = 45 :: (twoL (m / 60) ++ twoL (m % 60))) := hid (by unfold printZ; rw [if_neg h0, if_pos h1]; simp)
      clear hb
      go_enter Tryd.func19, Tryd.ntmps19
      go_wp2_with fail
      refine (zoneRight_any _ _).use ?_
      rw [h]
      go_wp2_with fail
      refine (two_any (m / 60) _ (by omega) (by omega)).use ?_; intro w1 g1
      go_wp2_with fail
      refine (two_any (m % 60) _ (by omega) (by omega)).use ?_; intro w2 g2
      go_wp2_with fail
      go_ret2
      exact ⟨by rw [HP.out]; rfl, (by repeat (first | exact G.refl _ | assumption | apply G.drew | apply G.alloc | refine G.trans ?_ (by assumption)))⟩
    · have HP : Hid (printZ n = 43 :: (twoL (n / 60) ++ twoL (n % 60))) := hid (by unfold printZ; rw [if_neg h0, if_neg h1])
      go_enter Tryd.func19, Tryd.ntmps19
      go_wp2_with fail
      refine (zoneRight_any _ _).use ?_
      rw [h]
      go_wp2_with fail
      refine (two_any (n / 60) _ (by omega) (by omega)).use ?_; intro w1 g1
      go_wp2_with fail
      refine (two_any (n % 60) _ (by omega) (by omega)).use ?_; intro w2 g2
      go_wp2_with fail
      go_ret2
      exact ⟨by rw [HP.out]; rfl, (by repeat (first | exact G.refl _ | assumption | apply G.drew | apply G.alloc | refine G.trans ?_ (by assumption)))⟩

def finZ (x : UInt8) (n d2 : Int) : Int × Int := if 5 < d2 ∨ 840 < n then (0, 2) else if x = 45 then (-n, 0) else (n, 0)
def signB (x : UInt8) : Bool := x == 43 || x == 45
def dgP (c : UInt8) : Prop := 48 ≤ (c.toNat : Int) ∧ (c.toNat : Int) ≤ 57
instance (c : UInt8) : Decidable (dgP c) := by unfold dgP; infer_instance
def minsZ (a b c d : UInt8) : Int := 60 * (10 * ((a.toNat : Int) - 48) + ((b.toNat : Int) - 48)) + 10 * ((c.toNat : Int) - 48) + ((d.toNat : Int) - 48)
/-- the minutes, and the error's number (0: none) -/
def parseR : List UInt8 → Int × Int
  | [x, a, b] => if signB x = true then (if dgP a ∧ dgP b then finZ x (60 * (10 * ((a.toNat : Int) - 48) + ((b.toNat : Int) - 48))) 0 else (0, 3)) else (0, 3)
  | [x, a, b, c, d] => if signB x = true then (if (dgP a ∧ dgP b) ∧ dgP c ∧ dgP d then finZ x (minsZ a b c d) ((c.toNat : Int) - 48) else (0, 3)) else (0, 3)
  | _ => (0, 3)
def parseZ (l : List UInt8) : Int × Int := if l = [90] then (0, 0) else parseR l
theorem pz_R {l : List UInt8} (h : l ≠ [90]) : parseZ l = parseR l := by unfold parseZ; rw [if_neg h]
def errV (c : Int) : Value := if c = 0 then .nilIface else eno c
theorem ret_pz {l : List UInt8} {n c : Int} (h : parseZ l = (n, c)) {v e : Value} (hv : v = .int .i64 n) (he : e = errV c) :
    Ending.returned (.tuple #[v, e]) = .returned (.tuple #[.int .i64 (parseZ l).1, errV (parseZ l).2]) := by
  rw [h, hv, he]
theorem pz3_sign {x a b : UInt8} (h : signB x = false) : parseZ [x, a, b] = (0, 3) := by
  rw [pz_R (by simp)]; show (if signB x = true then _ else _) = _; rw [if_neg (by simp [h])]
theorem pz3_bad {x a b : UInt8} (h : ¬ (dgP a ∧ dgP b)) : parseZ [x, a, b] = (0, 3) := by
  rw [pz_R (by simp)]; show (if signB x = true then _ else _) = _; split <;> first | rfl | rw [if_neg h]
theorem pz3_ok {x a b : UInt8} (hx : signB x = true) (h1 : dgP a ∧ dgP b) : parseZ [x, a, b] = finZ x (60 * (10 * ((a.toNat : Int) - 48) + ((b.toNat : Int) - 48))) 0 := by
  rw [pz_R (by simp)]; show (if signB x = true then _ else _) = _; rw [if_pos hx, if_pos h1]
theorem pz3_far {x a b : UInt8} (hx : signB x = true) (h1 : dgP a ∧ dgP b) (h : 840 < 60 * (10 * ((a.toNat : Int) - 48) + ((b.toNat : Int) - 48))) : parseZ [x, a, b] = (0, 2) := by
  rw [pz3_ok hx h1]; unfold finZ; rw [if_pos (Or.inr h)]
theorem pz3_pos {a b : UInt8} (h1 : dgP a ∧ dgP b) (h : ¬ 840 < 60 * (10 * ((a.toNat : Int) - 48) + ((b.toNat : Int) - 48))) : parseZ [43, a, b] = (60 * (10 * ((a.toNat : Int) - 48) + ((b.toNat : Int) - 48)), 0) := by
  rw [pz3_ok (by decide) h1]; unfold finZ; rw [if_neg (by omega), if_neg (by decide)]
theorem pz3_neg {a b : UInt8} (h1 : dgP a ∧ dgP b) (h : ¬ 840 < 60 * (10 * ((a.toNat : Int) - 48) + ((b.toNat : Int) - 48))) : parseZ [45, a, b] = (-(60 * (10 * ((a.toNat : Int) - 48) + ((b.toNat : Int) - 48))), 0) := by
  rw [pz3_ok (by decide) h1]; unfold finZ; rw [if_neg (by omega), if_pos rfl]
theorem pz5_sign {x a b c d : UInt8} (h : signB x = false) : parseZ [x, a, b, c, d] = (0, 3) := by
  rw [pz_R (by simp)]; show (if signB x = true then _ else _) = _; rw [if_neg (by simp [h])]
theorem pz5_bad {x a b c d : UInt8} (h : ¬ ((dgP a ∧ dgP b) ∧ dgP c ∧ dgP d)) : parseZ [x, a, b, c, d] = (0, 3) := by
  rw [pz_R (by simp)]; show (if signB x = true then _ else _) = _; split <;> first | rfl | rw [if_neg h]
theorem pz5_ok {x a b c d : UInt8} (hx : signB x = true) (h1 : (dgP a ∧ dgP b) ∧ dgP c ∧ dgP d) : parseZ [x, a, b, c, d] = finZ x (minsZ a b c d) ((c.toNat : Int) - 48) := by
  rw [pz_R (by simp)]; show (if signB x = true then _ else _) = _; rw [if_pos hx, if_pos h1]
theorem pz5_far {x a b c d : UInt8} (hx : signB x = true) (h1 : (dgP a ∧ dgP b) ∧ dgP c ∧ dgP d) (h : 5 < (c.toNat : Int) - 48 ∨ 840 < minsZ a b c d) : parseZ [x, a, b, c, d] = (0, 2) := by
  rw [pz5_ok hx h1]; unfold finZ; rw [if_pos h]
theorem pz5_pos {a b c d : UInt8} (h1 : (dgP a ∧ dgP b) ∧ dgP c ∧ dgP d) (h : ¬ (5 < (c.toNat : Int) - 48 ∨ 840 < minsZ a b c d)) : parseZ [43, a, b, c, d] = (minsZ a b c d, 0) := by
  rw [pz5_ok (by decide) h1]; unfold finZ; rw [if_neg h, if_neg (by decide)]
theorem pz5_neg {a b c d : UInt8} (h1 : (dgP a ∧ dgP b) ∧ dgP c ∧ dgP d) (h : ¬ (5 < (c.toNat : Int) - 48 ∨ 840 < minsZ a b c d)) : parseZ [45, a, b, c, d] = (-(minsZ a b c d), 0) := by
  rw [pz5_ok (by decide) h1]; unfold finZ; rw [if_neg h, if_pos rfl]

set_option maxRecDepth 100000 in
set_option maxHeartbeats 400000 in
theorem zoneParse_sign3 (x a b : UInt8) (w : World) (hx : x = 43 ∨ x = 45) : Gives 28 #[.string (S [x, a, b])] w (.tuple #[.int .i64 (parseZ [x, a, b]).1, errV (parseZ [x, a, b]).2]) := by
  have ha : a.toNat < 256 := a.toNat_lt
  have hb : b.toNat < 256 := b.toNat_lt
  go_enter Tryd.func28, Tryd.ntmps28
  rcases hx with rfl | rfl
  all_goals
    go_wp2
    refine wp_loop_rounds 3 ?_
    rw [rounds_succ]
    go_wp2
    all_goals try (rw [rounds_succ]; go_wp2)
    all_goals try (rw [rounds_succ]; go_wp2)
    all_goals go_ret2
    all_goals first
      | exact ⟨ret_pz (pz3_bad (by unfold dgP; omega)) rfl rfl, (by repeat (first | exact G.refl _ | assumption | apply G.drew | apply G.alloc | refine G.trans ?_ (by assumption)))⟩
      | exact ⟨ret_pz (pz3_far (by decide) (by unfold dgP; omega) (by omega)) rfl rfl, (by repeat (first | exact G.refl _ | assumption | apply G.drew | apply G.alloc | refine G.trans ?_ (by assumption)))⟩
      | exact ⟨ret_pz (pz3_pos (by unfold dgP; omega) (by omega)) rfl rfl, (by repeat (first | exact G.refl _ | assumption | apply G.drew | apply G.alloc | refine G.trans ?_ (by assumption)))⟩
      | exact ⟨ret_pz (pz3_neg (by unfold dgP; omega) (by omega)) rfl rfl, (by repeat (first | exact G.refl _ | assumption | apply G.drew | apply G.alloc | refine G.trans ?_ (by assumption)))⟩
      | skip
set_option maxRecDepth 100000 in
set_option maxHeartbeats 1000000 in
theorem zoneParse_sign5 (x a b c d : UInt8) (w : World) (hx : x = 43 ∨ x = 45) : Gives 28 #[.string (S [x, a, b, c, d])] w (.tuple #[.int .i64 (parseZ [x, a, b, c, d]).1, errV (parseZ [x, a, b, c, d]).2]) := by
  have ha : a.toNat < 256 := a.toNat_lt
  have hb : b.toNat < 256 := b.toNat_lt
  have hc : c.toNat < 256 := c.toNat_lt
  have hd : d.toNat < 256 := d.toNat_lt
  go_enter Tryd.func28, Tryd.ntmps28
  rcases hx with rfl | rfl
  all_goals
    go_wp2
    refine wp_loop_rounds 5 ?_
    rw [rounds_succ]
    go_wp2
    all_goals try (rw [rounds_succ]; go_wp2)
    all_goals try (rw [rounds_succ]; go_wp2)
    all_goals try (rw [rounds_succ]; go_wp2)
    all_goals try (rw [rounds_succ]; go_wp2)
    all_goals go_ret2
    all_goals first
      | exact ⟨ret_pz (pz5_bad (by unfold dgP; omega)) rfl rfl, (by repeat (first | exact G.refl _ | assumption | apply G.drew | apply G.alloc | refine G.trans ?_ (by assumption)))⟩
      | exact ⟨ret_pz (pz5_far (by decide) (by unfold dgP; omega) (by unfold minsZ; omega)) rfl rfl, (by repeat (first | exact G.refl _ | assumption | apply G.drew | apply G.alloc | refine G.trans ?_ (by assumption)))⟩
      | exact ⟨ret_pz (pz5_pos (by unfold dgP; omega) (by unfold minsZ; omega)) rfl rfl, (by repeat (first | exact G.refl _ | assumption | apply G.drew | apply G.alloc | refine G.trans ?_ (by assumption)))⟩
      | exact ⟨ret_pz (pz5_neg (by unfold dgP; omega) (by unfold minsZ; omega)) rfl rfl, (by repeat (first | exact G.refl _ | assumption | apply G.drew | apply G.alloc | refine G.trans ?_ (by assumption)))⟩
      | skip

theorem parseZ_short {l : List UInt8} (h0 : l ≠ [90]) (h3 : l.length ≠ 3) (h5 : l.length ≠ 5) : parseZ l = (0, 3) := by
  rw [pz_R h0]
  unfold parseR
  split <;> simp_all
set_option maxRecDepth 100000 in
set_option maxHeartbeats 400000 in
theorem zoneParse_any (l : List UInt8) (w : World) (hl : l.length ≤ 140737488355328) : Gives 28 #[.string (S l)] w (.tuple #[.int .i64 (parseZ l).1, errV (parseZ l).2]) := by
  by_cases h0 : l = [90]
  · subst h0
    go_enter Tryd.func28, Tryd.ntmps28
    go_wp2
    go_ret2
    exact ⟨rfl, G.refl _⟩
  by_cases h3 : l.length = 3
  · match l, h3 with
    | [x, a, b], _ =>
      by_cases hx : x = 43 ∨ x = 45
      · exact zoneParse_sign3 x a b w hx
      · have hx1 : ((x.toNat : Int) != 43) = true := bne_iff_ne.2 fun h => hx (Or.inl (UInt8.toNat_inj.1 (by show x.toNat = 43; omega)))
        have hx2 : ((x.toNat : Int) != 45) = true := bne_iff_ne.2 fun h => hx (Or.inr (UInt8.toNat_inj.1 (by show x.toNat = 45; omega)))
        have hp : Hid (parseZ [x, a, b] = (0, 3)) := hid (pz3_sign (by simp [signB]; exact not_or.1 hx))
        clear hx h0 h3
        go_enter Tryd.func28, Tryd.ntmps28
        go_wp2
        go_ret2
        exact ⟨ret_pz hp.out rfl rfl, (by repeat (first | exact G.refl _ | assumption | apply G.drew | apply G.alloc | refine G.trans ?_ (by assumption)))⟩
  by_cases h5 : l.length = 5
  · match l, h5 with
    | [x, a, b, c, d], _ =>
      by_cases hx : x = 43 ∨ x = 45
      · exact zoneParse_sign5 x a b c d w hx
      · have hx1 : ((x.toNat : Int) != 43) = true := bne_iff_ne.2 fun h => hx (Or.inl (UInt8.toNat_inj.1 (by show x.toNat = 43; omega)))
        have hx2 : ((x.toNat : Int) != 45) = true := bne_iff_ne.2 fun h => hx (Or.inr (UInt8.toNat_inj.1 (by show x.toNat = 45; omega)))
        have hp : Hid (parseZ [x, a, b, c, d] = (0, 3)) := hid (pz5_sign (by simp [signB]; exact not_or.1 hx))
        clear hx h0 h3 h5
        go_enter Tryd.func28, Tryd.ntmps28
        go_wp2
        go_ret2
        exact ⟨ret_pz hp.out rfl rfl, (by repeat (first | exact G.refl _ | assumption | apply G.drew | apply G.alloc | refine G.trans ?_ (by assumption)))⟩
  · have hp : Hid (parseZ l = (0, 3)) := hid (parseZ_short h0 h3 h5)
    have g3 : ((l.length : Int) != 3) = true := bne_iff_ne.2 (by omega)
    have g5 : ((l.length : Int) != 5) = true := bne_iff_ne.2 (by omega)
    have g0 : (l == [90]) = false := beq_eq_false_iff_ne.2 h0
    clear h3 h5
    go_enter Tryd.func28, Tryd.ntmps28
    go_wp2
    all_goals go_ret2
    all_goals exact ⟨ret_pz hp.out rfl rfl, (by repeat (first | exact G.refl _ | assumption | apply G.drew | apply G.alloc | refine G.trans ?_ (by assumption)))⟩

end Go.Proofs.YtkhnghcecnghmaaDoor
