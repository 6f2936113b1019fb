/-
  Texts merged into one: Zone, ZoneF, When, Tell.
-/
import Derived.Test.YtfadckackdmbnaaGreatDoorMA60
import Derived.Laws.NewBlocks
import Derived.LaidEql
import Derived.Stop.Asserts
import Derived.RowKitTokens
namespace Go.Proofs.YtfadckackdmbnaaGreatDoor
open Go.RowKit
set_option linter.unusedVariables false
set_option linter.unusedSimpArgs false
def rightZ (n : Int) : Bool := decide (-840 ≤ n) && decide (n ≤ 840)
set_option maxRecDepth 100000 in
set_option maxHeartbeats 400000 in
theorem zoneRight_any (n : Int) (w : World) : Pure 32 #[.int .i64 n] w (.bool (rightZ n)) := by
  by_cases h1 : -840 ≤ n <;> by_cases h2 : n ≤ 840
  all_goals
    go_enter Tryz.func32, Tryz.ntmps32
    go_wp2
    go_ret
    exact ⟨ret_bool (by simp [rightZ, h1, h2]), rfl⟩
def twoL (n : Int) : List UInt8 := [UInt8.ofNat (48 + n / 10).toNat, UInt8.ofNat (48 + n % 10).toNat]
@[simp, go_sem] theorem twoL_length (n : Int) : (twoL n).length = 2 := rfl
set_option maxRecDepth 100000 in
set_option maxHeartbeats 400000 in
theorem two_any (n : Int) (w : World) (h0 : 0 ≤ n) (h1 : n ≤ 99) : Gives 111 #[.int .i64 n] w (.string (S (twoL n))) := by
  go_enter Tryz.func111, Tryz.ntmps111
  go_wp2
  go_ret
  exact ⟨rfl, (G.refl _).alloc _⟩
def printZ (n : Int) : List UInt8 := if n = 0 then [90] else if n < 0 then 45 :: (twoL ((-n) / 60) ++ twoL ((-n) % 60)) else 43 :: (twoL (n / 60) ++ twoL (n % 60))
set_option maxRecDepth 100000 in
set_option maxHeartbeats 400000 in
theorem zonePrint_any (n : Int) (w : World) (h : rightZ n = true) : Gives 65 #[.int .i64 n] w (.tuple #[.string (S (printZ n)), .nilIface]) := by
  have hb : -840 ≤ n ∧ n ≤ 840 := by simpa [rightZ] using h
  by_cases h0 : n = 0
  · subst h0
    go_enter Tryz.func65, Tryz.ntmps65
    go_wp2_with fail
    refine (zoneRight_any _ _).use ?_
    rw [h]
    go_wp2_with fail
    go_ret2
    exact ⟨rfl, (by repeat (first | exact G.refl _ | assumption | apply G.drew | apply G.drewN | apply G.alloc | refine G.trans ?_ (by assumption)))⟩
  · by_cases h1 : n < 0
    · obtain ⟨m, rfl⟩ : ∃ m, n = -m := ⟨-n, by omega⟩
      have h3 : 0 < m := by omega
      have h4 : m ≤ 840 := by omega
      have HP : Hid (printZ (-m) = 45 :: (twoL (m / 60) ++ twoL (m % 60))) := hid (by unfold printZ; rw [if_neg h0, if_pos h1]; simp)
      clear hb
      go_enter Tryz.func65, Tryz.ntmps65
      go_wp2_with fail
      refine (zoneRight_any _ _).use ?_
      rw [h]
      go_wp2_with fail
      refine (two_any (m / 60) _ (by omega) (by omega)).use ?_; intro w1 g1
      go_wp2_with fail
      refine (two_any (m % 60) _ (by omega) (by omega)).use ?_; intro w2 g2
      go_wp2_with fail
      go_ret2
      exact ⟨by rw [HP.out]; rfl, (by repeat (first | exact G.refl _ | assumption | apply G.drew | apply G.drewN | apply G.alloc | refine G.trans ?_ (by assumption)))⟩
    · have HP : Hid (printZ n = 43 :: (twoL (n / 60) ++ twoL (n % 60))) := hid (by unfold printZ; rw [if_neg h0, if_neg h1])
      go_enter Tryz.func65, Tryz.ntmps65
      go_wp2_with fail
      refine (zoneRight_any _ _).use ?_
      rw [h]
      go_wp2_with fail
      refine (two_any (n / 60) _ (by omega) (by omega)).use ?_; intro w1 g1
      go_wp2_with fail
      refine (two_any (n % 60) _ (by omega) (by omega)).use ?_; intro w2 g2
      go_wp2_with fail
      go_ret2
      exact ⟨by rw [HP.out]; rfl, (by repeat (first | exact G.refl _ | assumption | apply G.drew | apply G.drewN | apply G.alloc | refine G.trans ?_ (by assumption)))⟩
def finZ (x : UInt8) (n d2 : Int) : Int × Int := if 5 < d2 ∨ 840 < n then (0, 2) else if x = 45 then (-n, 0) else (n, 0)
def signB (x : UInt8) : Bool := x == 43 || x == 45
def dgP (c : UInt8) : Prop := 48 ≤ (c.toNat : Int) ∧ (c.toNat : Int) ≤ 57
instance (c : UInt8) : Decidable (dgP c) := by unfold dgP; infer_instance
def minsZ (a b c d : UInt8) : Int := 60 * (10 * ((a.toNat : Int) - 48) + ((b.toNat : Int) - 48)) + 10 * ((c.toNat : Int) - 48) + ((d.toNat : Int) - 48)
def parseR : List UInt8 → Int × Int
  | [x, a, b] => if signB x = true then (if dgP a ∧ dgP b then finZ x (60 * (10 * ((a.toNat : Int) - 48) + ((b.toNat : Int) - 48))) 0 else (0, 3)) else (0, 3)
  | [x, a, b, c, d] => if signB x = true then (if (dgP a ∧ dgP b) ∧ dgP c ∧ dgP d then finZ x (minsZ a b c d) ((c.toNat : Int) - 48) else (0, 3)) else (0, 3)
  | _ => (0, 3)
def parseZ (l : List UInt8) : Int × Int := if l = [90] then (0, 0) else parseR l
theorem pz_R {l : List UInt8} (h : l ≠ [90]) : parseZ l = parseR l := by unfold parseZ; rw [if_neg h]
def errV (c : Int) : Value := if c = 0 then .nilIface else eno c
theorem ret_pz {l : List UInt8} {n c : Int} (h : parseZ l = (n, c)) {v e : Value} (hv : v = .int .i64 n) (he : e = errV c) :
    Ending.returned (.tuple #[v, e]) = .returned (.tuple #[.int .i64 (parseZ l).1, errV (parseZ l).2]) := by
  rw [h, hv, he]
theorem pz3_sign {x a b : UInt8} (h : signB x = false) : parseZ [x, a, b] = (0, 3) := by
  rw [pz_R (by simp)]; show (if signB x = true then _ else _) = _; rw [if_neg (by simp [h])]
theorem pz3_bad {x a b : UInt8} (h : ¬ (dgP a ∧ dgP b)) : parseZ [x, a, b] = (0, 3) := by
  rw [pz_R (by simp)]; show (if signB x = true then _ else _) = _; split <;> first | rfl | rw [if_neg h]
theorem pz3_ok {x a b : UInt8} (hx : signB x = true) (h1 : dgP a ∧ dgP b) : parseZ [x, a, b] = finZ x (60 * (10 * ((a.toNat : Int) - 48) + ((b.toNat : Int) - 48))) 0 := by
  rw [pz_R (by simp)]; show (if signB x = true then _ else _) = _; rw [if_pos hx, if_pos h1]
theorem pz3_far {x a b : UInt8} (hx : signB x = true) (h1 : dgP a ∧ dgP b) (h : 840 < 60 * (10 * ((a.toNat : Int) - 48) + ((b.toNat : Int) - 48))) : parseZ [x, a, b] = (0, 2) := by
  rw [pz3_ok hx h1]; unfold finZ; rw [if_pos (Or.inr h)]
theorem pz3_pos {a b : UInt8} (h1 : dgP a ∧ dgP b) (h : ¬ 840 < 60 * (10 * ((a.toNat : Int) - 48) + ((b.toNat : Int) - 48))) : parseZ [43, a, b] = (60 * (10 * ((a.toNat : Int) - 48) + ((b.toNat : Int) - 48)), 0) := by
  rw [pz3_ok (by decide) h1]; unfold finZ; rw [if_neg (by omega), if_neg (by decide)]
theorem pz3_neg {a b : UInt8} (h1 : dgP a ∧ dgP b) (h : ¬ 840 < 60 * (10 * ((a.toNat : Int) - 48) + ((b.toNat : Int) - 48))) : parseZ [45, a, b] = (-(60 * (10 * ((a.toNat : Int) - 48) + ((b.toNat : Int) - 48))), 0) := by
  rw [pz3_ok (by decide) h1]; unfold finZ; rw [if_neg (by omega), if_pos rfl]
theorem pz5_sign {x a b c d : UInt8} (h : signB x = false) : parseZ [x, a, b, c, d] = (0, 3) := by
  rw [pz_R (by simp)]; show (if signB x = true then _ else _) = _; rw [if_neg (by simp [h])]
theorem pz5_bad {x a b c d : UInt8} (h : ¬ ((dgP a ∧ dgP b) ∧ dgP c ∧ dgP d)) : parseZ [x, a, b, c, d] = (0, 3) := by
  rw [pz_R (by simp)]; show (if signB x = true then _ else _) = _; split <;> first | rfl | rw [if_neg h]
theorem pz5_ok {x a b c d : UInt8} (hx : signB x = true) (h1 : (dgP a ∧ dgP b) ∧ dgP c ∧ dgP d) : parseZ [x, a, b, c, d] = finZ x (minsZ a b c d) ((c.toNat : Int) - 48) := by
  rw [pz_R (by simp)]; show (if signB x = true then _ else _) = _; rw [if_pos hx, if_pos h1]
theorem pz5_far {x a b c d : UInt8} (hx : signB x = true) (h1 : (dgP a ∧ dgP b) ∧ dgP c ∧ dgP d) (h : 5 < (c.toNat : Int) - 48 ∨ 840 < minsZ a b c d) : parseZ [x, a, b, c, d] = (0, 2) := by
  rw [pz5_ok hx h1]; unfold finZ; rw [if_pos h]
theorem pz5_pos {a b c d : UInt8} (h1 : (dgP a ∧ dgP b) ∧ dgP c ∧ dgP d) (h : ¬ (5 < (c.toNat : Int) - 48 ∨ 840 < minsZ a b c d)) : parseZ [43, a, b, c, d] = (minsZ a b c d, 0) := by
  rw [pz5_ok (by decide) h1]; unfold finZ; rw [if_neg h, if_neg (by decide)]
theorem pz5_neg {a b c d : UInt8} (h1 : (dgP a ∧ dgP b) ∧ dgP c ∧ dgP d) (h : ¬ (5 < (c.toNat : Int) - 48 ∨ 840 < minsZ a b c d)) : parseZ [45, a, b, c, d] = (-(minsZ a b c d), 0) := by
  rw [pz5_ok (by decide) h1]; unfold finZ; rw [if_neg h, if_pos rfl]
set_option maxRecDepth 100000 in
set_option maxHeartbeats 400000 in
theorem zoneParse_sign3 (x a b : UInt8) (w : World) (hx : x = 43 ∨ x = 45) : Gives 66 #[.string (S [x, a, b])] w (.tuple #[.int .i64 (parseZ [x, a, b]).1, errV (parseZ [x, a, b]).2]) := by
  have ha : a.toNat < 256 := a.toNat_lt
  have hb : b.toNat < 256 := b.toNat_lt
  go_enter Tryz.func66, Tryz.ntmps66
  rcases hx with rfl | rfl
  all_goals
    go_wp2
    refine wp_loop_rounds 3 ?_
    rw [rounds_succ]
    go_wp2
    all_goals try (rw [rounds_succ]; go_wp2)
    all_goals try (rw [rounds_succ]; go_wp2)
    all_goals go_ret2
    all_goals first
      | exact ⟨ret_pz (pz3_bad (by unfold dgP; omega)) rfl rfl, (by repeat (first | exact G.refl _ | assumption | apply G.drew | apply G.drewN | apply G.alloc | refine G.trans ?_ (by assumption)))⟩
      | exact ⟨ret_pz (pz3_far (by decide) (by unfold dgP; omega) (by omega)) rfl rfl, (by repeat (first | exact G.refl _ | assumption | apply G.drew | apply G.drewN | apply G.alloc | refine G.trans ?_ (by assumption)))⟩
      | exact ⟨ret_pz (pz3_pos (by unfold dgP; omega) (by omega)) rfl rfl, (by repeat (first | exact G.refl _ | assumption | apply G.drew | apply G.drewN | apply G.alloc | refine G.trans ?_ (by assumption)))⟩
      | exact ⟨ret_pz (pz3_neg (by unfold dgP; omega) (by omega)) rfl rfl, (by repeat (first | exact G.refl _ | assumption | apply G.drew | apply G.drewN | apply G.alloc | refine G.trans ?_ (by assumption)))⟩
      | skip
set_option maxRecDepth 100000 in
set_option maxHeartbeats 1000000 in
theorem zoneParse_sign5 (x a b c d : UInt8) (w : World) (hx : x = 43 ∨ x = 45) : Gives 66 #[.string (S [x, a, b, c, d])] w (.tuple #[.int .i64 (parseZ [x, a, b, c, d]).1, errV (parseZ [x, a, b, c, d]).2]) := by
  have ha : a.toNat < 256 := a.toNat_lt
  have hb : b.toNat < 256 := b.toNat_lt
  have hc : c.toNat < 256 := c.toNat_lt
  have hd : d.toNat < 256 := d.toNat_lt
  go_enter Tryz.func66, Tryz.ntmps66
  rcases hx with rfl | rfl
  all_goals
    go_wp2
    refine wp_loop_rounds 5 ?_
    rw [rounds_succ]
    go_wp2
    all_goals try (rw [rounds_succ]; go_wp2)
    all_goals try (rw [rounds_succ]; go_wp2)
    all_goals try (rw [rounds_succ]; go_wp2)
    all_goals try (rw [rounds_succ]; go_wp2)
    all_goals go_ret2
    all_goals first
      | exact ⟨ret_pz (pz5_bad (by unfold dgP; omega)) rfl rfl, (by repeat (first | exact G.refl _ | assumption | apply G.drew | apply G.drewN | apply G.alloc | refine G.trans ?_ (by assumption)))⟩
      | exact ⟨ret_pz (pz5_far (by decide) (by unfold dgP; omega) (by unfold minsZ; omega)) rfl rfl, (by repeat (first | exact G.refl _ | assumption | apply G.drew | apply G.drewN | apply G.alloc | refine G.trans ?_ (by assumption)))⟩
      | exact ⟨ret_pz (pz5_pos (by unfold dgP; omega) (by unfold minsZ; omega)) rfl rfl, (by repeat (first | exact G.refl _ | assumption | apply G.drew | apply G.drewN | apply G.alloc | refine G.trans ?_ (by assumption)))⟩
      | exact ⟨ret_pz (pz5_neg (by unfold dgP; omega) (by unfold minsZ; omega)) rfl rfl, (by repeat (first | exact G.refl _ | assumption | apply G.drew | apply G.drewN | apply G.alloc | refine G.trans ?_ (by assumption)))⟩
      | skip
theorem parseZ_short {l : List UInt8} (h0 : l ≠ [90]) (h3 : l.length ≠ 3) (h5 : l.length ≠ 5) : parseZ l = (0, 3) := by
  rw [pz_R h0]
  unfold parseR
  split <;> simp_all
set_option maxRecDepth 100000 in
set_option maxHeartbeats 400000 in
theorem zoneParse_any (l : List UInt8) (w : World) (hl : l.length ≤ 140737488355328) : Gives 66 #[.string (S l)] w (.tuple #[.int .i64 (parseZ l).1, errV (parseZ l).2]) := by
  by_cases h0 : l = [90]
  · subst h0
    go_enter Tryz.func66, Tryz.ntmps66
    go_wp2
    go_ret2
    exact ⟨rfl, G.refl _⟩
  by_cases h3 : l.length = 3
  · match l, h3 with
    | [x, a, b], _ =>
      by_cases hx : x = 43 ∨ x = 45
      · exact zoneParse_sign3 x a b w hx
      · have hx1 : ((x.toNat : Int) != 43) = true := bne_iff_ne.2 fun h => hx (Or.inl (UInt8.toNat_inj.1 (by show x.toNat = 43; omega)))
        have hx2 : ((x.toNat : Int) != 45) = true := bne_iff_ne.2 fun h => hx (Or.inr (UInt8.toNat_inj.1 (by show x.toNat = 45; omega)))
        have hp : Hid (parseZ [x, a, b] = (0, 3)) := hid (pz3_sign (by simp [signB]; exact not_or.1 hx))
        clear hx h0 h3
        go_enter Tryz.func66, Tryz.ntmps66
        go_wp2
        go_ret2
        exact ⟨ret_pz hp.out rfl rfl, (by repeat (first | exact G.refl _ | assumption | apply G.drew | apply G.drewN | apply G.alloc | refine G.trans ?_ (by assumption)))⟩
  by_cases h5 : l.length = 5
  · match l, h5 with
    | [x, a, b, c, d], _ =>
      by_cases hx : x = 43 ∨ x = 45
      · exact zoneParse_sign5 x a b c d w hx
      · have hx1 : ((x.toNat : Int) != 43) = true := bne_iff_ne.2 fun h => hx (Or.inl (UInt8.toNat_inj.1 (by show x.toNat = 43; omega)))
        have hx2 : ((x.toNat : Int) != 45) = true := bne_iff_ne.2 fun h => hx (Or.inr (UInt8.toNat_inj.1 (by show x.toNat = 45; omega)))
        have hp : Hid (parseZ [x, a, b, c, d] = (0, 3)) := hid (pz5_sign (by simp [signB]; exact not_or.1 hx))
        clear hx h0 h3 h5
        go_enter Tryz.func66, Tryz.ntmps66
        go_wp2
        go_ret2
        exact ⟨ret_pz hp.out rfl rfl, (by repeat (first | exact G.refl _ | assumption | apply G.drew | apply G.drewN | apply G.alloc | refine G.trans ?_ (by assumption)))⟩
  · have hp : Hid (parseZ l = (0, 3)) := hid (parseZ_short h0 h3 h5)
    have g3 : ((l.length : Int) != 3) = true := bne_iff_ne.2 (by omega)
    have g5 : ((l.length : Int) != 5) = true := bne_iff_ne.2 (by omega)
    have g0 : (l == [90]) = false := beq_eq_false_iff_ne.2 h0
    clear h3 h5
    go_enter Tryz.func66, Tryz.ntmps66
    go_wp2
    all_goals go_ret2
    all_goals exact ⟨ret_pz hp.out rfl rfl, (by repeat (first | exact G.refl _ | assumption | apply G.drew | apply G.drewN | apply G.alloc | refine G.trans ?_ (by assumption)))⟩
end Go.Proofs.YtfadckackdmbnaaGreatDoor

namespace Go.Proofs.YtfadckackdmbnaaGreatDoor
open Go.RowKit
set_option linter.unusedVariables false
set_option linter.unusedSimpArgs false
theorem print_parse_all : (List.range 1681).all (fun k => decide (parseZ (printZ ((k : Int) - 840)) = ((k : Int) - 840, 0))) = true := by decide +kernel
theorem print_parse (n : Int) (h : rightZ n = true) : parseZ (printZ n) = (n, 0) := by
  have hb : -840 ≤ n ∧ n ≤ 840 := by simpa [rightZ] using h
  have := List.all_eq_true.1 print_parse_all (n + 840).toNat (by simp; omega)
  have e : (((n + 840).toNat : Nat) : Int) - 840 = n := by omega
  rw [e] at this
  exact of_decide_eq_true this
theorem printZ_le (n : Int) : (printZ n).length ≤ 5 := by
  unfold printZ; split
  · simp
  · split <;> simp
theorem zonePrint_to (n : Int) (t : List UInt8) (w : World) (h : rightZ n = true) (ht : printZ n = t) : Gives 65 #[.int .i64 n] w (.tuple #[.string (S t), .nilIface]) := by
  subst ht; exact zonePrint_any n w h
theorem zoneParse_to (l : List UInt8) (n : Int) (w : World) (hl : l.length ≤ 1000) (h : parseZ l = (n, 0)) : Gives 66 #[.string (S l)] w (.tuple #[.int .i64 n, .nilIface]) := by
  have := zoneParse_any l w (by omega)
  rw [h] at this; exact this
set_option maxRecDepth 100000 in
set_option maxHeartbeats 400000 in
theorem zoned_any (w : World) : Gives 31 #[] w (.bool true) := by
  go_enter Tryz.func31, Tryz.ntmps31
  go_wp2_with fail
  refine (zonePrint_to (-150) [45, 48, 50, 51, 48] _ (by decide) (by decide)).use ?_; intro w1 g1
  go_wp2_with fail
  refine (zoneParse_to [43, 48, 53] 300 _ (by simp) (by decide)).use ?_; intro w2 g2
  go_wp2_with fail
  go_ret
  exact ⟨rfl, (by repeat (first | exact G.refl _ | assumption | apply G.drew | apply G.drewN | apply G.alloc | refine G.trans ?_ (by assumption)))⟩
end Go.Proofs.YtfadckackdmbnaaGreatDoor

namespace Go.Proofs.YtfadckackdmbnaaGreatDoor
open Go.RowKit
set_option linter.unusedVariables false
set_option linter.unusedSimpArgs false
def dgF (n : Int) : UInt8 := if n = -1 then 45 else 57
def formL (a b c : Int) : List UInt8 := [dgF a, dgF b, dgF c]
theorem dgF_no : dgF (-1) = 45 := rfl
theorem dgF_yes {n : Int} (h : n ≠ -1) : dgF n = 57 := if_neg h
set_option maxRecDepth 100000 in
set_option maxHeartbeats 2000000 in
theorem form_any (a b c : Int) (q : Nat) (w : World) (h0 : w.cell? ⟨q, 0, none⟩ = some (.int .i64 a)) (h1 : w.cell? ⟨q, 1, none⟩ = some (.int .i64 b)) (h2 : w.cell? ⟨q, 2, none⟩ = some (.int .i64 c)) (hq : q < w.heap.size) :
    Gives 181 #[.slice (some ⟨q, 0, none⟩) 3 3] w (.string (S (formL a b c))) := by
  have hmk : ∀ w, (Instr.makeSlice 114 (.int .i64 3) (.int .i64 3)).run Tryz.prog w = .ok (.slice (some ⟨w.heap.size, 0, none⟩) 3 3) (w.alloc (.cells #[.int .u8 0, .int .u8 0, .int .u8 0] 5)) := fun _ => by kernel_rfl
  have HF : Hid (formL a b c = [dgF a, dgF b, dgF c]) := hid rfl
  have e0 : ¬ q = w.heap.size := by omega
  have ba : a = -1 ∧ (a != -1) = false ∨ a ≠ -1 ∧ (a != -1) = true := by by_cases h : a = -1; exact .inl ⟨h, by simp [h]⟩; exact .inr ⟨h, by simpa [bne_iff_ne] using h⟩
  have bb : b = -1 ∧ (b != -1) = false ∨ b ≠ -1 ∧ (b != -1) = true := by by_cases h : b = -1; exact .inl ⟨h, by simp [h]⟩; exact .inr ⟨h, by simpa [bne_iff_ne] using h⟩
  have bc : c = -1 ∧ (c != -1) = false ∨ c ≠ -1 ∧ (c != -1) = true := by by_cases h : c = -1; exact .inl ⟨h, by simp [h]⟩; exact .inr ⟨h, by simpa [bne_iff_ne] using h⟩
  rcases ba with ⟨xa, ba⟩ | ⟨xa, ba⟩ <;> rcases bb with ⟨xb, bb⟩ | ⟨xb, bb⟩ <;> rcases bc with ⟨xc, bc⟩ | ⟨xc, bc⟩
  all_goals
    have XA := hid xa
    have XB := hid xb
    have XC := hid xc
    clear xa xb xc
    go_enter Tryz.func181, Tryz.ntmps181
    go_wp2
    refine wp_loop_rounds 4 ?_
    rw [rounds_succ]
    go_wp2
    rw [rounds_succ]
    go_wp2
    rw [rounds_succ]
    go_wp2
    rw [rounds_succ]
    go_wp2
    go_ret
    refine ⟨?_, (G.refl _).alloc _⟩
    rw [HF.out]
    simp only [dgF, XA.out, XB.out, XC.out, if_true, if_false]
    rfl
def wth (n a b : Int) : Bool := decide (n = -1) || (decide (a ≤ n) && decide (n ≤ b))
set_option maxRecDepth 100000 in
set_option maxHeartbeats 400000 in
theorem within_any (n a b : Int) (w : World) : Pure 184 #[.int .i64 n, .int .i64 a, .int .i64 b] w (.bool (wth n a b)) := by
  by_cases h1 : n = -1
  · subst h1
    go_enter Tryz.func184, Tryz.ntmps184
    go_wp2
    go_ret
    exact ⟨ret_bool (by simp [wth]), rfl⟩
  · have b1 : (n == -1) = false := by simpa using h1
    by_cases h2 : a ≤ n <;> by_cases h3 : n ≤ b
    all_goals
      go_enter Tryz.func184, Tryz.ntmps184
      go_wp2
      go_ret
      exact ⟨ret_bool (by simp [wth, h1, h2, h3]), rfl⟩
def daysL (y m : Int) : Int :=
  if m < 1 ∨ 12 < m then 0
  else if m = 2 ∧ y ≠ -1 ∧ (y.tmod 4 ≠ 0 ∨ y.tmod 100 = 0 ∧ y.tmod 400 ≠ 0) then 28
  else if m = 2 then 29
  else if m = 4 ∨ m = 6 ∨ m = 9 ∨ m = 11 then 30 else 31
set_option maxRecDepth 100000 in
set_option maxHeartbeats 4000000 in
theorem days_any (y m : Int) (w : World) (hy : -9223372036854775808 ≤ y ∧ y ≤ 9223372036854775807) : Pure 183 #[.int .i64 y, .int .i64 m] w (.int .i64 (daysL y m)) := by
  by_cases h0 : m < 1 ∨ 12 < m
  · have HR : Hid (daysL y m = 0) := hid (by unfold daysL; rw [if_pos h0])
    by_cases h1 : m < 1
    · clear h0
      go_enter Tryz.func183, Tryz.ntmps183
      go_wp2
      go_ret
      exact ⟨ret_int HR.out.symm, rfl⟩
    · have h2 : 12 < m := by omega
      clear h0
      go_enter Tryz.func183, Tryz.ntmps183
      go_wp2
      go_ret
      exact ⟨ret_int HR.out.symm, rfl⟩
  · have hm : 1 ≤ m ∧ m ≤ 12 := by omega
    obtain ⟨hm1, hm2⟩ := hm
    by_cases h2 : m = 2
    · subst h2
      by_cases hy1 : y = -1
      · subst hy1
        go_enter Tryz.func183, Tryz.ntmps183
        go_wp2
        go_ret
        exact ⟨rfl, rfl⟩
      · have b1 : (y != -1) = true := by simpa [bne_iff_ne] using hy1
        have q4 : (y.tmod 4 != 0) = true ∧ y.tmod 4 ≠ 0 ∨ (y.tmod 4 != 0) = false ∧ y.tmod 4 = 0 := by by_cases h : y.tmod 4 = 0; exact .inr ⟨by simp [h], h⟩; exact .inl ⟨by simpa [bne_iff_ne] using h, h⟩
        have q100 : (y.tmod 100 == 0) = true ∧ y.tmod 100 = 0 ∨ (y.tmod 100 == 0) = false ∧ y.tmod 100 ≠ 0 := by by_cases h : y.tmod 100 = 0; exact .inl ⟨by simp [h], h⟩; exact .inr ⟨by simpa using h, h⟩
        have q400 : (y.tmod 400 != 0) = true ∧ y.tmod 400 ≠ 0 ∨ (y.tmod 400 != 0) = false ∧ y.tmod 400 = 0 := by by_cases h : y.tmod 400 = 0; exact .inr ⟨by simp [h], h⟩; exact .inl ⟨by simpa [bne_iff_ne] using h, h⟩
        rcases q4 with ⟨b4, q4⟩ | ⟨b4, q4⟩ <;> rcases q100 with ⟨b100, q100⟩ | ⟨b100, q100⟩ <;> rcases q400 with ⟨b400, q400⟩ | ⟨b400, q400⟩
        all_goals
          have HR : Hid (daysL y 2 = if y.tmod 4 ≠ 0 ∨ y.tmod 100 = 0 ∧ y.tmod 400 ≠ 0 then 28 else 29) := hid (by unfold daysL; rw [if_neg (by omega)]; by_cases h : y.tmod 4 ≠ 0 ∨ y.tmod 100 = 0 ∧ y.tmod 400 ≠ 0 <;> simp [h, hy1])
          have Q4 := hid q4
          have Q100 := hid q100
          have Q400 := hid q400
          clear q4 q100 q400 hm1 hm2 h0 hy1
          go_enter Tryz.func183, Tryz.ntmps183
          go_wp2
          go_ret
          refine ⟨ret_int ?_, rfl⟩
          rw [HR.out]
          simp [Q4.out, Q100.out, Q400.out]
    · have b2 : (m == 2) = false := by simpa using h2
      have hm3 : m = 1 ∨ m = 3 ∨ m = 4 ∨ m = 5 ∨ m = 6 ∨ m = 7 ∨ m = 8 ∨ m = 9 ∨ m = 10 ∨ m = 11 ∨ m = 12 := by omega
      clear h0 h2 b2
      rcases hm3 with rfl | rfl | rfl | rfl | rfl | rfl | rfl | rfl | rfl | rfl | rfl
      all_goals
        go_enter Tryz.func183, Tryz.ntmps183
        go_wp2
        go_ret
        exact ⟨rfl, rfl⟩
def digL (n : Int) : Nat → List UInt8
  | 0 => []
  | k + 1 => digL (n / 10) k ++ [UInt8.ofNat (48 + n % 10).toNat]
theorem digL_length (k : Nat) : ∀ n, (digL n k).length = k := by
  induction k with
  | zero => intro n; rfl
  | succ k ih => intro n; simp [digL, ih]
set_option maxRecDepth 100000 in
set_option maxHeartbeats 2000000 in
theorem digits2_any (n : Int) (w : World) (h0 : 0 ≤ n) (h1 : n ≤ 9999) : Gives 187 #[.int .i64 n, .int .i64 2] w (.string (S (digL n 2))) := by
  have hmk : ∀ w, (Instr.makeSlice 114 (.int .i64 2) (.int .i64 2)).run Tryz.prog w = .ok (.slice (some ⟨w.heap.size, 0, none⟩) 2 2) (w.alloc (.cells #[.int .u8 0, .int .u8 0] 5)) := fun _ => by kernel_rfl
  go_enter Tryz.func187, Tryz.ntmps187
  go_wp2
  refine wp_loop_rounds 3 ?_
  rw [rounds_succ]
  go_wp2
  rw [rounds_succ]
  go_wp2
  rw [rounds_succ]
  go_wp2
  go_ret
  exact ⟨rfl, (G.refl _).alloc _⟩
set_option maxRecDepth 100000 in
set_option maxHeartbeats 2000000 in
theorem digits4_any (n : Int) (w : World) (h0 : 0 ≤ n) (h1 : n ≤ 9999) : Gives 187 #[.int .i64 n, .int .i64 4] w (.string (S (digL n 4))) := by
  have hmk : ∀ w, (Instr.makeSlice 114 (.int .i64 4) (.int .i64 4)).run Tryz.prog w = .ok (.slice (some ⟨w.heap.size, 0, none⟩) 4 4) (w.alloc (.cells #[.int .u8 0, .int .u8 0, .int .u8 0, .int .u8 0] 5)) := fun _ => by kernel_rfl
  go_enter Tryz.func187, Tryz.ntmps187
  go_wp2
  refine wp_loop_rounds 5 ?_
  rw [rounds_succ]
  go_wp2
  rw [rounds_succ]
  go_wp2
  rw [rounds_succ]
  go_wp2
  rw [rounds_succ]
  go_wp2
  rw [rounds_succ]
  go_wp2
  go_ret
  exact ⟨rfl, (G.refl _).alloc _⟩
end Go.Proofs.YtfadckackdmbnaaGreatDoor

namespace Go.Proofs.YtfadckackdmbnaaGreatDoor
open Go.RowKit Go.Extern.Stop Go.Stop Go.Extern
set_option linter.unusedVariables false
set_option linter.unusedSimpArgs false
noncomputable def hA (t : TypeId) : Addr := ⟨Tryz.prog.globals.size, t, none⟩
def LaidE (w : World) : Prop := w.cell? ⟨0, 0, none⟩ = some (.iface 188 (.agg #[(.pointer (some (hA 39)))]))
theorem LaidE.lt {w : World} (h : LaidE w) : 0 < w.heap.size := by
  rcases Nat.lt_or_ge 0 w.heap.size with h1 | h1
  · exact h1
  · unfold LaidE at h; simp [World.cell?, Array.getElem?_eq_none h1] at h
theorem LaidE.grow {w w' : World} (h : LaidE w) (g : G w w') : LaidE w' := by
  unfold LaidE; rw [g.cell h.lt]; exact h
theorem rl.valueOfP (t : Addr) (w : World) : (ReflectliteValue.unpack (.iface 101 (.pointer (some t)))).run Tryz.prog w
    = .ok (.agg #[(.pointer (some (hA 101))), .pointer (some ⟨w.heap.size, 0, none⟩), .int .u64 150]) (w.alloc (.cells #[.pointer (some t)] 101)) := by kernel_rfl
theorem rl.typeP (a : Addr) (w : World) : (ReflectliteValue.methodAny (ReflectliteValue.valueError "reflectlite.Value.Type" 0) (fun t _ _ _ => ReflectliteType.toType t) #[.agg #[(.pointer (some (hA 101))), .pointer (some a), .int .u64 150]]).run Tryz.prog w
    = .ok (.iface 188 (.agg #[(.pointer (some (hA 101)))])) w := by kernel_rfl
theorem rl.kindP (w : World) : ((ReflectliteType.abiMethod fun t => (fun a : Nat => Value.int IntKind.u8 (a : Int)) <$> Rtype.kind t) #[(.pointer (some (hA 101)))]).run Tryz.prog w = .ok (.int .u8 22) w := by kernel_rfl
theorem rl.kindE (w : World) : ((ReflectliteType.abiMethod fun t => (fun a : Nat => Value.int IntKind.u8 (a : Int)) <$> Rtype.kind t) #[(.pointer (some (hA 60)))]).run Tryz.prog w = .ok (.int .u8 2) w := by kernel_rfl
theorem rl.rlm (z : Sem Value) (f : TypeId → Addr → Nat → Nat → Sem Value) (v : Value) :
    ReflectliteValue.method z f #[v] = (do match ← ReflectliteValue.parts v with | none => z | some (t, a, fl) => f t a fl (fl % 32)) := rfl
theorem rl.partsP (a : Addr) (w : World) : (ReflectliteValue.parts (.agg #[(.pointer (some (hA 101))), .pointer (some a), .int .u64 150])).run Tryz.prog w = .ok (some (101, a, 150)) w := by kernel_rfl
theorem rl.isNilP (a p : Addr) (W : World) (ha : W.cell? a = some (.pointer (some p))) :
    (ReflectliteValue.method (ReflectliteValue.valueError "reflectlite.Value.IsNil" 0) ReflectliteValue.isNil #[.agg #[(.pointer (some (hA 101))), .pointer (some a), .int .u64 150]]).run Tryz.prog W = .ok (.bool false) W := by
  rw [rl.rlm]
  simp only [Sem.run_bind, rl.partsP, Result.andThen]
  simp [ReflectliteValue.isNil, loadVar, isAgg, underlying, Tryz.underlying101, ha, Result.andThen]
theorem rl.elemP (w : World) : (ReflectliteType.method ReflectliteType.elem #[.agg #[(.pointer (some (hA 101)))]]).run Tryz.prog w = .ok (.iface 188 (.agg #[(.pointer (some (hA 60)))])) w := by kernel_rfl
theorem rl.implE (w : World) : (ReflectliteType.relation "Implements" ReflectliteType.implements_ #[.agg #[(.pointer (some (hA 60)))], .iface 188 (.agg #[(.pointer (some (hA 39)))])]).run Tryz.prog w = .ok (.bool true) w := by kernel_rfl
theorem rl.typeOfE (v : Value) (w : World) : (ReflectliteType.typeOf #[.iface 60 v]).run Tryz.prog w = .ok (.iface 188 (.agg #[(.pointer (some (hA 60)))])) w := by kernel_rfl
theorem rl.typeOfA (v : Value) (w : World) : (ReflectliteType.typeOf #[.iface 78 v]).run Tryz.prog w = .ok (.iface 188 (.agg #[(.pointer (some (hA 78)))])) w := by kernel_rfl
theorem rl.assE (w : World) : (ReflectliteType.relation "AssignableTo" ReflectliteType.assignableTo #[.agg #[(.pointer (some (hA 60)))], .iface 188 (.agg #[(.pointer (some (hA 60)))])]).run Tryz.prog w = .ok (.bool true) w := by kernel_rfl
theorem rl.assA (w : World) : (ReflectliteType.relation "AssignableTo" ReflectliteType.assignableTo #[.agg #[(.pointer (some (hA 78)))], .iface 188 (.agg #[(.pointer (some (hA 60)))])]).run Tryz.prog w = .ok (.bool false) w := by kernel_rfl
theorem rl.valueOfE (n : Int) (w : World) : (ReflectliteValue.unpack (.iface 60 (.int .i64 n))).run Tryz.prog w
    = .ok (.agg #[(.pointer (some (hA 60))), .pointer (some ⟨w.heap.size, 0, none⟩), .int .u64 130]) (w.alloc (.cells #[.int .i64 n] 60)) := by kernel_rfl
theorem rl.elemOfP (w : World) : (Rtype.elem? 101).run Tryz.prog w = .ok (some 60) w := by kernel_rfl
theorem rl.mkE (p : Addr) (w : World) : (ReflectliteValue.mk 60 p ReflectliteValue.flagAddr).run Tryz.prog w = .ok (.agg #[(.pointer (some (hA 60))), .pointer (some p), .int .u64 386]) w := by kernel_rfl
theorem rl.elemVP (a p : Addr) (W : World) (ha : W.cell? a = some (.pointer (some p))) :
    (ReflectliteValue.method (ReflectliteValue.valueError "reflectlite.Value.Elem" 0) ReflectliteValue.elem #[.agg #[(.pointer (some (hA 101))), .pointer (some a), .int .u64 150]]).run Tryz.prog W
      = .ok (.agg #[(.pointer (some (hA 60))), .pointer (some p), .int .u64 386]) W := by
  rw [rl.rlm]
  simp only [Sem.run_bind, rl.partsP, Result.andThen]
  simp [ReflectliteValue.elem, loadVar, isAgg, underlying, Tryz.underlying101, ha, Result.andThen, rl.elemOfP, rl.mkE]
theorem rl.partsEa (a : Addr) (w : World) : (ReflectliteValue.parts (.agg #[(.pointer (some (hA 60))), .pointer (some a), .int .u64 386])).run Tryz.prog w = .ok (some (60, a, 386)) w := by kernel_rfl
theorem rl.partsE (a : Addr) (w : World) : (ReflectliteValue.parts (.agg #[(.pointer (some (hA 60))), .pointer (some a), .int .u64 130])).run Tryz.prog w = .ok (some (60, a, 130)) w := by kernel_rfl
theorem rl.rls (v x : Value) : ReflectliteValue.set #[v, x] = (do
    let (some (dst, a, fl), some (src, b, _)) := (← ReflectliteValue.parts v, ← ReflectliteValue.parts x)
      | unsupported (.noEntry "extern/(internal/reflectlite.Value).Set.zeroValue")
    if fl / ReflectliteValue.flagAddr % 2 == 0 then unsupported (.noEntry "extern/(internal/reflectlite.Value).Set.unaddressable")
    let val ← loadVar src b
    if ← Rtype.directlyAssignable dst src then storeVar dst a val
    else if ← Rtype.implements dst src then
      if (← Rtype.kind src) == 20 then
        match val with
        | .nilIface => unsupported (.noEntry "extern/reflectlite: a nil value of one interface type handed on as a value of another")
        | _ => storeVar dst a val
      else storeVar dst a (.iface src val)
    else panicString ("reflectlite.Set: value of type " ++ (← Rtype.spelt src) ++ " is not assignable to type " ++ (← Rtype.spelt dst))
    pure (.tuple #[])) := rfl
theorem rl.directE (w : World) : (Rtype.directlyAssignable 60 60).run Tryz.prog w = .ok true w := by kernel_rfl
theorem rl.setE (ta b : Addr) (n : Int) (old : Value) (W : World) (hb : W.cell? b = some (.int .i64 n)) (ht : W.cell? ta = some old) (hf : W.frozen? ta = false) :
    (ReflectliteValue.set #[.agg #[(.pointer (some (hA 60))), .pointer (some ta), .int .u64 386], .agg #[(.pointer (some (hA 60))), .pointer (some b), .int .u64 130]]).run Tryz.prog W
      = .ok (.tuple #[]) (W.setCell ta (.int .i64 n)) := by
  rw [rl.rls]
  simp only [Sem.run_bind, rl.partsEa, rl.partsE, Result.andThen]
  simp [ReflectliteValue.flagAddr, loadVar, isAgg, underlying, Tryz.underlying60, hb, Result.andThen, rl.directE, storeVar, Value.cells, storeCells, Addr.add]
  rw [run_store Tryz.prog W ta _ _ (by rfl)]
  simp [ht, hf]
theorem rl.methodKind (h : Value) (w : World) : (Go.method 504 188 (.agg #[h]) "Kind").run Tryz.prog w = .ok (292, h) w := by kernel_rfl
theorem rl.methodElem (h : Value) (w : World) : (Go.method 504 188 (.agg #[h]) "Elem").run Tryz.prog w = .ok (304, .agg #[h]) w := by kernel_rfl
theorem rl.methodImplements (h : Value) (w : World) : (Go.method 504 188 (.agg #[h]) "Implements").run Tryz.prog w = .ok (305, .agg #[h]) w := by kernel_rfl
theorem rl.methodAssignableTo (h : Value) (w : World) : (Go.method 504 188 (.agg #[h]) "AssignableTo").run Tryz.prog w = .ok (302, .agg #[h]) w := by kernel_rfl
theorem rl.methodUnwrap (h : Value) (w : World) : (Go.method 504 78 h "Unwrap").run Tryz.prog w = .ok (297, h) w := by kernel_rfl
theorem rl.noAs (v : Value) (w : World) : (Instr.typeAssert (.iface 78 v) 39 193 true).run Tryz.prog w = .ok (.tuple #[.nilIface, .bool false]) w := run_typeAssert_lacksB Tryz.underlying193 (by kernel_rfl) (by kernel_rfl) v 39 w
theorem rl.unwraps (v : Value) (w : World) : (Instr.typeAssert (.iface 78 v) 39 196 true).run Tryz.prog w = .ok (.tuple #[.iface 78 v, .bool true]) w := run_typeAssert_hasB Tryz.underlying196 (by kernel_rfl) v 39 w
set_option maxRecDepth 100000 in
set_option maxHeartbeats 4000000 in
theorem as_eno (n : Int) (t : Addr) (old : Value) (w : World) (hg : LaidE w) (ht0 : w.cell? t = some old) (hf0 : w.frozen? t = false) :
    Calls Tryz.prog 67 #[.iface 60 (.int .i64 n), .iface 101 (.pointer (some t))] w fun ev w' => ev = .returned (.bool true) ∧ ∃ w1, G w w1 ∧ w' = w1.setCell t (.int .i64 n) := by
  have h6 := @run_callFunc_extern Tryz.prog 112 _ (fun args => ReflectliteValue.unpack (args.getD 0 (.tuple #[]))) Tryz.func112 (by kernel_rfl) (by kernel_rfl) (by kernel_rfl) (by kernel_rfl)
  have h7 := @run_callFunc_extern Tryz.prog 113 _ (ReflectliteValue.methodAny (ReflectliteValue.valueError "reflectlite.Value.Type" 0) (fun t _ _ _ => ReflectliteType.toType t)) Tryz.func113 (by kernel_rfl) (by kernel_rfl) (by kernel_rfl) (by kernel_rfl)
  have h8 := @run_callFunc_extern Tryz.prog 114 _ (ReflectliteValue.method (ReflectliteValue.valueError "reflectlite.Value.IsNil" 0) ReflectliteValue.isNil) Tryz.func114 (by kernel_rfl) (by kernel_rfl) (by kernel_rfl) (by kernel_rfl)
  have h37 := @run_callFunc_extern Tryz.prog 304 _ (ReflectliteType.method ReflectliteType.elem) Tryz.func304 (by kernel_rfl) (by kernel_rfl) (by kernel_rfl) (by kernel_rfl)
  have h38 := @run_callFunc_extern Tryz.prog 305 _ (ReflectliteType.relation "Implements" ReflectliteType.implements_) Tryz.func305 (by kernel_rfl) (by kernel_rfl) (by kernel_rfl) (by kernel_rfl)
  have h10 := @run_callFunc_extern Tryz.prog 159 _ ReflectliteType.typeOf Tryz.func159 (by kernel_rfl) (by kernel_rfl) (by kernel_rfl) (by kernel_rfl)
  have h35 := @run_callFunc_extern Tryz.prog 302 _ (ReflectliteType.relation "AssignableTo" ReflectliteType.assignableTo) Tryz.func302 (by kernel_rfl) (by kernel_rfl) (by kernel_rfl) (by kernel_rfl)
  have h11 := @run_callFunc_extern Tryz.prog 160 _ (ReflectliteValue.method (ReflectliteValue.valueError "reflectlite.Value.Elem" 0) ReflectliteValue.elem) Tryz.func160 (by kernel_rfl) (by kernel_rfl) (by kernel_rfl) (by kernel_rfl)
  have h12 := @run_callFunc_extern Tryz.prog 161 _ ReflectliteValue.set Tryz.func161 (by kernel_rfl) (by kernel_rfl) (by kernel_rfl) (by kernel_rfl)
  have h27 := @run_callFunc_extern Tryz.prog 292 _ (ReflectliteType.abiMethod fun t => do pure (.int .u8 (← Rtype.kind t))) Tryz.func292 (by kernel_rfl) (by kernel_rfl) (by kernel_rfl) (by kernel_rfl)
  have f6 := rl.valueOfP
  have f7 := rl.typeP
  have mK := rl.methodKind
  have mE := rl.methodElem
  have mI := rl.methodImplements
  have mA := rl.methodAssignableTo
  have kP := rl.kindP
  have kE := rl.kindE
  have eP := rl.elemP
  have iE := rl.implE
  have tO := rl.typeOfE
  have aE := rl.assE
  have vE := rl.valueOfE
  obtain ⟨w1, hw1⟩ : ∃ w1, w1 = (w.alloc (.cells #[.pointer (some t)] 101)) := ⟨_, rfl⟩
  have n8 := rl.isNilP ⟨w.heap.size, 0, none⟩ t ((w.alloc (.cells #[.pointer (some t)] 101)).alloc (.cells #[.pointer (some (hA 101)), .pointer (some ⟨w.heap.size, 0, none⟩), .int .u64 150] 147)) (by simp)
  have hlt := hg.lt
  have hg2 : ((w.alloc (.cells #[.pointer (some t)] 101)).alloc (.cells #[.pointer (some (hA 101)), .pointer (some ⟨w.heap.size, 0, none⟩), .int .u64 150] 147)).cell? ⟨0, 0, none⟩ = some (.iface 188 (.agg #[.pointer (some (hA 39))])) := by
    rw [World.cell?_alloc_lt _ _ ⟨0, 0, none⟩ (Nat.lt_of_lt_of_le hlt (by simp)), World.cell?_alloc_lt _ _ ⟨0, 0, none⟩ hlt]; exact hg
  have htl : t.block < w.heap.size := by
    rcases Nat.lt_or_ge t.block w.heap.size with h | h
    · exact h
    · simp [World.cell?, Array.getElem?_eq_none h] at ht0
  have el := rl.elemVP ⟨w.heap.size, 0, none⟩ t (((w.alloc (.cells #[.pointer (some t)] 101)).alloc (.cells #[.pointer (some (hA 101)), .pointer (some ⟨w.heap.size, 0, none⟩), .int .u64 150] 147)).alloc (.cells #[.pointer (some (hA 101)), .pointer (some ⟨w.heap.size, 0, none⟩), .int .u64 150] 147)) (by rw [World.cell?_alloc_lt _ _ ⟨w.heap.size, 0, none⟩ (by simp; omega)]; simp)
  have st := rl.setE t ⟨w.heap.size + 1 + 1 + 1, 0, none⟩ n old ((((w.alloc (.cells #[.pointer (some t)] 101)).alloc (.cells #[.pointer (some (hA 101)), .pointer (some ⟨w.heap.size, 0, none⟩), .int .u64 150] 147)).alloc (.cells #[.pointer (some (hA 101)), .pointer (some ⟨w.heap.size, 0, none⟩), .int .u64 150] 147)).alloc (.cells #[.int .i64 n] 60))
    (by rw [World.cell?_alloc_at _ _ _ _ (by simp)]; rfl)
    (by rw [World.cell?_alloc_lt _ _ t (by simp; omega), World.cell?_alloc_lt _ _ t (by simp; omega), World.cell?_alloc_lt _ _ t (by simp; omega), World.cell?_alloc_lt _ _ t htl]; exact ht0)
    (by rw [World.frozen?_alloc_old _ _ t (by simp; omega), World.frozen?_alloc_old _ _ t (by simp; omega), World.frozen?_alloc_old _ _ t (by simp; omega), World.frozen?_alloc_old _ _ t (Nat.ne_of_lt htl)]; exact hf0)
  clear hw1 w1
  go_enter Tryz.func67, Tryz.ntmps67
  go_wp2
  refine wp_loop_rounds 1 ?_
  rw [rounds_succ]
  go_wp2
  go_ret
  exact ⟨rfl, _, (by repeat (first | exact G.refl _ | assumption | apply G.drew | apply G.drewN | apply G.alloc | refine G.trans ?_ (by assumption))), rfl⟩
set_option maxRecDepth 100000 in
set_option maxHeartbeats 4000000 in
theorem as_at_eno (n : Int) (b : Nat) (t : Addr) (old : Value) (w : World) (hb : w.cell? ⟨b, 0, none⟩ = some (.int .i64 n)) (hg : LaidE w) (ht0 : w.cell? t = some old) (hf0 : w.frozen? t = false) :
    Calls Tryz.prog 67 #[.iface 78 (.pointer (some ⟨b, 0, none⟩)), .iface 101 (.pointer (some t))] w fun ev w' => ev = .returned (.bool true) ∧ ∃ w1, G w w1 ∧ w' = w1.setCell t (.int .i64 n) := by
  have h6 := @run_callFunc_extern Tryz.prog 112 _ (fun args => ReflectliteValue.unpack (args.getD 0 (.tuple #[]))) Tryz.func112 (by kernel_rfl) (by kernel_rfl) (by kernel_rfl) (by kernel_rfl)
  have h7 := @run_callFunc_extern Tryz.prog 113 _ (ReflectliteValue.methodAny (ReflectliteValue.valueError "reflectlite.Value.Type" 0) (fun t _ _ _ => ReflectliteType.toType t)) Tryz.func113 (by kernel_rfl) (by kernel_rfl) (by kernel_rfl) (by kernel_rfl)
  have h8 := @run_callFunc_extern Tryz.prog 114 _ (ReflectliteValue.method (ReflectliteValue.valueError "reflectlite.Value.IsNil" 0) ReflectliteValue.isNil) Tryz.func114 (by kernel_rfl) (by kernel_rfl) (by kernel_rfl) (by kernel_rfl)
  have h37 := @run_callFunc_extern Tryz.prog 304 _ (ReflectliteType.method ReflectliteType.elem) Tryz.func304 (by kernel_rfl) (by kernel_rfl) (by kernel_rfl) (by kernel_rfl)
  have h38 := @run_callFunc_extern Tryz.prog 305 _ (ReflectliteType.relation "Implements" ReflectliteType.implements_) Tryz.func305 (by kernel_rfl) (by kernel_rfl) (by kernel_rfl) (by kernel_rfl)
  have h10 := @run_callFunc_extern Tryz.prog 159 _ ReflectliteType.typeOf Tryz.func159 (by kernel_rfl) (by kernel_rfl) (by kernel_rfl) (by kernel_rfl)
  have h35 := @run_callFunc_extern Tryz.prog 302 _ (ReflectliteType.relation "AssignableTo" ReflectliteType.assignableTo) Tryz.func302 (by kernel_rfl) (by kernel_rfl) (by kernel_rfl) (by kernel_rfl)
  have h11 := @run_callFunc_extern Tryz.prog 160 _ (ReflectliteValue.method (ReflectliteValue.valueError "reflectlite.Value.Elem" 0) ReflectliteValue.elem) Tryz.func160 (by kernel_rfl) (by kernel_rfl) (by kernel_rfl) (by kernel_rfl)
  have h12 := @run_callFunc_extern Tryz.prog 161 _ ReflectliteValue.set Tryz.func161 (by kernel_rfl) (by kernel_rfl) (by kernel_rfl) (by kernel_rfl)
  have h27 := @run_callFunc_extern Tryz.prog 292 _ (ReflectliteType.abiMethod fun t => do pure (.int .u8 (← Rtype.kind t))) Tryz.func292 (by kernel_rfl) (by kernel_rfl) (by kernel_rfl) (by kernel_rfl)
  have f6 := rl.valueOfP
  have f7 := rl.typeP
  have mK := rl.methodKind
  have mE := rl.methodElem
  have mI := rl.methodImplements
  have mA := rl.methodAssignableTo
  have kP := rl.kindP
  have kE := rl.kindE
  have eP := rl.elemP
  have iE := rl.implE
  have tO := rl.typeOfE
  have aE := rl.assE
  have tA := rl.typeOfA
  have aA := rl.assA
  have mU := rl.methodUnwrap
  have nA := rl.noAs
  have uA := rl.unwraps
  have vE := rl.valueOfE
  obtain ⟨w1, hw1⟩ : ∃ w1, w1 = (w.alloc (.cells #[.pointer (some t)] 101)) := ⟨_, rfl⟩
  have n8 := rl.isNilP ⟨w.heap.size, 0, none⟩ t ((w.alloc (.cells #[.pointer (some t)] 101)).alloc (.cells #[.pointer (some (hA 101)), .pointer (some ⟨w.heap.size, 0, none⟩), .int .u64 150] 147)) (by simp)
  have hlt := hg.lt
  have hg2 : ((w.alloc (.cells #[.pointer (some t)] 101)).alloc (.cells #[.pointer (some (hA 101)), .pointer (some ⟨w.heap.size, 0, none⟩), .int .u64 150] 147)).cell? ⟨0, 0, none⟩ = some (.iface 188 (.agg #[.pointer (some (hA 39))])) := by
    rw [World.cell?_alloc_lt _ _ ⟨0, 0, none⟩ (Nat.lt_of_lt_of_le hlt (by simp)), World.cell?_alloc_lt _ _ ⟨0, 0, none⟩ hlt]; exact hg
  have htl : t.block < w.heap.size := by
    rcases Nat.lt_or_ge t.block w.heap.size with h | h
    · exact h
    · simp [World.cell?, Array.getElem?_eq_none h] at ht0
  have hbl : b < w.heap.size := by
    rcases Nat.lt_or_ge b w.heap.size with h | h
    · exact h
    · simp [World.cell?, Array.getElem?_eq_none h] at hb
  have hb2 : (((w.alloc (.cells #[.pointer (some t)] 101)).alloc (.cells #[.pointer (some (hA 101)), .pointer (some ⟨w.heap.size, 0, none⟩), .int .u64 150] 147)).alloc (.cells #[.pointer (some (hA 101)), .pointer (some ⟨w.heap.size, 0, none⟩), .int .u64 150] 147)).cell? ⟨b, 0, none⟩ = some (.int .i64 n) := by
    rw [World.cell?_alloc_lt _ _ ⟨b, 0, none⟩ (by simp; omega), World.cell?_alloc_lt _ _ ⟨b, 0, none⟩ (by simp; omega), World.cell?_alloc_lt _ _ ⟨b, 0, none⟩ hbl]; exact hb
  have el := rl.elemVP ⟨w.heap.size, 0, none⟩ t (((w.alloc (.cells #[.pointer (some t)] 101)).alloc (.cells #[.pointer (some (hA 101)), .pointer (some ⟨w.heap.size, 0, none⟩), .int .u64 150] 147)).alloc (.cells #[.pointer (some (hA 101)), .pointer (some ⟨w.heap.size, 0, none⟩), .int .u64 150] 147)) (by rw [World.cell?_alloc_lt _ _ ⟨w.heap.size, 0, none⟩ (by simp; omega)]; simp)
  have st := rl.setE t ⟨w.heap.size + 1 + 1 + 1, 0, none⟩ n old ((((w.alloc (.cells #[.pointer (some t)] 101)).alloc (.cells #[.pointer (some (hA 101)), .pointer (some ⟨w.heap.size, 0, none⟩), .int .u64 150] 147)).alloc (.cells #[.pointer (some (hA 101)), .pointer (some ⟨w.heap.size, 0, none⟩), .int .u64 150] 147)).alloc (.cells #[.int .i64 n] 60))
    (by rw [World.cell?_alloc_at _ _ _ _ (by simp)]; rfl)
    (by rw [World.cell?_alloc_lt _ _ t (by simp; omega), World.cell?_alloc_lt _ _ t (by simp; omega), World.cell?_alloc_lt _ _ t (by simp; omega), World.cell?_alloc_lt _ _ t htl]; exact ht0)
    (by rw [World.frozen?_alloc_old _ _ t (by simp; omega), World.frozen?_alloc_old _ _ t (by simp; omega), World.frozen?_alloc_old _ _ t (by simp; omega), World.frozen?_alloc_old _ _ t (Nat.ne_of_lt htl)]; exact hf0)
  clear hw1 w1
  go_enter Tryz.func67, Tryz.ntmps67
  go_wp2
  refine wp_loop_rounds 2 ?_
  rw [rounds_succ]
  go_wp2
  rw [rounds_succ]
  go_wp2
  go_ret
  exact ⟨rfl, _, (by repeat (first | exact G.refl _ | assumption | apply G.drew | apply G.drewN | apply G.alloc | refine G.trans ?_ (by assumption))), rfl⟩
set_option maxRecDepth 100000 in
set_option maxHeartbeats 1000000 in
theorem tell_eno (n : Int) (w : World) (hE : LaidE w) : Gives 33 #[eno n] w (.int .i64 n) := by
  go_enter Tryz.func33, Tryz.ntmps33
  go_wp2_with fail
  refine Calls.mono (as_eno n ⟨w.heap.size, 0, none⟩ (.int .i64 0) _ (hE.grow (by repeat (first | exact G.refl _ | assumption | apply G.drew | apply G.drewN | apply G.alloc | refine G.trans ?_ (by assumption)))) (World.cell?_alloc_new w _ _ 0) (by simp)) ?_
  rintro e w' ⟨rfl, w1, g1, rfl⟩
  have hc : w1.cell? ⟨w.heap.size, 0, none⟩ = some (.int .i64 0) := by rw [g1.cell (by simp)]; exact World.cell?_alloc_new w _ _ 0
  have hs := World.cell?_setCell_same w1 ⟨w.heap.size, 0, none⟩ (.int .i64 n) hc
  go_wp2_with fail
  go_ret
  exact ⟨rfl, (((G.refl w).alloc _).trans g1).setCell (Nat.le_refl _) _⟩
set_option maxRecDepth 100000 in
set_option maxHeartbeats 1000000 in
theorem tell_at (n p : Int) (v : Value) (w : World) (hE : LaidE w) (hv : IsAt w v n p) : Gives 33 #[v] w (.int .i64 n) := by
  obtain ⟨b, rfl, h0, -, hb⟩ := hv
  go_enter Tryz.func33, Tryz.ntmps33
  go_wp2_with fail
  refine Calls.mono (as_at_eno n b ⟨w.heap.size, 0, none⟩ (.int .i64 0) _ (by rw [World.cell?_alloc_lt _ _ ⟨b, 0, none⟩ hb]; exact h0) (hE.grow (by repeat (first | exact G.refl _ | assumption | apply G.drew | apply G.drewN | apply G.alloc | refine G.trans ?_ (by assumption)))) (World.cell?_alloc_new w _ _ 0) (by simp)) ?_
  rintro e w' ⟨rfl, w1, g1, rfl⟩
  have hc : w1.cell? ⟨w.heap.size, 0, none⟩ = some (.int .i64 0) := by rw [g1.cell (by simp)]; exact World.cell?_alloc_new w _ _ 0
  have hs := World.cell?_setCell_same w1 ⟨w.heap.size, 0, none⟩ (.int .i64 n) hc
  go_wp2_with fail
  go_ret
  exact ⟨rfl, (((G.refl w).alloc _).trans g1).setCell (Nat.le_refl _) _⟩
end Go.Proofs.YtfadckackdmbnaaGreatDoor
