/-
  CONTRACTS of package uri: begins, Scheme, Right, media, Data, Undata, for all texts of at most 2 to the 40 bytes, and the plain functions that they compute.
-/
import Derived.Test.YtaiehmahgejhdaaErr
import Derived.Test.YtaiehmahgejhdaaStrs
import Derived.Test.YtaiehmahgejhdaaB64
namespace Go.Proofs.Ytaiehmahgejhdaa
open Go.RowKit
set_option linter.unusedVariables false
set_option linter.unusedSimpArgs false

/-- whether a scheme goes on with the byte c at the place k -/
def schP (k : Nat) (c : Int) : Prop := (97 ≤ c ∧ c ≤ 122) ∨ (65 ≤ c ∧ c ≤ 90) ∨ (0 < k ∧ ((48 ≤ c ∧ c ≤ 57) ∨ c = 43 ∨ c = 45 ∨ c = 46))
instance (k : Nat) (c : Int) : Decidable (schP k c) := by unfold schP; infer_instance
def begGo : List UInt8 → Nat → Nat
  | [], _ => 0
  | c :: t, k => if (c.toNat : Int) = 58 then k else if schP k c.toNat then begGo t (k + 1) else 0
def begL (l : List UInt8) : Nat := begGo l 0
theorem begGo_at {l : List UInt8} {k : Nat} (h : k < l.length) : begGo (l.drop k) k = if (l[k].toNat : Int) = 58 then k else if schP k l[k].toNat then begGo (l.drop (k + 1)) (k + 1) else 0 := by
  rw [List.drop_eq_getElem_cons h]; rfl
theorem beg_end {l : List UInt8} {k : Nat} (hr : begL l = begGo (l.drop k) k) (h : l.length ≤ k) : begL l = 0 := by
  rw [hr, List.drop_eq_nil_of_le h]; rfl
theorem beg_colon {l : List UInt8} {k : Nat} (hr : begL l = begGo (l.drop k) k) (h : k < l.length) (hc : (l[k].toNat : Int) = 58) : begL l = k := by
  rw [hr, begGo_at h, if_pos hc]
theorem beg_on {l : List UInt8} {k : Nat} (hr : begL l = begGo (l.drop k) k) (h : k < l.length) (hc : (l[k].toNat : Int) ≠ 58) (hs : schP k l[k].toNat) : begL l = begGo (l.drop (k + 1)) (k + 1) := by
  rw [hr, begGo_at h, if_neg hc, if_pos hs]
theorem beg_stop {l : List UInt8} {k : Nat} (hr : begL l = begGo (l.drop k) k) (h : k < l.length) (hc : (l[k].toNat : Int) ≠ 58) (hs : ¬ schP k l[k].toNat) : begL l = 0 := by
  rw [hr, begGo_at h, if_neg hc, if_neg hs]
theorem begGo_le (l : List UInt8) (k : Nat) : begGo l k = 0 ∨ (k ≤ begGo l k ∧ begGo l k < k + l.length) := by
  induction l generalizing k with
  | nil => exact .inl rfl
  | cons c t ih =>
    unfold begGo
    split
    · right; simp
    · split
      · rcases ih (k + 1) with h | h
        · exact .inl h
        · right; simp; omega
      · exact .inl rfl
theorem begL_le (l : List UInt8) : begL l ≤ l.length := by
  unfold begL; rcases begGo_le l 0 with h | h <;> omega
theorem begL_lt {l : List UInt8} (h : begL l ≠ 0) : begL l < l.length := by
  unfold begL at h ⊢; rcases begGo_le l 0 with h' | h' <;> omega

set_option maxRecDepth 100000 in
set_option maxHeartbeats 400000 in
theorem begins_any (l : List UInt8) (w : World) (hs : l.length ≤ 140737488351328) : Pure 54 #[.string (S l)] w (.int .i64 (begL l)) := by
  go_enter Try.func54, Try.ntmps54
  go_wp2
  go_loop [7] (fun i => ∃ k : Nat, k ≤ l.length ∧ i = .int .i64 k ∧ begL l = begGo (l.drop k) k) (fun i => l.length - (intOf i).toNat)
  case atStart => exact ⟨0, Nat.zero_le _, rfl, rfl⟩
  case round =>
    obtain ⟨k, hk, rfl, hr⟩ := hrel
    have HR := hid hr; clear hr
    by_cases hlt : k < l.length
    case neg =>
      go_wp2
      go_ret
      exact ⟨ret_int (by rw [beg_end HR.out (by omega)]; rfl), rfl⟩
    have hb := l[k].toNat_lt
    by_cases hc : (l[k].toNat : Int) = 58
    · have HC := hid hc
      have hc1 : ((l[k].toNat : Int) == 58) = true := by simp [hc]
      clear hc
      go_wp2
      go_ret
      exact ⟨ret_int (by rw [beg_colon HR.out hlt HC.out]), rfl⟩
    have hc1 : ((l[k].toNat : Int) == 58) = false := beq_eq_false_iff_ne.2 hc
    go_wp2
    all_goals try (go_ret; refine ⟨ret_int (by rw [beg_stop HR.out hlt (by omega) (by unfold schP; ((try simp only [beq_iff_eq, beq_eq_false_iff_ne, ne_eq] at *); omega))]; rfl), rfl⟩; done)
    all_goals go_round
    all_goals try (case measure => simp [intOf]; omega)
    all_goals exact ⟨k + 1, by omega, by go_num, beg_on HR.out hlt (by omega) (by unfold schP; ((try simp only [beq_iff_eq, beq_eq_false_iff_ne, ne_eq] at *); omega))⟩

set_option maxRecDepth 100000 in
set_option maxHeartbeats 400000 in
theorem scheme_any (l : List UInt8) (w : World) (hs : l.length ≤ 140737488351328) : Pure 40 #[.string (S l)] w (if begL l = 0 then .tuple #[.string (S []), eno 8] else .tuple #[.string (S (l.take (begL l))), .nilIface]) := by
  have hle := begL_le l
  by_cases h : begL l = 0
  · rw [if_pos h]
    go_enter Try.func40, Try.ntmps40
    go_wp2_with fail
    refine (begins_any l _ hs).use ?_
    rw [h]
    go_wp2_with fail
    go_ret2
    exact ⟨rfl, rfl⟩
  · rw [if_neg h]
    have h1 : ((begL l : Int) == 0) = false := beq_eq_false_iff_ne.2 (by omega)
    go_enter Try.func40, Try.ntmps40
    go_wp2_with fail
    refine (begins_any l _ hs).use ?_
    go_wp2_with fail
    go_ret2
    exact ⟨rfl, rfl⟩

def seenP (c : UInt8) : Bool := decide (33 ≤ (c.toNat : Int) ∧ (c.toNat : Int) ≤ 126)
def mediaP (c : UInt8) : Bool := decide (33 ≤ (c.toNat : Int) ∧ (c.toNat : Int) ≤ 126 ∧ (c.toNat : Int) ≠ 44 ∧ (c.toNat : Int) ≠ 59)
def mediaB (l : List UInt8) : Bool := l.all mediaP
theorem all_step {p : UInt8 → Bool} {l : List UInt8} {k : Nat} (ha : (l.take k).all p = true) (h : k < l.length) (hp : p l[k] = true) : (l.take (k + 1)).all p = true := by
  rw [List.take_succ_eq_append_getElem h, List.all_append, ha]; simp [hp]
theorem all_at {p : UInt8 → Bool} {l : List UInt8} {k : Nat} (h : k < l.length) (hp : p l[k] = false) : l.all p = false := by
  rw [List.all_eq_false]; exact ⟨l[k], List.getElem_mem h, by simp [hp]⟩
theorem all_end {p : UInt8 → Bool} {l : List UInt8} {k : Nat} (ha : (l.take k).all p = true) (h : l.length ≤ k) : l.all p = true := by
  rwa [List.take_of_length_le h] at ha
/-- the first byte that p does not hold of -/
def badAt (p : UInt8 → Bool) (l : List UInt8) : Option Nat := l.findIdx? (fun c => !p c)
theorem badAt_none {p : UInt8 → Bool} {l : List UInt8} : badAt p l = none ↔ l.all p = true := by
  unfold badAt; simp [List.findIdx?_eq_none_iff]
theorem badAt_at {p : UInt8 → Bool} {l : List UInt8} {k : Nat} (ha : (l.take k).all p = true) (h : k < l.length) (hp : p l[k] = false) : badAt p l = some k := by
  unfold badAt
  rw [List.findIdx?_eq_some_iff_getElem]
  refine ⟨h, by simp [hp], fun j hj => ?_⟩
  have := List.all_eq_true.1 ha (l[j]'(by omega)) (by rw [List.mem_take_iff_getElem]; exact ⟨j, by omega, rfl⟩)
  simp [this]

set_option maxRecDepth 100000 in
set_option maxHeartbeats 400000 in
theorem media_any (l : List UInt8) (w : World) (hs : l.length ≤ 140737488351328) : Pure 55 #[.string (S l)] w (.bool (mediaB l)) := by
  go_enter Try.func55, Try.ntmps55
  go_wp2
  go_loop [6] (fun i => ∃ k : Nat, k ≤ l.length ∧ i = .int .i64 k ∧ (l.take k).all mediaP = true) (fun i => l.length - (intOf i).toNat)
  case atStart => exact ⟨0, Nat.zero_le _, rfl, rfl⟩
  case round =>
    obtain ⟨k, hk, rfl, hr⟩ := hrel
    have HR := hid hr; clear hr
    by_cases hlt : k < l.length
    case neg =>
      go_wp2
      go_ret
      exact ⟨ret_bool (all_end HR.out (by omega)).symm, rfl⟩
    have hb := l[k].toNat_lt
    go_wp2
    all_goals try (go_ret; refine ⟨ret_bool (all_at hlt (by unfold mediaP; rw [decide_eq_false_iff_not]; ((try simp only [beq_iff_eq, beq_eq_false_iff_ne, ne_eq] at *); omega))).symm, rfl⟩; done)
    all_goals go_round
    all_goals try (case measure => simp [intOf]; omega)
    all_goals exact ⟨k + 1, by omega, by go_num, all_step HR.out hlt (by unfold mediaP; rw [decide_eq_true_iff]; ((try simp only [beq_iff_eq, beq_eq_false_iff_ne, ne_eq] at *); omega))⟩

/-- what Right hands back -/
def RightPost (l : List UInt8) (v : Value) (w' : World) : Prop :=
  if begL l = 0 then v = eno 8 else match badAt seenP l with
    | some i => IsAt w' v 3 i
    | none => if begL l + 1 = l.length then IsAt w' v 7 l.length else v = .nilIface
set_option maxRecDepth 100000 in
set_option maxHeartbeats 400000 in
theorem right_any (l : List UInt8) (w : World) (hs : l.length ≤ 140737488351328) : Makes 39 #[.string (S l)] w (RightPost l) := by
  have hle := begL_le l
  by_cases h : begL l = 0
  · go_enter Try.func39, Try.ntmps39
    go_wp2_with fail
    refine (begins_any l _ hs).use ?_
    rw [h]
    go_wp2_with fail
    go_ret
    exact ⟨_, rfl, by unfold RightPost; rw [if_pos h]; rfl, G.refl _⟩
  · have h1 : ((begL l : Int) == 0) = false := beq_eq_false_iff_ne.2 (by omega)
    have H := hid h
    clear h
    go_enter Try.func39, Try.ntmps39
    go_wp2_with fail
    refine (begins_any l _ hs).use ?_
    go_wp2_with fail
    go_loop [12] (fun i => ∃ k : Nat, k ≤ l.length ∧ i = .int .i64 k ∧ (l.take k).all seenP = true) (fun i => l.length - (intOf i).toNat)
    case atStart => exact ⟨0, Nat.zero_le _, rfl, rfl⟩
    case round =>
      obtain ⟨k, hk, rfl, hr⟩ := hrel
      have HR := hid hr; clear hr
      by_cases hlt : k < l.length
      case neg =>
        have HN : Hid (badAt seenP l = none) := hid (badAt_none.2 (all_end HR.out (by omega)))
        by_cases h2 : begL l + 1 = l.length
        · have h3 : ((begL l : Int) + 1 == (l.length : Int)) = true := by simp; omega
          have H2 := hid h2
          clear h2
          go_wp2
          go_ret
          exact ⟨_, rfl, by unfold RightPost; rw [if_neg H.out, HN.out]; show (if _ then _ else _); rw [if_pos H2.out]; exact IsAt.new _ _ _ _, (G.refl _).alloc _⟩
        · have h3 : ((begL l : Int) + 1 == (l.length : Int)) = false := beq_eq_false_iff_ne.2 (by omega)
          have H2 := hid h2
          clear h2
          go_wp2
          go_ret
          exact ⟨_, rfl, by unfold RightPost; rw [if_neg H.out, HN.out]; show (if _ then _ else _); rw [if_neg H2.out]; rfl, G.refl _⟩
      have hb := l[k].toNat_lt
      go_wp2
      all_goals try (go_ret; refine ⟨_, rfl, by unfold RightPost; rw [if_neg H.out, badAt_at HR.out hlt (by unfold seenP; rw [decide_eq_false_iff_not]; ((try simp only [beq_iff_eq, beq_eq_false_iff_ne, ne_eq] at *); omega))]; exact IsAt.new _ _ _ _, (G.refl _).alloc _⟩; done)
      all_goals go_round
      all_goals try (case measure => simp [intOf]; omega)
      all_goals exact ⟨k + 1, by omega, by go_num, all_step HR.out hlt (by unfold seenP; rw [decide_eq_true_iff]; ((try simp only [beq_iff_eq, beq_eq_false_iff_ne, ne_eq] at *); omega))⟩

def dataP : List UInt8 := [100, 97, 116, 97, 58]
def base64P : List UInt8 := [59, 98, 97, 115, 101, 54, 52]
def dataU (k b : List UInt8) : List UInt8 := dataP ++ k ++ [59, 98, 97, 115, 101, 54, 52, 44] ++ encL b

set_option maxRecDepth 100000 in
set_option maxHeartbeats 400000 in
theorem data_any (k b : List UInt8) (w : World) (hk : k.length ≤ 1099511627776) (hb : b.length ≤ 1099511627776) : Gives 41 #[.string (S k), .string (S b)] w (if mediaB k = true then .tuple #[.string (S (dataU k b)), .nilIface] else .tuple #[.string (S []), eno 3]) := by
  have hen : (encL b).length ≤ 1466015503704 := by rw [encL_length]; omega
  cases h : mediaB k with
  | true =>
    rw [if_pos rfl]
    go_enter Try.func41, Try.ntmps41
    go_wp2_with fail
    refine (media_any k _ (by omega)).use ?_
    rw [h]
    go_wp2_with (fail)
    refine (encode_any b _ hb).use ?_; intro w1 g1
    go_wp2_with fail
    go_ret2
    exact ⟨by simp [dataU, dataP], g1⟩
  | false =>
    rw [if_neg (by simp)]
    go_enter Try.func41, Try.ntmps41
    go_wp2_with fail
    refine (media_any k _ (by omega)).use ?_
    rw [h]
    go_wp2_with fail
    go_ret2
    exact ⟨rfl, G.refl _⟩

end Go.Proofs.Ytaiehmahgejhdaa
