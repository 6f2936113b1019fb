/-
  The walks of the laws UriMore, UriBack and UriOnly.
-/
import Derived.Test.YtaiehmahgejhdaaUri2
import Derived.Test.YtaiehmahgejhdaaB64Laws
namespace Go.Proofs.Ytaiehmahgejhdaa
open Go.RowKit
set_option linter.unusedVariables false
set_option linter.unusedSimpArgs false

def isRight (l : List UInt8) : Bool := decide (begL l ≠ 0 ∧ l.all seenP = true ∧ begL l + 1 ≠ l.length)
theorem right_ok (l : List UInt8) (w : World) (hs : l.length ≤ 140737488351328) (h : isRight l = true) : Gives 39 #[.string (S l)] w .nilIface := by
  obtain ⟨h1, h2, h3⟩ := of_decide_eq_true h
  refine Calls.mono (right_any l w hs) ?_
  rintro e w' ⟨v, rfl, hq, hg⟩
  unfold RightPost at hq
  rw [if_neg h1, badAt_none.2 h2] at hq
  simp only [if_neg h3] at hq
  exact ⟨by rw [hq], hg⟩
theorem right_no (l : List UInt8) (w : World) (hs : l.length ≤ 140737488351328) (h : isRight l = false) : Makes 39 #[.string (S l)] w (fun v _ => v = eno 8 ∨ ∃ b, v = .iface 67 (.pointer (some ⟨b, 0, none⟩))) := by
  have h := of_decide_eq_false h
  refine (right_any l w hs).mono ?_
  intro v w' _ hq
  unfold RightPost at hq
  split at hq
  · exact .inl hq
  · rename_i h1
    split at hq
    · obtain ⟨b, hb, _⟩ := hq; exact .inr ⟨b, hb⟩
    · rename_i h2
      split at hq
      · obtain ⟨b, hb, _⟩ := hq; exact .inr ⟨b, hb⟩
      · rename_i h3
        exact absurd ⟨h1, badAt_none.1 h2, h3⟩ h
theorem scheme_ok (l t : List UInt8) (w : World) (hs : l.length ≤ 140737488351328) (h : begL l ≠ 0) (ht : l.take (begL l) = t) : Pure 40 #[.string (S l)] w (.tuple #[.string (S t), .nilIface]) := by
  have := scheme_any l w hs
  rw [if_neg h, ht] at this
  exact this
theorem undata_ok (l k r b : List UInt8) (w : World) (hl : l.length ≤ 1099511627776) (hd : IsData l k r) (h4 : r.length % 4 = 0) (hr : decL r = .ok b) : Gives 42 #[.string (S l)] w (.tuple #[.string (S k), .string (S b), .nilIface]) := by
  refine Calls.mono (undata_any l w hl) ?_
  rintro e w' ⟨v, rfl, hq, hg⟩
  rcases hq with ⟨h, -⟩ | ⟨k', r', hd', h4', b', hb', rfl⟩ | ⟨k', r', hd', c, p, hcp, -⟩
  · exact absurd ⟨k, r, hd⟩ h
  · obtain ⟨rfl, rfl⟩ := hd.unique hd'
    rw [hr] at hb'
    cases hb'
    exact ⟨rfl, hg⟩
  · obtain ⟨rfl, rfl⟩ := hd.unique hd'
    rw [if_neg (by omega), hr] at hcp
    cases hcp.2
/-- what Undata hands back, for the laws -/
theorem undata_any2 (l : List UInt8) (w : World) (hl : l.length ≤ 1099511627776) : Makes 42 #[.string (S l)] w (fun v _ =>
    (∃ k b, dataU k b = l ∧ mediaB k = true ∧ k.length ≤ l.length ∧ b.length ≤ l.length ∧ v = .tuple #[.string (S k), .string (S b), .nilIface]) ∨ (v = .tuple #[.string (S []), .string (S []), eno 3]) ∨ ∃ b, v = .tuple #[.string (S []), .string (S []), .iface 67 (.pointer (some ⟨b, 0, none⟩))]) := by
  refine (undata_any l w hl).mono ?_
  intro v w' _ hq
  rcases hq with ⟨-, h⟩ | ⟨k, r, hd, h4, b, hb, hv⟩ | ⟨k', r', hd', c, p, hcp, e, rfl, a, rfl, -⟩
  · exact .inr (.inl h)
  · left
    have he := enc_dec r b h4 hb
    have hl' : dataU k b = l := by rw [hd.1]; unfold dataU; rw [he]; simp [base64P]
    have hlen := congrArg List.length hl'
    simp [dataU, encL_length] at hlen
    exact ⟨k, b, hl', hd.2, by omega, by omega, hv⟩
  · exact .inr (.inr ⟨a, rfl⟩)

theorem all_take_succ' (p : UInt8 → Bool) (l : List UInt8) (k : Nat) (h : k < l.length) : (l.take (k + 1)).all p = ((l.take k).all p && p l[k]) := by
  rw [List.take_succ_eq_append_getElem h, List.all_append]; simp
def httpL : List UInt8 := [104, 116, 116, 112, 58, 47, 47, 97]
def pngL : List UInt8 := [105, 109, 97, 103, 101, 47, 112, 110, 103]
set_option maxRecDepth 100000 in
set_option maxHeartbeats 1000000 in
theorem located_any (w : World) : Gives 38 #[] w (.bool true) := by
  have hd : Hid (IsData [100, 97, 116, 97, 58, 105, 109, 97, 103, 101, 47, 112, 110, 103, 59, 98, 97, 115, 101, 54, 52, 44, 84, 87, 69, 61] pngL [84, 87, 69, 61]) := hid ⟨rfl, by decide⟩
  go_enter Try.func38, Try.ntmps38
  go_wp2_with fail
  refine (scheme_ok httpL [104, 116, 116, 112] _ (by simp [httpL]) (by decide) (by decide)).use ?_
  go_wp2_with fail
  refine (undata_ok _ pngL [84, 87, 69, 61] [77, 97] _ (by simp) hd.out rfl (by have := dec_enc [77, 97]; rwa [show encL [77, 97] = [84, 87, 69, 61] by decide +kernel] at this)).use ?_; intro w1 g1
  go_wp2_with fail
  refine (right_ok [97, 58, 98] _ (by simp) (by decide)).use ?_; intro w2 g2
  go_wp2_with fail
  refine (right_no [49, 58, 98] _ (by simp) (by decide)).use ?_
  rintro v w3 hv g3
  rcases hv with rfl | ⟨b, rfl⟩
  all_goals
    go_wp2_with fail
    go_ret
    exact ⟨rfl, (by repeat (first | exact G.refl _ | assumption | apply G.drew | apply G.alloc | refine G.trans ?_ (by assumption)))⟩

theorem begGo_append (a b : List UInt8) (k : Nat) (h : begGo a k ≠ 0) : begGo (a ++ b) k = begGo a k := by
  induction a generalizing k with
  | nil => exact absurd rfl h
  | cons c t ih =>
    rw [List.cons_append]
    unfold begGo at h ⊢
    split
    · rfl
    · rename_i h1
      rw [if_neg h1] at h
      split
      · rename_i h2
        rw [if_pos h2] at h
        exact ih _ h
      · rename_i h2
        exact absurd (by rw [if_neg h2]) h
theorem begL_append {a : List UInt8} (b : List UInt8) (h : begL a ≠ 0) : begL (a ++ b) = begL a := begGo_append a b 0 h
theorem isRight_append {a : List UInt8} (b : List UInt8) (h : isRight a = true) : isRight (a ++ b) = b.all seenP := by
  obtain ⟨h1, h2, h3⟩ := of_decide_eq_true h
  have h4 := begL_lt h1
  unfold isRight
  rw [begL_append b h1, List.all_append, h2]
  rw [Bool.eq_iff_iff]
  simp
  constructor
  · rintro ⟨_, h5, _⟩; simpa using h5
  · intro h5; exact ⟨h1, by simpa using h5, by omega⟩

set_option maxRecDepth 100000 in
set_option maxHeartbeats 2000000 in
theorem uriMore_main (s more : List UInt8) (w : World) (hl : s.length + more.length ≤ 400) (hr : Hid (isRight s = true)) : Gives 12 #[.string (S s), .string (S more)] w (.bool true) := by
  have hb : Hid (begL s ≠ 0) := hid (of_decide_eq_true hr.out).1
  go_enter Try.func12, Try.ntmps12
  go_wp2_with fail
  refine (located_any _).use ?_; intro w1 g1
  go_wp2_with fail
  refine (right_ok s _ (by omega) hr.out).use ?_; intro w2 g2
  go_wp2_with fail
  go_loop [5, 26] (fun b i => ∃ k : Nat, k ≤ more.length ∧ b = .bool (!((more.take k).all seenP)) ∧ i = .int .i64 k) (fun _ i => more.length - (intOf i).toNat)
  case atStart => exact ⟨0, Nat.zero_le _, rfl, rfl⟩
  case round =>
    obtain ⟨k, hk, rfl, rfl⟩ := hrel
    by_cases hlt : k < more.length
    case neg =>
      have e : (more.take k).all seenP = more.all seenP := by rw [List.take_of_length_le (by omega)]
      rw [e]
      have ha := isRight_append more hr.out
      cases hm : more.all seenP with
      | true =>
        rw [hm] at ha
        have HA := hid ha
        clear ha e hm
        go_wp2_with fail
        refine (scheme_ok s (s.take (begL s)) _ (by omega) hb.out rfl).use ?_
        go_wp2_with fail
        refine (scheme_ok (s ++ more) (s.take (begL s)) _ (by simp; omega) (by rw [begL_append _ hb.out]; exact hb.out) (by rw [begL_append _ hb.out, List.take_append_of_le_length (begL_le s)])).use ?_
        go_wp2_with fail
        refine (right_ok (s ++ more) _ (by simp; omega) HA.out).use ?_; intro w3 g3
        go_wp2_with fail
        go_ret
        exact ⟨ret_bool (by simp), (by repeat (first | exact G.refl _ | assumption | apply G.drew | apply G.alloc | refine G.trans ?_ (by assumption)))⟩
      | false =>
        rw [hm] at ha
        have HA := hid ha
        clear ha e hm
        go_wp2_with fail
        refine (scheme_ok s (s.take (begL s)) _ (by omega) hb.out rfl).use ?_
        go_wp2_with fail
        refine (scheme_ok (s ++ more) (s.take (begL s)) _ (by simp; omega) (by rw [begL_append _ hb.out]; exact hb.out) (by rw [begL_append _ hb.out, List.take_append_of_le_length (begL_le s)])).use ?_
        go_wp2_with fail
        refine (right_no (s ++ more) _ (by simp; omega) HA.out).use ?_
        rintro v w3 hv g3
        rcases hv with rfl | ⟨b, rfl⟩
        all_goals
          go_wp2_with fail
          go_ret
          exact ⟨ret_bool (by simp), (by repeat (first | exact G.refl _ | assumption | apply G.drew | apply G.alloc | refine G.trans ?_ (by assumption)))⟩
    have hsn := all_take_succ' seenP more k hlt
    have Hsn := hid hsn
    clear hsn
    cases ha : (more.take k).all seenP with
    | false =>
      have HA := hid ha
      clear ha
      go_wp2
      go_round
      case rel => exact ⟨k + 1, by omega, by rw [Hsn.out, HA.out]; rfl, by go_num⟩
      case measure => simp [intOf]; omega
    | true =>
      have HA := hid ha
      clear ha
      go_wp2
      all_goals go_round
      all_goals try (case measure => simp [intOf]; omega)
      all_goals refine ⟨k + 1, by omega, ?_, by go_num⟩
      all_goals rw [Hsn.out, HA.out]
      all_goals (congr 1; rw [Bool.eq_iff_iff]; unfold seenP; simp; try omega)

set_option maxRecDepth 100000 in
set_option maxHeartbeats 1000000 in
theorem uriMore_walk (s more : List UInt8) (w : World) (hs : s.length ≤ 140737488351232) (hm : more.length ≤ 140737488351232) : Gives 12 #[.string (S s), .string (S more)] w (.bool true) := by
  by_cases hl : s.length + more.length ≤ 400
  case neg =>
    go_enter Try.func12, Try.ntmps12
    go_wp2_with fail
    refine (located_any _).use ?_; intro w1 g1
    go_wp2_with fail
    go_ret
    exact ⟨rfl, (by repeat (first | exact G.refl _ | assumption | apply G.drew | apply G.alloc | refine G.trans ?_ (by assumption)))⟩
  cases hr : isRight s with
  | true => exact uriMore_main s more w hl hr
  | false =>
    have HR := hid hr
    clear hr
    go_enter Try.func12, Try.ntmps12
    go_wp2_with fail
    refine (located_any _).use ?_; intro w1 g1
    go_wp2_with fail
    refine (right_no s _ (by omega) HR.out).use ?_
    rintro v w3 hv g3
    rcases hv with rfl | ⟨b, rfl⟩
    all_goals
      go_wp2_with fail
      go_ret
      exact ⟨rfl, (by repeat (first | exact G.refl _ | assumption | apply G.drew | apply G.alloc | refine G.trans ?_ (by assumption)))⟩

theorem mediaP_seen (c : UInt8) (h : mediaP c = true) : seenP c = true := by
  unfold mediaP at h; unfold seenP
  have := of_decide_eq_true h
  exact decide_eq_true ⟨this.1, this.2.1⟩
theorem letB_seen (k : Int) (h0 : 0 ≤ k) (h1 : k < 64) : seenP (byteOf (letB k)) = true := by
  have h : (List.range 64).all (fun n => seenP (byteOf (letB (n : Int)))) = true := by decide +kernel
  have := List.all_eq_true.1 h k.toNat (by simp; omega)
  have e : ((k.toNat : Nat) : Int) = k := by omega
  rwa [e] at this
theorem quad_seen (n : Int) (h : 0 ≤ n) : (quadL n).all seenP = true := by
  unfold quadL
  simp only [List.all_cons, List.all_nil, Bool.and_true, Bool.and_eq_true]
  exact ⟨letB_seen _ (by omega) (by omega), letB_seen _ (by omega) (by omega), letB_seen _ (by omega) (by omega), letB_seen _ (by omega) (by omega)⟩
theorem all_take {p : UInt8 → Bool} {l : List UInt8} (h : l.all p = true) (n : Nat) : (l.take n).all p = true :=
  List.all_eq_true.2 fun x hx => List.all_eq_true.1 h x (List.mem_of_mem_take hx)
theorem enc_seen : ∀ l : List UInt8, (encL l).all seenP = true
  | [] => rfl
  | [a] => by
    rw [encL_1, List.all_append, all_take (quad_seen _ (num3_range a 0 0).1)]; decide
  | [a, b] => by
    rw [encL_2, List.all_append, all_take (quad_seen _ (num3_range a b 0).1)]; decide
  | a :: b :: c :: t => by
    rw [encL_3, List.all_append, quad_seen _ (num3_range a b c).1, enc_seen t]; rfl
theorem dataU_right (k b : List UInt8) (h : mediaB k = true) : begL (dataU k b) = 4 ∧ isRight (dataU k b) = true := by
  have h1 : begL (dataU k b) = 4 := by
    unfold dataU
    rw [List.append_assoc, List.append_assoc, begL_append _ (by decide)]; decide
  refine ⟨h1, decide_eq_true ⟨by omega, ?_, ?_⟩⟩
  · unfold dataU
    rw [List.all_append, List.all_append, List.all_append, enc_seen]
    have : k.all seenP = true := List.all_eq_true.2 fun x hx => mediaP_seen x (List.all_eq_true.1 h x hx)
    rw [this]; decide
  · rw [h1]; unfold dataU; simp [dataP]
theorem dataU_is (k b : List UInt8) (h : mediaB k = true) : IsData (dataU k b) k (encL b) := ⟨by unfold dataU; simp [base64P], h⟩
theorem data_ok (k b t : List UInt8) (w : World) (hk : k.length ≤ 1099511627776) (hb : b.length ≤ 1099511627776) (h : mediaB k = true) (ht : dataU k b = t) : Gives 41 #[.string (S k), .string (S b)] w (.tuple #[.string (S t), .nilIface]) := by
  have := data_any k b w hk hb
  rw [if_pos h, ht] at this
  exact this
theorem data_bad (k b : List UInt8) (w : World) (hk : k.length ≤ 1099511627776) (hb : b.length ≤ 1099511627776) (h : mediaB k = false) : Gives 41 #[.string (S k), .string (S b)] w (.tuple #[.string (S []), eno 3]) := by
  have := data_any k b w hk hb
  rw [if_neg (by simp [h])] at this
  exact this

set_option maxRecDepth 100000 in
set_option maxHeartbeats 1000000 in
theorem uriBack_walk (k b : List UInt8) (w : World) (hk : k.length ≤ 140737488351232) (hb : b.length ≤ 140737488351232) : Gives 13 #[.string (S k), .string (S b)] w (.bool true) := by
  by_cases hl : k.length + b.length ≤ 400
  case neg =>
    go_enter Try.func13, Try.ntmps13
    go_wp2_with fail
    refine (located_any _).use ?_; intro w1 g1
    go_wp2_with fail
    go_ret
    exact ⟨rfl, (by repeat (first | exact G.refl _ | assumption | apply G.drew | apply G.alloc | refine G.trans ?_ (by assumption)))⟩
  cases hm : mediaB k with
  | false =>
    have HM := hid hm
    clear hm
    go_enter Try.func13, Try.ntmps13
    go_wp2_with fail
    refine (located_any _).use ?_; intro w1 g1
    go_wp2_with fail
    refine (data_bad k b _ (by omega) (by omega) HM.out).use ?_; intro w2 g2
    go_wp2_with fail
    go_ret
    exact ⟨rfl, (by repeat (first | exact G.refl _ | assumption | apply G.drew | apply G.alloc | refine G.trans ?_ (by assumption)))⟩
  | true =>
    obtain ⟨t, ht⟩ : ∃ t, dataU k b = t := ⟨_, rfl⟩
    have hlen : t.length ≤ 2000 := by rw [← ht]; unfold dataU; simp [dataP, encL_length]; omega
    have h1 := dataU_right k b hm
    rw [ht] at h1
    have HB := hid h1.1
    have HR := hid h1.2
    have HD : Hid (IsData t k (encL b)) := hid (ht ▸ dataU_is k b hm)
    have HT : Hid (t.take 4 = [100, 97, 116, 97]) := hid (by rw [← ht]; simp [dataU, dataP])
    have HM := hid hm
    have HF := hid ht
    clear hm ht h1
    go_enter Try.func13, Try.ntmps13
    go_wp2_with fail
    refine (located_any _).use ?_; intro w1 g1
    go_wp2_with fail
    refine (data_ok k b t _ (by omega) (by omega) HM.out HF.out).use ?_; intro w2 g2
    go_wp2_with fail
    refine (undata_ok t k (encL b) b _ (by omega) HD.out (by rw [encL_length]; omega) (dec_enc b)).use ?_; intro w3 g3
    go_wp2_with fail
    refine (scheme_ok t [100, 97, 116, 97] _ (by omega) (by rw [HB.out]; omega) (by rw [HB.out]; exact HT.out)).use ?_
    go_wp2_with fail
    refine (right_ok t _ (by omega) HR.out).use ?_; intro w4 g4
    go_wp2_with fail
    go_ret
    exact ⟨ret_bool (by simp), (by repeat (first | exact G.refl _ | assumption | apply G.drew | apply G.alloc | refine G.trans ?_ (by assumption)))⟩

set_option maxRecDepth 100000 in
set_option maxHeartbeats 1000000 in
theorem uriOnly_walk (s : List UInt8) (w : World) (hs : s.length ≤ 140737488351232) : Gives 14 #[.string (S s)] w (.bool true) := by
  by_cases hl : s.length ≤ 500
  case neg =>
    go_enter Try.func14, Try.ntmps14
    go_wp2_with fail
    refine (located_any _).use ?_; intro w1 g1
    go_wp2_with fail
    go_ret
    exact ⟨rfl, (by repeat (first | exact G.refl _ | assumption | apply G.drew | apply G.alloc | refine G.trans ?_ (by assumption)))⟩
  go_enter Try.func14, Try.ntmps14
  go_wp2_with fail
  refine (located_any _).use ?_; intro w1 g1
  go_wp2_with fail
  refine (undata_any2 s _ (by omega)).use ?_
  rintro v w2 hv g2
  rcases hv with ⟨k, b, hd, hm, hk, hb, rfl⟩ | rfl | ⟨a, rfl⟩
  · have HD := hid hd
    have HM := hid hm
    clear hd hm
    go_wp2_with fail
    refine (data_ok k b s _ (by omega) (by omega) HM.out HD.out).use ?_; intro w3 g3
    go_wp2_with fail
    go_ret
    exact ⟨ret_bool (by simp), (by repeat (first | exact G.refl _ | assumption | apply G.drew | apply G.alloc | refine G.trans ?_ (by assumption)))⟩
  all_goals
    go_wp2_with fail
    go_ret
    exact ⟨rfl, (by repeat (first | exact G.refl _ | assumption | apply G.drew | apply G.alloc | refine G.trans ?_ (by assumption)))⟩

end Go.Proofs.Ytaiehmahgejhdaa
