/-
  CONTRACT of uri.Undata, for all texts of at most 2 to the 40 bytes.
-/
import Derived.Test.YtaiehmahgejhdaaUri
import Derived.Test.YtaiehmahgejhdaaB64Dec2
namespace Go.Proofs.Ytaiehmahgejhdaa
open Go.RowKit
set_option linter.unusedVariables false
set_option linter.unusedSimpArgs false

@[go_sem] theorem as_at (v : Value) (w : World) : (Instr.typeAssert (.iface 67 v) 27 67 true).run Try.prog w = .ok (.tuple #[v, .bool true]) w := by kernel_rfl
/-- the media, the letters behind the comma -/
def IsData (l k r : List UInt8) : Prop := l = dataP ++ k ++ base64P ++ 44 :: r ∧ mediaB k = true
theorem media_44 {k : List UInt8} (h : mediaB k = true) : 44 ∉ k := by
  intro m
  have := List.all_eq_true.1 h 44 m
  simp [mediaP] at this
theorem IsData.head {k : List UInt8} (h : mediaB k = true) : (44 : UInt8) ∉ dataP ++ k ++ base64P := by
  have := media_44 h
  simp [dataP, base64P, this]
theorem IsData.unique {l k r k' r' : List UInt8} (h : IsData l k r) (h' : IsData l k' r') : k = k' ∧ r = r' := by
  obtain ⟨e, m⟩ := h
  obtain ⟨e', m'⟩ := h'
  rw [e] at e'
  obtain ⟨h1, h2⟩ := first_unique e' (IsData.head m) (IsData.head m')
  refine ⟨?_, h2⟩
  rw [List.append_assoc, List.append_assoc] at h1
  have h3 := List.append_cancel_left h1
  exact List.append_cancel_right h3
/-- what Undata hands back -/
def UndPost (l : List UInt8) (v : Value) (w' : World) : Prop :=
  ((¬ ∃ k r, IsData l k r) ∧ v = .tuple #[.string (S []), .string (S []), eno 3]) ∨
  (∃ k r, IsData l k r ∧ r.length % 4 = 0 ∧ ∃ b, decL r = .ok b ∧ v = .tuple #[.string (S k), .string (S b), .nilIface]) ∨
  (∃ k r, IsData l k r ∧ ∃ c p, (if r.length % 4 ≠ 0 then c = 7 ∧ p = r.length else c = 3 ∧ decL r = .error p) ∧ ∃ e, v = .tuple #[.string (S []), .string (S []), e] ∧ IsAt w' e c (p + (k.length + 13)))

theorem UndPost.none {l : List UInt8} {w' : World} (h : ¬ ∃ k r, IsData l k r) : UndPost l (.tuple #[.string (S []), .string (S []), eno 3]) w' := .inl ⟨h, rfl⟩

theorem cutPrefix_yes (l p r : List UInt8) (w : World) (h : l = p ++ r) : Pure 58 #[.string (S l), .string (S p)] w (.tuple #[.string (S r), .bool true]) := by
  have := cutPrefix_any l p w
  have hp : hasP l p = true := by rw [h]; exact hasP_append p r
  rw [hp, if_pos rfl, h] at this
  rw [h]
  simpa using this
theorem cutPrefix_no (l p : List UInt8) (w : World) (h : ¬ ∃ r, l = p ++ r) : Pure 58 #[.string (S l), .string (S p)] w (.tuple #[.string (S l), .bool false]) := by
  have := cutPrefix_any l p w
  have hp : hasP l p = false := by
    cases e : hasP l p with
    | false => rfl
    | true => exact absurd ⟨_, hasP_eq e⟩ h
  rw [hp, if_neg (by simp)] at this
  exact this
theorem cutSuffix_yes (l p r : List UInt8) (w : World) (hl : l.length ≤ 140737488351328) (h : l = r ++ p) : Pure 59 #[.string (S l), .string (S p)] w (.tuple #[.string (S r), .bool true]) := by
  have := cutSuffix_any l p w hl
  have hp : hasE l p = true := by rw [h]; exact hasE_append r p
  rw [hp, if_pos rfl] at this
  have e : l.take (l.length - p.length) = r := by rw [h]; simp
  rwa [e] at this
theorem cutSuffix_no (l p : List UInt8) (w : World) (hl : l.length ≤ 140737488351328) (h : ¬ ∃ r, l = r ++ p) : Pure 59 #[.string (S l), .string (S p)] w (.tuple #[.string (S l), .bool false]) := by
  have := cutSuffix_any l p w hl
  have hp : hasE l p = false := by
    cases e : hasE l p with
    | false => rfl
    | true => exact absurd ⟨_, hasE_eq e⟩ h
  rw [hp, if_neg (by simp)] at this
  exact this
theorem decode_ok (l bs : List UInt8) (w : World) (hl : l.length ≤ 1099511627776) (hm : l.length % 4 = 0) (h : decL l = .ok bs) : Gives 60 #[.string (S l)] w (.tuple #[.string (S bs), .nilIface]) := by
  refine Calls.mono (b64decode_any l w hl) ?_
  rintro e w' ⟨v, rfl, hq, hg⟩
  unfold DecPost at hq
  rw [if_neg (by omega), h] at hq
  exact ⟨by rw [hq], hg⟩
theorem decode_bad (l : List UInt8) (c : Int) (p : Nat) (w : World) (hl : l.length ≤ 1099511627776) (h : if l.length % 4 ≠ 0 then c = 7 ∧ p = l.length else c = 3 ∧ decL l = .error p) : Makes 60 #[.string (S l)] w (fun v w' => ∃ b, v = .tuple #[.string (S []), .iface 67 (.pointer (some ⟨b, 0, none⟩))] ∧ w'.cell? ⟨b, 0, none⟩ = some (.int .i64 c) ∧ w'.cell? ⟨b, 1, none⟩ = some (.int .i64 p) ∧ b < w'.heap.size) := by
  refine (b64decode_any l w hl).mono ?_
  intro v w' _ hq
  unfold DecPost at hq
  split at h
  · rename_i hm
    rw [if_pos hm] at hq
    obtain ⟨rfl, rfl⟩ := h
    obtain ⟨e, rfl, b, rfl, h1, h2, h3⟩ := hq
    exact ⟨b, rfl, h1, h2, h3⟩
  · rename_i hm
    obtain ⟨rfl, h⟩ := h
    rw [if_neg hm, h] at hq
    obtain ⟨e, rfl, b, rfl, h1, h2, h3⟩ := hq
    exact ⟨b, rfl, h1, h2, h3⟩
theorem decL_err_le : ∀ (l : List UInt8) (p : Nat), decL l = .error p → p ≤ l.length
  | c0 :: c1 :: c2 :: c3 :: t, p => by
    intro h
    rw [decL_cons] at h
    have hq : ∀ q, decQ t.isEmpty c0 c1 c2 c3 = .error q → q ≤ 3 := by
      intro q hq
      unfold decQ at hq
      split at hq
      · cases hq; omega
      · split at hq
        · cases hq; omega
        · split at hq
          · split at hq <;> cases hq <;> omega
          · split at hq
            · cases hq; omega
            · split at hq
              · split at hq <;> cases hq <;> omega
              · split at hq <;> cases hq <;> omega
    cases hd : decQ t.isEmpty c0 c1 c2 c3 with
    | error q => rw [hd] at h; cases h; have := hq _ hd; simp; omega
    | ok bs =>
      rw [hd] at h
      cases ht : decL t with
      | ok _ => rw [ht] at h; cases h
      | error q => rw [ht] at h; cases h; have := decL_err_le t q ht; simp; omega
  | [], p => by intro h; cases h
  | [_], p => by intro h; simp [decL] at h
  | [_, _], p => by intro h; simp [decL] at h
  | [_, _, _], p => by intro h; simp [decL] at h

set_option maxRecDepth 100000 in
set_option maxHeartbeats 1000000 in
theorem und_a1 (l r : List UInt8) (w : World) (hn : Hid (44 ∉ l)) (hr : Hid (l = dataP ++ r)) (H : Hid (¬ ∃ k r, IsData l k r)) : Makes 42 #[.string (S (l))] w (UndPost (l)) := by
  go_enter Try.func42, Try.ntmps42
  go_wp2_with fail
  refine (cut_none_any l 44 hn.out _).use ?_; intro w1 g1
  go_wp2_with fail
  refine (cutPrefix_yes l dataP r _ hr.out).use ?_
  go_wp2_with fail
  go_ret3
  exact ⟨_, rfl, UndPost.none H.out, g1⟩
set_option maxRecDepth 100000 in
set_option maxHeartbeats 1000000 in
theorem und_a2 (l : List UInt8) (w : World) (hn : Hid (44 ∉ l)) (hr : Hid (¬ ∃ r, l = dataP ++ r)) (H : Hid (¬ ∃ k r, IsData l k r)) : Makes 42 #[.string (S (l))] w (UndPost (l)) := by
  go_enter Try.func42, Try.ntmps42
  go_wp2_with fail
  refine (cut_none_any l 44 hn.out _).use ?_; intro w1 g1
  go_wp2_with fail
  refine (cutPrefix_no l dataP _ hr.out).use ?_
  go_wp2_with fail
  go_ret3
  exact ⟨_, rfl, UndPost.none H.out, g1⟩
set_option maxRecDepth 100000 in
set_option maxHeartbeats 1000000 in
theorem und_b (a r : List UInt8) (w : World) (hl : a.length + 1 + r.length ≤ 1099511627776) (ha : Hid (44 ∉ a)) (hp : Hid (¬ ∃ m, a = dataP ++ m)) (H : Hid (¬ ∃ k r', IsData (a ++ 44 :: r) k r')) : Makes 42 #[.string (S (a ++ 44 :: r))] w (UndPost (a ++ 44 :: r)) := by
  go_enter Try.func42, Try.ntmps42
  go_wp2_with fail
  refine (cut_some_any a r 44 ha.out _ (by omega)).use ?_; intro w1 g1
  go_wp2_with fail
  refine (cutPrefix_no a dataP _ hp.out).use ?_
  go_wp2_with fail
  go_ret3
  exact ⟨_, rfl, UndPost.none H.out, g1⟩
set_option maxRecDepth 100000 in
set_option maxHeartbeats 1000000 in
theorem und_c (a r : List UInt8) (w : World) (hl : a.length + 1 + r.length ≤ 1099511627776) (ha : Hid (44 ∉ a)) (m : List UInt8) (hml : m.length ≤ a.length) (hm : Hid (a = dataP ++ m)) (hp : Hid (¬ ∃ k, m = k ++ base64P)) (H : Hid (¬ ∃ k r', IsData (a ++ 44 :: r) k r')) : Makes 42 #[.string (S (a ++ 44 :: r))] w (UndPost (a ++ 44 :: r)) := by
  go_enter Try.func42, Try.ntmps42
  go_wp2_with fail
  refine (cut_some_any a r 44 ha.out _ (by omega)).use ?_; intro w1 g1
  go_wp2_with fail
  refine (cutPrefix_yes a dataP m _ hm.out).use ?_
  go_wp2_with fail
  refine (cutSuffix_no m base64P _ (by omega) hp.out).use ?_
  go_wp2_with fail
  go_ret3
  exact ⟨_, rfl, UndPost.none H.out, g1⟩
set_option maxRecDepth 100000 in
set_option maxHeartbeats 1000000 in
theorem und_d (a r : List UInt8) (w : World) (hl : a.length + 1 + r.length ≤ 1099511627776) (ha : Hid (44 ∉ a)) (m : List UInt8) (hml : m.length ≤ a.length) (hm : Hid (a = dataP ++ m)) (k : List UInt8) (hkl : k.length ≤ m.length) (hk : Hid (m = k ++ base64P)) (hmb : Hid (mediaB k = false)) (H : Hid (¬ ∃ k r', IsData (a ++ 44 :: r) k r')) : Makes 42 #[.string (S (a ++ 44 :: r))] w (UndPost (a ++ 44 :: r)) := by
  go_enter Try.func42, Try.ntmps42
  go_wp2_with fail
  refine (cut_some_any a r 44 ha.out _ (by omega)).use ?_; intro w1 g1
  go_wp2_with fail
  refine (cutPrefix_yes a dataP m _ hm.out).use ?_
  go_wp2_with fail
  refine (cutSuffix_yes m base64P k _ (by omega) hk.out).use ?_
  go_wp2_with fail
  refine (media_any k _ (by omega)).use ?_
  rw [hmb.out]
  go_wp2_with fail
  go_ret3
  exact ⟨_, rfl, UndPost.none H.out, g1⟩
set_option maxRecDepth 100000 in
set_option maxHeartbeats 1000000 in
theorem und_e (a r : List UInt8) (w : World) (hl : a.length + 1 + r.length ≤ 1099511627776) (ha : Hid (44 ∉ a)) (m : List UInt8) (hml : m.length ≤ a.length) (hm : Hid (a = dataP ++ m)) (k : List UInt8) (hkl : k.length ≤ m.length) (hk : Hid (m = k ++ base64P)) (hmb : Hid (mediaB k = true)) (HD : Hid (IsData (a ++ 44 :: r) k r)) (bs : List UInt8) (h4 : Hid (r.length % 4 = 0)) (hd : Hid (decL r = .ok bs)) : Makes 42 #[.string (S (a ++ 44 :: r))] w (UndPost (a ++ 44 :: r)) := by
  go_enter Try.func42, Try.ntmps42
  go_wp2_with fail
  refine (cut_some_any a r 44 ha.out _ (by omega)).use ?_; intro w1 g1
  go_wp2_with fail
  refine (cutPrefix_yes a dataP m _ hm.out).use ?_
  go_wp2_with fail
  refine (cutSuffix_yes m base64P k _ (by omega) hk.out).use ?_
  go_wp2_with fail
  refine (media_any k _ (by omega)).use ?_
  rw [hmb.out]
  go_wp2_with fail
  refine (decode_ok r bs _ (by omega) h4.out hd.out).use ?_; intro w2 g2
  go_wp2_with fail
  go_ret3
  exact ⟨_, rfl, .inr (.inl ⟨k, r, HD.out, h4.out, bs, hd.out, rfl⟩), g1.trans g2⟩
set_option maxRecDepth 100000 in
set_option maxHeartbeats 1000000 in
theorem und_f (a r : List UInt8) (w : World) (hl : a.length + 1 + r.length ≤ 1099511627776) (ha : Hid (44 ∉ a)) (m : List UInt8) (hml : m.length ≤ a.length) (hm : Hid (a = dataP ++ m)) (k : List UInt8) (hkl : k.length ≤ m.length) (hk : Hid (m = k ++ base64P)) (hmb : Hid (mediaB k = true)) (HD : Hid (IsData (a ++ 44 :: r) k r)) (hal : a.length = k.length + 12) (c : Int) (p : Nat) (hple : p ≤ r.length) (hcp : Hid (if r.length % 4 ≠ 0 then c = 7 ∧ p = r.length else c = 3 ∧ decL r = .error p)) : Makes 42 #[.string (S (a ++ 44 :: r))] w (UndPost (a ++ 44 :: r)) := by
  go_enter Try.func42, Try.ntmps42
  go_wp2_with fail
  refine (cut_some_any a r 44 ha.out _ (by omega)).use ?_; intro w1 g1
  go_wp2_with fail
  refine (cutPrefix_yes a dataP m _ hm.out).use ?_
  go_wp2_with fail
  refine (cutSuffix_yes m base64P k _ (by omega) hk.out).use ?_
  go_wp2_with fail
  refine (media_any k _ (by omega)).use ?_
  rw [hmb.out]
  go_wp2_with fail
  refine (decode_bad r c p _ (by omega) hcp.out).use ?_
  rintro v w2 ⟨b, rfl, hb0, hb1, hbl⟩ g2
  go_wp2_with fail
  go_region
  go_wp2_with fail
  go_ret3
  refine ⟨_, rfl, .inr (.inr ⟨k, r, HD.out, c, p, hcp.out, _, rfl, ?_⟩), ((g1.trans g2).alloc _).drew⟩
  have e : (((p : Int) + ((k.length : Int) + 13)) : Int) = (p : Int) + ((k.length : Int) + 12) + 1 := by omega
  rw [e]
  exact (IsAt.new w2 69 c ((p : Int) + ((k.length : Int) + 12) + 1)).grow (G.refl _).drew

theorem undata_any (l : List UInt8) (w : World) (hl : l.length ≤ 1099511627776) : Makes 42 #[.string (S l)] w (UndPost l) := by
  rcases first_split l 44 with hn | ⟨a, r, hs, ha⟩
  · have H : Hid (¬ ∃ k r, IsData l k r) := hid (by rintro ⟨k, r, h, -⟩; exact hn (by rw [h]; simp))
    by_cases hp : ∃ r, l = dataP ++ r
    · obtain ⟨r, hr⟩ := hp
      exact und_a1 l r w hn hr H
    · exact und_a2 l w hn hp H
  have hlen : a.length + 1 + r.length ≤ 1099511627776 := by rw [hs] at hl; simp at hl; omega
  by_cases hp : ∃ m, a = dataP ++ m
  case neg =>
    have H : Hid (¬ ∃ k r, IsData l k r) := hid (by
      rintro ⟨k, r', h, hm⟩
      rw [hs] at h
      exact hp ⟨k ++ base64P, by rw [(first_unique h ha (IsData.head hm)).1]; simp⟩)
    subst hs
    exact und_b a r w hlen ha hp H
  obtain ⟨m, hm⟩ := hp
  have hml : m.length ≤ a.length := by rw [hm]; simp
  by_cases hp : ∃ k, m = k ++ base64P
  case neg =>
    have H : Hid (¬ ∃ k r, IsData l k r) := hid (by
      rintro ⟨k, r', h, hk⟩
      rw [hs] at h
      have := (first_unique h ha (IsData.head hk)).1
      rw [hm, List.append_assoc] at this
      exact hp ⟨k, List.append_cancel_left this⟩)
    subst hs
    exact und_c a r w hlen ha m hml hm hp H
  obtain ⟨k, hk⟩ := hp
  have hkl : k.length ≤ m.length := by rw [hk]; simp
  have hal : a.length = k.length + 12 := by rw [hm, hk]; simp [dataP, base64P]
  cases hmb : mediaB k with
  | false =>
    have H : Hid (¬ ∃ k r, IsData l k r) := hid (by
      rintro ⟨k', r', h, hk'⟩
      rw [hs] at h
      have := (first_unique h ha (IsData.head hk')).1
      rw [hm, hk, List.append_assoc] at this
      have := List.append_cancel_right (List.append_cancel_left this)
      rw [this, hk'] at hmb; cases hmb)
    subst hs
    exact und_d a r w hlen ha m hml hm k hkl hk hmb H
  | true =>
  have HD : Hid (IsData l k r) := hid ⟨by rw [hs, hm, hk]; simp, hmb⟩
  have hgood : (r.length % 4 = 0 ∧ ∃ bs, decL r = .ok bs) ∨ ∃ c : Int, ∃ p : Nat, (if r.length % 4 ≠ 0 then c = 7 ∧ p = r.length else c = 3 ∧ decL r = .error p) := by
    by_cases h4 : r.length % 4 = 0
    · cases hd : decL r with
      | ok bs => exact .inl ⟨h4, bs, rfl⟩
      | error p => exact .inr ⟨3, p, by rw [if_neg (by omega)]; exact ⟨rfl, rfl⟩⟩
    · exact .inr ⟨7, r.length, by rw [if_pos h4]; exact ⟨rfl, rfl⟩⟩
  rcases hgood with ⟨h4, bs, hd⟩ | ⟨c, p, hcp⟩
  · subst hs
    exact und_e a r w hlen ha m hml hm k hkl hk hmb HD bs h4 hd
  · have hple : p ≤ r.length := by
      split at hcp
      · omega
      · exact decL_err_le r p hcp.2
    subst hs
    exact und_f a r w hlen ha m hml hm k hkl hk hmb HD hal c p hple hcp
end Go.Proofs.Ytaiehmahgejhdaa
