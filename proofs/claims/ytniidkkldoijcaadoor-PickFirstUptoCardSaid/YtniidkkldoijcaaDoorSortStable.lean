/-
  CONTRACTS of slices.stableCmpFunc and slices.SortStableFunc at []int.
-/
import Derived.Test.YtniidkkldoijcaaDoorSortMerge2
namespace Go.Proofs.YtniidkkldoijcaaDoor
open Go.RowKit Stab
set_option linter.unusedVariables false
set_option linter.unusedSimpArgs false

/-- sorted, and of the same elements -/
def Sorted (key : Int → Int) (l0 l : List Int) : Prop := l.Perm l0 ∧ Srt key l
theorem Pass.two {key : Int → Int} {n : Nat} {D E : List (List Int)} (hn : 0 < n) (h : Pass key n D E) (hl : 2 * n ≤ E.flatten.length) : ∃ c d r, E = c :: d :: r ∧ c.length = n ∧ d.length = n := by
  have hs := h.2.1
  match E, hs, hl with
  | [], _, hl => simp at hl; omega
  | [c], hs, hl => have := hs.2; simp at hl; omega
  | [c, d], hs, hl => have h1 := hs.1; have h2 := hs.2.2; simp at hl; exact ⟨c, d, [], rfl, h1, by omega⟩
  | c :: d :: e :: r, hs, hl => exact ⟨c, d, e :: r, rfl, hs.1, hs.2.1⟩
theorem Pass.few {key : Int → Int} {n : Nat} {D E : List (List Int)} (hn : 0 < n) (h : Pass key n D E) (hl : E.flatten.length < 2 * n) : (E = [] ∧ E.flatten.length = 0) ∨ (∃ c, E = [c] ∧ E.flatten.length ≤ n) ∨ ∃ c d, E = [c, d] ∧ c.length = n ∧ 0 < d.length := by
  have hs := h.2.1
  match E, hs, hl with
  | [], _, hl => exact .inl ⟨rfl, rfl⟩
  | [c], hs, hl => exact .inr (.inl ⟨c, rfl, by simpa using hs.2⟩)
  | [c, d], hs, hl => exact .inr (.inr ⟨c, d, rfl, hs.1, hs.2.1⟩)
  | c :: d :: e :: r, hs, hl => have h1 := hs.1; have h2 := hs.2.1; simp at hl; omega
set_option maxRecDepth 100000 in
set_option maxHeartbeats 4000000 in
theorem stable_any {w0 : World} {B off n cap : Nat} {cv : Value} {cf : Int → Int → Int} {key : Int → Int} {dom : Int → Prop} (hK : ∀ x y, cf x y < 0 ↔ key x < key y) (hC : CmpOk w0 B cv cf dom)
    (l0 : List Int) (W : World) (hS : SR w0 B off l0 W) (hD : ∀ x ∈ l0, dom x) (hI : l0.Pairwise (· < ·)) (hn : n = l0.length) (hb : n ≤ 1000000) :
    Calls Tryd.prog 58 #[.slice (some ⟨B, off, none⟩) n cap, .int .i64 (n : Int), cmpV cv] W (SortP w0 B off (Sorted key l0)) := by
  have HINS := hid (fun (P t Q : List Int) (w : World) (a b : Nat) (h : SR w0 B off (P ++ t ++ Q) w) (h2 : (P ++ t ++ Q).Perm l0) (h3 : t.Pairwise (· < ·)) (ha : a = P.length) (he : b = a + t.length) => ins_any (cap := cap) hK hC P t Q w a b h (fun x hx => hD x (h2.mem_iff.1 (by simp [hx]))) h3 (by rw [hn, h2.length_eq]) hb ha he)
  have HMRG := hid (fun (P u v Q : List Int) (w : World) (a m b : Nat) {za zm zb : Int} (hza : za = a) (hzm : zm = m) (hzb : zb = b) (h : SR w0 B off (P ++ u ++ v ++ Q) w) (h2 : (P ++ u ++ v ++ Q).Perm l0) (h3 : Bef u v) (hu : Srt key u) (hv : Srt key v) (ha : a = P.length) (hm : m = a + u.length) (he : b = m + v.length) (h0 : 0 < u.length) (h1 : 0 < v.length) => merge_any (cap := cap) hK hC _ P u v Q w a m b hza hzm hzb h ⟨fun x hx => hD x (h2.mem_iff.1 (by simp [hx])), fun x hx => hD x (h2.mem_iff.1 (by simp [hx]))⟩ h3 hu hv (by rw [hn, h2.length_eq]) hb ha hm he h0 h1 (Nat.le_refl _))
  have HS := hid hS
  have HN := hid hn
  have HI := hid hI
  clear hS hn hI hK hC hD
  unfold cmpV at HINS HMRG ⊢
  go_enter Tryd.func58, Tryd.ntmps58
  go_wp2_with fail
  go_loopw [7, 8] (fun va vb wr => ∃ a b : Nat, va = .int .i64 (a : Int) ∧ vb = .int .i64 (b : Int) ∧ a < b ∧ b ≤ a + 20 ∧ a ≤ n ∧ ∃ (D : List (List Int)) (t : List Int), Hid ((a = D.flatten.length ∧ b = a + 20) ∧ First key 20 D t ∧ (D.flatten ++ t).Perm l0 ∧ SR w0 B off (D.flatten ++ t) wr)) (fun a _ _ => n - (intOf a).toNat)
  case atStart => exact ⟨0, 20, rfl, rfl, by omega, by omega, Nat.zero_le _, [], l0, hid ⟨⟨rfl, rfl⟩, First.start HI.out, List.Perm.refl _, HS.out⟩⟩
  case round =>
    obtain ⟨a, b, rfl, rfl, hab, hab2, han, D, t, HR⟩ := hrel
    by_cases hlt : b ≤ n
    · obtain ⟨⟨h1, h5⟩, h2, h3, h4⟩ := HR.out
      have hl := h3.length_eq
      rw [← HN.out, List.length_append] at hl
      obtain ⟨t1, t2, rfl, ht1⟩ := split_at t 20 (by omega)
      have hc := HINS.out D.flatten t1 t2 wr a b (by simpa using h4) (by simpa using h3) (List.pairwise_append.1 h2.2.2.2).1 h1 (by omega)
      have H := hid (show First key 20 D (t1 ++ t2) ∧ t1.length = 20 ∧ (a = D.flatten.length ∧ b = a + 20) ∧ (D.flatten ++ (t1 ++ t2)).Perm l0 from ⟨h2, ht1, ⟨h1, h5⟩, h3⟩)
      have HC := hid hc
      clear h1 h2 h3 h4 h5 hl ht1 hc HR
      go_wp2_with fail
      refine HC.out.mono ?_
      rintro e w' ⟨rfl, l, ⟨s, p1, p2, rfl⟩, hl⟩
      have HW := hid (show s.Perm t1 ∧ Srt key s ∧ SR w0 B off (D.flatten ++ s ++ t2) w' from ⟨p1, p2, hl⟩)
      clear p1 p2 hl
      go_wp2_with fail
      go_roundw
      case measure => simp [intOf]; omega
      case rel =>
        obtain ⟨k1, k2, k3, k4⟩ := H.out
        obtain ⟨q1, q2, q3⟩ := HW.out
        refine ⟨b, b + 20, rfl, by go_num, by omega, Nat.le_refl _, hlt, D ++ [s], t2, hid ⟨⟨?_, rfl⟩, k1.step k2 q1 q2, ?_, by simpa using q3⟩⟩
        · have := q1.length_eq; simp; simp at k3; omega
        · refine List.Perm.trans ?_ k4
          simp only [List.flatten_append, List.flatten_cons, List.flatten_nil, List.append_nil, List.append_assoc]
          exact List.Perm.append_left _ (q1.append_right t2)
    · obtain ⟨⟨h1, h5⟩, h2, h3, h4⟩ := HR.out
      have hl := h3.length_eq
      rw [← HN.out, List.length_append] at hl
      have hc := HINS.out D.flatten t [] wr a n (by simpa using h4) (by simpa using h3) h2.2.2.2 h1 (by omega)
      have H := hid (show First key 20 D t ∧ t.length ≤ 20 ∧ (D.flatten ++ t).Perm l0 from ⟨h2, by omega, h3⟩)
      have HC := hid hc
      clear h1 h2 h3 h4 h5 hl hc HR
      go_wp2_with fail
      refine HC.out.mono ?_
      rintro e w' ⟨rfl, l, ⟨s, p1, p2, rfl⟩, hl⟩
      obtain ⟨cs, c1, c2⟩ := H.out.1.done (by omega) H.out.2.1 p1 p2
      have HW := hid (show Chunks key 20 cs ∧ cs.flatten.Perm l0 ∧ SR w0 B off cs.flatten w' from ⟨c1, by rw [c2]; exact (List.Perm.append_left _ p1).trans H.out.2.2, by rw [c2]; simpa using hl⟩)
      clear p1 p2 hl c1 c2 HINS
      go_wp2_with fail
      go_loopw [6, 7, 8] (fun vs _ _ wr => ∃ bs : Nat, vs = .int .i64 (bs : Int) ∧ 0 < bs ∧ bs ≤ 2 * n + 20 ∧ ∃ cs : List (List Int), Hid (Chunks key bs cs ∧ cs.flatten.Perm l0 ∧ SR w0 B off cs.flatten wr)) (fun vs _ _ _ => 2 * n + 20 - (intOf vs).toNat)
      case atStart => exact ⟨20, rfl, by omega, by omega, cs, HW⟩
      case round =>
        obtain ⟨bs, rfl, hb0, hb1, cs, HR⟩ := hrel
        by_cases hlt : bs < n
        · go_wp2_with fail
          go_loopw [7, 8] (fun va vb wr => ∃ a b : Nat, va = .int .i64 (a : Int) ∧ vb = .int .i64 (b : Int) ∧ a < b ∧ b ≤ a + 2 * bs ∧ a ≤ n ∧ ∃ D E : List (List Int), Hid ((a = D.flatten.length ∧ b = a + 2 * bs) ∧ Pass key bs D E ∧ (D ++ E).flatten.Perm l0 ∧ SR w0 B off (D ++ E).flatten wr)) (fun a _ _ => n - (intOf a).toNat)
          case atStart => exact ⟨0, 2 * bs, rfl, by go_num, by omega, by omega, Nat.zero_le _, [], cs, hid ⟨⟨rfl, by omega⟩, Pass.start HR.out.1, HR.out.2.1, HR.out.2.2⟩⟩
          case round =>
            obtain ⟨a, b, rfl, rfl, hab, hab2, han, D, E, HR⟩ := hrel
            by_cases hlt2 : b ≤ n
            · obtain ⟨⟨h1, h5⟩, h2, h3, h4⟩ := HR.out
              have hl := h3.length_eq
              rw [← HN.out, List.flatten_append, List.length_append] at hl
              obtain ⟨c, d, r, rfl, hc, hd⟩ := Pass.two hb0 h2 (by omega)
              obtain ⟨g1, g2, g3, g4⟩ := h2.bef
              have e0 : (D ++ c :: d :: r).flatten = D.flatten ++ c ++ d ++ r.flatten := by simp
              have hc2 := HMRG.out D.flatten c d r.flatten wr a (a + bs) b (za := a) (zm := (a : Int) + bs) (zb := b) rfl (by omega) rfl (by rw [← e0]; exact h4) (by rw [← e0]; exact h3) g1 g2 g3 h1 (by omega) (by omega) (by omega) (by omega)
              have H := hid (show Pass key bs D (c :: d :: r) ∧ d.length = bs ∧ c.length = bs ∧ (a = D.flatten.length ∧ b = a + 2 * bs) ∧ (D.flatten ++ c ++ d ++ r.flatten).Perm l0 from ⟨h2, hd, hc, ⟨h1, h5⟩, by rw [← e0]; exact h3⟩)
              have HC := hid hc2
              clear h1 h2 h3 h4 h5 hl hc hd hc2 HR g1 g2 g3 g4 e0
              go_wp2_with fail
              refine HC.out.mono ?_
              rintro e w' ⟨rfl, l, ⟨s, p1, p2, rfl⟩, hl⟩
              have HW := hid (show s.Perm (c ++ d) ∧ Srt key s ∧ SR w0 B off (D.flatten ++ s ++ r.flatten) w' from ⟨p1, p2, hl⟩)
              clear p1 p2 hl
              go_wp2_with fail
              go_roundw
              case measure => simp [intOf]; omega
              case rel =>
                obtain ⟨k1, k2, k3, k4, k5⟩ := H.out
                obtain ⟨q1, q2, q3⟩ := HW.out
                refine ⟨b, b + 2 * bs, rfl, by go_num, by omega, Nat.le_refl _, hlt2, D ++ [s], r, hid ⟨⟨?_, rfl⟩, k1.step k2 q1 q2, ?_, by simpa using q3⟩⟩
                · have := q1.length_eq; simp at this ⊢; simp at k4; omega
                · refine List.Perm.trans ?_ k5
                  simp only [List.flatten_append, List.flatten_cons, List.flatten_nil, List.append_nil, List.append_assoc]
                  refine List.Perm.append_left _ ?_
                  rw [← List.append_assoc]
                  exact q1.append_right _
            · obtain ⟨⟨h1, h5⟩, h2, h3, h4⟩ := HR.out
              have hl := h3.length_eq
              rw [← HN.out, List.flatten_append, List.length_append] at hl
              rcases Pass.few hb0 h2 (by omega) with ⟨rfl, he⟩ | ⟨c, rfl, he⟩ | ⟨c, d, rfl, hc, hd⟩
              · have HX := hid (show Chunks key (2 * bs) D ∧ D.flatten.Perm l0 ∧ SR w0 B off D.flatten wr from ⟨h2.end0 hb0, by simpa using h3, by simpa using h4⟩)
                have hm : n ≤ a + bs := by omega
                clear h1 h2 h3 h4 h5 hl HR he
                go_wp2_with fail
                go_roundw
                case measure => simp [intOf]; omega
                case rel => exact ⟨2 * bs, by go_num, by omega, by omega, D, HX⟩
              · have HX := hid (show Chunks key (2 * bs) (D ++ [c]) ∧ (D ++ [c]).flatten.Perm l0 ∧ SR w0 B off (D ++ [c]).flatten wr from ⟨h2.end1, h3, h4⟩)
                have hm : n ≤ a + bs := by omega
                clear h1 h2 h3 h4 h5 hl HR he
                go_wp2_with fail
                go_roundw
                case measure => simp [intOf]; omega
                case rel => exact ⟨2 * bs, by go_num, by omega, by omega, D ++ [c], HX⟩
              · obtain ⟨g1, g2, g3, g4⟩ := h2.bef
                have e0 : (D ++ [c, d]).flatten = D.flatten ++ c ++ d ++ [] := by simp
                have el : [c, d].flatten.length = c.length + d.length := by simp
                have hc2 := HMRG.out D.flatten c d [] wr a (a + bs) n (za := a) (zm := (a : Int) + bs) (zb := n) rfl (by omega) rfl (by rw [← e0]; exact h4) (by rw [← e0]; exact h3) g1 g2 g3 h1 (by omega) (by omega) (by omega) (by omega)
                have H := hid (show Pass key bs D [c, d] ∧ (D.flatten ++ c ++ d ++ []).Perm l0 from ⟨h2, by rw [← e0]; exact h3⟩)
                have HC := hid hc2
                have hm : a + bs < n := by omega
                clear h1 h2 h3 h4 h5 hl hc hd hc2 HR g1 g2 g3 g4 e0 el
                go_wp2_with fail
                refine HC.out.mono ?_
                rintro e w' ⟨rfl, l, ⟨s, p1, p2, rfl⟩, hl⟩
                have HX := hid (show Chunks key (2 * bs) (D ++ [s]) ∧ (D ++ [s]).flatten.Perm l0 ∧ SR w0 B off (D ++ [s]).flatten w' from ⟨H.out.1.end2 p1 p2, by
                  refine List.Perm.trans ?_ H.out.2
                  simp only [List.flatten_append, List.flatten_cons, List.flatten_nil, List.append_nil, List.append_assoc]
                  exact List.Perm.append_left _ p1, by simpa using hl⟩)
                clear p1 p2 hl
                go_wp2_with fail
                go_roundw
                case measure => simp [intOf]; omega
                case rel => exact ⟨2 * bs, by go_num, by omega, by omega, D ++ [s], HX⟩
        · go_wp2_with fail
          go_end0
          exact ⟨rfl, _, ⟨HR.out.2.1, HR.out.1.done (by rw [HR.out.2.1.length_eq, ← HN.out]; omega)⟩, HR.out.2.2⟩

end Go.Proofs.YtniidkkldoijcaaDoor
