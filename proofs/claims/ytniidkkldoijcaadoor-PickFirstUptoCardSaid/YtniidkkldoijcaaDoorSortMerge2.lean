/-
  CONTRACT of slices.symMergeCmpFunc at []int: whatever parts.
-/
import Derived.Test.YtniidkkldoijcaaDoorMSortM
import Derived.Deep.DeepCutAuto
import Derived.Deep.CutBlock
namespace Go.Proofs.YtniidkkldoijcaaDoor
open Go.RowKit Stab
set_option linter.unusedVariables false
set_option linter.unusedSimpArgs false

/-- what the search of a merge by halves finds -/
structure Half (key : Int → Int) (u v u1 u2 v1 v2 : List Int) : Prop where
  u : u = u1 ++ u2
  v : v = v1 ++ v2
  l : ∀ x ∈ u1, ∀ y ∈ v2, L key x y
  r : ∀ x ∈ v1, ∀ y ∈ u2, L key x y
/-- the bounds of that search: D the whole row -/
def Edge (key : Int → Int) (D : List Int) (lo hi p s r : Nat) : Prop :=
  (lo < s → ∀ x y, D[s - 1]? = some x → D[p - (s - 1)]? = some y → key x ≤ key y) ∧ (r < hi → ∀ x y, D[r]? = some x → D[p - r]? = some y → key y < key x)
theorem half_of {key : Int → Int} {P u v Q : List Int} {a m b mid lo hi s : Nat} (ha : a = P.length) (hm : m = a + u.length) (hb : b = m + v.length) (hI : Bef u v) (hu : Srt key u) (hv : Srt key v) (h0 : 0 < u.length) (h1 : 0 < v.length)
    (hmid : mid = (a + b) / 2) (hlo : lo = if mid < m then mid + m - b else a) (hhi : hi = if mid < m then mid else m) (hs : lo ≤ s ∧ s ≤ hi) (he : Edge key (P ++ u ++ v ++ Q) lo hi (mid + m - 1) s s) :
    ∃ u1 u2 v1 v2, Half key u v u1 u2 v1 v2 ∧ s = a + u1.length ∧ mid + m - s = m + v1.length := by
  obtain ⟨e1, e2⟩ := he
  have k1 : a ≤ s ∧ s ≤ m ∧ m ≤ mid + m - s ∧ mid + m - s ≤ b := by split at hlo <;> split at hhi <;> omega
  obtain ⟨u1, u2, rfl, hl1⟩ := split_at u (s - a) (by omega)
  obtain ⟨v1, v2, rfl, hl2⟩ := split_at v (mid + m - s - m) (by omega)
  simp only [List.length_append] at hm hb h0 h1
  have hu' := List.pairwise_append.1 hu
  have hv' := List.pairwise_append.1 hv
  refine ⟨u1, u2, v1, v2, ⟨rfl, rfl, ?_, ?_⟩, by omega, by omega⟩
  · refine cross hu'.1 hv'.2.1 fun x y hx hy => ?_
    have hne1 : 0 < u1.length := by cases u1 with | nil => simp at hx | cons _ _ => simp
    have hne2 : 0 < v2.length := by cases v2 with | nil => simp at hy | cons _ _ => simp
    have hlt : lo < s := by split at hlo <;> omega
    refine L.of_ids (hI x (List.mem_append_left _ (List.mem_of_getLast? hx)) y (List.mem_append_right _ (List.mem_of_mem_head? hy))) (e1 hlt x y ?_ ?_)
    · rcases List.eq_nil_or_concat u1 with h | ⟨c, d, h⟩
      · rw [h] at hne1; simp at hne1
      · rw [h] at hx hl1; simp at hx hl1; subst hx
        have e : P ++ (u1 ++ u2) ++ (v1 ++ v2) ++ Q = (P ++ c) ++ d :: (u2 ++ (v1 ++ v2) ++ Q) := by rw [h]; simp
        rw [e]; exact getA _ _ _ _ (by simp; omega)
    · cases v2 with
      | nil => simp at hy
      | cons d c =>
        simp at hy; subst hy
        have e : P ++ (u1 ++ u2) ++ (v1 ++ d :: c) ++ Q = (P ++ (u1 ++ u2) ++ v1) ++ d :: (c ++ Q) := by simp
        rw [e]; exact getA _ _ _ _ (by simp; omega)
  · refine cross hv'.1 hu'.2.1 fun x y hx hy => ?_
    have hne1 : 0 < v1.length := by cases v1 with | nil => simp at hx | cons _ _ => simp
    have hne2 : 0 < u2.length := by cases u2 with | nil => simp at hy | cons _ _ => simp
    have hlt : s < hi := by split at hhi <;> omega
    refine .inl (e2 hlt y x ?_ ?_)
    · cases u2 with
      | nil => simp at hy
      | cons d c =>
        simp at hy; subst hy
        have e : P ++ (u1 ++ d :: c) ++ (v1 ++ v2) ++ Q = (P ++ u1) ++ d :: (c ++ (v1 ++ v2) ++ Q) := by simp
        rw [e]; exact getA _ _ _ _ (by simp; omega)
    · rcases List.eq_nil_or_concat v1 with h | ⟨c, d, h⟩
      · rw [h] at hne1; simp at hne1
      · rw [h] at hx hl2; simp at hx hl2; subst hx
        have e : P ++ (u1 ++ u2) ++ (v1 ++ v2) ++ Q = (P ++ (u1 ++ u2) ++ c) ++ d :: (v2 ++ Q) := by rw [h]; simp
        rw [e]; exact getA _ _ _ _ (by simp; omega)

theorem at_u {P u v Q : List Int} {a m c : Nat} (ha : a = P.length) (hm : m = a + u.length) (h : a ≤ c) (h' : c < m) : ∃ x, x ∈ u ∧ (P ++ u ++ v ++ Q)[c]? = some x := by
  obtain ⟨u1, u2, hu, hl⟩ := split_at u (c - a) (by omega)
  cases u2 with
  | nil => rw [hu] at hm; simp at hm; omega
  | cons x u2 =>
    have e : P ++ u ++ v ++ Q = (P ++ u1) ++ x :: (u2 ++ v ++ Q) := by rw [hu]; simp
    exact ⟨x, by rw [hu]; simp, by rw [e]; exact getA _ _ _ _ (by simp; omega)⟩
theorem at_v {P u v Q : List Int} {a m b c : Nat} (ha : a = P.length) (hm : m = a + u.length) (hb : b = m + v.length) (h : m ≤ c) (h' : c < b) : ∃ x, x ∈ v ∧ (P ++ u ++ v ++ Q)[c]? = some x := by
  have := at_u (P := P ++ u) (u := v) (v := []) (Q := Q) (a := m) (m := b) (c := c) (by simp; omega) hb h h'
  simpa using this
set_option maxRecDepth 100000 in
set_option maxHeartbeats 8000000 in
theorem merge_any {w0 : World} {B off n cap : Nat} {cv : Value} {cf : Int → Int → Int} {key : Int → Int} {dom : Int → Prop} (hK : ∀ x y, cf x y < 0 ↔ key x < key y) (hC : CmpOk w0 B cv cf dom) (d : Nat) :
    ∀ (P u v Q : List Int) (W : World) (a m b : Nat) {za zm zb : Int} (hza : za = a) (hzm : zm = m) (hzb : zb = b) (hS : SR w0 B off (P ++ u ++ v ++ Q) W) (hD : (∀ x ∈ u, dom x) ∧ ∀ y ∈ v, dom y) (hI : Bef u v) (hu : Srt key u) (hv : Srt key v) (hn : n = (P ++ u ++ v ++ Q).length) (hb : n ≤ 1000000) (ha : a = P.length) (hm : m = a + u.length) (he : b = m + v.length) (h0 : 0 < u.length) (h1 : 0 < v.length) (hd : u.length + v.length ≤ d),
    Calls Tryd.prog 68 #[.slice (some ⟨B, off, none⟩) n cap, .int .i64 za, .int .i64 zm, .int .i64 zb, cmpV cv] W (SortP w0 B off (Merged key P u v Q)) := by
  induction d with
  | zero => intro P u v Q W a m b za zm zb _ _ _ _ _ _ _ _ _ _ _ _ _ h0 _ hd; exfalso; omega
  | succ d ih =>
  intro P u v Q W a m b za zm zb hza hzm hzb hS hD hI hu hv hn hb ha hm he h0 h1 hd
  by_cases hu1 : u.length = 1
  · obtain ⟨x, rfl⟩ := List.length_eq_one_iff.1 hu1
    exact merge_one hK hC P v Q x W a m b hza hzm hzb hS ⟨hD.1 x (by simp), hD.2⟩ (fun y hy => hI x (by simp) y hy) hv hn hb ha (by simpa using hm) he
  by_cases hv1 : v.length = 1
  · obtain ⟨y, rfl⟩ := List.length_eq_one_iff.1 hv1
    exact merge_last hK hC P u Q y W a m b hza hzm hzb hS ⟨hD.2 y (by simp), hD.1⟩ (fun x hx => hI x hx y (by simp)) hu hn hb ha hm (by simpa using he) (by omega)
  subst hza hzm hzb
  have hbn : b ≤ n := by rw [hn, he, hm, ha]; simp; omega
  have ham : a + 2 ≤ m := by omega
  have hmb : m + 2 ≤ b := by omega
  obtain ⟨mid, hmid⟩ : ∃ mid, mid = (a + b) / 2 := ⟨_, rfl⟩
  obtain ⟨lo, hlo⟩ : ∃ lo, lo = if mid < m then mid + m - b else a := ⟨_, rfl⟩
  obtain ⟨hi, hhi⟩ : ∃ hi, hi = if mid < m then mid else m := ⟨_, rfl⟩
  obtain ⟨D, hDD⟩ : ∃ D, D = P ++ u ++ v ++ Q := ⟨_, rfl⟩
  have b1 : a ≤ lo ∧ lo ≤ hi ∧ hi ≤ m ∧ a < mid ∧ mid < b := by split at hlo <;> split at hhi <;> omega
  have b2 : ∀ c, lo ≤ c → c < hi → a ≤ c ∧ c < m ∧ m ≤ mid + m - 1 - c ∧ mid + m - 1 - c < b := by intro c h1 h2; split at hlo <;> split at hhi <;> omega
  have b3 : ∀ c, lo ≤ c → c ≤ hi → m ≤ mid + m - c ∧ mid + m - c ≤ b := by intro c h1 h2; split at hlo <;> split at hhi <;> omega
  have HB1 := hid b1
  have HB2 := hid b2
  have HB3 := hid b3
  have HALF := hid (fun s hs he' => half_of (Q := Q) (s := s) ha hm he hI hu hv h0 h1 hmid hlo hhi hs he')
  have HAT := hid (show (∀ c, a ≤ c → c < m → ∃ x, dom x ∧ D[c]? = some x) ∧ (∀ c, m ≤ c → c < b → ∃ x, dom x ∧ D[c]? = some x) from ⟨fun c h h' => by obtain ⟨x, hx, e⟩ := at_u (v := v) (Q := Q) ha hm h h'; exact ⟨x, hD.1 x hx, by rw [hDD]; exact e⟩, fun c h h' => by obtain ⟨x, hx, e⟩ := at_v (Q := Q) ha hm he h h'; exact ⟨x, hD.2 x hx, by rw [hDD]; exact e⟩⟩)
  rw [← hDD] at HALF hS
  have HS := hid hS
  have HC := hid hC
  have HK := hid hK
  have HDD := hid hDD
  have HIH := hid ih
  have HN := hid hn
  have HA := hid ha
  have HM := hid hm
  have HE := hid he
  have HU := hid hu
  have HV := hid hv
  have HI := hid hI
  have HD := hid hD
  have HD2 := hid (show u.length + v.length ≤ d + 1 from hd)
  have z1 : ((m : Int) - (a : Int) == 1) = false := by simp; omega
  have z2 : ((b : Int) - (m : Int) == 1) = false := by simp; omega
  have z3 : ((a : Int) + (b : Int)) / 2 = (mid : Int) := by omega
  have z4 : ∀ h : mid < m, lo = mid + m - b ∧ hi = mid := fun h => by rw [if_pos h] at hlo hhi; exact ⟨hlo, hhi⟩
  have z5 : ∀ h : ¬ mid < m, lo = a ∧ hi = m := fun h => by rw [if_neg h] at hlo hhi; exact ⟨hlo, hhi⟩
  have Z4 := hid z4
  have Z5 := hid z5
  have hmb' : mid < b ∧ a < mid := ⟨b1.2.2.2.2, b1.2.2.2.1⟩
  obtain ⟨hmb1, hmb2⟩ := hmb'
  unfold cmpV
  clear hS hC hK hDD ih hn ha hm he hu hv hI hD hlo hhi b1 b2 b3 z4 z5 hmid h0 h1 hd hu1 hv1
  by_cases hc : mid < m
  all_goals
    go_enter Tryd.func68, Tryd.ntmps68
    go_wp2_with fail
    go_loopw [20, 21] (fun vi vj wr => ∃ s r : Nat, vi = .int .i64 (s : Int) ∧ vj = .int .i64 (r : Int) ∧ lo ≤ s ∧ s ≤ r ∧ r ≤ hi ∧ Hid (Edge key D lo hi (mid + m - 1) s r ∧ SR w0 B off D wr)) (fun i j _ => (intOf j).toNat - (intOf i).toNat)
    case atStart =>
      first
        | exact ⟨lo, hi, by have := (Z4.out hc).1; have := HB3.out lo (Nat.le_refl _) HB1.out.2.1; congr 1; omega, by have := (Z4.out hc).2; congr 1; omega, Nat.le_refl _, HB1.out.2.1, Nat.le_refl _, hid ⟨⟨fun h => absurd h (by omega), fun h => absurd h (by omega)⟩, HS.out⟩⟩
        | exact ⟨lo, hi, by have := (Z5.out hc).1; congr 1; omega, by have := (Z5.out hc).2; congr 1; omega, Nat.le_refl _, HB1.out.2.1, Nat.le_refl _, hid ⟨⟨fun h => absurd h (by omega), fun h => absurd h (by omega)⟩, HS.out⟩⟩
    case round =>
      obtain ⟨s, r, rfl, rfl, hls, hsr, hrh, HR⟩ := hrel
      by_cases hlt : s < r
      · obtain ⟨c, hcc⟩ : ∃ c, c = (s + r) / 2 := ⟨_, rfl⟩
        have c1 : s ≤ c := by omega
        have c2 : c < r := by omega
        obtain ⟨g1, g2, g3, g4⟩ := HB2.out c (by omega) (by omega)
        obtain ⟨q, hq⟩ : ∃ q, q = mid + m - 1 - c := ⟨_, rfl⟩
        obtain ⟨x, dx, hx⟩ := HAT.out.1 c g1 g2
        obtain ⟨y, dy, hy⟩ := HAT.out.2 q (by omega) (by omega)
        have hR := HR.out.2
        have CX := hid (hR.cell c x hx).1
        have CY := hid (hR.cell q y hy).1
        have HLB := hid hR.lt
        have hcf := fun W' (g : G wr W') => HC.out W' (mv_g hR.mv g) y x dy dx
        have HCF := hid hcf
        have HX := hid hx
        have HY := hid hy
        have k0 : ((s : Int) + (r : Int)) / 2 = (c : Int) := by omega
        have k1 : (0 : Int) ≤ (mid : Int) + (m : Int) - 1 - (c : Int) := by omega
        have k2 : (mid : Int) + (m : Int) - 1 - (c : Int) < (n : Int) := by omega
        have k3 : ((mid : Int) + (m : Int) - 1 - (c : Int)).toNat = q := by omega
        have k4 : (0 : Int) ≤ (c : Int) := by omega
        have k5 : (c : Int) < (n : Int) := by omega
        have hqq : q = mid + m - 1 - c := hq
        have HQ := hid hqq
        have hcm : c + 1 ≤ mid + m := by omega
        clear hR hcf hx hy hq hcc hqq
        have k6 : IntKind.i64.wrap ((mid : Int) + (m : Int) - 1 - (c : Int)) = (mid : Int) + (m : Int) - 1 - (c : Int) := by rw [IntKind.wrap_i64]; omega
        by_cases hlv : cf y x < 0
        · have hdl : decide (cf y x < 0) = true := decide_eq_true hlv
          go_wp2_with fail
          refine wp_region_grow (by kernel_rfl) (by kernel_rfl) ?_
          repeat (first | go_big_quiet_skip | (go_big_quiet_want; go_big_quiet_op; first | go_big_quiet_on | (apply Exists.intro; apply And.intro; (focus (intro _ hg; first | (rw [G.cell hg (p := ⟨B, off + q, none⟩) HLB.out, CY.out]; exact ⟨rfl, rfl⟩) | (rw [G.cell hg (p := ⟨B, off + c, none⟩) HLB.out, CX.out]; exact ⟨rfl, rfl⟩) | (with_reducible exact Gives.gq hg (HCF.out _ hg)))); go_big_quiet_on) | (refine ⟨_, fun _ _ => rfl, ?_⟩; go_big_quiet_on)))
          refine wpQuiet_nil ?_
          intro wq gq
          go_wp2_with fail
          clear k6
          go_roundw
          case measure => simp [intOf]; omega
          case rel =>
            refine ⟨s, c, rfl, by rfl, hls, c1, by omega, hid ⟨⟨HR.out.1.1, fun h x' y' hx' hy' => ?_⟩, HR.out.2.grow gq⟩⟩
            rw [HX.out] at hx'
            rw [← HQ.out, HY.out] at hy'
            cases hx'; cases hy'
            exact (HK.out _ _).1 hlv
        · have hdl : decide (cf y x < 0) = false := decide_eq_false hlv
          have HLV : Hid (key x ≤ key y) := hid (Int.not_lt.1 fun h => hlv ((HK.out _ _).2 h))
          go_wp2_with fail
          refine wp_region_grow (by kernel_rfl) (by kernel_rfl) ?_
          repeat (first | go_big_quiet_skip | (go_big_quiet_want; go_big_quiet_op; first | go_big_quiet_on | (apply Exists.intro; apply And.intro; (focus (intro _ hg; first | (rw [G.cell hg (p := ⟨B, off + q, none⟩) HLB.out, CY.out]; exact ⟨rfl, rfl⟩) | (rw [G.cell hg (p := ⟨B, off + c, none⟩) HLB.out, CX.out]; exact ⟨rfl, rfl⟩) | (with_reducible exact Gives.gq hg (HCF.out _ hg)))); go_big_quiet_on) | (refine ⟨_, fun _ _ => rfl, ?_⟩; go_big_quiet_on)))
          refine wpQuiet_nil ?_
          intro wq gq
          go_wp2_with fail
          clear k6
          go_roundw
          case measure => simp [intOf]; omega
          case rel =>
            refine ⟨c + 1, r, by go_num, rfl, by omega, by omega, hrh, hid ⟨⟨fun h x' y' hx' hy' => ?_, HR.out.1.2⟩, HR.out.2.grow gq⟩⟩
            rw [Nat.add_sub_cancel] at hx' hy'
            rw [HX.out] at hx'
            rw [← HQ.out, HY.out] at hy'
            cases hx'; cases hy'
            exact HLV.out
      · obtain rfl : s = r := by omega
        obtain ⟨e, hee⟩ : ∃ e, e = mid + m - s := ⟨_, rfl⟩
        obtain ⟨u1, u2, v1, v2, hH, hs1, he1⟩ := HALF.out s ⟨hls, hrh⟩ HR.out.1
        have hb3 := HB3.out s hls hrh
        rw [← hee] at he1 hb3
        have HH := hid hH
        have HS1 := hid hs1
        have HE1 := hid he1
        have HR2 : Hid (SR w0 B off (P ++ (u1 ++ u2) ++ (v1 ++ v2) ++ Q) wr) := hid (by have := HR.out.2; rw [HDD.out, hH.u, hH.v] at this; exact this)
        have k0 : (mid : Int) + (m : Int) - (s : Int) = (e : Int) := by have := HB1.out; omega
        have hse : s + e = mid + m := by have := HB1.out; omega
        have hsm : s ≤ m ∧ a ≤ s := by have := HB1.out; omega
        obtain ⟨hsm1, hsm2⟩ := hsm
        obtain ⟨hb31, hb32⟩ := hb3
        clear hH hs1 he1 hee HR HALF hlt hsr
        have HW := hid (show s + e = mid + m ∧ s ≤ m ∧ a ≤ s ∧ m ≤ e ∧ e ≤ b from ⟨hse, hsm1, hsm2, hb31, hb32⟩)
        go_upto_region 39 with fail
        go_cut [185] from 178 to 185 (fun x wx => x = .bool (decide (s < m ∧ m < e)) ∧ wx = wr)
        case first =>
          by_cases q1 : s < m
          · by_cases q2 : m < e
            · go_wp2_with fail
              go_meet
              exact ⟨by simp [q1, q2], rfl⟩
            · go_wp2_with fail
              go_meet
              exact ⟨by simp [q2], rfl⟩
          · go_wp2_with fail
            go_meet
            exact ⟨by simp [q1], rfl⟩
        case rest =>
        obtain ⟨rfl, rfl⟩ := hcut
        obtain ⟨t, ht⟩ : ∃ t, decide (s < m ∧ m < e) = t := ⟨_, rfl⟩
        rw [ht]
        have HT := hid ht
        clear ht
        go_upto_if 185 with fail
        go_cut [] from 186 to 191 (fun wx => ∃ w2, w2 = wx ∧ SR w0 B off (P ++ u1 ++ v1 ++ u2 ++ v2 ++ Q) w2)
        case first =>
          have ht := HT.out
          clear HT
          cases t with
          | true =>
            have hc := rotate_any (cv := .func (.func 40) #[] #[cv]) (n := n) (cap := cap) (P ++ u1) u2 v1 (v2 ++ Q) _ s m e (za := s) (zm := m) (zb := e) rfl rfl rfl (by have := HR2.out; simpa using this) (by have := HN.out; rw [HH.out.u, HH.out.v] at this; simp at this ⊢; omega) hb (by have := HS1.out; have := HA.out; simp; omega) (by have := HS1.out; have h := HM.out; rw [HH.out.u] at h; simp at h; omega) HE1.out (by have := of_decide_eq_true ht; have h := HM.out; rw [HH.out.u] at h; simp at h; have := HS1.out; omega) (by have := of_decide_eq_true ht; have := HE1.out; omega)
            have HC2 := hid hc
            clear hc ht
            go_wp2_with fail
            refine HC2.out.mono ?_
            rintro e' w' ⟨rfl, l, rfl, hl⟩
            have HW2 := hid hl
            clear hl
            go_wp2_with fail
            go_meet
            exact ⟨_, rfl, by simpa using HW2.out⟩
          | false =>
            have HT := hid (of_decide_eq_false ht)
            clear ht
            go_wp2_with fail
            go_meet
            refine ⟨_, rfl, ?_⟩
            have hr := HR2.out
            have : u2 = [] ∨ v1 = [] := by
              have h := HM.out; rw [HH.out.u] at h; simp at h
              have h1 := HS1.out
              have h2 := HE1.out
              have h3 := HT.out
              have h4 := HW.out
              rcases Nat.lt_or_ge s m with g | g
              · right; exact List.eq_nil_of_length_eq_zero (by omega)
              · left; exact List.eq_nil_of_length_eq_zero (by omega)
            rcases this with h | h <;> subst h <;> simpa using hr
        case rest =>
        obtain ⟨w2, rfl, hcut⟩ := hcut
        have HR3 := hid hcut
        clear hcut
        clear HT HR2
        go_upto_region 41 with fail
        go_cut [199] from 192 to 199 (fun x wx => x = .bool (decide (a < s ∧ s < mid)) ∧ wx = w2)
        case first =>
          by_cases q1 : a < s
          · by_cases q2 : s < mid
            · go_wp2_with fail
              go_meet
              exact ⟨by simp [q1, q2], rfl⟩
            · go_wp2_with fail
              go_meet
              exact ⟨by simp [q2], rfl⟩
          · go_wp2_with fail
            go_meet
            exact ⟨by simp [q1], rfl⟩
        case rest =>
        obtain ⟨rfl, rfl⟩ := hcut
        obtain ⟨t, ht⟩ : ∃ t, decide (a < s ∧ s < mid) = t := ⟨_, rfl⟩
        rw [ht]
        have HT := hid ht
        clear ht
        have HL : Hid (mid = s + v1.length) := hid (by have := HW.out; have := HE1.out; omega)
        go_upto_if 199 with fail
        go_cut [] from 200 to 205 (fun wx => ∃ s1 w3, s1.Perm (u1 ++ v1) ∧ Srt key s1 ∧ w3 = wx ∧ SR w0 B off (P ++ s1 ++ u2 ++ v2 ++ Q) w3)
        case first =>
          have hu' := HU.out
          have hv' := HV.out
          have hi' := HI.out
          have hd' := HD.out
          rw [HH.out.u] at hu' hi' hd'
          rw [HH.out.v] at hv' hi' hd'
          have ht := HT.out
          cases t with
          | true =>
            have ht := of_decide_eq_true ht
            have hc := HIH.out P u1 v1 (u2 ++ v2 ++ Q) _ a s mid (za := a) (zm := s) (zb := mid) rfl rfl rfl (by simpa using HR3.out) ⟨fun x hx => hd'.1 x (List.mem_append_left _ hx), fun x hx => hd'.2 x (List.mem_append_left _ hx)⟩ (fun x hx y hy => hi' x (List.mem_append_left _ hx) y (List.mem_append_left _ hy)) (List.pairwise_append.1 hu').1 (List.pairwise_append.1 hv').1 (by have := HN.out; rw [HH.out.u, HH.out.v] at this; simp at this ⊢; omega) hb HA.out HS1.out HL.out (by have := HS1.out; omega) (by have := HL.out; omega) (by have := HD2.out; have := HS1.out; have := HL.out; have := HM.out; have := HE.out; omega)
            have HC2 := hid hc
            clear hc ht hu' hv' hi' hd' HT
            go_wp2_with fail
            refine HC2.out.mono ?_
            rintro e' w' ⟨rfl, l, ⟨s1, p1, p2, rfl⟩, hl⟩
            have HW2 := hid (show s1.Perm (u1 ++ v1) ∧ Srt key s1 ∧ SR w0 B off (P ++ s1 ++ u2 ++ v2 ++ Q) w' from ⟨p1, p2, by simpa using hl⟩)
            clear hl p1 p2
            go_wp2_with fail
            go_meet
            exact ⟨s1, _, HW2.out.1, HW2.out.2.1, rfl, HW2.out.2.2⟩
          | false =>
            have hne : u1 = [] ∨ v1 = [] := by
              have h1 := HS1.out
              have h2 := HL.out
              have h3 := of_decide_eq_false ht
              rcases Nat.lt_or_ge a s with g | g
              · right; exact List.eq_nil_of_length_eq_zero (by omega)
              · left; exact List.eq_nil_of_length_eq_zero (by omega)
            have hs := hid (show Srt key (u1 ++ v1) by rcases hne with h | h <;> subst h <;> simp at hu' hv' ⊢ <;> first | exact hv'.1 | exact hu'.1 | exact (List.pairwise_append.1 hu').1 | exact (List.pairwise_append.1 hv').1)
            clear ht hu' hv' hi' hd' HT hne
            go_wp2_with fail
            go_meet
            exact ⟨u1 ++ v1, _, List.Perm.refl _, hs.out, rfl, by simpa using HR3.out⟩
        case rest =>
        obtain ⟨s1, w3, hp1, hs1, rfl, hr1⟩ := hcut
        have HR4 := hid (show s1.Perm (u1 ++ v1) ∧ Srt key s1 ∧ SR w0 B off (P ++ s1 ++ u2 ++ v2 ++ Q) w3 from ⟨hp1, hs1, hr1⟩)
        clear hp1 hs1 hr1 HT HR3
        have HL2 : Hid (mid = (P ++ s1).length ∧ e = mid + u2.length ∧ b = e + v2.length) := hid (by have h := HR4.out.1.length_eq; have h1 := HW.out; have h2 := HE1.out; have h3 := HA.out; have h4 := HM.out; have h5 := HE.out; have h6 := HS1.out; have h7 := HL.out; rw [HH.out.u] at h4; rw [HH.out.v] at h5; simp at h h4 h5 ⊢; omega)
        have HFIN : ∀ s2, s2.Perm (u2 ++ v2) → Srt key s2 → Merged key P u v Q (P ++ s1 ++ s2 ++ Q) := fun s2 p2 q2 => by
          obtain ⟨p1, q1, _⟩ := HR4.out
          obtain ⟨h1, h2, h3, h4⟩ := HH.out
          have hu' := HU.out
          have hv' := HV.out
          rw [h1] at hu'
          rw [h2] at hv'
          obtain ⟨k1, k2⟩ := halves hu' hv' h3 h4 p1 p2 q1 q2
          exact ⟨s1 ++ s2, by rw [h1, h2]; exact k2, k1, by simp⟩
        have HF := hid HFIN
        clear HFIN
        go_upto_region 43 with fail
        go_cut [213] from 206 to 213 (fun x wx => x = .bool (decide (mid < e ∧ e < b)) ∧ wx = w3)
        case first =>
          by_cases q1 : mid < e
          · by_cases q2 : e < b
            · go_wp2_with fail
              go_meet
              exact ⟨by simp [q1, q2], rfl⟩
            · go_wp2_with fail
              go_meet
              exact ⟨by simp [q2], rfl⟩
          · go_wp2_with fail
            go_meet
            exact ⟨by simp [q1], rfl⟩
        case rest =>
        obtain ⟨rfl, rfl⟩ := hcut
        obtain ⟨t, ht⟩ : ∃ t, decide (mid < e ∧ e < b) = t := ⟨_, rfl⟩
        rw [ht]
        have hu' := HU.out
        have hv' := HV.out
        have hi' := HI.out
        have hd' := HD.out
        rw [HH.out.u] at hu' hi' hd'
        rw [HH.out.v] at hv' hi' hd'
        cases t with
        | true =>
          have ht := of_decide_eq_true ht
          have hc := HIH.out (P ++ s1) u2 v2 Q _ mid e b (za := mid) (zm := e) (zb := b) rfl rfl rfl (by simpa using HR4.out.2.2) ⟨fun x hx => hd'.1 x (List.mem_append_right _ hx), fun x hx => hd'.2 x (List.mem_append_right _ hx)⟩ (fun x hx y hy => hi' x (List.mem_append_right _ hx) y (List.mem_append_right _ hy)) (List.pairwise_append.1 hu').2.1 (List.pairwise_append.1 hv').2.1 (by have := HN.out; have h := HR4.out.1.length_eq; rw [HH.out.u, HH.out.v] at this; simp at this h ⊢; omega) hb HL2.out.1 HL2.out.2.1 HL2.out.2.2 (by have := HL2.out; omega) (by have := HL2.out; omega) (by have := HD2.out; have h := HL2.out; have := HM.out; have := HE.out; omega)
          have HC2 := hid hc
          clear hc ht hu' hv' hi' hd'
          go_wp2_with fail
          refine HC2.out.mono ?_
          rintro e' w' ⟨rfl, l, ⟨s2, p1, p2, rfl⟩, hl⟩
          have HW2 := hid (show s2.Perm (u2 ++ v2) ∧ Srt key s2 ∧ SR w0 B off (P ++ s1 ++ s2 ++ Q) w' from ⟨p1, p2, hl⟩)
          clear hl p1 p2
          go_wp2_with fail
          go_end0
          exact ⟨rfl, _, HF.out s2 HW2.out.1 HW2.out.2.1, HW2.out.2.2⟩
        | false =>
          have hne : u2 = [] ∨ v2 = [] := by
            have h2 := HL2.out
            have h3 := of_decide_eq_false ht
            rcases Nat.lt_or_ge mid e with g | g
            · right; exact List.eq_nil_of_length_eq_zero (by omega)
            · left; exact List.eq_nil_of_length_eq_zero (by omega)
          have hs := hid (show Srt key (u2 ++ v2) by rcases hne with h | h <;> subst h <;> simp at hu' hv' ⊢ <;> first | exact hv'.2.1 | exact hu'.2.1 | exact hv' | exact hu' | exact (List.pairwise_append.1 hu').2.1 | exact (List.pairwise_append.1 hv').2.1)
          clear ht hu' hv' hi' hd' hne
          go_wp2_with fail
          go_end0
          exact ⟨rfl, _, HF.out _ (List.Perm.refl _) hs.out, by simpa using HR4.out.2.2⟩

end Go.Proofs.YtniidkkldoijcaaDoor
