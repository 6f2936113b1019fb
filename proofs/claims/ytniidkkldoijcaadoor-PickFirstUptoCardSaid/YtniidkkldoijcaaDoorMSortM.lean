/-
  Texts merged into one: SortRot, SortMerge.
-/
import Derived.Test.YtniidkkldoijcaaDoorMSort
import Derived.Deep.LoopGhost
import Derived.BigRegion
namespace Go.Proofs.YtniidkkldoijcaaDoor
open Go.RowKit Stab
set_option linter.unusedVariables false
set_option linter.unusedSimpArgs false

set_option maxRecDepth 100000 in
set_option maxHeartbeats 4000000 in
theorem swapRange_any {w0 : World} {B off n cap : Nat} {cv : Value} (P U M V Q : List Int) (W : World) (a b k : Nat) {za zb zk : Int} (hza : za = a) (hzb : zb = b) (hzk : zk = k) (hS : SR w0 B off (P ++ U ++ M ++ V ++ Q) W) (hn : n = (P ++ U ++ M ++ V ++ Q).length) (hb : n ≤ 1000000) (ha : a = P.length) (hb' : b = (P ++ U ++ M).length) (hk : k = U.length) (hk' : k = V.length) :
    Calls Tryd.prog 97 #[.slice (some ⟨B, off, none⟩) n cap, .int .i64 za, .int .i64 zb, .int .i64 zk, cv] W (SortP w0 B off fun l => l = P ++ V ++ M ++ U ++ Q) := by
  subst hza hzb hzk
  have hbk : b + k ≤ n := by rw [hn, hb']; simp; omega
  have hak : a + k ≤ b := by rw [hb', ha]; simp; omega
  have HS := hid hS
  have HA := hid ha
  have HB := hid hb'
  have HU := hid hk
  have HV := hid hk'
  clear hS hn ha hb' hk hk'
  go_enter Tryd.func97, Tryd.ntmps97
  go_wp2_with fail
  go_loopw [10] (fun vi wr => ∃ i : Nat, vi = .int .i64 (i : Int) ∧ i ≤ k ∧ ∃ u1 u2 v1 v2 : List Int, Hid (U = u1 ++ u2 ∧ V = v1 ++ v2 ∧ u1.length = i ∧ v1.length = i ∧ SR w0 B off (P ++ v1 ++ u2 ++ M ++ u1 ++ v2 ++ Q) wr)) (fun i _ => k - (intOf i).toNat)
  case atStart => exact ⟨0, rfl, Nat.zero_le _, [], U, [], V, hid ⟨by simp, by simp, rfl, rfl, by simpa using HS.out⟩⟩
  case round =>
    obtain ⟨i, rfl, hik, u1, u2, v1, v2, HR⟩ := hrel
    by_cases hlt : i < k
    · obtain ⟨h1, h2, h3, h4, h5⟩ := HR.out
      have hu := HU.out
      have hv := HV.out
      have hA := HA.out
      have hB := HB.out
      obtain ⟨x, u3, rfl⟩ : ∃ x u3, u2 = x :: u3 := by
        cases u2 with
        | nil => rw [h1] at hu; simp at hu; omega
        | cons x u3 => exact ⟨x, u3, rfl⟩
      obtain ⟨y, v3, rfl⟩ : ∃ x u3, v2 = x :: u3 := by
        cases v2 with
        | nil => rw [h2] at hv; simp at hv; omega
        | cons x u3 => exact ⟨x, u3, rfl⟩
      have e0 : P ++ v1 ++ x :: u3 ++ M ++ u1 ++ y :: v3 ++ Q = (P ++ v1) ++ x :: (u3 ++ M ++ u1) ++ y :: (v3 ++ Q) := by simp
      rw [e0] at h5
      have hp : a + i = (P ++ v1).length := by simp; omega
      have hq : b + i = (P ++ v1).length + 1 + (u3 ++ M ++ u1).length := by rw [h1] at hB; simp at hB ⊢; omega
      obtain ⟨cp, fp⟩ := h5.cell (a + i) x (by rw [List.append_assoc]; exact getA _ _ _ _ hp)
      obtain ⟨cq, fq⟩ := h5.cell (b + i) y (getB _ _ _ _ _ _ hq)
      have hne : a ≠ b := by omega
      have hne' : b ≠ a := by omega
      have s2 := ((h5.set (a + i) y).set (b + i) x).drew
      rw [sw_eq (P ++ v1) _ _ x y (a + i) (b + i) hp hq] at s2
      have SS2 := hid s2
      have H := hid (show U = (u1 ++ [x]) ++ u3 ∧ V = (v1 ++ [y]) ++ v3 ∧ (u1 ++ [x]).length = i + 1 ∧ (v1 ++ [y]).length = i + 1 from ⟨by rw [h1]; simp, by rw [h2]; simp, by simp [h3], by simp [h4]⟩)
      clear s2 h1 h2 h3 h4 h5 hu hv hA hB hp hq e0 HR
      have i0 : (0 : Int) ≤ (a : Int) + (i : Int) := by omega
      have i1 : (a : Int) + (i : Int) < (n : Int) := by omega
      have i2 : (0 : Int) ≤ (b : Int) + (i : Int) := by omega
      have i3 : (b : Int) + (i : Int) < (n : Int) := by omega
      have i4 : ((a : Int) + (i : Int)).toNat = a + i := by omega
      have i5 : ((b : Int) + (i : Int)).toNat = b + i := by omega
      go_wp2_with fail
      go_region
      generalize (World.drew (World.setCell _ _ _)) = wz at SS2 ⊢
      go_wp2
      go_roundw
      case measure => simp [intOf]; omega
      case rel => exact ⟨i + 1, by go_num, by omega, _, _, _, _, hid ⟨H.out.1, H.out.2.1, H.out.2.2.1, H.out.2.2.2, by simpa using SS2.out⟩⟩
    · go_wp2_with fail
      go_end0
      obtain ⟨h1, h2, h3, h4, h5⟩ := HR.out
      have hu := HU.out
      have hv := HV.out
      have e1 : u2 = [] := List.eq_nil_of_length_eq_zero (by rw [h1] at hu; simp at hu; omega)
      have e2 : v2 = [] := List.eq_nil_of_length_eq_zero (by rw [h2] at hv; simp at hv; omega)
      subst e1 e2
      exact ⟨rfl, _, rfl, by rw [h1, h2]; simpa using h5⟩

theorem split_at (l : List Int) (k : Nat) (h : k ≤ l.length) : ∃ a b, l = a ++ b ∧ a.length = k := ⟨l.take k, l.drop k, by simp, by simp; omega⟩
set_option maxRecDepth 100000 in
set_option maxHeartbeats 4000000 in
theorem rotate_any {w0 : World} {B off n cap : Nat} {cv : Value} (P X Y Q : List Int) (W : World) (a m b : Nat) {za zm zb : Int} (hza : za = a) (hzm : zm = m) (hzb : zb = b) (hS : SR w0 B off (P ++ X ++ Y ++ Q) W) (hn : n = (P ++ X ++ Y ++ Q).length) (hb : n ≤ 1000000) (ha : a = P.length) (hm : m = a + X.length) (hb' : b = m + Y.length) (h0 : 0 < X.length) (h1 : 0 < Y.length) :
    Calls Tryd.prog 84 #[.slice (some ⟨B, off, none⟩) n cap, .int .i64 za, .int .i64 zm, .int .i64 zb, cv] W (SortP w0 B off fun l => l = P ++ Y ++ X ++ Q) := by
  subst hza hzm hzb
  have hbn : b ≤ n := by rw [hn, hb', hm, ha]; simp; omega
  have ham : a < m := by omega
  have hmb : m < b := by omega
  have HS := hid hS
  have HN := hid hn
  have HA := hid ha
  have HM := hid hm
  have HB := hid hb'
  clear hS hn ha hm hb' h0 h1
  go_enter Tryd.func84, Tryd.ntmps84
  go_wp2_with fail
  go_loopw [10, 11] (fun vi vj wr => ∃ i j : Nat, vi = .int .i64 (i : Int) ∧ vj = .int .i64 (j : Int) ∧ 0 < i ∧ 0 < j ∧ i ≤ m ∧ m + j ≤ n ∧ ∃ P' U V Q' : List Int, Hid (P' ++ V ++ U ++ Q' = P ++ Y ++ X ++ Q ∧ P'.length = m - i ∧ U.length = i ∧ V.length = j ∧ SR w0 B off (P' ++ U ++ V ++ Q') wr)) (fun i j _ => (intOf i).toNat + (intOf j).toNat)
  case atStart => exact ⟨m - a, b - m, by go_num, by go_num, by omega, by omega, by omega, by omega, P, X, Y, Q, hid ⟨rfl, by have := HA.out; omega, by have := HM.out; omega, by have := HB.out; omega, HS.out⟩⟩
  case round =>
    obtain ⟨i, j, rfl, rfl, hi0, hj0, him, hjm, P', U, V, Q', HR⟩ := hrel
    obtain ⟨h1, h2, h3, h4, h5⟩ := HR.out
    have hlen : n = (P' ++ U ++ V ++ Q').length := by
      have := congrArg List.length h1
      rw [HN.out]; simp at this ⊢; omega
    have HL := hid hlen
    clear h1 h2 h3 h4 h5 hlen
    have hij0 : (0 : Int) ≤ (m : Int) - (i : Int) := by omega
    rcases Nat.lt_trichotomy i j with hij | hij | hij
    · obtain ⟨V1, V2, hV, hV2⟩ : ∃ V1 V2, V = V1 ++ V2 ∧ V2.length = i := ⟨V.take (j - i), V.drop (j - i), by simp, by have := HR.out.2.2.2.1; simp; omega⟩
      have hc := fun w (hw : SR w0 B off (P' ++ U ++ V1 ++ V2 ++ Q') w) => swapRange_any (cv := cv) (n := n) (cap := cap) P' U V1 V2 Q' w (m - i) (m + j - i) i (za := (m : Int) - i) (zb := (m : Int) + j - i) (by omega) (by omega) rfl hw (by rw [HL.out, hV]; simp) hb HR.out.2.1.symm (by have h2 := HR.out.2.1; have h3 := HR.out.2.2.1; have h4 := HR.out.2.2.2.1; rw [hV] at h4; simp at h4 ⊢; omega) HR.out.2.2.1.symm hV2.symm
      have hne : ((i : Int) != (j : Int)) = true := by simp; omega
      have hgt : ¬ ((j : Int) < (i : Int)) := by omega
      have HC := hid hc
      have HV := hid (show V = V1 ++ V2 ∧ V2.length = i from ⟨hV, hV2⟩)
      clear hc hV hV2
      go_wp2_with fail
      refine (HC.out _ (by have := HR.out.2.2.2.2; rw [HV.out.1] at this; simpa using this)).mono ?_
      rintro e w' ⟨rfl, l, rfl, hl⟩
      have HW := hid hl
      clear hl
      go_wp2_with fail
      go_roundw
      case measure => simp [intOf]; omega
      case rel => exact ⟨i, j - i, rfl, by go_num, by omega, by omega, by omega, by omega, P', V2, V1, U ++ Q', hid ⟨by rw [← HR.out.1, HV.out.1]; simp, HR.out.2.1, HV.out.2, by have h4 := HR.out.2.2.2.1; rw [HV.out.1] at h4; simp at h4; have := HV.out.2; omega, by simpa using HW.out⟩⟩
    · subst hij
      have hc := swapRange_any (cv := cv) (n := n) (cap := cap) P' U [] V Q' wr (m - i) m i (za := (m : Int) - i) (by omega) rfl rfl (by simpa using HR.out.2.2.2.2) (by rw [HL.out]; simp) hb HR.out.2.1.symm (by have h2 := HR.out.2.1; have h3 := HR.out.2.2.1; simp; omega) HR.out.2.2.1.symm HR.out.2.2.2.1.symm
      have hne : ((i : Int) != (i : Int)) = false := by simp
      have HC := hid hc
      clear hc
      go_wp2_with fail
      refine HC.out.mono ?_
      rintro e w' ⟨rfl, l, rfl, hl⟩
      have HW := hid hl
      clear hl
      go_wp2_with fail
      go_end0
      exact ⟨rfl, _, rfl, by rw [← HR.out.1]; simpa using HW.out⟩
    · obtain ⟨U1, U2, hU, hU1⟩ : ∃ U1 U2, U = U1 ++ U2 ∧ U1.length = j := ⟨U.take j, U.drop j, by simp, by have := HR.out.2.2.1; simp; omega⟩
      have hc := fun w (hw : SR w0 B off (P' ++ U1 ++ U2 ++ V ++ Q') w) => swapRange_any (cv := cv) (n := n) (cap := cap) P' U1 U2 V Q' w (m - i) m j (za := (m : Int) - i) (by omega) rfl rfl hw (by rw [HL.out, hU]; simp) hb HR.out.2.1.symm (by have h2 := HR.out.2.1; have h3 := HR.out.2.2.1; rw [hU] at h3; simp at h3 ⊢; omega) hU1.symm HR.out.2.2.2.1.symm
      have hne : ((i : Int) != (j : Int)) = true := by simp; omega
      have hgt : ((j : Int) < (i : Int)) := by omega
      have HC := hid hc
      have HU := hid (show U = U1 ++ U2 ∧ U1.length = j from ⟨hU, hU1⟩)
      clear hc hU hU1
      go_wp2_with fail
      refine (HC.out _ (by have := HR.out.2.2.2.2; rw [HU.out.1] at this; simpa using this)).mono ?_
      rintro e w' ⟨rfl, l, rfl, hl⟩
      have HW := hid hl
      clear hl
      go_wp2_with fail
      go_roundw
      case measure => simp [intOf]; omega
      case rel => exact ⟨i - j, j, by go_num, rfl, by omega, by omega, by omega, by omega, P' ++ V, U2, U1, Q', hid ⟨by rw [← HR.out.1, HU.out.1]; simp, by have h2 := HR.out.2.1; have h4 := HR.out.2.2.2.1; simp; omega, by have h3 := HR.out.2.2.1; rw [HU.out.1] at h3; simp at h3; have := HU.out.2; omega, HU.out.2, by simpa using HW.out⟩⟩

end Go.Proofs.YtniidkkldoijcaaDoor

namespace Go.Proofs.YtniidkkldoijcaaDoor
open Go.RowKit Stab
set_option linter.unusedVariables false
set_option linter.unusedSimpArgs false

def Merged (key : Int → Int) (P u v Q : List Int) (l : List Int) : Prop := ∃ s, s.Perm (u ++ v) ∧ Srt key s ∧ l = P ++ s ++ Q
theorem L.of_ids {k : Int → Int} {x y : Int} (h : x < y) (g : k x ≤ k y) : L k x y := (L.of_lt h).2 (by omega)
theorem all_head' {k : Int → Int} {v : List Int} {x : Int} (hv : Srt k v) (h : ∀ z, v.head? = some z → L k x z) : ∀ z ∈ v, L k x z := by
  cases v with
  | nil => simp
  | cons a v => exact all_head hv (h a rfl)
theorem all_last' {k : Int → Int} {v : List Int} {x : Int} (hv : Srt k v) (h : ∀ z, v.getLast? = some z → L k z x) : ∀ z ∈ v, L k z x := by
  rcases List.eq_nil_or_concat v with rfl | ⟨u, a, rfl⟩
  · simp
  · intro z hz
    exact all_last (u := u) (by simpa using hv) (h a (by simp)) z (by simpa using hz)
set_option maxRecDepth 100000 in
set_option maxHeartbeats 4000000 in
theorem merge_one {w0 : World} {B off n cap : Nat} {cv : Value} {cf : Int → Int → Int} {key : Int → Int} {dom : Int → Prop} (hK : ∀ x y, cf x y < 0 ↔ key x < key y) (hC : CmpOk w0 B cv cf dom)
    (P v Q : List Int) (x : Int) (W : World) (a m b : Nat) {za zm zb : Int} (hza : za = a) (hzm : zm = m) (hzb : zb = b) (hS : SR w0 B off (P ++ [x] ++ v ++ Q) W) (hD : dom x ∧ ∀ y ∈ v, dom y) (hI : ∀ y ∈ v, x < y) (hv : Srt key v) (hn : n = (P ++ [x] ++ v ++ Q).length) (hb : n ≤ 1000000) (ha : a = P.length) (hm : m = a + 1) (he : b = m + v.length) :
    Calls Tryd.prog 68 #[.slice (some ⟨B, off, none⟩) n cap, .int .i64 za, .int .i64 zm, .int .i64 zb, cmpV cv] W (SortP w0 B off (Merged key P [x] v Q)) := by
  subst hza hzm hzb
  have hbn : b ≤ n := by rw [hn, he, hm, ha]; simp; omega
  have HS := hid hS
  have HC := hid hC
  have HK := hid hK
  have HI := hid hI
  have HV := hid hv
  have HA := hid ha
  have HN := hid hn
  have HE := hid he
  have hmb : m ≤ b := by omega
  have h1 : ((m : Int) - (a : Int) == 1) = true := by simp; omega
  have HM := hid hm
  have ham : a < m := by omega
  have hma : m ≤ a + 1 := by omega
  unfold cmpV
  clear hS hC hK hI hv ha hn he hm
  go_enter Tryd.func68, Tryd.ntmps68
  go_wp2_with fail
  go_loopw [10, 11] (fun vi vj wr => ∃ i j : Nat, vi = .int .i64 (i : Int) ∧ vj = .int .i64 (j : Int) ∧ m ≤ i ∧ i ≤ j ∧ j ≤ b ∧ ∃ v1 vm v2 : List Int, Hid (v = v1 ++ vm ++ v2 ∧ i = m + v1.length ∧ j = i + vm.length ∧ (∀ z, v1.getLast? = some z → key z < key x) ∧ (∀ z, v2.head? = some z → key x ≤ key z) ∧ SR w0 B off (P ++ [x] ++ v ++ Q) wr)) (fun i j _ => (intOf j).toNat - (intOf i).toNat)
  case atStart => exact ⟨m, b, rfl, rfl, by omega, hmb, Nat.le_refl _, [], v, [], hid ⟨by simp, rfl, HE.out, by simp, by simp, HS.out⟩⟩
  case round =>
    obtain ⟨i, j, rfl, rfl, hmi, hij, hjb, v1, vm, v2, HR⟩ := hrel
    by_cases hlt : i < j
    · obtain ⟨k, hk⟩ : ∃ k, k = (i + j) / 2 := ⟨_, rfl⟩
      have hk1 : i ≤ k := by omega
      have hk2 : k < j := by omega
      have k0 : (0 : Int) ≤ ((i : Int) + (j : Int)) / 2 := by omega
      have k1 : ((i : Int) + (j : Int)) / 2 < (n : Int) := by omega
      have k2 : (((i : Int) + (j : Int)) / 2).toNat = k := by omega
      have HKK := hid (show (((i : Int) + (j : Int)) / 2) = (k : Int) by omega)
      obtain ⟨h1', h2, h3, h4, h5, h6⟩ := HR.out
      obtain ⟨va, vb', hvm, hva⟩ := split_at vm (k - i) (by omega)
      obtain ⟨y, vb, rfl⟩ : ∃ y vb, vb' = y :: vb := by
        cases vb' with
        | nil => rw [hvm] at h3; simp at h3; omega
        | cons y vb => exact ⟨y, vb, rfl⟩
      have hA := HA.out
      have hM := HM.out
      obtain ⟨ca, _⟩ := h6.cell a x (by simp only [List.append_assoc]; exact getA _ _ _ _ hA)
      obtain ⟨ck, _⟩ := h6.cell k y (by
        have e : P ++ [x] ++ v ++ Q = (P ++ [x] ++ v1 ++ va) ++ y :: (vb ++ v2 ++ Q) := by rw [h1', hvm]; simp
        rw [e]; exact getA _ _ _ _ (by simp; omega))
      have hy : y ∈ v := by rw [h1', hvm]; simp
      have CA := hid ca
      have CK := hid ck
      have HLB := hid h6.lt
      have hcf := fun W' (g : G wr W') => HC.out W' (mv_g h6.mv g) y x (hD.2 y hy) hD.1
      have HCF := hid hcf
      have HVM := hid (show vm = va ++ y :: vb ∧ va.length = k - i from ⟨hvm, hva⟩)
      clear h1' h2 h3 h4 h5 h6 hvm hva hA hM ca ck hcf hk
      have i0 : (0 : Int) ≤ (a : Int) := by omega
      have i1 : (a : Int) < (n : Int) := by omega
      by_cases hlv : cf y x < 0
      · have hdl : decide (cf y x < 0) = true := decide_eq_true hlv
        go_wp2_with fail
        refine wp_region_grow (by kernel_rfl) (by kernel_rfl) ?_
        repeat (first | go_big_quiet_skip | (go_big_quiet_want; go_big_quiet_op; first | go_big_quiet_on | (apply Exists.intro; apply And.intro; (focus (intro _ hg; first | (rw [G.cell hg (p := ⟨B, off + k, none⟩) HLB.out, CK.out]; exact ⟨rfl, rfl⟩) | (rw [G.cell hg (p := ⟨B, off + a, none⟩) HLB.out, CA.out]; exact ⟨rfl, rfl⟩) | (with_reducible exact Gives.gq hg (HCF.out _ hg)))); go_big_quiet_on) | (refine ⟨_, fun _ _ => rfl, ?_⟩; go_big_quiet_on)))
        refine wpQuiet_nil ?_
        intro wq gq
        go_wp2_with fail
        go_roundw
        case measure => simp [intOf]; omega
        case rel =>
          obtain ⟨h1', h2, h3, h4, h5, h6⟩ := HR.out
          obtain ⟨e1, e2⟩ := HVM.out
          refine ⟨k + 1, j, by rw [HKK.out]; go_num, rfl, by omega, by omega, by omega, v1 ++ va ++ [y], vb, v2, hid ⟨by rw [h1', e1]; simp, by simp; omega, by rw [e1] at h3; simp at h3; omega, ?_, h5, h6.grow gq⟩⟩
          intro z hz
          simp at hz
          rw [← hz]; exact (HK.out _ _).1 hlv
      · have hdl : decide (cf y x < 0) = false := decide_eq_false hlv
        have HLV : Hid (key x ≤ key y) := hid (Int.not_lt.1 fun h => hlv ((HK.out _ _).2 h))
        go_wp2_with fail
        refine wp_region_grow (by kernel_rfl) (by kernel_rfl) ?_
        repeat (first | go_big_quiet_skip | (go_big_quiet_want; go_big_quiet_op; first | go_big_quiet_on | (apply Exists.intro; apply And.intro; (focus (intro _ hg; first | (rw [G.cell hg (p := ⟨B, off + k, none⟩) HLB.out, CK.out]; exact ⟨rfl, rfl⟩) | (rw [G.cell hg (p := ⟨B, off + a, none⟩) HLB.out, CA.out]; exact ⟨rfl, rfl⟩) | (with_reducible exact Gives.gq hg (HCF.out _ hg)))); go_big_quiet_on) | (refine ⟨_, fun _ _ => rfl, ?_⟩; go_big_quiet_on)))
        refine wpQuiet_nil ?_
        intro wq gq
        go_wp2_with fail
        go_roundw
        case measure => simp [intOf]; omega
        case rel =>
          obtain ⟨h1', h2, h3, h4, h5, h6⟩ := HR.out
          obtain ⟨e1, e2⟩ := HVM.out
          refine ⟨i, k, rfl, by rw [HKK.out], by omega, by omega, by omega, v1, va, y :: vb ++ v2, hid ⟨by rw [h1', e1]; simp, h2, by omega, h4, ?_, h6.grow gq⟩⟩
          intro z hz
          simp at hz
          rw [← hz]; exact HLV.out
    · obtain rfl : j = i := by omega
      have HV1 : Hid (v = v1 ++ v2 ∧ j = m + v1.length ∧ (∀ y ∈ v1, L key y x) ∧ ∀ y ∈ v2, L key x y) := hid (by
        obtain ⟨h1', h2, h3, h4, h5, h6⟩ := HR.out
        have e : vm = [] := List.eq_nil_of_length_eq_zero (by omega)
        subst e
        have hv := HV.out
        rw [h1'] at hv
        have hi := HI.out
        rw [h1'] at hi
        simp only [List.append_nil] at hv hi h1'
        refine ⟨h1', h2, all_last' (List.pairwise_append.1 hv).1 fun z hz => .inl (h4 z hz), all_head' (List.pairwise_append.1 hv).2.1 fun z hz => L.of_ids (hi z ?_) (h5 z hz)⟩
        exact List.mem_append_right _ (List.mem_of_mem_head? hz))
      have HR6 : Hid (SR w0 B off (P ++ [x] ++ v1 ++ v2 ++ Q) wr) := hid (by have := HR.out.2.2.2.2.2; rw [HV1.out.1] at this; simpa using this)
      clear HR hlt hij
      have hj1 : (0 : Int) ≤ (j : Int) - 1 := by omega
      go_wp2_with fail
      go_loopw [13] (fun vi wr => ∃ k : Nat, vi = .int .i64 (k : Int) ∧ a ≤ k ∧ k + 1 ≤ j ∧ ∃ w1 w2 : List Int, Hid (v1 = w1 ++ w2 ∧ k = a + w1.length ∧ SR w0 B off (P ++ w1 ++ x :: w2 ++ v2 ++ Q) wr)) (fun k _ => j - (intOf k).toNat)
      case atStart => exact ⟨a, rfl, Nat.le_refl _, by omega, [], v1, hid ⟨rfl, rfl, by simpa using HR6.out⟩⟩
      case round =>
        obtain ⟨k, rfl, hak, hkj, w1, w2, HR⟩ := hrel
        by_cases hlt : k + 1 < j
        · obtain ⟨h1', h2, h3⟩ := HR.out
          obtain ⟨h4, h5, _⟩ := HV1.out
          obtain ⟨y, w3, rfl⟩ : ∃ y w3, w2 = y :: w3 := by
            cases w2 with
            | nil => rw [h1'] at h5; simp at h5; omega
            | cons y w3 => exact ⟨y, w3, rfl⟩
          have hA := HA.out
          have hp : k = (P ++ w1).length := by simp; omega
          have e0 : P ++ w1 ++ x :: y :: w3 ++ v2 ++ Q = (P ++ w1) ++ x :: [] ++ y :: (w3 ++ v2 ++ Q) := by simp
          rw [e0] at h3
          obtain ⟨cp, fp⟩ := h3.cell k x (by rw [List.append_assoc]; exact getA _ _ _ _ hp)
          obtain ⟨cq, fq⟩ := h3.cell (k + 1) y (getB _ [] _ _ _ _ (by rw [hp]; rfl))
          have s2 := ((h3.set k y).set (k + 1) x).drew
          rw [sw_eq (P ++ w1) [] _ x y k (k + 1) hp (by rw [hp]; rfl)] at s2
          have SS2 := hid s2
          have H := hid (show v1 = (w1 ++ [y]) ++ w3 ∧ k + 1 = a + (w1 ++ [y]).length from ⟨by rw [h1']; simp, by simp; omega⟩)
          clear s2 h1' h2 h3 h4 h5 hA hp e0 HR
          have i0 : (0 : Int) ≤ (k : Int) := by omega
          have i1 : (k : Int) + 1 < (n : Int) := by omega
          have i2 : (k : Int) < (n : Int) := by omega
          have i3 : ((k : Int) + 1).toNat = k + 1 := by omega
          have i4 : (0 : Int) ≤ (k : Int) + 1 := by omega
          have hlt' : (k : Int) < (j : Int) - 1 := by omega
          go_wp2_with fail
          go_region
          generalize (World.drew (World.setCell _ _ _)) = wz at SS2 ⊢
          go_wp2
          go_roundw
          case measure => simp [intOf]; omega
          case rel => exact ⟨k + 1, by go_num, by omega, by omega, _, _, hid ⟨H.out.1, H.out.2, by simpa using SS2.out⟩⟩
        · have hlt' : ¬ (k : Int) < (j : Int) - 1 := by omega
          go_wp2_with fail
          go_end0
          obtain ⟨h1', h2, h3⟩ := HR.out
          obtain ⟨h4, h5, h6, h7⟩ := HV1.out
          have e : w2 = [] := List.eq_nil_of_length_eq_zero (by rw [h1'] at h5; simp at h5; omega)
          subst e
          have hv := HV.out
          rw [h4] at hv
          simp only [List.append_nil] at h1'
          subst h1'
          exact ⟨rfl, _, ⟨v1 ++ x :: v2, by rw [h4]; simp, put_right hv h6 h7, rfl⟩, by simpa using h3⟩

set_option maxRecDepth 100000 in
set_option maxHeartbeats 4000000 in
theorem merge_last {w0 : World} {B off n cap : Nat} {cv : Value} {cf : Int → Int → Int} {key : Int → Int} {dom : Int → Prop} (hK : ∀ x y, cf x y < 0 ↔ key x < key y) (hC : CmpOk w0 B cv cf dom)
    (P u Q : List Int) (y : Int) (W : World) (a m b : Nat) {za zm zb : Int} (hza : za = a) (hzm : zm = m) (hzb : zb = b) (hS : SR w0 B off (P ++ u ++ [y] ++ Q) W) (hD : dom y ∧ ∀ x ∈ u, dom x) (hI : ∀ x ∈ u, x < y) (hu : Srt key u) (hn : n = (P ++ u ++ [y] ++ Q).length) (hb : n ≤ 1000000) (ha : a = P.length) (hm : m = a + u.length) (he : b = m + 1) (h2 : 2 ≤ u.length) :
    Calls Tryd.prog 68 #[.slice (some ⟨B, off, none⟩) n cap, .int .i64 za, .int .i64 zm, .int .i64 zb, cmpV cv] W (SortP w0 B off (Merged key P u [y] Q)) := by
  subst hza hzm hzb
  have hbn : m + 1 ≤ n := by rw [hn, hm, ha]; simp; omega
  have ham : a + 2 ≤ m := by omega
  have HS := hid hS
  have HC := hid hC
  have HK := hid hK
  have HI := hid hI
  have HV := hid hu
  have HA := hid ha
  have HM := hid hm
  have h1 : ((m : Int) - (a : Int) == 1) = false := by simp; omega
  have h1' : ((b : Int) - (m : Int) == 1) = true := by simp; omega
  have hbm : b ≤ m + 1 := by omega
  have hbm' : m < b := by omega
  unfold cmpV
  clear hS hC hK hI hu ha hm hn he h2
  go_enter Tryd.func68, Tryd.ntmps68
  go_wp2_with fail
  go_loopw [14, 15] (fun vi vj wr => ∃ i j : Nat, vi = .int .i64 (i : Int) ∧ vj = .int .i64 (j : Int) ∧ a ≤ i ∧ i ≤ j ∧ j ≤ m ∧ ∃ v1 vm v2 : List Int, Hid (u = v1 ++ vm ++ v2 ∧ i = a + v1.length ∧ j = i + vm.length ∧ (∀ z, v1.getLast? = some z → key z ≤ key y) ∧ (∀ z, v2.head? = some z → key y < key z) ∧ SR w0 B off (P ++ u ++ [y] ++ Q) wr)) (fun i j _ => (intOf j).toNat - (intOf i).toNat)
  case atStart => exact ⟨a, m, rfl, rfl, by omega, by omega, Nat.le_refl _, [], u, [], hid ⟨by simp, rfl, HM.out, by simp, by simp, HS.out⟩⟩
  case round =>
    obtain ⟨i, j, rfl, rfl, hmi, hij, hjb, v1, vm, v2, HR⟩ := hrel
    by_cases hlt : i < j
    · obtain ⟨k, hk⟩ : ∃ k, k = (i + j) / 2 := ⟨_, rfl⟩
      have hk1 : i ≤ k := by omega
      have hk2 : k < j := by omega
      have k0 : (0 : Int) ≤ ((i : Int) + (j : Int)) / 2 := by omega
      have k1 : ((i : Int) + (j : Int)) / 2 < (n : Int) := by omega
      have k2 : (((i : Int) + (j : Int)) / 2).toNat = k := by omega
      have HKK := hid (show (((i : Int) + (j : Int)) / 2) = (k : Int) by omega)
      obtain ⟨h1', h2, h3, h4, h5, h6⟩ := HR.out
      obtain ⟨va, vb', hvm, hva⟩ := split_at vm (k - i) (by omega)
      obtain ⟨x, vb, rfl⟩ : ∃ y vb, vb' = y :: vb := by
        cases vb' with
        | nil => rw [hvm] at h3; simp at h3; omega
        | cons y vb => exact ⟨y, vb, rfl⟩
      have hA := HA.out
      have hM := HM.out
      obtain ⟨ca, _⟩ := h6.cell m y (by
        have e : P ++ u ++ [y] ++ Q = (P ++ u) ++ y :: Q := by simp
        rw [e]; exact getA _ _ _ _ (by simp; omega))
      obtain ⟨ck, _⟩ := h6.cell k x (by
        have e : P ++ u ++ [y] ++ Q = (P ++ v1 ++ va) ++ x :: (vb ++ v2 ++ [y] ++ Q) := by rw [h1', hvm]; simp
        rw [e]; exact getA _ _ _ _ (by simp; omega))
      have hx : x ∈ u := by rw [h1', hvm]; simp
      have CA := hid ca
      have CK := hid ck
      have HLB := hid h6.lt
      have hcf := fun W' (g : G wr W') => HC.out W' (mv_g h6.mv g) y x hD.1 (hD.2 x hx)
      have HCF := hid hcf
      have HVM := hid (show vm = va ++ x :: vb ∧ va.length = k - i from ⟨hvm, hva⟩)
      clear h1' h2 h3 h4 h5 h6 hvm hva hA hM ca ck hcf hk
      have i0 : (0 : Int) ≤ (m : Int) := by omega
      have i1 : (m : Int) < (n : Int) := by omega
      by_cases hlv : cf y x < 0
      · have hdl : decide (cf y x < 0) = true := decide_eq_true hlv
        go_wp2_with fail
        refine wp_region_grow (by kernel_rfl) (by kernel_rfl) ?_
        repeat (first | go_big_quiet_skip | (go_big_quiet_want; go_big_quiet_op; first | go_big_quiet_on | (apply Exists.intro; apply And.intro; (focus (intro _ hg; first | (rw [G.cell hg (p := ⟨B, off + k, none⟩) HLB.out, CK.out]; exact ⟨rfl, rfl⟩) | (rw [G.cell hg (p := ⟨B, off + m, none⟩) HLB.out, CA.out]; exact ⟨rfl, rfl⟩) | (with_reducible exact Gives.gq hg (HCF.out _ hg)))); go_big_quiet_on) | (refine ⟨_, fun _ _ => rfl, ?_⟩; go_big_quiet_on)))
        refine wpQuiet_nil ?_
        intro wq gq
        go_wp2_with fail
        go_roundw
        case measure => simp [intOf]; omega
        case rel =>
          obtain ⟨h1', h2, h3, h4, h5, h6⟩ := HR.out
          obtain ⟨e1, e2⟩ := HVM.out
          refine ⟨i, k, rfl, by rw [HKK.out], by omega, by omega, by omega, v1, va, x :: vb ++ v2, hid ⟨by rw [h1', e1]; simp, h2, by omega, h4, ?_, h6.grow gq⟩⟩
          intro z hz
          simp at hz
          rw [← hz]; exact (HK.out _ _).1 hlv
      · have hdl : decide (cf y x < 0) = false := decide_eq_false hlv
        have HLV : Hid (key x ≤ key y) := hid (Int.not_lt.1 fun h => hlv ((HK.out _ _).2 h))
        go_wp2_with fail
        refine wp_region_grow (by kernel_rfl) (by kernel_rfl) ?_
        repeat (first | go_big_quiet_skip | (go_big_quiet_want; go_big_quiet_op; first | go_big_quiet_on | (apply Exists.intro; apply And.intro; (focus (intro _ hg; first | (rw [G.cell hg (p := ⟨B, off + k, none⟩) HLB.out, CK.out]; exact ⟨rfl, rfl⟩) | (rw [G.cell hg (p := ⟨B, off + m, none⟩) HLB.out, CA.out]; exact ⟨rfl, rfl⟩) | (with_reducible exact Gives.gq hg (HCF.out _ hg)))); go_big_quiet_on) | (refine ⟨_, fun _ _ => rfl, ?_⟩; go_big_quiet_on)))
        refine wpQuiet_nil ?_
        intro wq gq
        go_wp2_with fail
        go_roundw
        case measure => simp [intOf]; omega
        case rel =>
          obtain ⟨h1', h2, h3, h4, h5, h6⟩ := HR.out
          obtain ⟨e1, e2⟩ := HVM.out
          refine ⟨k + 1, j, by rw [HKK.out]; go_num, rfl, by omega, by omega, by omega, v1 ++ va ++ [x], vb, v2, hid ⟨by rw [h1', e1]; simp, by simp; omega, by rw [e1] at h3; simp at h3; omega, ?_, h5, h6.grow gq⟩⟩
          intro z hz
          simp at hz
          rw [← hz]; exact HLV.out
    · obtain rfl : j = i := by omega
      have HV1 : Hid (u = v1 ++ v2 ∧ j = a + v1.length ∧ (∀ z ∈ v1, L key z y) ∧ ∀ z ∈ v2, L key y z) := hid (by
        obtain ⟨h1', h2, h3, h4, h5, h6⟩ := HR.out
        have e : vm = [] := List.eq_nil_of_length_eq_zero (by omega)
        subst e
        have hv := HV.out
        rw [h1'] at hv
        have hi := HI.out
        rw [h1'] at hi
        simp only [List.append_nil] at hv hi h1'
        exact ⟨h1', h2, all_last' (List.pairwise_append.1 hv).1 fun z hz => L.of_ids (hi z (List.mem_append_left _ (List.mem_of_getLast? hz))) (h4 z hz), all_head' (List.pairwise_append.1 hv).2.1 fun z hz => .inl (h5 z hz)⟩)
      have HR6 : Hid (SR w0 B off (P ++ v1 ++ v2 ++ [y] ++ Q) wr) := hid (by have := HR.out.2.2.2.2.2; rw [HV1.out.1] at this; simpa using this)
      clear HR hlt hij
      go_wp2_with fail
      go_loopw [17] (fun vi wr => ∃ k : Nat, vi = .int .i64 (k : Int) ∧ j ≤ k ∧ k ≤ m ∧ ∃ w1 w2 : List Int, Hid (v2 = w1 ++ w2 ∧ k = j + w1.length ∧ SR w0 B off (P ++ v1 ++ w1 ++ y :: w2 ++ Q) wr)) (fun k _ => (intOf k).toNat)
      case atStart => exact ⟨m, rfl, by omega, Nat.le_refl _, v2, [], hid ⟨by simp, by have h1 := HV1.out.1; have h2 := HV1.out.2.1; have hM := HM.out; rw [h1] at hM; simp at hM; omega, by simpa using HR6.out⟩⟩
      case round =>
        obtain ⟨k, rfl, hak, hkj, w1, w2, HR⟩ := hrel
        by_cases hlt : j < k
        · obtain ⟨h1', h2, h3⟩ := HR.out
          obtain ⟨h4, h5, _⟩ := HV1.out
          obtain ⟨w3, x, rfl⟩ : ∃ w3 x, w1 = w3 ++ [x] := by
            rcases List.eq_nil_or_concat w1 with h | ⟨c, d, h⟩
            · rw [h] at h2; simp at h2; omega
            · exact ⟨c, d, by rw [h]; simp⟩
          obtain ⟨p, rfl⟩ : ∃ p, k = p + 1 := ⟨k - 1, by omega⟩
          have hA := HA.out
          have hp : p = (P ++ v1 ++ w3).length := by simp at h2 ⊢; omega
          have e0 : P ++ v1 ++ (w3 ++ [x]) ++ y :: w2 ++ Q = (P ++ v1 ++ w3) ++ x :: [] ++ y :: (w2 ++ Q) := by simp
          rw [e0] at h3
          obtain ⟨cp, fp⟩ := h3.cell p x (by rw [List.append_assoc]; exact getA _ _ _ _ hp)
          obtain ⟨cq, fq⟩ := h3.cell (p + 1) y (getB _ [] _ _ _ _ (by rw [hp]; rfl))
          have s2 := ((h3.set (p + 1) x).set p y).drew
          rw [sw_eq' (P ++ v1 ++ w3) [] _ x y p (p + 1) hp (by rw [hp]; rfl)] at s2
          have SS2 := hid s2
          have H := hid (show v2 = w3 ++ (x :: w2) ∧ p = j + w3.length from ⟨by rw [h1']; simp, by simp at h2; omega⟩)
          clear s2 h1' h2 h3 h4 h5 hA hp e0 HR
          have i0 : (0 : Int) ≤ (p : Int) := by omega
          have i1 : (p : Int) + 1 < (n : Int) := by omega
          have i2 : (p : Int) < (n : Int) := by omega
          have i3 : ((p : Int) + 1).toNat = p + 1 := by omega
          have i4 : (0 : Int) ≤ (p : Int) + 1 := by omega
          have i5 : IntKind.i64.wrap (p : Int) = (p : Int) := by rw [IntKind.wrap_i64]; omega
          have hlt' : (j : Int) < (p : Int) + 1 := by omega
          go_wp2_with fail
          go_region
          generalize (World.drew (World.setCell _ _ _)) = wz at SS2 ⊢
          go_wp2
          go_roundw
          case measure => simp [intOf]
          case rel => exact ⟨p, by go_num, by omega, by omega, _, _, hid ⟨H.out.1, H.out.2, by simpa using SS2.out⟩⟩
        · have hlt' : ¬ (j : Int) < (k : Int) := by omega
          go_wp2_with fail
          go_end0
          obtain ⟨h1', h2, h3⟩ := HR.out
          obtain ⟨h4, h5, h6, h7⟩ := HV1.out
          have e : w1 = [] := List.eq_nil_of_length_eq_zero (by omega)
          subst e
          have hv := HV.out
          rw [h4] at hv
          simp only [List.nil_append] at h1'
          subst h1'
          exact ⟨rfl, _, ⟨v1 ++ y :: v2, by rw [h4]; exact (List.perm_middle.trans (List.perm_append_singleton _ _).symm), put_right hv h6 h7, rfl⟩, by simpa using h3⟩

end Go.Proofs.YtniidkkldoijcaaDoor
