/-
  CONTRACT of pick.Group.
-/
import Derived.Test.YtniidkkldoijcaaDoorPickAll
namespace Go.Proofs.YtniidkkldoijcaaDoor
open Go.RowKit Stab
set_option linter.unusedVariables false
set_option linter.unusedSimpArgs false

/-- what pick.Group hands back -/
def GroupP (xs : List It) (s : List UInt8) (base : Nat) (v : Value) (w' : World) : Prop := OwnN w' base v (idxL (ofGroup s) xs)
set_option maxRecDepth 100000 in
set_option maxHeartbeats 4000000 in
theorem group_any (ver : Int) (iv : Value) (xs : List It) (s : List UInt8) (w : World) (h : IsItems w iv xs) (hF : Fine xs) (hs : s.length ≤ 100000) :
    Makes 19 #[cardV ver iv, .string (S s)] w (GroupP xs s (w.heap.size + 1)) := by
  obtain ⟨w1, hw1⟩ : ∃ w1, w.alloc (.cells #[.int .i64 ver, iv] 24) = w1 := ⟨_, rfl⟩
  have hC : CardAt w1 w.heap.size ver iv xs := by rw [← hw1]; exact CardAt.new h
  have hsz : w1.heap.size = w.heap.size + 1 := by rw [← hw1]; simp
  have hg1 : G w w1 := by rw [← hw1]; exact (G.refl w).alloc _
  have HIT := hid hC.it
  have HSZ := hid hsz
  have HG1 := hid hg1
  have HL := hid hF.1
  have HN := hid (fun x hx => hF.2 x hx)
  have hc1 := hC.c1
  have hlt := hC.lt
  obtain ⟨ia, ic, rfl, hcap⟩ := h.len
  obtain ⟨i0, hi, hz0, hz1, hz2⟩ := info_parts info_intN
  have hll := hF.1
  clear hC h hF hsz hg1 hcap
  unfold cardV
  go_enter Tryd.func19, Tryd.ntmps19
  go_wp2_with fail
  go_loopw [5, 11] (fun v i wr => ∃ k : Nat, k ≤ xs.length ∧ i = .int .i64 k ∧ OwnN wr (w1.heap.size) v (idxL (ofGroup s) (xs.take k)) ∧ G w1 wr) (fun _ i _ => xs.length - (intOf i).toNat)
  case atStart => exact ⟨0, Nat.zero_le _, rfl, World.ownsRow_nil _ _ _ _, G.refl _⟩
  case round =>
    obtain ⟨k, hk, rfl, hown, hg⟩ := hrel
    have HO := hid hown
    have HG := hid hg
    clear hown hg
    by_cases hlt2 : k < xs.length
    · obtain ⟨b, off, cap, e, hb, hit⟩ := (HIT.out.grow HG.out).at_ (by rintro rfl; simp at hlt2)
      cases e
      have hx := List.getElem?_eq_getElem hlt2
      obtain ⟨x, hxe⟩ : ∃ x, xs[k] = x := ⟨_, rfl⟩
      rw [hxe] at hx
      obtain ⟨pv, lv, hat⟩ := hit k x hx
      obtain ⟨pa, pc, rfl⟩ := hat.ok.pv
      obtain ⟨la, lc, rfl⟩ := hat.ok.lv
      obtain ⟨k0, k1, k2, k3, k4, k5, k6, k7, k8, k9, k10, k11, k12, k13, k14⟩ := hat.e
      have HX := hid hx
      have hkl : (k : Int) < (xs.length : Int) := by omega
      have hxb := HN.out x (List.mem_of_getElem? hx)
      have hnl : x.g.length ≤ x.big := by unfold It.big; omega
      clear hit hat hx hxe
      go_wp2_with fail
      refine (same_any x.g s _ (by omega) (by omega)).use ?_
      intro w2 g2
      have G2 := hid (HG.out.trans (((G.refl _).alloc _).trans g2))
      have HIX := hid (idx_take (ofGroup s) xs k x HX.out)
      have HO2 := hid (OwnN.grow HO.out (((G.refl _).alloc _).trans g2))
      have hlen := idx_len (ofGroup s) (xs.take k) 0
      have hlen2 : (idxL (ofGroup s) (xs.take k)).length ≤ 100 := by unfold idxL; rw [List.length_take] at hlen; omega
      clear g2 hlen
      obtain ⟨t, ht⟩ : ∃ t, sameL x.g s = t := ⟨_, rfl⟩
      rw [ht]
      have HT := hid (show ofGroup s x = t from ht)
      clear ht k0 k1 k2 k3 k4 k5 k6 k7 k8 k9 k10 k11 k12 k13 k14
      cases t with
      | true =>
        have hown := HO2.out
        unfold OwnN at hown
        have hgg := G2.out
        go_wp2_with (at_builtin; refine wpList_push (w := w1) rfl _ _ 35 rfl 3 i0 _ 1 8 Tryd.underlying35 hi hz0 hz1 hz2 rfl (by decide) _ _ _ rfl hown hgg [.int .i64 (k : Int)] rfl rfl (by simp; rfl) (by omega) (by omega) ?_; intro v' w' hown' hg' hne')
        go_roundw
        case measure => simp [intOf]; omega
        case rel =>
          refine ⟨k + 1, by omega, by go_num, ?_, hg'⟩
          rw [HIX.out, HT.out, if_pos rfl]
          unfold OwnN
          simpa using hown'
      | false =>
        go_wp2_with fail
        go_roundw
        case measure => simp [intOf]; omega
        case rel =>
          refine ⟨k + 1, by omega, by go_num, ?_, G2.out⟩
          rw [HIX.out, HT.out, if_neg (by simp), List.append_nil]
          exact HO2.out
    · obtain rfl : k = xs.length := by omega
      have HR := hid (show OwnN wr w1.heap.size u5 (idxL (ofGroup s) xs) by have := HO.out; rw [List.take_of_length_le (Nat.le_refl _)] at this; exact this)
      have HGW := hid (HG1.out.trans HG.out)
      go_wp2_with fail
      go_ret
      exact ⟨_, rfl, by unfold GroupP; rw [← HSZ.out]; exact HR.out, HGW.out⟩

end Go.Proofs.YtniidkkldoijcaaDoor
