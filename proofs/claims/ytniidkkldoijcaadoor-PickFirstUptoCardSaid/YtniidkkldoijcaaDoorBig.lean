/-
  CONTRACT of big: whether a card has more than can be held.
-/
import Derived.Test.YtniidkkldoijcaaDoorItems
import Derived.Test.YtniidkkldoijcaaDoorMThick
import Derived.Test.YtniidkkldoijcaaDoorMWide
import Derived.Test.YtniidkkldoijcaaDoorPickAll
namespace Go.Proofs.YtniidkkldoijcaaDoor
open Go.RowKit
set_option linter.unusedVariables false
set_option linter.unusedSimpArgs false

/-- whether an item has more than can be held; whether a card has -/
def bigW (x : It) : Bool := decide (2500 < wideN x.ps + x.g.length + x.n.length + 0)
def bigT (x : It) : Bool := decide (1500 < x.v.tx.length ∨ 1500 < sumP x.v.ps)
def bigI (x : It) : Bool := bigW x || bigT x
def bigC (xs : List It) : Bool := decide (40 < xs.length) || xs.any bigI
/-- so much, at most -/
structure Lim (x : It) : Prop where
  g : x.g.length ≤ 1048576
  n : x.n.length ≤ 1048576
  p : wideN x.ps ≤ 1048576
  t : x.v.tx.length ≤ 1048576
  l : sumP x.v.ps ≤ 1048576
set_option maxRecDepth 100000 in
set_option maxHeartbeats 4000000 in
theorem big_any (ver : Int) (iv : Value) (xs : List It) (w : World) (h : IsItems w iv xs) (hL : ∀ x ∈ xs, Lim x) (hl : xs.length ≤ 1048576) :
    Gives 10 #[cardV ver iv] w (.bool (bigC xs)) := by
  obtain ⟨w1, hw1⟩ : ∃ w1, w.alloc (.cells #[.int .i64 ver, iv] 24) = w1 := ⟨_, rfl⟩
  have hC : CardAt w1 w.heap.size ver iv xs := by rw [← hw1]; exact CardAt.new h
  have HG1 := hid (show G w w1 by rw [← hw1]; exact (G.refl w).alloc _)
  have HIT := hid hC.it
  have HN := hid hL
  have hc1 := hC.c1
  have hlt := hC.lt
  obtain ⟨ia, ic, rfl, hcap⟩ := h.len
  have hll := hl
  by_cases h40 : 40 < xs.length
  · have HB := hid (show bigC xs = true by unfold bigC; simp [h40])
    rw [HB.out]
    clear hC h hcap hL
    unfold cardV
    go_enter Tryd.func10, Tryd.ntmps10
    go_wp2_with fail
    go_ret
    exact ⟨rfl, HG1.out⟩
  have HBB := hid (show bigC xs = xs.any bigI by unfold bigC; simp [h40])
  rw [HBB.out]
  clear hC h hcap hL
  unfold cardV
  go_enter Tryd.func10, Tryd.ntmps10
  go_wp2_with fail
  go_loopw [12] (fun i wr => ∃ k : Nat, k ≤ xs.length ∧ i = .int .i64 k ∧ (xs.take k).any bigI = false ∧ G w1 wr) (fun i _ => xs.length - (intOf i).toNat)
  case atStart => exact ⟨0, Nat.zero_le _, rfl, rfl, G.refl _⟩
  case round =>
    obtain ⟨k, hk, rfl, hno, hg⟩ := hrel
    have HG := hid hg
    have HNO := hid hno
    clear hno hg
    by_cases hlt2 : k < xs.length
    · obtain ⟨b, off, cap, e, hb, hit⟩ := (HIT.out.grow HG.out).at_ (by rintro rfl; simp at hlt2)
      cases e
      have hx := List.getElem?_eq_getElem hlt2
      obtain ⟨x, hxe⟩ : ∃ x, xs[k] = x := ⟨_, rfl⟩
      rw [hxe] at hx
      obtain ⟨pv, lv, hat⟩ := hit k x hx
      obtain ⟨pa, pc, rfl⟩ := hat.ok.pv
      obtain ⟨la, lc, rfl⟩ := hat.ok.lv
      obtain ⟨k0, k1, k2, k3, k4, k5, k6, k7, k8, k9, k10, k11, k12, k13, k14⟩ := hat.e
      have HX := hid hx
      have HOK := hid hat.ok
      have hkl : (k : Int) < (xs.length : Int) := by omega
      have HXB := hid (HN.out x (List.mem_of_getElem? hx))
      clear hit hat hx hxe
      go_wp2_with fail
      have hwd := wide_any x.g x.n [] (.slice pa x.ps.length pc) x.ps (wr.alloc (.cells #[.string (S x.g), .string (S x.n), .slice pa x.ps.length pc, .int .i64 x.v.ty, .string (S x.v.tx), .slice la x.v.ps.length lc, .int .i64 x.v.st.y, .int .i64 x.v.st.m, .int .i64 x.v.st.d, .int .i64 x.v.st.h, .int .i64 x.v.st.n, .int .i64 x.v.st.s, .bool x.v.st.zd, .int .i64 x.v.st.zn, .int .i64 x.v.n] 32)) (HOK.out.p.grow ((G.refl _).alloc _)) (by have := HXB.out.p; omega) (by have := HXB.out.g; omega) (by have := HXB.out.n; omega) (by simp)
      have hsn : (xs.take (k + 1)).any bigI = bigI x := by
        rw [List.take_add_one, HX.out, List.any_append, HNO.out]; simp
      have HSN := hid hsn
      obtain ⟨t1, ht1⟩ : ∃ t, bigW x = t := ⟨_, rfl⟩
      have ht1' : decide (2500 < wideN x.ps + x.g.length + x.n.length + ([] : List UInt8).length) = t1 := ht1
      rw [ht1'] at hwd
      refine hwd.use ?_
      clear hwd hsn ht1'
      intro w2 g2
      have HT1 := hid ht1
      have HANY : Hid (bigI x = true → xs.any bigI = true) := hid fun h => List.any_eq_true.2 ⟨x, List.mem_of_getElem? HX.out, h⟩
      have hbox : ∀ (j : Nat) (u : Value), (x.cells (.slice pa x.ps.length pc) (.slice la x.v.ps.length lc))[j]? = some u → w2.cell? ⟨wr.heap.size, j, none⟩ = some u := fun j u hu => by
        rw [g2.cell (by simp)]
        simpa [It.cells] using hu
      have q3 := hbox 3 _ rfl
      have q4 := hbox 4 _ rfl
      have q5 := hbox 5 _ rfl
      have q6 := hbox 6 _ rfl
      have q7 := hbox 7 _ rfl
      have q8 := hbox 8 _ rfl
      have q9 := hbox 9 _ rfl
      have q10 := hbox 10 _ rfl
      have q11 := hbox 11 _ rfl
      have q12 := hbox 12 _ rfl
      have q13 := hbox 13 _ rfl
      have q14 := hbox 14 _ rfl
      have GA := hid ((G.refl wr).alloc (.cells #[.string (S x.g), .string (S x.n), .slice pa x.ps.length pc, .int .i64 x.v.ty, .string (S x.v.tx), .slice la x.v.ps.length lc, .int .i64 x.v.st.y, .int .i64 x.v.st.m, .int .i64 x.v.st.d, .int .i64 x.v.st.h, .int .i64 x.v.st.n, .int .i64 x.v.st.s, .bool x.v.st.zd, .int .i64 x.v.st.zn, .int .i64 x.v.n] 32) |>.trans g2)
      have TH := hid (thick_any x.v la lc w2 (HOK.out.l.grow GA.out) HXB.out.t (by have := HXB.out.l; omega))
      clear hbox g2 ht1 k0 k1 k2 k3 k4 k5 k6 k7 k8 k9 k10 k11 k12 k13 k14
      cases t1 with
      | true =>
        go_wp2_with fail
        go_ret
        exact ⟨ret_bool (HANY.out (by unfold bigI; rw [HT1.out]; rfl)).symm, HG1.out.trans (HG.out.trans GA.out)⟩
      | false =>
        go_wp2_with fail
        obtain ⟨t2, ht2⟩ : ∃ t, bigT x = t := ⟨_, rfl⟩
        have hth := TH.out
        rw [show decide (1500 < x.v.tx.length ∨ 1500 < sumP x.v.ps) = t2 from ht2] at hth
        refine hth.use ?_
        have HT2 := hid ht2
        clear hth ht2 TH q3 q4 q5 q6 q7 q8 q9 q10 q11 q12 q13 q14
        intro w3 g3
        have GB := hid (GA.out.trans g3)
        clear g3
        cases t2 with
        | true =>
          go_wp2_with fail
          go_ret
          exact ⟨ret_bool (HANY.out (by unfold bigI; rw [HT2.out]; simp)).symm, HG1.out.trans (HG.out.trans GB.out)⟩
        | false =>
          go_wp2_with fail
          go_roundw
          case measure => simp [intOf]; omega
          case rel => exact ⟨k + 1, by omega, by go_num, by rw [HSN.out]; unfold bigI; rw [HT1.out, HT2.out]; rfl, HG.out.trans GB.out⟩
    · obtain rfl : k = xs.length := by omega
      have HE := hid (show xs.any bigI = false by have := HNO.out; rw [List.take_of_length_le (Nat.le_refl _)] at this; exact this)
      go_wp2_with fail
      go_ret
      exact ⟨ret_bool HE.out.symm, HG1.out.trans HG.out⟩

end Go.Proofs.YtniidkkldoijcaaDoor
