/-
  CONTRACT of pick.Typed.
-/
import Derived.Test.YtniidkkldoijcaaDoorPickLaws
import Derived.Test.YtniidkkldoijcaaDoorMFn
namespace Go.Proofs.YtniidkkldoijcaaDoor
open Go.RowKit Stab
set_option linter.unusedVariables false
set_option linter.unusedSimpArgs false

set_option maxRecDepth 100000 in
set_option maxHeartbeats 1000000 in
theorem typedV_any (l kind : List UInt8) (K : Nat) (w : World) (h1 : l.length ≤ 1000000) (h2 : kind.length ≤ 1000000) (hK : w.cell? ⟨K, 0, none⟩ = some (.string (S kind))) :
    Gives 50 (#[valS l] ++ #[.pointer (some ⟨K, 0, none⟩)]) w (.bool (sameL l kind)) := by
  go_enter Tryd.func50, Tryd.ntmps50
  go_wp2_with fail
  refine (same_any l kind _ (by omega) (by omega)).use ?_
  intro w1 g1
  go_wp2_with fail
  go_ret
  exact ⟨rfl, g1⟩
def typed1 (kind : List UInt8) (p : Pm) : Bool := sameL p.1 typeP && p.2.any fun v => sameL v kind
set_option maxRecDepth 100000 in
set_option maxHeartbeats 2000000 in
theorem typedP_any (x : PmC) (kind : List UInt8) (K : Nat) (w : World) (hx : IsStrs w (slP x) x.1.2) (h1 : x.1.1.length ≤ 1000000) (h3 : x.1.2.length ≤ 1000000) (h4 : ∀ v ∈ x.1.2, v.length ≤ 1000000) (h2 : kind.length ≤ 1000000) (hK : w.cell? ⟨K, 0, none⟩ = some (.string (S kind))) :
    Gives 48 (#[valP x] ++ #[.pointer (some ⟨K, 0, none⟩)]) w (.bool (typed1 kind x.1)) := by
  obtain ⟨⟨n, vs⟩, sa, sn, sc⟩ := x
  have HS := hid hx
  have HV := hid h4
  obtain ⟨a, c, e, hcap⟩ := hx.len
  simp only [slP, Value.slice.injEq] at e
  obtain ⟨rfl, rfl, rfl⟩ := e
  have HK := hid hK
  have hlt := World.block_lt_of_cell? _ _ hK
  dsimp only at h1 h3
  clear hx h4 hK
  go_enter Tryd.func48, Tryd.ntmps48
  go_wp2_with fail
  refine (same_any n [84, 89, 80, 69] _ (by omega) (by simp)).use ?_
  intro w1 g1
  have G1 := hid (((G.refl w).alloc (.cells #[.string (S n), .slice sa vs.length sc] 52)).trans g1)
  have hz1 : w1.cell? ⟨w.heap.size, 1, none⟩ = some (.slice sa vs.length sc) := by rw [g1.cell (by simp)]; simp [go_sem]
  clear g1
  obtain ⟨t, ht⟩ : ∃ t, sameL n [84, 89, 80, 69] = t := ⟨_, rfl⟩
  rw [ht]
  cases t with
  | false =>
    have HR := hid (show typed1 kind (n, vs) = false by unfold typed1; rw [show sameL n typeP = false from ht]; rfl)
    go_wp2_with fail
    go_ret
    exact ⟨ret_bool (by rw [HR.out]), G1.out⟩
  | true =>
    have HR := hid (show typed1 kind (n, vs) = vs.any fun v => sameL v kind by unfold typed1; rw [show sameL n typeP = true from ht]; rfl)
    have hc := containsS_fn 50 #[.pointer (some ⟨K, 0, none⟩)] (enters_of Tryd.func50 (by kernel_rfl) rfl) (fun v => sameL v kind) _ vs w1 ((HS.out.grow G1.out).row) h3 (fun W gW v hv => typedV_any v kind K W (HV.out v hv) h2 (by rw [(g_of_none gW).cell (p := ⟨K, 0, none⟩) (Nat.lt_of_lt_of_le hlt G1.out.size), G1.out.cell hlt]; exact HK.out))
    have HC := hid hc
    clear hc ht
    go_wp2_with fail
    refine HC.out.use ?_
    intro w2 g2
    have G2 := hid (G1.out.trans g2)
    clear g2
    go_wp2_with fail
    go_ret
    exact ⟨ret_bool (by rw [HR.out]), G2.out⟩
theorem typedL_map (kind : List UInt8) (xs : List PmC) : (xs.any fun x => typed1 kind x.1) = typedL kind (xs.map (·.1)) := by
  unfold typedL typed1
  rw [List.any_map]
  rfl
theorem wide_big {x : It} (h : x.big ≤ 100000) : x.ps.length ≤ 100000 ∧ ∀ p ∈ x.ps, p.1.length ≤ 100000 ∧ p.2.length ≤ 100000 ∧ ∀ v ∈ p.2, v.length ≤ 100000 := by
  refine ⟨by have := ps_le x; omega, fun p hp => ?_⟩
  have h1 := pm_le hp
  have h2 := vl_le p
  refine ⟨by omega, by omega, fun v hv => ?_⟩
  have := vs_le hv
  omega
set_option maxRecDepth 100000 in
set_option maxHeartbeats 2000000 in
theorem typedI_any (C K : Nat) (ver : Int) (iv : Value) (xs : List It) (kind : List UInt8) (w : World) (h : CardAt w C ver iv xs) (hF : Fine xs) (h2 : kind.length ≤ 1000000) (hK : w.cell? ⟨K, 0, none⟩ = some (.string (S kind))) (i : Nat) (hi : i < xs.length) :
    Gives 46 (#[valI (i : Int)] ++ #[.pointer (some ⟨C, 0, none⟩), .pointer (some ⟨K, 0, none⟩)]) w (.bool (!typedI xs kind (i : Int))) := by
  have c1 := h.c1
  obtain ⟨b, off, cap, e, hb, hit⟩ := h.it.at_ (by rintro rfl; simp at hi)
  subst e
  obtain ⟨x, hx⟩ : ∃ x, xs[i]? = some x := ⟨_, List.getElem?_eq_getElem hi⟩
  obtain ⟨pv, lv, hat⟩ := hit i x hx
  have c2 := hat.e.2.2.1
  have hff := hat.ok.f
  obtain ⟨qs, hq1, hq2, hq3⟩ := hat.ok.p.row hff
  obtain ⟨hw1, hw2⟩ := wide_big (hF.2 x (List.mem_of_getElem? hx))
  have hql : qs.length ≤ 1000000 := by
    have : qs.length = x.ps.length := by rw [← hq1]; simp
    omega
  have hlt := World.block_lt_of_cell? _ _ hK
  have HK := hid hK
  have hcf := containsP_fn 48 #[.pointer (some ⟨K, 0, none⟩)] (enters_of Tryd.func48 (by kernel_rfl) rfl) (fun y => typed1 kind y.1) pv qs w hq3 hql (fun W gW y hy => by
    have hm : y.1 ∈ x.ps := by rw [← hq1]; exact List.mem_map.2 ⟨y, hy, rfl⟩
    obtain ⟨a1, a2, a3⟩ := hw2 y.1 hm
    exact typedP_any y kind K W ((hq2 y hy).grow (g_of_none gW)) (by omega) (by omega) (fun v hv => by have := a3 v hv; omega) h2 (by rw [(g_of_none gW).cell (p := ⟨K, 0, none⟩) hlt]; exact HK.out))
  rw [typedL_map, hq1] at hcf
  have HC := hid hcf
  have HT := hid (show typedI xs kind (i : Int) = typedL kind x.ps by unfold typedI; rw [Int.toNat_natCast, hx])
  obtain ⟨pa, pc, rfl⟩ := hat.ok.pv
  have hil : (i : Int) < (xs.length : Int) := by omega
  clear hit hat hx hq1 hq2 hq3 hff hcf hK hw1 hw2 hF h
  go_enter Tryd.func46, Tryd.ntmps46
  go_wp2_with fail
  refine HC.out.use ?_
  intro w1 g1
  go_wp2_with fail
  go_ret
  exact ⟨ret_bool (by rw [HT.out]), g1⟩
/-- what is written into a row of the call's own leaves all that was there before -/
theorem g_own {a b c : World} {base : Nat} {t : TypeId} {k n : Nat} {v : Value} {cs : List Value} (h : G a b) (ho : b.ownsRow base t k v n cs) (hb : a.heap.size ≤ base) (m : b.grownBy c v.ownBlock) : G a c := by
  rcases ho.2 with ⟨rfl, _⟩ | ⟨g, cap, cur, rfl, hg, _⟩
  · exact h.trans (g_of_none m)
  · exact g_of_mv h m (Nat.le_trans hb hg)
/-- what pick.Typed hands back -/
def TypedP (xs : List It) (s kind : List UInt8) (base : Nat) (v : Value) (w' : World) : Prop := ∃ l, Sorted (keyL xs) (idxL (ofName s) xs) l ∧ OwnN w' base v (l.filter (typedI xs kind))
theorem flat_int (l : List Int) : l.flatMap cellsI = l.map (Value.int .i64) := by
  induction l with
  | nil => rfl
  | cons x l ih => rw [List.flatMap_cons, ih]; rfl
set_option maxRecDepth 100000 in
set_option maxHeartbeats 2000000 in
theorem typed_any (ver : Int) (iv : Value) (xs : List It) (s kind : List UInt8) (w : World) (h : IsItems w iv xs) (hF : Fine xs) (hs : s.length ≤ 100000) (hk : kind.length ≤ 100000) (hM : RMem w) :
    Makes 22 #[cardV ver iv, .string (S s), .string (S kind)] w (TypedP xs s kind w.heap.size) := by
  have HI := hid h
  have HF := hid hF
  have HALL := hid (fun W (g : G w W) => all_any ver iv xs s W (h.grow g) hF hs (hM.grow g))
  obtain ⟨ia, ic, rfl, hcap⟩ := h.len
  clear h hF hM
  unfold cardV at HALL ⊢
  go_enter Tryd.func22, Tryd.ntmps22
  go_wp2_with fail
  generalize hw5 : (World.alloc (World.alloc w _) _) = w5
  have hB : CardAt w5 w.heap.size ver (.slice ia xs.length ic) xs := by rw [← hw5]; exact (CardAt.new HI.out).grow ((G.refl _).alloc _)
  have hK : w5.cell? ⟨w.heap.size + 1, 0, none⟩ = some (.string (S kind)) := by rw [← hw5]; simp [go_sem]
  have g5 : G w w5 := by rw [← hw5]; exact ((G.refl w).alloc _).alloc _
  have hz5 : w5.heap.size = w.heap.size + 2 := by rw [← hw5]; simp
  clear hw5
  have HB := hid hB
  have HB5 := HB
  have HK := hid hK
  have HK5 := HK
  have HG := hid g5
  have HG5 := HG
  have HZ := hid hz5
  have hal := HALL.out _ g5
  have c0 := hB.c0
  have c1 := hB.c1
  clear hB hK g5 hz5 HALL
  go_wp2_with fail
  refine hal.use ?_
  rintro v w6 ⟨l, hl, ho⟩ g6
  have HL := hid hl
  have HO := hid ho
  have HB := hid (HB.out.grow g6)
  have HK6 : Hid (w6.cell? ⟨w.heap.size + 1, 0, none⟩ = some (.string (S kind))) := hid (by rw [g6.cell (World.block_lt_of_cell? _ _ HK.out)]; exact HK.out)
  have HG := hid (HG.out.trans g6)
  have G56 := hid g6
  clear c0 c1 hal hl ho g6
  have hlen := all_len HL.out
  have hown : w6.ownsRow (w5.heap.size + 1) 3 1 v l.length (l.flatMap cellsI) := by rw [flat_int]; exact HO.out
  have hdel := deleteI_any 46 #[.pointer (some ⟨w.heap.size, 0, none⟩), .pointer (some ⟨w.heap.size + 1, 0, none⟩)] (enters_of Tryd.func46 (by kernel_rfl) rfl) (fun i => !typedI xs kind i) (w5.heap.size + 1) v l w6 hown (by have := HF.out.1; omega) ?_
  case refine_1 =>
    intro W gW i hi
    have G5 := g_own G56.out hown (by omega) gW
    obtain ⟨h0, h1⟩ := idx_lt (HL.out.1.mem_iff.1 hi)
    have := typedI_any w.heap.size (w.heap.size + 1) ver (.slice ia xs.length ic) xs kind W (HB5.out.grow G5) HF.out (by omega) (by rw [G5.cell (World.block_lt_of_cell? _ _ HK5.out)]; exact HK5.out) i.toNat h1
    rw [Int.toNat_of_nonneg h0] at this
    exact this
  have HD := hid hdel
  have HOW := hid hown
  clear hown hdel
  go_wp2_with fail
  refine HD.out.mono ?_
  rintro e w7 ⟨u, rfl, h7, m7, _⟩
  have HR := hid (show TypedP xs s kind w.heap.size u w7 from ⟨l, HL.out, by
    simp only [Bool.not_not] at h7
    rw [flat_int] at h7
    exact OwnN.mono (xs := l.filter (typedI xs kind)) h7 (by rw [HZ.out]; omega)⟩)
  have HG7 : Hid (G w w7) := hid (HG5.out.trans (g_own G56.out HOW.out (by omega) m7))
  clear h7 m7
  go_wp2_with fail
  go_ret
  exact ⟨_, rfl, HR.out, HG7.out⟩
end Go.Proofs.YtniidkkldoijcaaDoor
