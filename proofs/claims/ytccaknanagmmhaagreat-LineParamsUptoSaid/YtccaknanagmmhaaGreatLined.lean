/-
  The laws' fact 'lined'.
-/
import Derived.Test.YtccaknanagmmhaaGreatMParse
import Derived.Test.YtccaknanagmmhaaGreatLinePrint
import Derived.Test.YtccaknanagmmhaaGreatMSame
namespace Go.Proofs.YtccaknanagmmhaaGreat
open Go.RowKit
set_option linter.unusedVariables false
set_option linter.unusedSimpArgs false

theorem lineParse_use (s : L8) (cf : Bool) (w : World) (hs : s.length ≤ 10000) : Makes 13 #[.string (S s), .bool cf] w (ParseP (parseP cf s)) := lineParse_any s cf w hs
def ps0 : List Pm := [([84, 89, 80, 69], [[97], [98, 44, 99]]), ([88], [[94, 34]])]
def ln0 : Ln := ⟨⟨[103], [84, 69, 76], ps0⟩, [49, 59, 50]⟩
def tx0 : L8 := [103, 46, 84, 69, 76, 59, 84, 89, 80, 69, 61, 97, 44, 34, 98, 44, 99, 34, 59, 88, 61, 94, 94, 94, 39, 58, 49, 59, 50]
theorem right0 : rightB true ln0 = true := by decide +kernel
theorem print0 : printW true ln0 = tx0 := by decide +kernel
theorem parse0 : parseP true tx0 = .ok ln0 := by rw [← print0]; exact parse_print right0
theorem params2 (W : World) (t : TypeId) (n1 n2 : L8) (v1 v2 : Value) (x1 x2 : List L8) (h1 : IsStrs W v1 x1) (h2 : IsStrs W v2 x2) : IsParams (W.alloc (.cells #[.string (S n1), v1, .string (S n2), v2] t)) (.slice (some ⟨W.heap.size, 0, none⟩) 2 2) [(n1, x1), (n2, x2)] := by
  refine ⟨_, 2, rfl, Nat.le_refl _, fun _ => ⟨W.heap.size, 0, rfl, by simp, fun i p hp => ?_⟩⟩
  match i, hp with
  | 0, hp => simp at hp; subst hp; exact ⟨v1, by rw [World.cell?_alloc_new]; rfl, by rw [World.cell?_alloc_new]; rfl, h1.grow ((G.refl W).alloc _)⟩
  | 1, hp => simp at hp; subst hp; exact ⟨v2, by rw [World.cell?_alloc_new]; rfl, by rw [World.cell?_alloc_new]; rfl, h2.grow ((G.refl W).alloc _)⟩
  | i + 2, hp => simp at hp
theorem small0 : smallPm ps0 := by intro p hp; simp [ps0] at hp; rcases hp with rfl | rfl <;> decide
set_option maxRecDepth 100000 in
set_option maxHeartbeats 2000000 in
theorem lined_any (w : World) : Gives 9 #[] w (.bool true) := by
  go_enter Tryz.func9, Tryz.ntmps9
  go_upto_region 2 with fail
  obtain ⟨A, hA⟩ : ∃ A, A = w.heap.size + 1 + 1 := ⟨_, rfl⟩
  obtain ⟨B, hB⟩ : ∃ B, B = w.heap.size + 1 + 1 + 1 := ⟨_, rfl⟩
  generalize hwa : World.alloc _ _ = wa
  have hp : IsParams wa (.slice (some ⟨A, 0, none⟩) 2 2) ps0 := by
    rw [← hwa, hA]
    have h := params2 ((w.alloc (.cells #[.string ⟨#[97]⟩, .string ⟨#[98, 44, 99]⟩] 9)).alloc (.cells #[.string ⟨#[94, 34]⟩] 9)) 41 [84, 89, 80, 69] [88] (.slice (some ⟨w.heap.size, 0, none⟩) 2 2) (.slice (some ⟨w.heap.size + 1, 0, none⟩) 1 1) [[97], [98, 44, 99]] [[94, 34]]
      ((strs_of_alloc w 9 [[97], [98, 44, 99]] (by simp)).grow ((G.refl _).alloc _)) (by have := strs_of_alloc (w.alloc (.cells #[.string ⟨#[97]⟩, .string ⟨#[98, 44, 99]⟩] 9)) 9 [[94, 34]] (by simp); rw [World.size_alloc] at this; exact this)
    rw [World.size_alloc, World.size_alloc] at h
    exact h.grow ((G.refl _).alloc _)
  have hc : ∀ j, wa.cell? ⟨B, j, none⟩ = (#[.string (S [103]), .string (S [84, 69, 76]), .slice (some ⟨A, 0, none⟩) 2 2, .string (S [49, 59, 50])] : Array Value)[j]? := by
    intro j
    rw [← hwa, hA, hB]
    have e := World.cell?_alloc_new (((w.alloc (.cells #[.string ⟨#[97]⟩, .string ⟨#[98, 44, 99]⟩] 9)).alloc (.cells #[.string ⟨#[94, 34]⟩] 9)).alloc (.cells #[.string ⟨#[84, 89, 80, 69]⟩, .slice (some ⟨w.heap.size, 0, none⟩) 2 2, .string ⟨#[88]⟩, .slice (some ⟨w.heap.size + 1, 0, none⟩) 1 1] 41)) #[.string ⟨#[103]⟩, .string ⟨#[84, 69, 76]⟩, .slice (some ⟨w.heap.size + 1 + 1, 0, none⟩) 2 2, .string ⟨#[49, 59, 50]⟩] 24 j
    rw [World.size_alloc, World.size_alloc, World.size_alloc] at e
    exact e
  have gw : G w wa := by rw [← hwa]; exact ((((G.refl w).alloc _).alloc _).alloc _).alloc _
  rw [← hB, ← hA]
  have c0 := hc 0
  have c1 := hc 1
  have c2 := hc 2
  have c3 := hc 3
  have hBl : B < wa.heap.size := World.block_lt_of_cell? wa ⟨B, 0, none⟩ (u := .string (S [103])) c0
  have HP := hid hp
  have HC := hid hc
  have GW := hid gw
  clear hwa hA hB hc gw hp
  go_wp2_with fail
  refine (linePrint_any [103] [84, 69, 76] [49, 59, 50] _ ps0 true wa HP.out (by simp) (by simp) (by simp) (by decide)).use ?_
  intro pr w1 hpr g1
  have hpr2 : pr = .tuple #[.string (S tx0), .nilIface] := by
    unfold PrintP at hpr
    rw [show rightE true ⟨⟨[103], [84, 69, 76], ps0⟩, [49, 59, 50]⟩ = none from rightE_none.2 right0] at hpr
    rw [hpr, ← print0]; rfl
  subst hpr2
  have G1 := hid g1
  clear hpr g1 c0 c1 c2 c3
  have htl : (tx0.length : Int) = 29 := by decide
  go_wp2_with fail
  refine (lineParse_use tx0 true w1 (by decide)).use ?_
  intro v w2 hv g2
  rw [parse0] at hv
  obtain ⟨pv, rfl, hpv⟩ := hv
  have G2 := hid (G1.out.trans g2)
  have HPV := hid hpv
  obtain ⟨qa, qc, rfl, _, _⟩ := hpv
  rw [show lnV ln0 (.slice qa ln0.hd.params.length qc) = .agg #[.string (S [103]), .string (S [84, 69, 76]), .slice qa 2 qc, .string (S [49, 59, 50])] from rfl]
  have d0 := (g2.cell (p := ⟨B, 0, none⟩) (Nat.lt_of_lt_of_le hBl G1.out.size)).trans ((G1.out.cell (p := ⟨B, 0, none⟩) hBl).trans (HC.out 0))
  have d1 := (g2.cell (p := ⟨B, 1, none⟩) (Nat.lt_of_lt_of_le hBl G1.out.size)).trans ((G1.out.cell (p := ⟨B, 1, none⟩) hBl).trans (HC.out 1))
  have d2 := (g2.cell (p := ⟨B, 2, none⟩) (Nat.lt_of_lt_of_le hBl G1.out.size)).trans ((G1.out.cell (p := ⟨B, 2, none⟩) hBl).trans (HC.out 2))
  have d3 := (g2.cell (p := ⟨B, 3, none⟩) (Nat.lt_of_lt_of_le hBl G1.out.size)).trans ((G1.out.cell (p := ⟨B, 3, none⟩) hBl).trans (HC.out 3))
  have hB2 : B < w2.heap.size := Nat.lt_of_lt_of_le hBl G2.out.size
  clear g2
  go_wp2_with fail
  · have SP := sameProp_any (w := w2.alloc (.cells #[.string (S [103]), .string (S [84, 69, 76]), .slice qa 2 qc, .string (S [49, 59, 50])] 24)) [103] [103] [84, 69, 76] [84, 69, 76] [49, 59, 50] [49, 59, 50] (HP.out.grow (G2.out.alloc _)) (show IsParams _ (.slice qa 2 qc) ps0 from HPV.out.grow ((G.refl w2).alloc _)) (by decide) (by decide) small0 small0 (by simp) (by simp) (by simp) (by simp) (by simp) (by simp)
    have hd : decide (([103] : List UInt8) = [103] ∧ ([84, 69, 76] : List UInt8) = [84, 69, 76] ∧ ([49, 59, 50] : List UInt8) = [49, 59, 50] ∧ ps0 = ps0) = true := by simp
    rw [hd] at SP
    refine SP.use ?_
    intro w3 g3
    go_wp2_with fail
    go_ret
    exact ⟨rfl, (GW.out.trans (G2.out.alloc _)).trans g3⟩

end Go.Proofs.YtccaknanagmmhaaGreat
