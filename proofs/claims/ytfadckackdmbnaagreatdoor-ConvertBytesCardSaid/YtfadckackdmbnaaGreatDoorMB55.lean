/-
  Parts of merged texts.
-/
import Derived.Test.YtfadckackdmbnaaGreatDoorConvUp
import Derived.Test.YtfadckackdmbnaaGreatDoorMA47
import Derived.Test.YtfadckackdmbnaaGreatDoorMA51
import Derived.Test.YtfadckackdmbnaaGreatDoorMA53
import Derived.Test.YtfadckackdmbnaaGreatDoorMA49
import Derived.Test.YtfadckackdmbnaaGreatDoorMA56
import Derived.Test.YtfadckackdmbnaaGreatDoorMA41
import Derived.Test.YtfadckackdmbnaaGreatDoorMA45
import Derived.Test.YtfadckackdmbnaaGreatDoorMA54
import Derived.Test.YtfadckackdmbnaaGreatDoorConvKind
namespace Go.Proofs.YtfadckackdmbnaaGreatDoor
open Go.RowKit
set_option linter.unusedVariables false
set_option linter.unusedSimpArgs false
theorem up_plain (ver : Int) (iv : Value) (xs : List It) (w : World) (h : IsItems w iv xs) (hl : xs.length ≤ 1000) (hs : ∀ x ∈ xs, Sml x) (hR : RMem w) (hM : HasM w) (hE : LaidE w) (hnl : ∀ x ∈ xs, sameL x.n nLABEL = false) (hnm : ∀ x ∈ xs, plainN (upperL x.n) = true ∨ bigN (upperL x.n) = true)
    (hs1 : ∀ x ∈ xs, Sml ⟨x.g, x.n, prefersL x.ps, x.v⟩) (hne : ∀ x ∈ xs, ∀ p ∈ prefersL x.ps, p.2 ≠ []) (hs2 : ∀ x ∈ xs, Sml (oneX x).1) : Makes 19 #[cardV ver iv] w (fun r w' => UpR ver xs r w') := by
  have el := labels_none hnl
  refine up_gen ver iv xs w h hl hs hR hM hE (fun L W g hX => ?_) (fun x hx L W pv lv hX ho => ?_) (by rw [el]; exact hl) (fun x hx => hs2 x (by rw [el] at hx; exact hx))
  · rw [el]
    exact labels_plain L iv xs W (h.grow (Wl.of g (fun X hx => (hX X hx).1))) hl (fun x hx => by have := (hs x hx).bounds.2.1; omega) hnl
  · rw [el] at hx
    rcases hnm x hx with hp | hb
    · exact one_plain L x pv lv W hX ho (hs x hx) (hs1 x hx) (hne x hx) hp
    · exact one_big L x pv lv W hX ho (hs x hx) (hs1 x hx) (hne x hx) hb
def phIt : It := ⟨[], [80, 72, 79, 84, 79], [([69, 78, 67, 79, 68, 73, 78, 71], [[98]]), ([84, 89, 80, 69], [[74, 80, 69, 71], [112, 114, 101, 102]])], ⟨8, [84, 87, 69, 61], [], St0, 0⟩⟩
def phXs : List It := annXs ++ [phIt]
def phT : List UInt8 := [100, 97, 116, 97, 58, 105, 109, 97, 103, 101, 47, 106, 112, 101, 103, 59, 98, 97, 115, 101, 54, 52, 44, 84, 87, 69, 61]
def phY : It := ⟨[], [80, 72, 79, 84, 79], [([80, 82, 69, 70], [[49]])], ⟨4, phT, [], St0, 0⟩⟩
theorem ph_right : rightC 3 phXs = true := by decide +kernel
theorem ph_one : (labelsX phXs).all (fun x => (oneX x).2) = true := by decide +kernel
theorem ph_map : (labelsX phXs).map (fun x => (oneX x).1) = annXs ++ [phY] := by kernel_rfl
theorem ph_right4 : rightC 4 (annXs ++ [phY]) = true := by decide +kernel
theorem ph_up : upX phXs = some (annXs ++ [phY]) := by
  unfold upX
  rw [if_pos ph_right, if_pos ph_one, ph_map, if_pos ph_right4]
theorem ph_line : printW ((4 : Int) == 4) (lnX phY phY.v.text) = [80, 72, 79, 84, 79, 59, 80, 82, 69, 70, 61, 49, 58] ++ phT := by decide +kernel
theorem ph_all {P : It → Prop} (h1 : P annFN) (h2 : P annN) (h3 : P phIt) : ∀ x ∈ phXs, P x := by
  intro x hx
  simp only [phXs, annXs, List.mem_append, List.mem_cons, List.mem_nil_iff, or_false] at hx
  rcases hx with (rfl | rfl) | rfl
  · exact h1
  · exact h2
  · exact h3
theorem ph_sml : ∀ x ∈ phXs, Sml x := ph_all ⟨by decide, by decide, by decide⟩ ⟨by decide, by decide, by decide⟩ ⟨by decide, by decide, by decide⟩
theorem ph_sml1 : ∀ x ∈ phXs, Sml ⟨x.g, x.n, prefersL x.ps, x.v⟩ := ph_all ⟨by decide +kernel, by decide, by decide⟩ ⟨by decide +kernel, by decide, by decide⟩ ⟨by decide +kernel, by decide, by decide⟩
theorem ph_sml2 : ∀ x ∈ phXs, Sml (oneX x).1 := ph_all ⟨by decide +kernel, by decide +kernel, by decide +kernel⟩ ⟨by decide +kernel, by decide +kernel, by decide +kernel⟩ ⟨by decide +kernel, by decide +kernel, by decide +kernel⟩
theorem ph_ne : ∀ x ∈ phXs, ∀ p ∈ prefersL x.ps, p.2 ≠ [] := ph_all (by decide +kernel) (by decide +kernel) (by decide +kernel)
theorem ph_nl : ∀ x ∈ phXs, sameL x.n nLABEL = false := ph_all (by decide +kernel) (by decide +kernel) (by decide +kernel)
theorem ph_nm : ∀ x ∈ phXs, plainN (upperL x.n) = true ∨ bigN (upperL x.n) = true := ph_all (by decide +kernel) (by decide +kernel) (by decide +kernel)
theorem phY_sml : Sml phY := ⟨by decide +kernel, by decide, by decide⟩
theorem phY_one : oneB 4 phY = true := (rightC_iff.1 ph_right4).2.2.1 phY (by simp)
set_option maxRecDepth 100000 in
set_option maxHeartbeats 4000000 in
theorem turned_any (w : World) (hR : RMem w) (hM : HasM w) (hE : LaidE w) : Gives 13 #[] w (.bool true) := by
  have AN := hid (ann_any 3 w)
  have HR := hid hR
  have HM := hid hM
  have HE := hid hE
  clear hR hM hE
  go_enter Tryz.func13, Tryz.ntmps13
  go_wp2_with fail
  refine AN.out.use ?_
  rintro v w1 ⟨u, rfl, hit, b, c, rfl⟩ g1
  have HIT := hid hit
  have G1 := hid g1
  clear hit g1
  unfold cardV
  go_wp2_with fail
  generalize hw2 : ((w1.alloc _).alloc _).alloc _ = w2
  have hA1 : w2.heap[w1.heap.size]? = some (.cells #[.string (S [98])] 9 (0, 0)) := by rw [← hw2, Lib.alloc_old _ _ _ (by simp; omega), Lib.alloc_old _ _ _ (by simp)]; exact heap_alloc_new w1 _
  have hA2 : w2.heap[w1.heap.size + 1]? = some (.cells #[.string (S [74, 80, 69, 71]), .string (S [112, 114, 101, 102])] 9 (0, 0)) := by rw [← hw2, Lib.alloc_old _ _ _ (by simp)]; exact new_2 w1 _ _
  have hA3 : w2.heap[w1.heap.size + 2]? = some (.cells #[.string (S [69, 78, 67, 79, 68, 73, 78, 71]), .slice (some ⟨w1.heap.size, 0, none⟩) 1 1, .string (S [84, 89, 80, 69]), .slice (some ⟨w1.heap.size + 1, 0, none⟩) 2 2] 48 (0, 0)) := by rw [← hw2]; exact new_at _ _ _ (by simp)
  have G12 := hid (show G w1 w2 by rw [← hw2]; exact ((((G.refl w1).alloc _).alloc _).alloc _))
  clear hw2
  have hs1 : IsStrs w2 (.slice (some ⟨w1.heap.size, 0, none⟩) 1 1) [[98]] := IsStrs.one1 (by rw [cell_of_row w2 _ 0 _ _ _ hA1]; rfl)
  have hs2 : IsStrs w2 (.slice (some ⟨w1.heap.size + 1, 0, none⟩) 2 2) [[74, 80, 69, 71], [112, 114, 101, 102]] := by
    refine ⟨⟨rfl, by intro v hv; simp at hv; rcases hv with rfl | rfl <;> rfl, .inr ⟨_, 0, 2, rfl, lt_of_row hA2, by simp, fun j hj => ?_⟩⟩, Nat.le_refl _⟩
    match j, hj with
    | 0, _ => rw [cell_of_row w2 _ _ _ _ _ hA2]; rfl
    | 1, _ => rw [cell_of_row w2 _ _ _ _ _ hA2]; rfl
    | n + 2, hj => exact absurd hj (by simp only [List.length_map, List.length_cons, List.length_nil]; omega)
  have hok : ItOk w2 phIt (.slice (some ⟨w1.heap.size + 2, 0, none⟩) 2 2) (.slice none 0 0) := by
    refine ⟨⟨_, _, rfl, Nat.le_refl _, fun _ => ⟨_, 0, rfl, lt_of_row hA3, fun i p hp => ?_⟩⟩, ⟨[], ⟨rfl, by simp, .inl ⟨rfl, .inl rfl⟩⟩, Nat.le_refl _, by simp [phIt]⟩, .inr ⟨_, _, _, rfl⟩, by decide, by decide⟩
    match i, hp with
    | 0, hp => cases hp; exact ⟨_, by rw [cell_of_row w2 _ _ _ _ _ hA3]; rfl, by rw [cell_of_row w2 _ _ _ _ _ hA3]; rfl, hs1⟩
    | 1, hp => cases hp; exact ⟨_, by rw [cell_of_row w2 _ _ _ _ _ hA3]; rfl, by rw [cell_of_row w2 _ _ _ _ _ hA3]; rfl, hs2⟩
    | n + 2, hp => simp [phIt] at hp
  obtain ⟨cs, hlies, hrow⟩ := (HIT.out.grow G12.out).lies
  have WT := hid (show Makes 15 #[.agg #[.int .i64 3, .slice (some b) 2 c], .agg #[.string ⟨#[]⟩, .string ⟨#[80, 72, 79, 84, 79]⟩, .slice (some ⟨w1.heap.size + 2, 0, none⟩) 2 2, .int .i64 8, .string ⟨#[84, 87, 69, 61]⟩, .slice none 0 0, .int .i64 0, .int .i64 0, .int .i64 0, .int .i64 0, .int .i64 0, .int .i64 0, .bool false, .int .i64 0, .int .i64 0]] w2 (fun v w' => ∃ u, v = cardV 3 u ∧ OwnR (w2.heap.size + 1) w' u 3 (cs ++ phIt.cells (.slice (some ⟨w1.heap.size + 2, 0, none⟩) 2 2) (.slice none 0 0))) from
    with_any 3 (.slice (some b) 2 c) 2 cs phIt (.slice (some ⟨w1.heap.size + 2, 0, none⟩) 2 2) (.slice none 0 0) w2 hlies (.inr ⟨_, _, _, rfl⟩) hok (by decide))
  have HOK := hid hok
  have HROW := hid hrow
  have G2 := hid (G1.out.trans G12.out)
  clear hlies hrow hok hs1 hs2 hA1 hA2 hA3
  refine WT.out.use ?_
  rintro v w3 ⟨u2, rfl, how⟩ g3
  have hr3 : ItRow w3 phXs (cs ++ phIt.cells (.slice (some ⟨w1.heap.size + 2, 0, none⟩) 2 2) (.slice none 0 0)) := ((HROW.out.grow g3).append (ItRow.single (HOK.out.grow g3)))
  have HI3 := hid (show IsItems w3 u2 phXs from (OwnR.lies how hr3.one).items hr3)
  obtain ⟨a2, c2, rfl⟩ := own_sl how
  have G3 := hid (G2.out.trans g3)
  clear how hr3 g3 WT HROW HOK
  unfold cardV
  have UPC := hid (fun W (g : G w3 W) => up_plain 3 (.slice a2 3 c2) phXs W (HI3.out.grow g) (by decide) ph_sml (HR.out.grow (G3.out.trans g)) (HM.out.grow (G3.out.trans g)) (HE.out.grow (G3.out.trans g)) ph_nl ph_nm ph_sml1 ph_ne ph_sml2)
  unfold cardV at UPC
  go_wp2_with fail
  refine (UPC.out _ ((G.refl w3).alloc _)).use ?_
  rintro r w5 hr g5
  rcases hr with ⟨_, ys, u3, hup, rfl, hiy, hfrm⟩ | ⟨hn, _⟩
  case inr => exact absurd ⟨rfl, _, ph_up⟩ hn
  rw [ph_up] at hup
  cases hup
  obtain ⟨ua, uc, hu3, _⟩ := hiy.len
  obtain rfl : u3 = .slice ua 3 uc := hu3
  have HIY := hid hiy
  have G5 := hid (G3.out.trans (((G.refl w3).alloc (.cells #[.int .i64 3, .slice a2 3 c2] 27)).trans g5))
  clear hiy hfrm g5 UPC
  unfold cardV
  have G6 := hid ((G.refl w5).alloc (.cells #[.int .i64 4, .slice ua 3 uc] 27))
  have HD := hid (heap_alloc_new w5 (.cells #[.int .i64 4, .slice ua 3 uc] 27))
  obtain ⟨b2, off, cap2, e, hb2, hit⟩ := items_at (HIY.out.grow G6.out) (by decide)
  obtain ⟨pv, lv, hat⟩ := hit 2 phY rfl
  simp only [Value.slice.injEq] at e
  obtain ⟨rfl, hlen, rfl⟩ := e
  clear hlen
  obtain ⟨pa, pc, rfl⟩ := hat.ok.pv
  obtain ⟨la, lc, rfl⟩ := hat.ok.lv
  obtain ⟨l, hl⟩ : ∃ l, l = printW ((4 : Int) == 4) (lnX phY phY.v.text) := ⟨_, rfl⟩
  have LN := line_any 4 (.inr rfl) phY _ _ _ hat.ok phY_sml (HR.out.grow (G5.out.trans G6.out)) (HM.out.grow (G5.out.trans G6.out)) (HE.out.grow (G5.out.trans G6.out)) phY_one
  rw [← hl] at LN
  have hlit : (l == [80, 72, 79, 84, 79, 59, 80, 82, 69, 70, 61, 49, 58, 100, 97, 116, 97, 58, 105, 109, 97, 103, 101, 47, 106, 112, 101, 103, 59, 98, 97, 115, 101, 54, 52, 44, 84, 87, 69, 61]) = true := by rw [hl, ph_line]; decide
  obtain ⟨y, hy⟩ : ∃ y, y = phY := ⟨_, rfl⟩
  rw [← hy] at hat LN
  have LNN := hid LN
  obtain ⟨k0, k1, k2, k3, k4, k5, k6, k7, k8, k9, k10, k11, k12, k13, k14⟩ := hat.e
  clear hit hat hl LN hy
  obtain ⟨d0, d1⟩ := box2c HD.out
  simp only [Nat.reduceMul] at k0 k1 k2 k3 k4 k5 k6 k7 k8 k9 k10 k11 k12 k13 k14
  go_wp2_with fail
  refine LNN.out.use ?_
  intro w7 g7
  obtain ⟨d0', d1'⟩ := box2c (row_up HD.out g7)
  clear d0 d1 k0 k1 k2 k3 k4 k5 k6 k7 k8 k9 k10 k11 k12 k13 k14
  go_wp2_with fail
  go_ret
  exact ⟨rfl, (G5.out.trans G6.out).trans g7⟩
end Go.Proofs.YtfadckackdmbnaaGreatDoor

namespace Go.Proofs.YtfadckackdmbnaaGreatDoor
open Go.RowKit
set_option linter.unusedVariables false
set_option linter.unusedSimpArgs false
end Go.Proofs.YtfadckackdmbnaaGreatDoor

namespace Go.Proofs.YtfadckackdmbnaaGreatDoor
open Go.RowKit
set_option linter.unusedVariables false
set_option linter.unusedSimpArgs false
def PicN (n : List UInt8) : Prop := n = nPHOTO ∨ n = nLOGO ∨ n = nSOUND ∨ n = nKEY
theorem ann_one : oneX annFN = (annFN, true) ∧ oneX annN = (annN, true) := by
  constructor <;> kernel_rfl
end Go.Proofs.YtfadckackdmbnaaGreatDoor

namespace Go.Proofs.YtfadckackdmbnaaGreatDoor
open Go.RowKit
set_option linter.unusedVariables false
set_option linter.unusedSimpArgs false
end Go.Proofs.YtfadckackdmbnaaGreatDoor

namespace Go.Proofs.YtfadckackdmbnaaGreatDoor
open Go.RowKit
set_option linter.unusedVariables false
set_option linter.unusedSimpArgs false
def Turns (n : List UInt8) : Prop := plainN n = true ∨ bigN n = true ∨ n = nTZ ∨ n = nUID
theorem up_more (ver : Int) (iv : Value) (xs : List It) (w : World) (h : IsItems w iv xs) (hl : xs.length ≤ 1000) (hs : ∀ x ∈ xs, Sml x) (hR : RMem w) (hM : HasM w) (hE : LaidE w) (hnl : ∀ x ∈ xs, sameL x.n nLABEL = false) (hnm : ∀ x ∈ xs, Turns (upperL x.n))
    (hs1 : ∀ x ∈ xs, Sml ⟨x.g, x.n, prefersL x.ps, x.v⟩) (hne : ∀ x ∈ xs, ∀ p ∈ prefersL x.ps, p.2 ≠ []) (hs2 : ∀ x ∈ xs, Sml (oneX x).1) : Makes 19 #[cardV ver iv] w (fun r w' => UpR ver xs r w') := by
  have el := labels_none hnl
  refine up_gen ver iv xs w h hl hs hR hM hE (fun L W g hX => ?_) (fun x hx L W pv lv hX ho => ?_) (by rw [el]; exact hl) (fun x hx => hs2 x (by rw [el] at hx; exact hx))
  · rw [el]
    exact labels_plain L iv xs W (h.grow (Wl.of g (fun X hx => (hX X hx).1))) hl (fun x hx => by have := (hs x hx).bounds.2.1; omega) hnl
  · rw [el] at hx
    rcases hnm x hx with hp | hb | ht | hu
    · exact one_plain L x pv lv W hX ho (hs x hx) (hs1 x hx) (hne x hx) hp
    · exact one_big L x pv lv W hX ho (hs x hx) (hs1 x hx) (hne x hx) hb
    · exact one_tz L x pv lv W hX ho (hs x hx) (hs1 x hx) (hne x hx) ht
    · exact one_uid L x pv lv W hX ho (hs x hx) (hs1 x hx) (hne x hx) hu
theorem ann_all {x : It} {P : It → Prop} (h1 : P annFN) (h2 : P annN) (h3 : P x) : ∀ y ∈ annXs ++ [x], P y := by
  intro y hy
  simp only [annXs, List.mem_append, List.mem_cons, List.mem_nil_iff, or_false] at hy
  rcases hy with (rfl | rfl) | rfl
  · exact h1
  · exact h2
  · exact h3
theorem up_ann (b : Addr) (c : Nat) (x : It) (w : World) (h : IsItems w (.slice (some b) 3 c) (annXs ++ [x])) (hs : Sml x) (hR : RMem w) (hM : HasM w) (hE : LaidE w) (hnl : sameL x.n nLABEL = false) (hnm : Turns (upperL x.n)) (hs1 : Sml ⟨x.g, x.n, prefersL x.ps, x.v⟩) (hne : ∀ p ∈ prefersL x.ps, p.2 ≠ []) (hs2 : Sml (oneX x).1) : Makes 19 #[cardV 3 (.slice (some b) 3 c)] w (fun r w' => UpR 3 (annXs ++ [x]) r w') :=
  up_more 3 _ (annXs ++ [x]) w h (by show (3 : Nat) ≤ 1000; omega) (ann_all ⟨by decide, by decide, by decide⟩ ⟨by decide, by decide, by decide⟩ hs) hR hM hE (ann_all (by decide +kernel) (by decide +kernel) hnl) (ann_all (.inl (by decide +kernel)) (.inl (by decide +kernel)) hnm)
    (ann_all ⟨by decide +kernel, by decide, by decide⟩ ⟨by decide +kernel, by decide, by decide⟩ hs1) (ann_all (by decide +kernel) (by decide +kernel) hne) (ann_all ⟨by decide +kernel, by decide +kernel, by decide +kernel⟩ ⟨by decide +kernel, by decide +kernel, by decide +kernel⟩ hs2)
theorem right_ann (b : Addr) (c : Nat) (x : It) (w : World) (h : IsItems w (.slice (some b) 3 c) (annXs ++ [x])) (hs : Sml x) (hR : RMem w) (hM : HasM w) (hE : LaidE w) : Makes 17 #[cardV 3 (.slice (some b) 3 c)] w (RightR 3 (annXs ++ [x])) :=
  cardRight_any 3 _ (annXs ++ [x]) w h (by show (3 : Nat) ≤ 1000; omega) (ann_all ⟨by decide, by decide, by decide⟩ ⟨by decide, by decide, by decide⟩ hs) hR hM hE
end Go.Proofs.YtfadckackdmbnaaGreatDoor

namespace Go.Proofs.YtfadckackdmbnaaGreatDoor
open Go.RowKit
set_option linter.unusedVariables false
set_option linter.unusedSimpArgs false
def isRight (l : List UInt8) : Bool := decide (begL l ≠ 0 ∧ l.all seenP = true ∧ begL l + 1 ≠ l.length)
theorem right_ok (l : List UInt8) (w : World) (hs : l.length ≤ 140737488351328) (h : isRight l = true) : Gives 77 #[.string (S l)] w .nilIface := by
  obtain ⟨h1, h2, h3⟩ := of_decide_eq_true h
  refine Calls.mono (uriRight_any l w hs) ?_
  rintro e w' ⟨v, rfl, hq, hg⟩
  unfold RightPost at hq
  rw [if_neg h1, badAt_none.2 h2] at hq
  simp only [if_neg h3] at hq
  exact ⟨by rw [hq], hg⟩
theorem right_no (l : List UInt8) (w : World) (hs : l.length ≤ 140737488351328) (h : isRight l = false) : Makes 77 #[.string (S l)] w (fun v _ => v = eno 8 ∨ ∃ b, v = .iface 78 (.pointer (some ⟨b, 0, none⟩))) := by
  have h := of_decide_eq_false h
  refine (uriRight_any l w hs).mono ?_
  intro v w' _ hq
  unfold RightPost at hq
  split at hq
  · exact .inl hq
  · rename_i h1
    split at hq
    · obtain ⟨b, hb, _⟩ := hq; exact .inr ⟨b, hb⟩
    · rename_i h2
      split at hq
      · obtain ⟨b, hb, _⟩ := hq; exact .inr ⟨b, hb⟩
      · rename_i h3
        exact absurd ⟨h1, badAt_none.1 h2, h3⟩ h
theorem scheme_ok (l t : List UInt8) (w : World) (hs : l.length ≤ 140737488351328) (h : begL l ≠ 0) (ht : l.take (begL l) = t) : Pure 76 #[.string (S l)] w (.tuple #[.string (S t), .nilIface]) := by
  have := scheme_any l w hs
  rw [if_neg h, ht] at this
  exact this
theorem undata_ok (l k r b : List UInt8) (w : World) (hl : l.length ≤ 1099511627776) (hd : IsData l k r) (h4 : r.length % 4 = 0) (hr : b64D r = .ok b) : Gives 45 #[.string (S l)] w (.tuple #[.string (S k), .string (S b), .nilIface]) := by
  refine Calls.mono (undata_any l w hl) ?_
  rintro e w' ⟨v, rfl, hq, hg⟩
  rcases hq with ⟨h, -⟩ | ⟨k', r', hd', h4', b', hb', rfl⟩ | ⟨k', r', hd', c, p, hcp, -⟩
  · exact absurd ⟨k, r, hd⟩ h
  · obtain ⟨rfl, rfl⟩ := hd.unique hd'
    rw [hr] at hb'
    cases hb'
    exact ⟨rfl, hg⟩
  · obtain ⟨rfl, rfl⟩ := hd.unique hd'
    rw [if_neg (by omega), hr] at hcp
    cases hcp.2
def httpL : List UInt8 := [104, 116, 116, 112, 58, 47, 47, 97]
def pngL : List UInt8 := [105, 109, 97, 103, 101, 47, 112, 110, 103]
set_option maxRecDepth 100000 in
set_option maxHeartbeats 1000000 in
theorem located_any (w : World) : Gives 42 #[] w (.bool true) := by
  have hd : Hid (IsData [100, 97, 116, 97, 58, 105, 109, 97, 103, 101, 47, 112, 110, 103, 59, 98, 97, 115, 101, 54, 52, 44, 84, 87, 69, 61] pngL [84, 87, 69, 61]) := hid ⟨rfl, by decide⟩
  go_enter Tryz.func42, Tryz.ntmps42
  go_wp2_with fail
  refine (scheme_ok httpL [104, 116, 116, 112] _ (by simp [httpL]) (by decide) (by decide)).use ?_
  go_wp2_with fail
  refine (undata_ok _ pngL [84, 87, 69, 61] [77, 97] _ (by simp) hd.out rfl (by have := b64_back [77, 97]; rwa [show b64E [77, 97] = [84, 87, 69, 61] by decide +kernel] at this)).use ?_; intro w1 g1
  go_wp2_with fail
  refine (right_ok [97, 58, 98] _ (by simp) (by decide)).use ?_; intro w2 g2
  go_wp2_with fail
  refine (right_no [49, 58, 98] _ (by simp) (by decide)).use ?_
  rintro v w3 hv g3
  rcases hv with rfl | ⟨b, rfl⟩
  all_goals
    go_wp2_with fail
    go_ret
    exact ⟨rfl, (by repeat (first | exact G.refl _ | assumption | apply G.drew | apply G.drewN | apply G.alloc | refine G.trans ?_ (by assumption)))⟩
theorem dataU_is (k b : List UInt8) (h : mediaB k = true) : IsData (dataU k b) k (b64E b) := ⟨by unfold dataU; simp [base64P], h⟩
end Go.Proofs.YtfadckackdmbnaaGreatDoor

