/-
  The law ConvertBytes walked.
-/
import Derived.Test.YtfadckackdmbnaaGreatDoorBytesPlain
import Derived.Test.YtfadckackdmbnaaGreatDoorMB55
import Derived.Test.YtfadckackdmbnaaGreatDoorAnnAt
import Derived.Test.YtfadckackdmbnaaGreatDoorMB57
import Derived.Test.YtfadckackdmbnaaGreatDoorMA46
import Derived.Test.YtfadckackdmbnaaGreatDoorDoorB64
import Derived.Test.YtfadckackdmbnaaGreatDoorOwnAt
import Derived.Test.YtfadckackdmbnaaGreatDoorCardBox
namespace Go.Proofs.YtfadckackdmbnaaGreatDoor
open Go.RowKit
set_option linter.unusedVariables false
set_option linter.unusedSimpArgs false
def picK (k : Nat) : List UInt8 := [nPHOTO, nLOGO, nSOUND, nKEY].getD k nKEY
theorem picK_is (k : Nat) : PicN (picK k) := by
  match k with
  | 0 => exact .inl rfl
  | 1 => exact .inr (.inl rfl)
  | 2 => exact .inr (.inr (.inl rfl))
  | 3 => exact .inr (.inr (.inr rfl))
  | n + 4 => exact .inr (.inr (.inr rfl))
theorem p_sml {n k b : List UInt8} (hn : PicN n) (hk : k.length ≤ 30) (hb : b.length ≤ 600) : Sml (pIt n k b) ∧ Sml ⟨[], n, pMid k, tV 8 (b64E b)⟩ ∧ Sml (pY n k b) := by
  have hnl : n.length ≤ 5 := by rcases hn with rfl | rfl | rfl | rfl <;> decide
  have hkl : (kindM n).length ≤ 12 := by unfold kindM; split <;> (try split) <;> decide
  have hpl : (pKind n k).length ≤ 50 := by
    unfold pKind; split
    · decide
    · rw [List.length_append, lowerL_length]; omega
  have hE : (b64E b).length ≤ 900 := by rw [b64E_length]; omega
  have hdl : (dataU (pKind n k) b).length ≤ 1000 := by
    have e : (dataU (pKind n k) b).length = 5 + (pKind n k).length + 8 + (b64E b).length := by unfold dataU dataP; simp; omega
    omega
  have hT : wideN [(nEnc, [[66]]), (nTYPE, [k])] ≤ 100 := by unfold wideN lensP nEnc nTYPE; simp; omega
  have w1 : wideN ((nEnc, [[66]]) :: kPs k) ≤ 100 := by
    unfold kPs; split
    · decide
    · exact hT
  have w2 : wideN (pMid k) ≤ 100 := by
    unfold pMid; split
    · decide
    · split
      · decide
      · exact hT
  have w3 : wideN (pPs k) ≤ 100 := by unfold pPs; split <;> decide
  exact ⟨⟨by show 0 + n.length + wideN ((nEnc, [[66]]) :: kPs k) ≤ 10000; omega, by show (b64E b).length ≤ 4900; omega, by show sumP [] ≤ 4900; decide⟩, ⟨by show 0 + n.length + wideN (pMid k) ≤ 10000; omega, by show (b64E b).length ≤ 4900; omega, by show sumP [] ≤ 4900; decide⟩, ⟨by show 0 + n.length + wideN (pPs k) ≤ 10000; omega, by show (dataU (pKind n k) b).length ≤ 4900; omega, by show sumP [] ≤ 4900; decide⟩⟩
theorem p_ne (k : List UInt8) : ∀ p ∈ pMid k, p.2 ≠ [] := by
  unfold pMid
  split
  · decide +kernel
  · split
    · decide +kernel
    · intro p hp
      simp only [List.mem_cons, List.mem_nil_iff, or_false] at hp
      rcases hp with rfl | rfl <;> simp
theorem p_undata {n k b : List UInt8} (hk : k.length ≤ 30) (hb : b.length ≤ 600) (hm : mediaB (pKind n k) = true) (w : World) : Gives 45 #[.string (S (dataU (pKind n k) b))] w (.tuple #[.string (S (pKind n k)), .string (S b), .nilIface]) := by
  have hkl : (kindM n).length ≤ 12 := by unfold kindM; split <;> (try split) <;> decide
  have hpl : (pKind n k).length ≤ 50 := by
    unfold pKind; split
    · decide
    · rw [List.length_append, lowerL_length]; omega
  have e : (dataU (pKind n k) b).length = 5 + (pKind n k).length + 8 + (b64E b).length := by unfold dataU dataP; simp; omega
  exact undata_ok _ _ _ _ w (by rw [e, b64E_length]; omega) (dataU_is _ _ hm) (by rw [b64E_length]; omega) (b64_back b)
theorem p_ok1 {W : World} {A : Nat} {n b : List UInt8} (h1 : W.heap[A]? = some (.cells #[.string (S [66])] 9 (0, 0))) (h2 : W.heap[A + 1]? = some (.cells #[.string (S [101, 110, 99, 111, 100, 105, 110, 103]), .slice (some ⟨A, 0, none⟩) 1 1] 48 (0, 0))) : ItOk W (pIt n [] b) (.slice (some ⟨A + 1, 0, none⟩) 1 1) (.slice none 0 0) := by
  refine ⟨⟨_, _, rfl, Nat.le_refl _, fun _ => ⟨_, 0, rfl, lt_of_row h2, fun i p hp => ?_⟩⟩, ⟨[], ⟨rfl, by simp, .inl ⟨rfl, .inl rfl⟩⟩, Nat.le_refl _, by simp [pIt, tV]⟩, .inr ⟨_, _, _, rfl⟩, ⟨by show (-9223372036854775808 : Int) ≤ 0; decide, by show (0 : Int) ≤ 9223372036854775807; decide⟩, ⟨by show (-9223372036854775808 : Int) ≤ 8; decide, by show (8 : Int) ≤ 9223372036854775807; decide⟩⟩
  match i, hp with
  | 0, hp => cases hp; exact ⟨_, by rw [cell_of_row W _ _ _ _ _ h2]; rfl, by rw [cell_of_row W _ _ _ _ _ h2]; rfl, OneS.strs ⟨_, rfl, h1⟩⟩
  | m + 1, hp => simp [pIt, kPs] at hp
theorem p_ok2 {W : World} {A B g base cap : Nat} {n b k : List UInt8} {t : TypeId} (hk : k ≠ []) (h1 : W.heap[A]? = some (.cells #[.string (S [66])] 9 (0, 0))) (h2 : W.heap[B]? = some (.cells #[.string (S k)] 9 (0, 0))) (h3 : W.ownsRow base t 2 (.slice (some ⟨g, 0, none⟩) 2 cap) 2 ([.string (S [101, 110, 99, 111, 100, 105, 110, 103]), .slice (some ⟨A, 0, none⟩) 1 1] ++ [.string (S [84, 89, 80, 69]), .slice (some ⟨B, 0, none⟩) 1 1])) : ItOk W (pIt n k b) (.slice (some ⟨g, 0, none⟩) 2 cap) (.slice none 0 0) := by
  have hps : (pIt n k b).ps = [(nEnc, [[66]]), (nTYPE, [k])] := by show (nEnc, [[66]]) :: kPs k = _; unfold kPs; rw [if_neg hk]
  have hp : IsParams W (.slice (some ⟨g, 0, none⟩) 2 cap) (pIt n k b).ps := by
    rw [hps]
    exact params_rows (w := W) (xs := [((nEnc, [[66]]), some ⟨A, 0, none⟩, 1, 1), ((nTYPE, [k]), some ⟨B, 0, none⟩, 1, 1)]) (fun x hx => by
      simp only [List.mem_cons, List.mem_nil_iff, or_false] at hx
      rcases hx with rfl | rfl
      · exact OneS.strs ⟨_, rfl, h1⟩
      · exact OneS.strs ⟨_, rfl, h2⟩) h3
  exact ⟨hp, ⟨[], ⟨rfl, by simp, .inl ⟨rfl, .inl rfl⟩⟩, Nat.le_refl _, by simp [pIt, tV]⟩, .inr ⟨_, _, _, rfl⟩, ⟨by show (-9223372036854775808 : Int) ≤ 0; decide, by show (0 : Int) ≤ 9223372036854775807; decide⟩, ⟨by show (-9223372036854775808 : Int) ≤ 8; decide, by show (8 : Int) ≤ 9223372036854775807; decide⟩⟩
def bytPhi9 (hs : Nat) (n kd bt : List UInt8) (PA : Addr) (PM PC : Nat)  (k : Nat) (v : Value) (W : World) : Prop :=
  match k with
  | 0 => ∃ m, v = cardV 3 (.slice (some ⟨m + 7, 0, none⟩) 2 2) ∧ AnnAt m W
  | 1 => v = (pIt n kd bt).val (.slice (some PA) PM PC) (.slice none 0 0)
  | 2 => ∃ a c', v = cardV 3 (.slice (some a) 3 c') ∧ ItFree hs W (.slice (some a) 3 c') (annXs ++ [pIt n kd bt])
  | 3 => ∃ Y, v = .pointer (some ⟨Y, 0, none⟩) ∧ hs ≤ Y ∧ IsZc W Y
  | _ => True
def bytPhi18 (n kd : List UInt8) (which : Int) (j : Nat)  (k : Nat) (v : Value) (W : World) : Prop :=
  match k with
  | 0 => ∃ q, v = .slice (some ⟨q, 0, none⟩) 4 4 ∧ W.heap[q]? = some (.cells #[.string (S [105, 109, 97, 103, 101, 47]), .string (S [105, 109, 97, 103, 101, 47]), .string (S [97, 117, 100, 105, 111, 47]), .string (S [97, 112, 112, 108, 105, 99, 97, 116, 105, 111, 110, 47])] 9 (0, 0))
  | 1 => v = .int .i64 which
  | 2 => v = .int .i64 (j : Int)
  | 3 => ∃ q, v = .pointer (some ⟨q, j, none⟩) ∧ W.heap[q]? = some (.cells #[.string (S [105, 109, 97, 103, 101, 47]), .string (S [105, 109, 97, 103, 101, 47]), .string (S [97, 117, 100, 105, 111, 47]), .string (S [97, 112, 112, 108, 105, 99, 97, 116, 105, 111, 110, 47])] 9 (0, 0))
  | 4 => v = .string (S (kindM n))
  | 5 => v = .string (S kd)
  | 6 => v = .string (S (lowerL kd))
  | _ => True
set_option maxRecDepth 100000 in
set_option maxHeartbeats 16000000 in
theorem convertBytes_walk (b k : List UInt8) (which : Int) (w : World) (zb : b.length ≤ 140737488351232) (zk : k.length ≤ 140737488351232) (zi : -9223372036854775808 ≤ which ∧ which ≤ 9223372036854775807) (hR : RMem w) (hE : LaidE w) : Gives 11 #[.string (S b), .string (S k), .int .i64 which] w (.bool true) := by
  have TU := hid (turned_any w hR hR.hm hE)
  have HM := hid hR.hm
  have HR := hid hR
  have HE := hid hE
  clear hR hE
  have ways : (600 : Int) < (b.length : Int) ∨ (¬ (600 : Int) < (b.length : Int) ∧ (30 : Int) < (k.length : Int)) ∨ (¬ (600 : Int) < (b.length : Int) ∧ ¬ (30 : Int) < (k.length : Int)) := by omega
  have start : True := trivial
  rcases ways with h1 | ⟨h1, h2⟩ | ⟨h1, h2⟩
  · go_enter Tryz.func11, Tryz.ntmps11
    go_wp2_with fail
    refine TU.out.use ?_
    intro w0 g0
    go_wp2_with fail
    refine (based_any w0 (HE.out.grow g0)).use ?_
    intro w1 g1
    go_wp2_with fail
    refine (located_any w1).use ?_
    intro w2 g2
    go_wp2_with fail
    go_ret
    exact ⟨rfl, (g0.trans g1).trans g2⟩
  · go_enter Tryz.func11, Tryz.ntmps11
    go_wp2_with fail
    refine TU.out.use ?_
    intro w0 g0
    go_wp2_with fail
    refine (based_any w0 (HE.out.grow g0)).use ?_
    intro w1 g1
    go_wp2_with fail
    refine (located_any w1).use ?_
    intro w2 g2
    go_wp2_with fail
    go_ret
    exact ⟨rfl, (g0.trans g1).trans g2⟩
  have hb : b.length ≤ 600 := by omega
  have hk : k.length ≤ 30 := by omega
  have PK := hid (fun W => pick_any which 4 W (by decide) (by decide))
  obtain ⟨j, hj⟩ : ∃ j, pickV which 4 = j := ⟨_, rfl⟩
  have hj4 : j < 4 := by have := pickV_lt which (n := 4) (by decide); omega
  rw [hj] at PK
  have HPJ := hid hj
  clear hj
  obtain ⟨n, hn⟩ : ∃ n, n = picK j := ⟨_, rfl⟩
  have HP := hid (show PicN n by rw [hn]; exact picK_is j)
  have HJ4 := hid hj4
  have HNJ := hid hn
  have EN := hid (fun W => b64encode_any b W (by omega))
  go_enter Tryz.func11, Tryz.ntmps11
  go_wp2_with fail
  refine TU.out.use ?_
  intro w0 g0
  go_wp2_with fail
  refine (based_any w0 (HE.out.grow g0)).use ?_
  intro wa ga
  go_wp2_with fail
  refine (located_any wa).use ?_
  intro w1 g1
  have G1 := hid ((g0.trans ga).trans g1)
  clear g0 ga g1 TU
  go_wp2_with fail
  refine (PK.out _).use ?_
  generalize hw2 : w1.alloc _ = w2
  have hA : w2.heap[w1.heap.size]? = some (.cells #[.string (S [80, 72, 79, 84, 79]), .string (S [76, 79, 71, 79]), .string (S [83, 79, 85, 78, 68]), .string (S [75, 69, 89])] 9 (0, 0)) := by rw [← hw2]; exact heap_alloc_new w1 _
  have CN : w2.cell? ⟨w1.heap.size, j, none⟩ = some (.string (S n)) := by
    rw [cell_of_row w2 _ _ _ _ _ hA, hn]
    match j, hj4 with
    | 0, _ => rfl
    | 1, _ => rfl
    | 2, _ => rfl
    | 3, _ => rfl
    | m + 4, h => omega
  have FZ : ∀ i, w2.frozen? ⟨w1.heap.size, i, none⟩ = false := fun i => Lib.frozen_of_heap hA i
  have G2 := hid (show G w w2 by rw [← hw2]; exact G1.out.alloc _)
  clear hw2 hA hn
  go_wp2_with fail
  generalize hw4 : (w2.alloc _).alloc _ = w4
  have hA1 : w4.heap[w2.heap.size]? = some (.cells #[.string (S [66])] 9 (0, 0)) := by rw [← hw4, Lib.alloc_old _ _ _ (by simp)]; exact heap_alloc_new w2 _
  have hA2 : w4.heap[w2.heap.size + 1]? = some (.cells #[.string (S [101, 110, 99, 111, 100, 105, 110, 103]), .slice (some ⟨w2.heap.size, 0, none⟩) 1 1] 48 (0, 0)) := by rw [← hw4]; exact new_2 _ _ _
  have G4 := hid (show G w w4 by rw [← hw4]; exact (G2.out.alloc _).alloc _)
  clear hw4
  refine (EN.out w4).use ?_
  intro w5 g5
  have HA1 := hid (row_up hA1 g5)
  have HA2 := hid (row_up hA2 g5)
  have G5 := hid (G4.out.trans g5)
  have hs2 := lt_of_row HA2.out
  clear hA1 hA2 g5 CN FZ PK EN
  go_upto_if 48 with fail
  obtain ⟨kq, hkq⟩ : ∃ kq, (!k.isEmpty) = kq := ⟨_, rfl⟩
  rw [hkq]
  go_cut [] from 49 to 56 (fun wx => ∃ (w6 : World) (PA : Addr) (PM PC : Nat), w6 = wx ∧ w6.heap[w5.heap.size]? = some (.cells ((pIt n k b).cells (.slice (some PA) PM PC) (.slice none 0 0)).toArray 37 (0, 0)) ∧ ItOk w6 (pIt n k b) (.slice (some PA) PM PC) (.slice none 0 0) ∧ G w w6)
  case first =>
    obtain ⟨i0, hi, hz0, hz1, hz2⟩ := info_parts infoP
    by_cases hk0 : k = []
    · obtain rfl : kq = false := by rw [← hkq, hk0]; rfl
      subst hk0
      go_wp2_with fail
      go_meet
      exact ⟨_, ⟨w2.heap.size + 1, 0, none⟩, 1, 1, rfl, heap_alloc_new w5 _, p_ok1 (row_up HA1.out ((G.refl w5).alloc _)) (row_up HA2.out ((G.refl w5).alloc _)), G5.out.alloc _⟩
    · have kb : (k == []) = false := by simpa using hk0
      obtain rfl : kq = true := by rw [← hkq]; simpa using hk0
      have HK0 := hid hk0
      have GZ := hid ((((G.refl w5).alloc (.cells ((pIt n [] b).cells (.slice (some ⟨w2.heap.size + 1, 0, none⟩) 1 1) (.slice none 0 0)).toArray 37)).alloc (.cells #[.string (S k)] 9)).alloc (.cells #[.string ⟨#[84, 89, 80, 69]⟩, .slice (some ⟨w5.heap.size + 1, 0, none⟩) 1 1] 48))
      have HOW := hid (own_at (n := 1) (k := 2) (row_up HA2.out GZ.out) (Nat.le_refl _) (by decide) rfl)
      have hC8 := hid (show (((w5.alloc (.cells ((pIt n [] b).cells (.slice (some ⟨w2.heap.size + 1, 0, none⟩) 1 1) (.slice none 0 0)).toArray 37)).alloc (.cells #[.string (S k)] 9)).alloc (.cells #[.string ⟨#[84, 89, 80, 69]⟩, .slice (some ⟨w5.heap.size + 1, 0, none⟩) 1 1] 48)).heap[w5.heap.size]? = some (.cells ((pIt n [] b).cells (.slice (some ⟨w2.heap.size + 1, 0, none⟩) 1 1) (.slice none 0 0)).toArray 37 (0, 0)) by rw [Lib.alloc_old _ _ _ (by simp; omega), Lib.alloc_old _ _ _ (by simp)]; exact heap_alloc_new w5 _)
      have hA4 := hid (show (((w5.alloc (.cells ((pIt n [] b).cells (.slice (some ⟨w2.heap.size + 1, 0, none⟩) 1 1) (.slice none 0 0)).toArray 37)).alloc (.cells #[.string (S k)] 9)).alloc (.cells #[.string ⟨#[84, 89, 80, 69]⟩, .slice (some ⟨w5.heap.size + 1, 0, none⟩) 1 1] 48)).heap[w5.heap.size + 1]? = some (.cells #[.string (S k)] 9 (0, 0)) by rw [Lib.alloc_old _ _ _ (by simp)]; exact new_2 _ _ _)
      clear hk0 hkq
      go_wp2_with (at_builtin; go_loud (refine wpList_append_lies _ rfl (.tmp 50) (.tmp 54) 35 rfl (w2.heap.size + 1) 48 i0 _ 2 40 Tryz.underlying35 hi hz0 hz1 hz2 rfl (by decide) _ _ _ rfl HOW.out ⟨w5.heap.size + 2, 0, none⟩ 1 1 [.string ⟨#[84, 89, 80, 69]⟩, .slice (some ⟨w5.heap.size + 1, 0, none⟩) 1 1] rfl rfl (fun j u hu => by rw [addr_add, Nat.zero_add, cell_of_row _ _ j _ _ _ (new_at _ _ _ (by simp))]; simpa using hu) (by intro x hx; simp at hx; rcases hx with rfl | rfl <;> rfl) (by omega) ?c3 ?c4 ?c5 _ rfl ?_))
      case c3 => unfold maxLen; omega
      case c5 => first | omega | (simp; done) | (simp; omega)
      intro g1 cap1 w11 hown hgrow hat hlt
      have hsz := hgrow.size
      have hC11 := hid ((hgrow.block w5.heap.size (lt_of_row hC8.out) (fun e => by have e2 := Option.some.inj e; dsimp only at e2; omega)).trans hC8.out)
      have hA411 := hid ((hgrow.block (w5.heap.size + 1) (lt_of_row hA4.out) (fun e => by have e2 := Option.some.inj e; dsimp only at e2; omega)).trans hA4.out)
      have hA111 := hid ((hgrow.block w2.heap.size (lt_of_row (row_up HA1.out GZ.out)) (fun e => by have e2 := Option.some.inj e; dsimp only at e2; omega)).trans (row_up HA1.out GZ.out))
      have HG11 := hid (Below.grown (G5.out.trans GZ.out) hgrow (G5.out.trans GZ.out).size (fun j hj => (by have e2 := Option.some.inj hj; dsimp only at e2; have := G4.out.size; have := G2.out.size; omega)))
      have fz := fun i => Lib.frozen_of_heap hC11.out i
      obtain ⟨_, _, r2, _⟩ := box_item hC11.out
      have HOW2 := hid hown
      have hne : w5.heap.size ≠ g1 := by
        rcases hat with e | e
        · have e2 := Option.some.inj e; dsimp only at e2; omega
        · have := GZ.out.size; simp at this e; omega
      clear hown hgrow hat hlt hC8 hA4 HOW
      go_wp2_with fail
      go_meet
      refine ⟨_, ⟨g1, 0, none⟩, 2, cap1, rfl, put_ps (qs := (nEnc, [[66]]) :: kPs k) hC11.out, ?_, ?_⟩
      · refine p_ok2 HK0.out ((Below.heap_setCell _ _ _ _ (by dsimp only; omega)).trans hA111.out) ((Below.heap_setCell _ _ _ _ (by dsimp only; omega)).trans hA411.out) (base := w2.heap.size + 1) (t := 48) (World.ownsRow.kept HOW2.out (mv_set _ _ _ _) ?_)
        refine .inr fun e => ?_
        have e2 := Option.some.inj e
        exact hne e2.symm
      · exact Below.setCell HG11.out (by dsimp only; have := G5.out.size; omega) _
  case rest =>
    obtain ⟨w6, PA, PM, PC, rfl, hb8, hok, g6⟩ := hcut
    have HB8 := hid hb8
    have HOK := hid hok
    have G6 := hid g6
    clear hb8 hok g6 HA1 HA2
    go_upto_region 9 with fail
    go_cut [9] from 9 to 59 (fun x9 wx => ∃ (w9 : World) (X : Nat) (a : Addr) (c' : Nat), w9 = wx ∧ x9 = .pointer (some ⟨X, 0, none⟩) ∧ w9.heap[X]? = some (.cells #[.int .i64 3, .slice (some a) 3 c'] 27 (0, 0)) ∧ IsItems w9 (.slice (some a) 3 c') (annXs ++ [pIt n k b]) ∧ G w6 w9)
    case first =>
      refine wp_region_any (by kernel_rfl) ?_
      refine wpAny_veiled (E := #[false, false, false, false, false]) G 4 (bytPhi9 w6.heap.size n k b PA PM PC) [some [], some [], some [(0, 57), (1, 58), (0, 57)], some [], none] [(0, 57), (1, 58), (2, 59), (3, 9)] _ (by kernel_rfl) (by decide) (by kernel_rfl) (by kernel_rfl) rfl G.refl (fun _ _ _ => G.trans) (w0 := w6) ((G.refl w6).drew) ?_ ?_ ?_
      · intro k v W W' g h
        match k, h with
        | 0, h => exact by obtain ⟨m, h1, h2⟩ := h; exact ⟨m, h1, h2.grow g⟩
        | 1, h => exact h
        | 2, h => exact by obtain ⟨a, c', h1, h2⟩ := h; exact ⟨a, c', h1, h2.grow g⟩
        | 3, h => exact by obtain ⟨Y, h1, h2, h3⟩ := h; exact ⟨Y, h1, h2, h3.grow g⟩
        | n + 4, h => trivial
      · refine gAll_some (fun vals W g d => ?_) <| gAll_some (fun vals W g d => ?_) <| gAll_some (fun vals W g d => ?_) <| gAll_some (fun vals W g d => ?_) <| gAll_none gAll_nil
        · refine gOp_one rfl rfl rfl fun K hK => ?_
          simp only [gFr] at hK ⊢
          go_simp
          refine (annAt_any 3 W).use ?_
          rintro v W' ⟨rfl, hat⟩ hg
          exact hK _ _ hg ⟨_, rfl, hat⟩
        · refine gOp_one rfl rfl rfl fun K hK => ?_
          simp only [gFr] at hK ⊢
          obtain ⟨q0, q1, q2, q3, q4, q5, q6, q7, q8, q9, q10, q11, q12, q13, q14⟩ := box_item (row_up HB8.out g)
          go_simp
          exact hK _ _ (G.refl _) rfl
        · obtain ⟨d0, d1, _, _⟩ := d
          change vals 1 = _ at d1
          refine gOp_one rfl rfl rfl fun K hK => ?_
          obtain ⟨m, d0, hat⟩ := d0
          simp only [gFr, d0, d1] at hK ⊢
          go_simp
          refine (withFree_any 3 m (pIt n k b) _ _ w6.heap.size W hat (HOK.out.grow g) (fun Y hY hz => HOK.out.grow (Wo.of g hY))).use ?_
          rintro v W' ⟨a, c', rfl, hf⟩ hg
          exact hK _ _ hg ⟨a, c', rfl, hf⟩
        · refine gOp_one rfl rfl rfl fun K hK => ?_
          simp only [gFr] at hK ⊢
          go_simp
          exact hK _ _ ((G.refl _).alloc _) ⟨W.heap.size, rfl, g.size, heap_alloc_new W _⟩
      · intro vals W g d
        simp only [gFacts_cons, gFacts_nil] at d
        obtain ⟨d0, d1, d2, d3, _⟩ := d
        change vals 1 = _ at d1
        refine ⟨?_⟩
        show wpList _ _ _ [_] _ _
        obtain ⟨a, c', d2, hf⟩ := d2
        obtain ⟨Y, d3, hY, hz⟩ := d3
        simp only [gFr, d1, d2, d3]
        unfold cardV
        have HF := hid hf
        have HZ := hid hz
        have GW := hid g
        obtain ⟨c0, c1⟩ := box2c hz
        have fz := fun i => Lib.frozen_of_heap hz i
        clear d0 d1 d2 d3 hf hz g
        go_wp2_with fail
        go_meet
        exact ⟨_, Y, a, c', rfl, rfl, put2c HZ.out, zc_put HF.out hY HZ.out, Below.setCell (Below.setCell GW.out (by dsimp only; omega) _) (by dsimp only; omega) _⟩
    case rest =>
      obtain ⟨w9, X, a, c', rfl, rfl, hb9, hit9, g9⟩ := hcut
      have HB9 := hid hb9
      have HIT9 := hid hit9
      have G9 := hid (G6.out.trans g9)
      clear hb9 hit9 g9 HB8 HOK
      have hnu : upperL n = n ∧ bigN n = true ∧ sameL n nLABEL = false := by rcases HP.out with h | h | h | h <;> (rw [h]; decide +kernel)
      have RC := hid (fun W (g : G w9 W) => right_ann a c' (pIt n k b) W (HIT9.out.grow g) (p_sml HP.out hk hb).1 (HR.out.grow (G9.out.trans g)) (HM.out.grow (G9.out.trans g)) (HE.out.grow (G9.out.trans g)))
      unfold cardV at RC
      obtain ⟨c0, c1⟩ := box2c HB9.out
      go_wp2_with fail
      refine (RC.out w9 (G.refl _)).use ?_
      intro r w10 hr g10
      have HB10 := hid (row_up HB9.out g10)
      have G910 := hid g10
      clear g10 RC c0 c1
      rcases hr with ⟨hok, rfl⟩ | ⟨hno, c, kk, he, hc, hfb⟩
      case inr =>
        obtain ⟨t, e, rfl⟩ := IsErr.iface he
        clear hno he hc hfb
        go_wp2_with fail
        go_ret
        exact ⟨rfl, G9.out.trans G910.out⟩
      have HUP := hid (p_up HP.out hk hb hok)
      have hm := p_kind ((rightC_iff.1 hok).2.2.1 (pIt n k b) (by simp))
      have UPC := hid (fun W (g : G w9 W) => up_ann a c' (pIt n k b) W (HIT9.out.grow g) (p_sml HP.out hk hb).1 (HR.out.grow (G9.out.trans g)) (HM.out.grow (G9.out.trans g)) (HE.out.grow (G9.out.trans g)) hnu.2.2 (.inr (.inl (by show bigN (upperL n) = true; rw [hnu.1]; exact hnu.2.1))) (by rw [p_mid]; exact (p_sml HP.out hk hb).2.1) (by rw [p_mid]; exact p_ne k) (by rw [p_one HP.out hm]; exact (p_sml HP.out hk hb).2.2))
      unfold cardV at UPC
      have UND := hid (fun W => p_undata (n := n) hk hb hm W)
      clear hok hnu hm
      obtain ⟨c0, c1⟩ := box2c HB10.out
      go_wp2_with fail
      refine (UPC.out w10 G910.out).use ?_
      rintro r w11 hr g11
      have G11 := hid (G9.out.trans (G910.out.trans g11))
      clear g11 UPC c0 c1
      rcases hr with ⟨_, ys, u3, hup, rfl, hiy, hfrm⟩ | ⟨hn, _⟩
      case inr => exact absurd ⟨rfl, _, HUP.out⟩ hn
      rw [HUP.out] at hup
      cases hup
      obtain ⟨ua, uc, hu3, _⟩ := hiy.len
      obtain rfl : u3 = .slice ua 3 uc := hu3
      have HIY := hid hiy
      clear hiy hfrm
      unfold cardV
      have G12 := hid ((G.refl w11).alloc (.cells #[.int .i64 4, .slice ua 3 uc] 27))
      have HD := hid (heap_alloc_new w11 (.cells #[.int .i64 4, .slice ua 3 uc] 27))
      obtain ⟨b2, off, cap2, e, hb2, hit⟩ := items_at (HIY.out.grow G12.out) (by simp)
      obtain ⟨pv, lv, hat⟩ := hit 2 (pY n k b) rfl
      obtain ⟨e1, e2⟩ : ua = some ⟨b2, off, none⟩ ∧ uc = cap2 := by cases e; exact ⟨rfl, rfl⟩
      subst e1
      subst e2
      clear e
      obtain ⟨pa, pc, rfl⟩ := hat.ok.pv
      obtain ⟨la, lc, rfl⟩ := hat.ok.lv
      obtain ⟨k0, k1, k2, k3, k4, k5, k6, k7, k8, k9, k10, k11, k12, k13, k14⟩ := hat.e
      obtain ⟨d0, d1⟩ := box2c HD.out
      simp only [Nat.reduceMul, pY, tV] at k0 k1 k2 k3 k4 k5 k6 k7 k8 k9 k10 k11 k12 k13 k14
      clear hit hat HIY HUP HB9 HB10 HIT9
      go_wp2_with fail
      refine (UND.out _).use ?_
      intro w13 g13
      have G13 := hid ((G11.out.trans G12.out).trans g13)
      clear g13 k0 k1 k2 k3 k4 k5 k6 k7 k8 k9 k10 k11 k12 k13 k14 d0 d1 HD
      by_cases hk0 : k = []
      · have ek : pKind n k = octets := by unfold pKind; rw [if_pos (.inl hk0)]
        rw [ek]
        subst hk0
        unfold octets
        go_wp2_with fail
        go_ret
        exact ⟨rfl, G13.out⟩
      · have kb : (k.isEmpty) = false := by simpa using hk0
        have SM := hid (fun W => same_any k wPref W (by omega) (by decide))
        unfold wPref at SM
        go_wp2_with fail
        refine (SM.out _).use ?_
        intro w14 g14
        have G14 := hid (G13.out.trans g14)
        clear g14
        by_cases hp : sameL k wPref = true
        · have ek : pKind n k = octets := by unfold pKind; rw [if_pos (.inr hp)]
          rw [ek]
          unfold octets
          unfold wPref at hp
          rw [hp]
          go_wp2_with fail
          go_ret
          exact ⟨rfl, G14.out⟩
        · have ek : pKind n k = kindM n ++ lowerL k := by unfold pKind; rw [if_neg (by rintro (h | h); exact hk0 h; exact hp h)]
          rw [ek]
          unfold wPref at hp
          rw [Bool.not_eq_true] at hp
          rw [hp]
          have PK := hid (fun W => pick_any which 4 W (by decide) (by decide))
          rw [HPJ.out] at PK
          have hkl : (kindM n).length ≤ 12 := by unfold kindM; split <;> (try split) <;> decide
          go_upto_region 18 with fail
          refine wp_region_any (by kernel_rfl) ?_
          refine wpAny_veiled (E := #[false, false, false, false, false, false, false, false, false]) G 7 (bytPhi18 n k which j) [some [], some [], some [(1, 95)], some [(0, 94), (2, 96)], some [(3, 97)], some [], some [(5, 99)], none, none] [(0, 94), (1, 95), (2, 96), (3, 97), (4, 98), (5, 99), (6, 100)] _ (by kernel_rfl) (by decide) (by kernel_rfl) (by kernel_rfl) rfl G.refl (fun _ _ _ => G.trans) (w0 := w14) ((G.refl w14).drew) ?_ ?_ ?_
          · intro k v W W' g h
            match k, h with
            | 0, h => exact by obtain ⟨q, h1, h2⟩ := h; exact ⟨q, h1, row_up h2 g⟩
            | 1, h => exact h
            | 2, h => exact h
            | 3, h => exact by obtain ⟨q, h1, h2⟩ := h; exact ⟨q, h1, row_up h2 g⟩
            | 4, h => exact h
            | 5, h => exact h
            | 6, h => exact h
            | n + 7, h => trivial
          · refine gAll_some (fun vals W g d => ?_) <| gAll_some (fun vals W g d => ?_) <| gAll_some (fun vals W g d => ?_) <| gAll_some (fun vals W g d => ?_) <| gAll_some (fun vals W g d => ?_) <| gAll_some (fun vals W g d => ?_) <| gAll_some (fun vals W g d => ?_) <| gAll_none <| gAll_none gAll_nil
            · refine gOp_one rfl rfl rfl fun K hK => ?_
              simp only [gFr] at hK ⊢
              go_simp
              exact hK _ _ ((G.refl _).alloc _) ⟨W.heap.size, rfl, heap_alloc_new W _⟩
            · refine gOp_one rfl rfl rfl fun K hK => ?_
              simp only [gFr] at hK ⊢
              go_simp
              exact hK _ _ (G.refl _) rfl
            · obtain ⟨d1, _⟩ := d
              change vals 1 = _ at d1
              refine gOp_one rfl rfl rfl fun K hK => ?_
              simp only [gFr, d1] at hK ⊢
              go_simp
              refine (PK.out _).use ?_
              exact hK _ _ (G.refl _) rfl
            · obtain ⟨d0, d2, _⟩ := d
              change vals 2 = _ at d2
              refine gOp_one rfl rfl rfl fun K hK => ?_
              obtain ⟨q, d0, hq⟩ := d0
              simp only [gFr, d0, d2] at hK ⊢
              have hj1 : (0 : Int) ≤ (j : Int) := by omega
              have hj2 : (j : Int) < 4 := by omega
              go_simp
              exact hK _ _ (G.refl _) ⟨q, rfl, hq⟩
            · obtain ⟨d3, _⟩ := d
              refine gOp_one rfl rfl rfl fun K hK => ?_
              obtain ⟨q, d3, hq⟩ := d3
              simp only [gFr, d3] at hK ⊢
              have cq : W.cell? ⟨q, j, none⟩ = some (.string (S (kindM n))) := by
                rw [cell_of_row W _ _ _ _ _ hq, HNJ.out]
                match j, hj4 with
                | 0, _ => rfl
                | 1, _ => rfl
                | 2, _ => rfl
                | 3, _ => rfl
                | m + 4, h => omega
              go_simp
              exact hK _ _ (G.refl _) rfl
            · refine gOp_one rfl rfl rfl fun K hK => ?_
              simp only [gFr] at hK ⊢
              go_simp
              exact hK _ _ (G.refl _) rfl
            · obtain ⟨d5, _⟩ := d
              change vals 5 = _ at d5
              refine gOp_one rfl rfl rfl fun K hK => ?_
              simp only [gFr, d5] at hK ⊢
              go_simp
              refine (lower_any k W (by omega)).use ?_
              intro W' hg
              exact hK _ _ hg rfl
          · intro vals W g d
            simp only [gFacts_cons, gFacts_nil] at d
            obtain ⟨d0, d1, d2, d3, d4, d5, d6, _⟩ := d
            change vals 1 = _ at d1
            change vals 2 = _ at d2
            change vals 4 = _ at d4
            change vals 5 = _ at d5
            change vals 6 = _ at d6
            refine ⟨?_⟩
            show wpList _ _ _ [_, _] _ _
            simp only [gFr, d1, d2, d4, d5, d6]
            clear d1 d2 d4 d5 d6
            clear d0 d3
            have G15 := hid (G14.out.trans g)
            clear g
            have hov : ¬ 9223372036854775807 < (kindM n).length + (lowerL k).length := by rw [lowerL_length]; omega
            go_wp2_with fail
            go_ret
            exact ⟨rfl, G15.out⟩
end Go.Proofs.YtfadckackdmbnaaGreatDoor
