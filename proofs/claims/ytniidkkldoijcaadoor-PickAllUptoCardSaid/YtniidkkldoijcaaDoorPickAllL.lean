/-
  The law PickAll walked. (printed by gen_pickall.py)
-/
import Derived.Test.YtniidkkldoijcaaDoorPickLaws
import Derived.Test.YtniidkkldoijcaaDoorChosen
import Derived.Test.YtniidkkldoijcaaDoorSorted
import Derived.Test.YtniidkkldoijcaaDoorVeil
import Derived.Test.YtniidkkldoijcaaDoorOpenItem
namespace Go.Proofs.YtniidkkldoijcaaDoor
open Go.RowKit Stab
set_option linter.unusedVariables false
set_option linter.unusedSimpArgs false

theorem lower_len (l : List UInt8) : (lowerL l).length = l.length := by unfold lowerL; simp
theorem upper_len (l : List UInt8) : (upperL l).length = l.length := by unfold upperL; simp
theorem values_any (sv : Value) (W : World) (a : Option Addr) (n c : Nat) (hs : sv = .slice a n c) : Makes 33 #[sv] W (fun v W' => ∃ B, v = .func (.func 55) #[] #[.pointer (some ⟨B, 0, none⟩)] ∧ W'.cell? ⟨B, 0, none⟩ = some sv) := by
  subst hs
  go_enter Tryd.func33, Tryd.ntmps33
  go_wp2_with fail
  go_ret
  exact ⟨_, rfl, ⟨W.heap.size, rfl, by simp [go_sem]⟩, (G.refl W).alloc _⟩
theorem ins_of {w : World} {v : Value} {l : List Int} (h : IsNums w v l) (hl : l.length ≤ 1000000) : Ins w.heap.size w v l := by
  obtain ⟨a, cap, e, hc, h2⟩ := h
  refine ⟨hl, ?_⟩
  cases l with
  | nil => exact .inl ⟨a, cap, e, rfl⟩
  | cons x l =>
    obtain ⟨b, off, e2, hb, h3⟩ := h2 (by simp)
    subst e2
    exact .inr ⟨b, off, cap, e, hb, fun j y hy => h3 j y hy⟩
theorem own_head {w : World} {g n c : Nat} {i0 : Int} {rs : List Int} (h : OwnN w 0 (.slice (some ⟨g, 0, none⟩) n c) (i0 :: rs)) : w.cell? ⟨g, 0, none⟩ = some (.int .i64 i0) := by
  obtain ⟨a, cap, e, hc, h2⟩ := h.nums
  obtain ⟨b, off, e2, hb, h3⟩ := h2 (by simp)
  subst e2
  cases e
  exact h3 0 i0 rfl
/-- what the operations of the last line hold: there is none; there are some -/
def allPsi0 (lv wv : Value) (ver : Int) (iv : Value) (s : List UInt8) (wl l : List Int) (n : Nat) (gb : Nat) (i0 : Int) (k : Nat) (v : Value) (W : World) : Prop :=
  match k with
  | 0 => v = lv
  | 1 => ∃ B, v = .func (.func 55) #[] #[.pointer (some ⟨B, 0, none⟩)] ∧ W.cell? ⟨B, 0, none⟩ = some lv
  | 2 => OwnN W 0 v wl
  | 3 => v = wv
  | 4 => v = .bool true
  | 5 => v = .bool true
  | 6 => v = lv
  | 7 => v = .int .i64 (n : Int)
  | 8 => v = .bool true
  | 9 => v = .bool true
  | 10 => v = .int .i64 (-1)
  | 11 => v = .bool true
  | 12 => v = .bool true
  | 13 => v = .bool true
  | 14 => v = undef
  | 15 => v = undef
  | 16 => v = undef
  | 17 => v = undef
  | 18 => v = undef
  | 19 => v = undef
  | 20 => v = undef
  | 21 => v = undef
  | 22 => v = undef
  | 23 => v = undef
  | 24 => v = .bool true
  | 25 => v = .bool true
  | 26 => v = .bool true
  | 27 => v = lv
  | 28 => v = .agg #[.int .i64 ver, iv]
  | 29 => v = .string (S s)
  | 30 => v = .string (S (lowerL s))
  | 31 => OwnN W 0 v l
  | 32 => v = .bool true
  | 33 => v = .bool true
  | 34 => v = .bool true
  | 35 => v = lv
  | 36 => v = .agg #[.int .i64 ver, iv]
  | 37 => v = .string (S s)
  | 38 => v = .string (S (upperL s))
  | 39 => OwnN W 0 v l
  | _ => True
def allPsi1 (lv wv : Value) (ver : Int) (iv : Value) (s : List UInt8) (wl l : List Int) (n : Nat) (gb : Nat) (i0 : Int) (k : Nat) (v : Value) (W : World) : Prop :=
  match k with
  | 0 => v = lv
  | 1 => ∃ B, v = .func (.func 55) #[] #[.pointer (some ⟨B, 0, none⟩)] ∧ W.cell? ⟨B, 0, none⟩ = some lv
  | 2 => OwnN W 0 v wl
  | 3 => v = wv
  | 4 => v = .bool true
  | 5 => v = .bool true
  | 6 => v = lv
  | 7 => v = .int .i64 (n : Int)
  | 8 => v = .bool false
  | 9 => v = .bool false
  | 10 => v = undef
  | 11 => v = undef
  | 12 => v = .bool false
  | 13 => v = .bool false
  | 14 => v = lv
  | 15 => v = .int .i64 (n : Int)
  | 16 => v = .bool true
  | 17 => v = .bool true
  | 18 => v = .int .i64 i0
  | 19 => v = lv
  | 20 => v = .pointer (some ⟨gb, 0, none⟩)
  | 21 => v = .int .i64 i0
  | 22 => v = .bool true
  | 23 => v = .bool true
  | 24 => v = .bool true
  | 25 => v = .bool true
  | 26 => v = .bool true
  | 27 => v = lv
  | 28 => v = .agg #[.int .i64 ver, iv]
  | 29 => v = .string (S s)
  | 30 => v = .string (S (lowerL s))
  | 31 => OwnN W 0 v l
  | 32 => v = .bool true
  | 33 => v = .bool true
  | 34 => v = .bool true
  | 35 => v = lv
  | 36 => v = .agg #[.int .i64 ver, iv]
  | 37 => v = .string (S s)
  | 38 => v = .string (S (upperL s))
  | 39 => OwnN W 0 v l
  | _ => True
set_option maxRecDepth 100000 in
set_option maxHeartbeats 40000000 in
theorem pickAll_walk (ver : Int) (iv : Value) (xs : List It) (s : List UInt8) (w : World) (h : IsItems w iv xs) (hf : iv = .slice none 0 0 ∨ ∃ a n c, iv = .slice (some a) n c) (hl : xs.length ≤ 1048576) (hL : ∀ y ∈ xs, lenI y ≤ 1048576) (hs : s.length ≤ 140737488351232) (hM : RMem w) :
    Gives 7 #[cardV ver iv, .string (S s)] w (.bool true) := by
  have HF := hid hf
  have HI := hid h
  have HM := hid hM
  have HL := hid (fun y hy => lim_of (hL y hy))
  obtain ⟨ia, ic, rfl, _⟩ := h.len
  clear hf h hM hL
  unfold cardV
  go_enter Tryd.func7, Tryd.ntmps7
  go_wp2_with fail
  generalize hw5 : (World.alloc w _) = w5
  have hB : CardAt w5 w.heap.size ver (.slice ia xs.length ic) xs := by rw [← hw5]; exact CardAt.new HI.out
  have g5 : G w w5 := by rw [← hw5]; exact (G.refl w).alloc _
  clear hw5
  refine (chosen_any w5 (HM.out.grow g5)).use ?_
  intro w6 g6
  have HB := hid (hB.grow g6)
  have HG := hid (g5.trans g6)
  clear g5 g6 hB
  have c0 := HB.out.c0
  have c1 := HB.out.c1
  go_wp2_with fail
  have hbg := big_any ver _ xs w6 HB.out.it (HL.out) hl
  obtain ⟨t1, ht1⟩ : ∃ t, bigC xs = t := ⟨_, rfl⟩
  rw [ht1] at hbg
  have HT1 := hid ht1
  refine hbg.use ?_
  clear hbg ht1
  intro w8 g8
  have HB := hid (HB.out.grow g8)
  have HG := hid (HG.out.trans g8)
  clear g8 c0 c1
  cases t1 with
  | true =>
    go_wp2_with fail
    go_ret
    exact ⟨rfl, HG.out⟩
  | false =>
  by_cases hsl : 100 < s.length
  · have hsi : (100 : Int) < (s.length : Int) := by omega
    go_wp2_with fail
    go_ret
    exact ⟨rfl, HG.out⟩
  have hsi : ¬ (100 : Int) < (s.length : Int) := by omega
  have c0 := HB.out.c0
  have c1 := HB.out.c1
  have hs40 := (bigC_small HT1.out).1
  have HFI := hid (fine_small HT1.out)
  obtain ⟨i0, hi, hz0, hz1, hz2⟩ := info_parts info_intN
  have hall := all_any ver _ xs s w8 (HI.out.grow HG.out) HFI.out (by omega) (HM.out.grow HG.out)
  have HALL := hid hall
  clear hall
  go_wp2_with fail
  refine HALL.out.use ?_
  rintro lv w9 ⟨l, hl9, hlo⟩ g9
  have HB := hid (HB.out.grow g9)
  have HG := hid (HG.out.trans g9)
  have HSRT := hid hl9
  have HAO := hid (hlo.mono (Nat.zero_le _))
  clear hl9 hlo g9 c0 c1 HALL
  have c1 := HB.out.c1
  have hlt := HB.out.lt
  obtain ⟨la, lc, hlv, _⟩ := HAO.out.nums
  have HLV := hid hlv
  clear hlv
  go_wp2_with fail
  go_loopw [6, 25] (fun v i wr => ∃ k : Nat, k ≤ xs.length ∧ i = .int .i64 k ∧ OwnN wr (w9.heap.size) v (idxL (ofName s) (xs.take k)) ∧ G w9 wr) (fun _ i _ => xs.length - (intOf i).toNat)
  case atStart => exact ⟨0, Nat.zero_le _, rfl, World.ownsRow_nil _ _ _ _, G.refl _⟩
  case round =>
    obtain ⟨k, hk, rfl, hown, hg⟩ := hrel
    have HO := hid hown
    have HGR := hid hg
    clear hown hg
    by_cases hlt2 : k < xs.length
    · obtain ⟨b, off, cap, e, hb, hit⟩ := ((HI.out.grow HG.out).grow HGR.out).at_ (by rintro rfl; simp at hlt2)
      cases e
      have hx := List.getElem?_eq_getElem hlt2
      obtain ⟨x, hxe⟩ : ∃ x, xs[k] = x := ⟨_, rfl⟩
      rw [hxe] at hx
      obtain ⟨pv, lv, hat⟩ := hit k x hx
      obtain ⟨pa, pc, rfl⟩ := hat.ok.pv
      obtain ⟨la, lc, rfl⟩ := hat.ok.lv
      obtain ⟨k0, k1, k2, k3, k4, k5, k6, k7, k8, k9, k10, k11, k12, k13, k14⟩ := hat.e
      have HX := hid hx
      have hkl : (k : Int) < (xs.length : Int) := by omega
      have hxb := big_small ((bigC_small HT1.out).2 x (List.mem_of_getElem? hx))
      have hnl : x.n.length ≤ x.big := by unfold It.big; omega
      clear hit hat hx hxe c1
      go_wp2_with fail
      refine (same_any x.n s _ (by omega) (by omega)).use ?_
      intro w2 g2
      have G2 := hid (HGR.out.trans (((G.refl _).alloc _).trans g2))
      have HIX := hid (idx_take (ofName s) xs k x HX.out)
      have HO2 := hid (OwnN.grow HO.out (((G.refl _).alloc _).trans g2))
      have hlen := idx_len (ofName s) (xs.take k) 0
      have hlen2 : (idxL (ofName s) (xs.take k)).length ≤ 100 := by unfold idxL; rw [List.length_take] at hlen; omega
      clear g2 hlen
      obtain ⟨t, ht⟩ : ∃ t, sameL x.n s = t := ⟨_, rfl⟩
      rw [ht]
      have HT := hid (show ofName s x = t from ht)
      clear ht k0 k1 k2 k3 k4 k5 k6 k7 k8 k9 k10 k11 k12 k13 k14
      cases t with
      | true =>
        have hown := HO2.out
        unfold OwnN at hown
        have hgg := G2.out
        go_wp2_with (at_builtin; refine wpList_push (w := w9) rfl _ _ 35 rfl 3 i0 _ 1 8 Tryd.underlying35 hi hz0 hz1 hz2 rfl (by decide) _ _ _ rfl hown hgg [.int .i64 (k : Int)] rfl rfl (by simp; rfl) (by omega) (by omega) ?_; intro v' w' hown' hg' hne')
        go_roundw
        case measure => simp [intOf]; omega
        case rel =>
          refine ⟨k + 1, by omega, by go_num, ?_, hg'⟩
          rw [HIX.out, HT.out, if_pos rfl]
          unfold OwnN
          simpa using hown'
      | false =>
        go_wp2_with fail
        go_roundw
        case measure => simp [intOf]; omega
        case rel =>
          refine ⟨k + 1, by omega, by go_num, ?_, G2.out⟩
          rw [HIX.out, HT.out, if_neg (by simp), List.append_nil]
          exact HO2.out
    · obtain rfl : k = xs.length := by omega
      rw [List.take_length] at HO
      have HB := hid (HB.out.grow HGR.out)
      have HG := hid (HG.out.trans HGR.out)
      have HAO := hid (HAO.out.grow HGR.out)
      have HWO := hid (HO.out.mono (Nat.zero_le _))
      clear c1 HGR HO
      have c0 := HB.out.c0
      have c1 := HB.out.c1
      have hbest := best_any ver _ xs s wr (HI.out.grow HG.out) HFI.out (by omega) (HM.out.grow HG.out)
      have HBEST := hid hbest
      clear hbest
      go_wp2_with fail
      refine HBEST.out.use ?_
      rintro bv w10 ⟨l1, hl1, rfl⟩ g10
      obtain rfl := sorted_unique hl1 HSRT.out
      have HB := hid (HB.out.grow g10)
      have HG := hid (HG.out.trans g10)
      have HA := hid (HAO.out.grow g10)
      have HW := hid (HWO.out.grow g10)
      clear hl1 g10 HBEST HAO HWO c0 c1
      have HUP := hid (show upL l1 = idxL (ofName s) xs from sort_back HSRT.out.1 (idx_sorted _ _ _))
      have HSAME := hid (show ∀ l', (Sorted (keyL xs) (idxL (ofName (lowerL s)) xs) l' ∨ Sorted (keyL xs) (idxL (ofName (upperL s)) xs) l') → l' = l1 from fun l' h => by
        rw [of_low, of_up] at h
        rcases h with h | h <;> exact sorted_unique h HSRT.out)
      have HLL := hid (show l1.length ≤ 1000000 by have := all_len HSRT.out; omega)
      have hwl := idx_len (ofName s) xs 0
      obtain ⟨wl, hwe⟩ : ∃ y, idxL (ofName s) xs = y := ⟨_, rfl⟩
      rw [hwe] at HW HUP
      have HWL := hid (show wl.length ≤ 1000000 by rw [← hwe]; unfold idxL; omega)
      clear hwl hwe HSRT
      obtain ⟨wa, wc, hwv, _⟩ := HW.out.nums
      have hlvv := HLV.out
      subst hlvv
      subst hwv
      cases l1 with
      | nil =>
        have hpos : True := trivial
        simp only [bestL, List.headD_nil, List.length_nil]
        simp only [List.length_nil] at HA
        go_wp2_with fail
        refine wp_region_any (by kernel_rfl) ?_
        refine wpAny_veiled (E := #[false, false, false, false, false, false, false, false, false, false, false, false, false, false, false, false, false, false, false, false, false, false, false, false, false, false, false, false, false, false, false, false, false, false, false, false, false, false, false, false, false, false, false]) G 40 (allPsi0 (.slice la 0 lc) (.slice wa wl.length wc) ver (.slice ia xs.length ic) s wl [] 0 0 0) [some [], some [(0, 42)], some [(1, 43), (1, 43)], some [], some [(2, 44), (3, 45), (2, 44)], some [(4, 46), (4, 46)], some [(5, 47)], some [(6, 48), (5, 47)], some [(7, 49), (5, 47)], some [(8, 50), (5, 47), (5, 47)], some [(9, 51)], some [(10, 52), (9, 51)], some [(9, 51), (11, 53), (5, 47)], some [(12, 54), (5, 47)], some [(13, 55)], some [(14, 56), (13, 55)], some [(15, 57), (13, 55)], some [(16, 58), (13, 55), (13, 55)], some [(17, 59)], some [(17, 59)], some [(19, 61), (17, 59)], some [(20, 62), (17, 59)], some [(18, 60), (21, 63), (17, 59)], some [(17, 59), (22, 64), (13, 55)], some [(13, 55), (23, 65), (5, 47)], some [(5, 47), (24, 66)], some [(25, 67)], some [(26, 68)], some [(26, 68)], some [(26, 68)], some [(29, 71), (26, 68), (26, 68)], some [(28, 70), (30, 72), (30, 72), (26, 68)], some [(27, 69), (31, 73), (31, 73), (26, 68)], some [(26, 68), (32, 74)], some [(33, 75)], some [(34, 76)], some [(34, 76)], some [(34, 76)], some [(37, 79), (34, 76), (34, 76)], some [(36, 78), (38, 80), (38, 80), (34, 76)], none, none, none] [(0, 42), (1, 43), (2, 44), (3, 45), (4, 46), (5, 47), (6, 48), (7, 49), (8, 50), (9, 51), (10, 52), (11, 53), (12, 54), (13, 55), (14, 56), (15, 57), (16, 58), (17, 59), (18, 60), (19, 61), (20, 62), (21, 63), (22, 64), (23, 65), (24, 66), (25, 67), (26, 68), (27, 69), (28, 70), (29, 71), (30, 72), (31, 73), (32, 74), (33, 75), (34, 76), (35, 77), (36, 78), (37, 79), (38, 80), (39, 81)] _ (by kernel_rfl) (by decide) (by kernel_rfl) (by kernel_rfl) rfl G.refl (fun _ _ _ => G.trans) (w0 := w10) ((G.refl w10).drew) ?_ ?_ ?_
        · intro k v W W' g h
          match k, h with
          | 0, h => exact h
          | 1, h => exact by obtain ⟨B, e, hc⟩ := h; exact ⟨B, e, by rw [g.cell (World.block_lt_of_cell? _ _ hc)]; exact hc⟩
          | 2, h => exact OwnN.grow h g
          | 3, h => exact h
          | 4, h => exact h
          | 5, h => exact h
          | 6, h => exact h
          | 7, h => exact h
          | 8, h => exact h
          | 9, h => exact h
          | 10, h => exact h
          | 11, h => exact h
          | 12, h => exact h
          | 13, h => exact h
          | 14, h => exact h
          | 15, h => exact h
          | 16, h => exact h
          | 17, h => exact h
          | 18, h => exact h
          | 19, h => exact h
          | 20, h => exact h
          | 21, h => exact h
          | 22, h => exact h
          | 23, h => exact h
          | 24, h => exact h
          | 25, h => exact h
          | 26, h => exact h
          | 27, h => exact h
          | 28, h => exact h
          | 29, h => exact h
          | 30, h => exact h
          | 31, h => exact OwnN.grow h g
          | 32, h => exact h
          | 33, h => exact h
          | 34, h => exact h
          | 35, h => exact h
          | 36, h => exact h
          | 37, h => exact h
          | 38, h => exact h
          | 39, h => exact OwnN.grow h g
          | n + 40, h => trivial
        · refine gAll_some (fun vals W g d => ?_) <| gAll_some (fun vals W g d => ?_) <| gAll_some (fun vals W g d => ?_) <| gAll_some (fun vals W g d => ?_) <| gAll_some (fun vals W g d => ?_) <| gAll_some (fun vals W g d => ?_) <| gAll_some (fun vals W g d => ?_) <| gAll_some (fun vals W g d => ?_) <| gAll_some (fun vals W g d => ?_) <| gAll_some (fun vals W g d => ?_) <| gAll_some (fun vals W g d => ?_) <| gAll_some (fun vals W g d => ?_) <| gAll_some (fun vals W g d => ?_) <| gAll_some (fun vals W g d => ?_) <| gAll_some (fun vals W g d => ?_) <| gAll_some (fun vals W g d => ?_) <| gAll_some (fun vals W g d => ?_) <| gAll_some (fun vals W g d => ?_) <| gAll_some (fun vals W g d => ?_) <| gAll_some (fun vals W g d => ?_) <| gAll_some (fun vals W g d => ?_) <| gAll_some (fun vals W g d => ?_) <| gAll_some (fun vals W g d => ?_) <| gAll_some (fun vals W g d => ?_) <| gAll_some (fun vals W g d => ?_) <| gAll_some (fun vals W g d => ?_) <| gAll_some (fun vals W g d => ?_) <| gAll_some (fun vals W g d => ?_) <| gAll_some (fun vals W g d => ?_) <| gAll_some (fun vals W g d => ?_) <| gAll_some (fun vals W g d => ?_) <| gAll_some (fun vals W g d => ?_) <| gAll_some (fun vals W g d => ?_) <| gAll_some (fun vals W g d => ?_) <| gAll_some (fun vals W g d => ?_) <| gAll_some (fun vals W g d => ?_) <| gAll_some (fun vals W g d => ?_) <| gAll_some (fun vals W g d => ?_) <| gAll_some (fun vals W g d => ?_) <| gAll_some (fun vals W g d => ?_) <| gAll_none <| gAll_none <| gAll_none gAll_nil
          · refine gOp_one rfl rfl rfl fun K hK => ?_
            simp only [gFr] at hK ⊢
            go_simp
            exact hK _ _ (G.refl _) rfl
          · obtain ⟨d0, _⟩ := d
            change vals 0 = _ at d0
            refine gOp_one rfl rfl rfl fun K hK => ?_
            simp only [gFr, d0] at hK ⊢
            go_simp
            refine (values_any _ W _ _ _ rfl).use ?_
            intro v W' hp hg
            exact hK _ _ hg hp
          · obtain ⟨d1, _, _⟩ := d
            refine gOp_one rfl rfl rfl fun K hK => ?_
            obtain ⟨B, hv, hcb⟩ := d1
            change vals 1 = _ at hv
            simp only [gFr] at hK ⊢
            simp only [hv] at hK ⊢
            go_simp
            refine (sorted_any B _ _ W (World.block_lt_of_cell? _ _ hcb) hcb (ins_of (HA.out.grow g).nums HLL.out)).use ?_
            intro v W' hp hg
            exact hK _ _ hg (HUP.out ▸ OwnN.mono hp (Nat.zero_le _))
          · refine gOp_one rfl rfl rfl fun K hK => ?_
            simp only [gFr] at hK ⊢
            go_simp
            exact hK _ _ (G.refl _) rfl
          · obtain ⟨d2, d3, _, _⟩ := d
            change vals 3 = _ at d3
            refine gOp_one rfl rfl rfl fun K hK => ?_
            change OwnN W 0 (vals 2) _ at d2
            simp only [gFr, d3] at hK ⊢
            go_simp
            refine (equal_ints d2.nums (HW.out.grow g).nums (by have := HWL.out; omega) (by have := HWL.out; omega)).use ?_
            intro W' hg
            exact hK _ _ hg (by show Value.bool _ = _; simp)
          · obtain ⟨d4, _, _⟩ := d
            change vals 4 = _ at d4
            refine gOp_one rfl rfl rfl fun K hK => ?_
            simp only [gFr, d4] at hK ⊢
            go_simp
            exact hK _ _ (G.refl _) rfl
          · obtain ⟨d5, _⟩ := d
            change vals 5 = _ at d5
            refine gOp_yes2 (t := 48) (g := 5) (tg := 47) rfl rfl (by decide) (by decide) rfl d5 rfl rfl fun K hK => ?_
            simp only [gFr, d5] at hK ⊢
            go_simp
            exact hK _ _ (G.refl _) rfl
          · obtain ⟨d6, d5, _⟩ := d
            change vals 6 = _ at d6
            change vals 5 = _ at d5
            refine gOp_yes2 (t := 49) (g := 5) (tg := 47) rfl rfl (by decide) (by decide) rfl d5 rfl rfl fun K hK => ?_
            simp only [gFr, d6, d5] at hK ⊢
            go_simp
            exact hK _ _ (G.refl _) rfl
          · obtain ⟨d7, d5, _⟩ := d
            change vals 7 = _ at d7
            change vals 5 = _ at d5
            refine gOp_yes2 (t := 50) (g := 5) (tg := 47) rfl rfl (by decide) (by decide) rfl d5 rfl rfl fun K hK => ?_
            simp only [gFr, d7, d5] at hK ⊢
            go_simp
            exact hK _ _ (G.refl _) rfl
          · obtain ⟨d8, d5, _, _⟩ := d
            change vals 8 = _ at d8
            change vals 5 = _ at d5
            refine gOp_yes2 (t := 51) (g := 5) (tg := 47) rfl rfl (by decide) (by decide) rfl d5 rfl rfl fun K hK => ?_
            simp only [gFr, d8, d5] at hK ⊢
            go_simp
            exact hK _ _ (G.refl _) rfl
          · obtain ⟨d9, _⟩ := d
            change vals 9 = _ at d9
            refine gOp_yes2 (t := 52) (g := 9) (tg := 51) rfl rfl (by decide) (by decide) rfl d9 rfl rfl fun K hK => ?_
            simp only [gFr, d9] at hK ⊢
            go_simp
            exact hK _ _ (G.refl _) rfl
          · obtain ⟨d10, d9, _⟩ := d
            change vals 10 = _ at d10
            change vals 9 = _ at d9
            refine gOp_yes2 (t := 53) (g := 9) (tg := 51) rfl rfl (by decide) (by decide) rfl d9 rfl rfl fun K hK => ?_
            simp only [gFr, d10, d9] at hK ⊢
            go_simp
            exact hK _ _ (G.refl _) rfl
          · obtain ⟨d9, d11, d5, _⟩ := d
            change vals 9 = _ at d9
            change vals 11 = _ at d11
            change vals 5 = _ at d5
            refine gOp_yes2 (t := 54) (g := 5) (tg := 47) rfl rfl (by decide) (by decide) rfl d5 rfl rfl fun K hK => ?_
            simp only [gFr, d9, d11, d5] at hK ⊢
            go_simp
            exact hK _ _ (G.refl _) rfl
          · obtain ⟨d12, d5, _⟩ := d
            change vals 12 = _ at d12
            change vals 5 = _ at d5
            refine gOp_yes2 (t := 55) (g := 5) (tg := 47) rfl rfl (by decide) (by decide) rfl d5 rfl rfl fun K hK => ?_
            simp only [gFr, d12, d5] at hK ⊢
            go_simp
            exact hK _ _ (G.refl _) rfl
          · obtain ⟨d13, _⟩ := d
            change vals 13 = _ at d13
            exact gOp_skip (t := 56) (g := 13) (tg := 55) d13 (bool_no (by decide)) rfl rfl (by decide) (by decide) rfl rfl rfl rfl
          · obtain ⟨d14, d13, _⟩ := d
            change vals 14 = _ at d14
            change vals 13 = _ at d13
            exact gOp_skip (t := 57) (g := 13) (tg := 55) d13 (bool_no (by decide)) rfl rfl (by decide) (by decide) rfl rfl rfl rfl
          · obtain ⟨d15, d13, _⟩ := d
            change vals 15 = _ at d15
            change vals 13 = _ at d13
            exact gOp_skip (t := 58) (g := 13) (tg := 55) d13 (bool_no (by decide)) rfl rfl (by decide) (by decide) rfl rfl rfl rfl
          · obtain ⟨d16, d13, _, _⟩ := d
            change vals 16 = _ at d16
            change vals 13 = _ at d13
            exact gOp_skip (t := 59) (g := 13) (tg := 55) d13 (bool_no (by decide)) rfl rfl (by decide) (by decide) rfl rfl rfl rfl
          · obtain ⟨d17, _⟩ := d
            change vals 17 = _ at d17
            exact gOp_skip (t := 60) (g := 17) (tg := 59) d17 undef_no rfl rfl (by decide) (by decide) rfl rfl rfl rfl
          · obtain ⟨d17, _⟩ := d
            change vals 17 = _ at d17
            exact gOp_skip (t := 61) (g := 17) (tg := 59) d17 undef_no rfl rfl (by decide) (by decide) rfl rfl rfl rfl
          · obtain ⟨d19, d17, _⟩ := d
            change vals 19 = _ at d19
            change vals 17 = _ at d17
            exact gOp_skip (t := 62) (g := 17) (tg := 59) d17 undef_no rfl rfl (by decide) (by decide) rfl rfl rfl rfl
          · obtain ⟨d20, d17, _⟩ := d
            change vals 20 = _ at d20
            change vals 17 = _ at d17
            exact gOp_skip (t := 63) (g := 17) (tg := 59) d17 undef_no rfl rfl (by decide) (by decide) rfl rfl rfl rfl
          · obtain ⟨d18, d21, d17, _⟩ := d
            change vals 18 = _ at d18
            change vals 21 = _ at d21
            change vals 17 = _ at d17
            exact gOp_skip (t := 64) (g := 17) (tg := 59) d17 undef_no rfl rfl (by decide) (by decide) rfl rfl rfl rfl
          · obtain ⟨d17, d22, d13, _⟩ := d
            change vals 17 = _ at d17
            change vals 22 = _ at d22
            change vals 13 = _ at d13
            exact gOp_skip (t := 65) (g := 13) (tg := 55) d13 (bool_no (by decide)) rfl rfl (by decide) (by decide) rfl rfl rfl rfl
          · obtain ⟨d13, d23, d5, _⟩ := d
            change vals 13 = _ at d13
            change vals 23 = _ at d23
            change vals 5 = _ at d5
            refine gOp_yes2 (t := 66) (g := 5) (tg := 47) rfl rfl (by decide) (by decide) rfl d5 rfl rfl fun K hK => ?_
            simp only [gFr, d13, d23, d5] at hK ⊢
            go_simp
            exact hK _ _ (G.refl _) rfl
          · obtain ⟨d5, d24, _⟩ := d
            change vals 5 = _ at d5
            change vals 24 = _ at d24
            refine gOp_one rfl rfl rfl fun K hK => ?_
            simp only [gFr, d5, d24] at hK ⊢
            go_simp
            exact hK _ _ (G.refl _) rfl
          · obtain ⟨d25, _⟩ := d
            change vals 25 = _ at d25
            refine gOp_one rfl rfl rfl fun K hK => ?_
            simp only [gFr, d25] at hK ⊢
            go_simp
            exact hK _ _ (G.refl _) rfl
          · obtain ⟨d26, _⟩ := d
            change vals 26 = _ at d26
            refine gOp_yes2 (t := 69) (g := 26) (tg := 68) rfl rfl (by decide) (by decide) rfl d26 rfl rfl fun K hK => ?_
            simp only [gFr, d26] at hK ⊢
            go_simp
            exact hK _ _ (G.refl _) rfl
          · obtain ⟨d26, _⟩ := d
            change vals 26 = _ at d26
            refine gOp_yes2 (t := 70) (g := 26) (tg := 68) rfl rfl (by decide) (by decide) rfl d26 rfl rfl fun K hK => ?_
            simp only [gFr, d26] at hK ⊢
            have c0 := (HB.out.grow g).c0
            have c1 := (HB.out.grow g).c1
            go_simp
            exact hK _ _ (G.refl _) rfl
          · obtain ⟨d26, _⟩ := d
            change vals 26 = _ at d26
            refine gOp_yes2 (t := 71) (g := 26) (tg := 68) rfl rfl (by decide) (by decide) rfl d26 rfl rfl fun K hK => ?_
            simp only [gFr, d26] at hK ⊢
            go_simp
            exact hK _ _ (G.refl _) rfl
          · obtain ⟨d29, d26, _, _⟩ := d
            change vals 29 = _ at d29
            change vals 26 = _ at d26
            refine gOp_yes2 (t := 72) (g := 26) (tg := 68) rfl rfl (by decide) (by decide) rfl d26 rfl rfl fun K hK => ?_
            simp only [gFr, d29, d26] at hK ⊢
            go_simp
            refine (lower_any s W (by omega)).use ?_
            intro W' hg
            exact hK _ _ hg rfl
          · obtain ⟨d28, d30, _, d26, _⟩ := d
            change vals 28 = _ at d28
            change vals 30 = _ at d30
            change vals 26 = _ at d26
            refine gOp_yes2 (t := 73) (g := 26) (tg := 68) rfl rfl (by decide) (by decide) rfl d26 rfl rfl fun K hK => ?_
            simp only [gFr, d28, d30, d26] at hK ⊢
            go_simp
            refine (all_any ver _ xs (lowerL s) W (HI.out.grow (HG.out.trans g)) HFI.out (by rw [lower_len]; omega) (HM.out.grow (HG.out.trans g))).use ?_
            rintro v W' ⟨l', h1, h2⟩ hg
            exact hK _ _ hg (HSAME.out l' (Or.inl h1) ▸ h2.mono (Nat.zero_le _))
          · obtain ⟨d27, d31, _, d26, _⟩ := d
            change vals 27 = _ at d27
            change vals 26 = _ at d26
            refine gOp_yes2 (t := 74) (g := 26) (tg := 68) rfl rfl (by decide) (by decide) rfl d26 rfl rfl fun K hK => ?_
            change OwnN W 0 (vals 31) _ at d31
            simp only [gFr, d27, d26] at hK ⊢
            go_simp
            refine (equal_ints (HA.out.grow g).nums d31.nums (by have := HLL.out; omega) (by have := HLL.out; omega)).use ?_
            intro W' hg
            exact hK _ _ hg (by show Value.bool _ = _; simp)
          · obtain ⟨d26, d32, _⟩ := d
            change vals 26 = _ at d26
            change vals 32 = _ at d32
            refine gOp_one rfl rfl rfl fun K hK => ?_
            simp only [gFr, d26, d32] at hK ⊢
            go_simp
            exact hK _ _ (G.refl _) rfl
          · obtain ⟨d33, _⟩ := d
            change vals 33 = _ at d33
            refine gOp_one rfl rfl rfl fun K hK => ?_
            simp only [gFr, d33] at hK ⊢
            go_simp
            exact hK _ _ (G.refl _) rfl
          · obtain ⟨d34, _⟩ := d
            change vals 34 = _ at d34
            refine gOp_yes2 (t := 77) (g := 34) (tg := 76) rfl rfl (by decide) (by decide) rfl d34 rfl rfl fun K hK => ?_
            simp only [gFr, d34] at hK ⊢
            go_simp
            exact hK _ _ (G.refl _) rfl
          · obtain ⟨d34, _⟩ := d
            change vals 34 = _ at d34
            refine gOp_yes2 (t := 78) (g := 34) (tg := 76) rfl rfl (by decide) (by decide) rfl d34 rfl rfl fun K hK => ?_
            simp only [gFr, d34] at hK ⊢
            have c0 := (HB.out.grow g).c0
            have c1 := (HB.out.grow g).c1
            go_simp
            exact hK _ _ (G.refl _) rfl
          · obtain ⟨d34, _⟩ := d
            change vals 34 = _ at d34
            refine gOp_yes2 (t := 79) (g := 34) (tg := 76) rfl rfl (by decide) (by decide) rfl d34 rfl rfl fun K hK => ?_
            simp only [gFr, d34] at hK ⊢
            go_simp
            exact hK _ _ (G.refl _) rfl
          · obtain ⟨d37, d34, _, _⟩ := d
            change vals 37 = _ at d37
            change vals 34 = _ at d34
            refine gOp_yes2 (t := 80) (g := 34) (tg := 76) rfl rfl (by decide) (by decide) rfl d34 rfl rfl fun K hK => ?_
            simp only [gFr, d37, d34] at hK ⊢
            go_simp
            refine (upper_any s W (by omega)).use ?_
            intro W' hg
            exact hK _ _ hg rfl
          · obtain ⟨d36, d38, _, d34, _⟩ := d
            change vals 36 = _ at d36
            change vals 38 = _ at d38
            change vals 34 = _ at d34
            refine gOp_yes2 (t := 81) (g := 34) (tg := 76) rfl rfl (by decide) (by decide) rfl d34 rfl rfl fun K hK => ?_
            simp only [gFr, d36, d38, d34] at hK ⊢
            go_simp
            refine (all_any ver _ xs (upperL s) W (HI.out.grow (HG.out.trans g)) HFI.out (by rw [upper_len]; omega) (HM.out.grow (HG.out.trans g))).use ?_
            rintro v W' ⟨l', h1, h2⟩ hg
            exact hK _ _ hg (HSAME.out l' (Or.inr h1) ▸ h2.mono (Nat.zero_le _))
        · intro vals W g d
          simp only [gFacts_cons, gFacts_nil] at d
          obtain ⟨d0, d1, d2, d3, d4, d5, d6, d7, d8, d9, d10, d11, d12, d13, d14, d15, d16, d17, d18, d19, d20, d21, d22, d23, d24, d25, d26, d27, d28, d29, d30, d31, d32, d33, d34, d35, d36, d37, d38, d39, _⟩ := d
          change vals 0 = _ at d0
          change vals 3 = _ at d3
          change vals 4 = _ at d4
          change vals 5 = _ at d5
          change vals 6 = _ at d6
          change vals 7 = _ at d7
          change vals 8 = _ at d8
          change vals 9 = _ at d9
          change vals 10 = _ at d10
          change vals 11 = _ at d11
          change vals 12 = _ at d12
          change vals 13 = _ at d13
          change vals 14 = _ at d14
          change vals 15 = _ at d15
          change vals 16 = _ at d16
          change vals 17 = _ at d17
          change vals 18 = _ at d18
          change vals 19 = _ at d19
          change vals 20 = _ at d20
          change vals 21 = _ at d21
          change vals 22 = _ at d22
          change vals 23 = _ at d23
          change vals 24 = _ at d24
          change vals 25 = _ at d25
          change vals 26 = _ at d26
          change vals 27 = _ at d27
          change vals 28 = _ at d28
          change vals 29 = _ at d29
          change vals 30 = _ at d30
          change vals 32 = _ at d32
          change vals 33 = _ at d33
          change vals 34 = _ at d34
          change vals 35 = _ at d35
          change vals 36 = _ at d36
          change vals 37 = _ at d37
          change vals 38 = _ at d38
          have HG := hid (HG.out.trans g)
          obtain ⟨sa, sc, hsv, _⟩ := (show OwnN W 0 (vals 39) _ from d39).nums
          have HD := hid (show OwnN W 0 (vals 39) _ from d39)
          rw [hsv] at HD
          have HA := hid (HA.out.grow g)
          refine ⟨?_⟩
          show wpList _ _ _ [_, _, _] _ _
          simp only [gFr, d0, d3, d4, d5, d6, d7, d8, d9, d10, d11, d12, d13, d14, d15, d16, d17, d18, d19, d20, d21, d22, d23, d24, d25, d26, d27, d28, d29, d30, d32, d33, d34, d35, d36, d37, d38]
          clear d0 d3 d4 d5 d6 d7 d8 d9 d10 d11 d12 d13 d14 d15 d16 d17 d18 d19 d20 d21 d22 d23 d24 d25 d26 d27 d28 d29 d30 d32 d33 d34 d35 d36 d37 d38
          go_wp2_with fail
          refine (equal_ints HA.out.nums HD.out.nums (by have := HLL.out; omega) (by have := HLL.out; omega)).use ?_
          intro W2 g2
          have HG := hid (HG.out.trans g2)
          simp only [decide_true]
          go_wp2_with fail
          go_ret
          exact ⟨rfl, HG.out⟩
      | cons j0 rs =>
        obtain ⟨gb, gc, hge⟩ : ∃ gb gc, Value.slice la (j0 :: rs).length lc = .slice (some ⟨gb, 0, none⟩) (rs.length + 1) gc := by
          rcases HA.out.form with ⟨_, e⟩ | ⟨g, cap, e, _⟩
          · cases e
          · exact ⟨g, cap, by rw [e]; rfl⟩
        rw [hge] at HA ⊢
        have HPOS := hid (show (0 : Int) < (rs.length : Int) + 1 by omega)
        simp only [bestL, List.headD_cons]
        clear hge HLV
        go_wp2_with fail
        refine wp_region_any (by kernel_rfl) ?_
        refine wpAny_veiled (E := #[false, false, false, false, false, false, false, false, false, false, false, false, false, false, false, false, false, false, false, false, false, false, false, false, false, false, false, false, false, false, false, false, false, false, false, false, false, false, false, false, false, false, false]) G 40 (allPsi1 (.slice (some ⟨gb, 0, none⟩) (rs.length + 1) gc) (.slice wa wl.length wc) ver (.slice ia xs.length ic) s wl (j0 :: rs) (rs.length + 1) gb j0) [some [], some [(0, 42)], some [(1, 43), (1, 43)], some [], some [(2, 44), (3, 45), (2, 44)], some [(4, 46), (4, 46)], some [(5, 47)], some [(6, 48), (5, 47)], some [(7, 49), (5, 47)], some [(8, 50), (5, 47), (5, 47)], some [(9, 51)], some [(10, 52), (9, 51)], some [(9, 51), (11, 53), (5, 47)], some [(12, 54), (5, 47)], some [(13, 55)], some [(14, 56), (13, 55)], some [(15, 57), (13, 55)], some [(16, 58), (13, 55), (13, 55)], some [(17, 59)], some [(17, 59)], some [(19, 61), (17, 59)], some [(20, 62), (17, 59)], some [(18, 60), (21, 63), (17, 59)], some [(17, 59), (22, 64), (13, 55)], some [(13, 55), (23, 65), (5, 47)], some [(5, 47), (24, 66)], some [(25, 67)], some [(26, 68)], some [(26, 68)], some [(26, 68)], some [(29, 71), (26, 68), (26, 68)], some [(28, 70), (30, 72), (30, 72), (26, 68)], some [(27, 69), (31, 73), (31, 73), (26, 68)], some [(26, 68), (32, 74)], some [(33, 75)], some [(34, 76)], some [(34, 76)], some [(34, 76)], some [(37, 79), (34, 76), (34, 76)], some [(36, 78), (38, 80), (38, 80), (34, 76)], none, none, none] [(0, 42), (1, 43), (2, 44), (3, 45), (4, 46), (5, 47), (6, 48), (7, 49), (8, 50), (9, 51), (10, 52), (11, 53), (12, 54), (13, 55), (14, 56), (15, 57), (16, 58), (17, 59), (18, 60), (19, 61), (20, 62), (21, 63), (22, 64), (23, 65), (24, 66), (25, 67), (26, 68), (27, 69), (28, 70), (29, 71), (30, 72), (31, 73), (32, 74), (33, 75), (34, 76), (35, 77), (36, 78), (37, 79), (38, 80), (39, 81)] _ (by kernel_rfl) (by decide) (by kernel_rfl) (by kernel_rfl) rfl G.refl (fun _ _ _ => G.trans) (w0 := w10) ((G.refl w10).drew) ?_ ?_ ?_
        · intro k v W W' g h
          match k, h with
          | 0, h => exact h
          | 1, h => exact by obtain ⟨B, e, hc⟩ := h; exact ⟨B, e, by rw [g.cell (World.block_lt_of_cell? _ _ hc)]; exact hc⟩
          | 2, h => exact OwnN.grow h g
          | 3, h => exact h
          | 4, h => exact h
          | 5, h => exact h
          | 6, h => exact h
          | 7, h => exact h
          | 8, h => exact h
          | 9, h => exact h
          | 10, h => exact h
          | 11, h => exact h
          | 12, h => exact h
          | 13, h => exact h
          | 14, h => exact h
          | 15, h => exact h
          | 16, h => exact h
          | 17, h => exact h
          | 18, h => exact h
          | 19, h => exact h
          | 20, h => exact h
          | 21, h => exact h
          | 22, h => exact h
          | 23, h => exact h
          | 24, h => exact h
          | 25, h => exact h
          | 26, h => exact h
          | 27, h => exact h
          | 28, h => exact h
          | 29, h => exact h
          | 30, h => exact h
          | 31, h => exact OwnN.grow h g
          | 32, h => exact h
          | 33, h => exact h
          | 34, h => exact h
          | 35, h => exact h
          | 36, h => exact h
          | 37, h => exact h
          | 38, h => exact h
          | 39, h => exact OwnN.grow h g
          | n + 40, h => trivial
        · refine gAll_some (fun vals W g d => ?_) <| gAll_some (fun vals W g d => ?_) <| gAll_some (fun vals W g d => ?_) <| gAll_some (fun vals W g d => ?_) <| gAll_some (fun vals W g d => ?_) <| gAll_some (fun vals W g d => ?_) <| gAll_some (fun vals W g d => ?_) <| gAll_some (fun vals W g d => ?_) <| gAll_some (fun vals W g d => ?_) <| gAll_some (fun vals W g d => ?_) <| gAll_some (fun vals W g d => ?_) <| gAll_some (fun vals W g d => ?_) <| gAll_some (fun vals W g d => ?_) <| gAll_some (fun vals W g d => ?_) <| gAll_some (fun vals W g d => ?_) <| gAll_some (fun vals W g d => ?_) <| gAll_some (fun vals W g d => ?_) <| gAll_some (fun vals W g d => ?_) <| gAll_some (fun vals W g d => ?_) <| gAll_some (fun vals W g d => ?_) <| gAll_some (fun vals W g d => ?_) <| gAll_some (fun vals W g d => ?_) <| gAll_some (fun vals W g d => ?_) <| gAll_some (fun vals W g d => ?_) <| gAll_some (fun vals W g d => ?_) <| gAll_some (fun vals W g d => ?_) <| gAll_some (fun vals W g d => ?_) <| gAll_some (fun vals W g d => ?_) <| gAll_some (fun vals W g d => ?_) <| gAll_some (fun vals W g d => ?_) <| gAll_some (fun vals W g d => ?_) <| gAll_some (fun vals W g d => ?_) <| gAll_some (fun vals W g d => ?_) <| gAll_some (fun vals W g d => ?_) <| gAll_some (fun vals W g d => ?_) <| gAll_some (fun vals W g d => ?_) <| gAll_some (fun vals W g d => ?_) <| gAll_some (fun vals W g d => ?_) <| gAll_some (fun vals W g d => ?_) <| gAll_some (fun vals W g d => ?_) <| gAll_none <| gAll_none <| gAll_none gAll_nil
          · refine gOp_one rfl rfl rfl fun K hK => ?_
            simp only [gFr] at hK ⊢
            go_simp
            exact hK _ _ (G.refl _) rfl
          · obtain ⟨d0, _⟩ := d
            change vals 0 = _ at d0
            refine gOp_one rfl rfl rfl fun K hK => ?_
            simp only [gFr, d0] at hK ⊢
            go_simp
            refine (values_any _ W _ _ _ rfl).use ?_
            intro v W' hp hg
            exact hK _ _ hg hp
          · obtain ⟨d1, _, _⟩ := d
            refine gOp_one rfl rfl rfl fun K hK => ?_
            obtain ⟨B, hv, hcb⟩ := d1
            change vals 1 = _ at hv
            simp only [gFr] at hK ⊢
            simp only [hv] at hK ⊢
            go_simp
            refine (sorted_any B _ _ W (World.block_lt_of_cell? _ _ hcb) hcb (ins_of (HA.out.grow g).nums HLL.out)).use ?_
            intro v W' hp hg
            exact hK _ _ hg (HUP.out ▸ OwnN.mono hp (Nat.zero_le _))
          · refine gOp_one rfl rfl rfl fun K hK => ?_
            simp only [gFr] at hK ⊢
            go_simp
            exact hK _ _ (G.refl _) rfl
          · obtain ⟨d2, d3, _, _⟩ := d
            change vals 3 = _ at d3
            refine gOp_one rfl rfl rfl fun K hK => ?_
            change OwnN W 0 (vals 2) _ at d2
            simp only [gFr, d3] at hK ⊢
            go_simp
            refine (equal_ints d2.nums (HW.out.grow g).nums (by have := HWL.out; omega) (by have := HWL.out; omega)).use ?_
            intro W' hg
            exact hK _ _ hg (by show Value.bool _ = _; simp)
          · obtain ⟨d4, _, _⟩ := d
            change vals 4 = _ at d4
            refine gOp_one rfl rfl rfl fun K hK => ?_
            simp only [gFr, d4] at hK ⊢
            go_simp
            exact hK _ _ (G.refl _) rfl
          · obtain ⟨d5, _⟩ := d
            change vals 5 = _ at d5
            refine gOp_yes2 (t := 48) (g := 5) (tg := 47) rfl rfl (by decide) (by decide) rfl d5 rfl rfl fun K hK => ?_
            simp only [gFr, d5] at hK ⊢
            go_simp
            exact hK _ _ (G.refl _) rfl
          · obtain ⟨d6, d5, _⟩ := d
            change vals 6 = _ at d6
            change vals 5 = _ at d5
            refine gOp_yes2 (t := 49) (g := 5) (tg := 47) rfl rfl (by decide) (by decide) rfl d5 rfl rfl fun K hK => ?_
            simp only [gFr, d6, d5] at hK ⊢
            go_simp
            exact hK _ _ (G.refl _) rfl
          · obtain ⟨d7, d5, _⟩ := d
            change vals 7 = _ at d7
            change vals 5 = _ at d5
            refine gOp_yes2 (t := 50) (g := 5) (tg := 47) rfl rfl (by decide) (by decide) rfl d5 rfl rfl fun K hK => ?_
            simp only [gFr, d7, d5] at hK ⊢
            go_simp
            exact hK _ _ (G.refl _) rfl
          · obtain ⟨d8, d5, _, _⟩ := d
            change vals 8 = _ at d8
            change vals 5 = _ at d5
            refine gOp_yes2 (t := 51) (g := 5) (tg := 47) rfl rfl (by decide) (by decide) rfl d5 rfl rfl fun K hK => ?_
            simp only [gFr, d8, d5] at hK ⊢
            go_simp
            exact hK _ _ (G.refl _) rfl
          · obtain ⟨d9, _⟩ := d
            change vals 9 = _ at d9
            exact gOp_skip (t := 52) (g := 9) (tg := 51) d9 (bool_no (by decide)) rfl rfl (by decide) (by decide) rfl rfl rfl rfl
          · obtain ⟨d10, d9, _⟩ := d
            change vals 10 = _ at d10
            change vals 9 = _ at d9
            exact gOp_skip (t := 53) (g := 9) (tg := 51) d9 (bool_no (by decide)) rfl rfl (by decide) (by decide) rfl rfl rfl rfl
          · obtain ⟨d9, d11, d5, _⟩ := d
            change vals 9 = _ at d9
            change vals 11 = _ at d11
            change vals 5 = _ at d5
            refine gOp_yes2 (t := 54) (g := 5) (tg := 47) rfl rfl (by decide) (by decide) rfl d5 rfl rfl fun K hK => ?_
            simp only [gFr, d9, d11, d5] at hK ⊢
            go_simp
            exact hK _ _ (G.refl _) rfl
          · obtain ⟨d12, d5, _⟩ := d
            change vals 12 = _ at d12
            change vals 5 = _ at d5
            refine gOp_yes2 (t := 55) (g := 5) (tg := 47) rfl rfl (by decide) (by decide) rfl d5 rfl rfl fun K hK => ?_
            simp only [gFr, d12, d5] at hK ⊢
            go_simp
            exact hK _ _ (G.refl _) rfl
          · obtain ⟨d13, _⟩ := d
            change vals 13 = _ at d13
            refine gOp_yes2 (t := 56) (g := 13) (tg := 55) rfl rfl (by decide) (by decide) rfl d13 rfl rfl fun K hK => ?_
            simp only [gFr, d13] at hK ⊢
            go_simp
            exact hK _ _ (G.refl _) rfl
          · obtain ⟨d14, d13, _⟩ := d
            change vals 14 = _ at d14
            change vals 13 = _ at d13
            refine gOp_yes2 (t := 57) (g := 13) (tg := 55) rfl rfl (by decide) (by decide) rfl d13 rfl rfl fun K hK => ?_
            simp only [gFr, d14, d13] at hK ⊢
            go_simp
            exact hK _ _ (G.refl _) rfl
          · obtain ⟨d15, d13, _⟩ := d
            change vals 15 = _ at d15
            change vals 13 = _ at d13
            refine gOp_yes2 (t := 58) (g := 13) (tg := 55) rfl rfl (by decide) (by decide) rfl d13 rfl rfl fun K hK => ?_
            simp only [gFr, d15, d13] at hK ⊢
            go_simp
            exact hK _ _ (G.refl _) rfl
          · obtain ⟨d16, d13, _, _⟩ := d
            change vals 16 = _ at d16
            change vals 13 = _ at d13
            refine gOp_yes2 (t := 59) (g := 13) (tg := 55) rfl rfl (by decide) (by decide) rfl d13 rfl rfl fun K hK => ?_
            simp only [gFr, d16, d13] at hK ⊢
            go_simp
            exact hK _ _ (G.refl _) rfl
          · obtain ⟨d17, _⟩ := d
            change vals 17 = _ at d17
            refine gOp_yes2 (t := 60) (g := 17) (tg := 59) rfl rfl (by decide) (by decide) rfl d17 rfl rfl fun K hK => ?_
            simp only [gFr, d17] at hK ⊢
            go_simp
            exact hK _ _ (G.refl _) rfl
          · obtain ⟨d17, _⟩ := d
            change vals 17 = _ at d17
            refine gOp_yes2 (t := 61) (g := 17) (tg := 59) rfl rfl (by decide) (by decide) rfl d17 rfl rfl fun K hK => ?_
            simp only [gFr, d17] at hK ⊢
            go_simp
            exact hK _ _ (G.refl _) rfl
          · obtain ⟨d19, d17, _⟩ := d
            change vals 19 = _ at d19
            change vals 17 = _ at d17
            refine gOp_yes2 (t := 62) (g := 17) (tg := 59) rfl rfl (by decide) (by decide) rfl d17 rfl rfl fun K hK => ?_
            simp only [gFr, d19, d17] at hK ⊢
            have hpos := HPOS.out
            go_simp
            exact hK _ _ (G.refl _) rfl
          · obtain ⟨d20, d17, _⟩ := d
            change vals 20 = _ at d20
            change vals 17 = _ at d17
            refine gOp_yes2 (t := 63) (g := 17) (tg := 59) rfl rfl (by decide) (by decide) rfl d17 rfl rfl fun K hK => ?_
            simp only [gFr, d20, d17] at hK ⊢
            have hcell := own_head (HA.out.grow g)
            go_simp
            exact hK _ _ (G.refl _) rfl
          · obtain ⟨d18, d21, d17, _⟩ := d
            change vals 18 = _ at d18
            change vals 21 = _ at d21
            change vals 17 = _ at d17
            refine gOp_yes2 (t := 64) (g := 17) (tg := 59) rfl rfl (by decide) (by decide) rfl d17 rfl rfl fun K hK => ?_
            simp only [gFr, d18, d21, d17] at hK ⊢
            go_simp
            exact hK _ _ (G.refl _) rfl
          · obtain ⟨d17, d22, d13, _⟩ := d
            change vals 17 = _ at d17
            change vals 22 = _ at d22
            change vals 13 = _ at d13
            refine gOp_yes2 (t := 65) (g := 13) (tg := 55) rfl rfl (by decide) (by decide) rfl d13 rfl rfl fun K hK => ?_
            simp only [gFr, d17, d22, d13] at hK ⊢
            go_simp
            exact hK _ _ (G.refl _) rfl
          · obtain ⟨d13, d23, d5, _⟩ := d
            change vals 13 = _ at d13
            change vals 23 = _ at d23
            change vals 5 = _ at d5
            refine gOp_yes2 (t := 66) (g := 5) (tg := 47) rfl rfl (by decide) (by decide) rfl d5 rfl rfl fun K hK => ?_
            simp only [gFr, d13, d23, d5] at hK ⊢
            go_simp
            exact hK _ _ (G.refl _) rfl
          · obtain ⟨d5, d24, _⟩ := d
            change vals 5 = _ at d5
            change vals 24 = _ at d24
            refine gOp_one rfl rfl rfl fun K hK => ?_
            simp only [gFr, d5, d24] at hK ⊢
            go_simp
            exact hK _ _ (G.refl _) rfl
          · obtain ⟨d25, _⟩ := d
            change vals 25 = _ at d25
            refine gOp_one rfl rfl rfl fun K hK => ?_
            simp only [gFr, d25] at hK ⊢
            go_simp
            exact hK _ _ (G.refl _) rfl
          · obtain ⟨d26, _⟩ := d
            change vals 26 = _ at d26
            refine gOp_yes2 (t := 69) (g := 26) (tg := 68) rfl rfl (by decide) (by decide) rfl d26 rfl rfl fun K hK => ?_
            simp only [gFr, d26] at hK ⊢
            go_simp
            exact hK _ _ (G.refl _) rfl
          · obtain ⟨d26, _⟩ := d
            change vals 26 = _ at d26
            refine gOp_yes2 (t := 70) (g := 26) (tg := 68) rfl rfl (by decide) (by decide) rfl d26 rfl rfl fun K hK => ?_
            simp only [gFr, d26] at hK ⊢
            have c0 := (HB.out.grow g).c0
            have c1 := (HB.out.grow g).c1
            go_simp
            exact hK _ _ (G.refl _) rfl
          · obtain ⟨d26, _⟩ := d
            change vals 26 = _ at d26
            refine gOp_yes2 (t := 71) (g := 26) (tg := 68) rfl rfl (by decide) (by decide) rfl d26 rfl rfl fun K hK => ?_
            simp only [gFr, d26] at hK ⊢
            go_simp
            exact hK _ _ (G.refl _) rfl
          · obtain ⟨d29, d26, _, _⟩ := d
            change vals 29 = _ at d29
            change vals 26 = _ at d26
            refine gOp_yes2 (t := 72) (g := 26) (tg := 68) rfl rfl (by decide) (by decide) rfl d26 rfl rfl fun K hK => ?_
            simp only [gFr, d29, d26] at hK ⊢
            go_simp
            refine (lower_any s W (by omega)).use ?_
            intro W' hg
            exact hK _ _ hg rfl
          · obtain ⟨d28, d30, _, d26, _⟩ := d
            change vals 28 = _ at d28
            change vals 30 = _ at d30
            change vals 26 = _ at d26
            refine gOp_yes2 (t := 73) (g := 26) (tg := 68) rfl rfl (by decide) (by decide) rfl d26 rfl rfl fun K hK => ?_
            simp only [gFr, d28, d30, d26] at hK ⊢
            go_simp
            refine (all_any ver _ xs (lowerL s) W (HI.out.grow (HG.out.trans g)) HFI.out (by rw [lower_len]; omega) (HM.out.grow (HG.out.trans g))).use ?_
            rintro v W' ⟨l', h1, h2⟩ hg
            exact hK _ _ hg (HSAME.out l' (Or.inl h1) ▸ h2.mono (Nat.zero_le _))
          · obtain ⟨d27, d31, _, d26, _⟩ := d
            change vals 27 = _ at d27
            change vals 26 = _ at d26
            refine gOp_yes2 (t := 74) (g := 26) (tg := 68) rfl rfl (by decide) (by decide) rfl d26 rfl rfl fun K hK => ?_
            change OwnN W 0 (vals 31) _ at d31
            simp only [gFr, d27, d26] at hK ⊢
            go_simp
            refine (equal_ints (HA.out.grow g).nums d31.nums (by have := HLL.out; omega) (by have := HLL.out; omega)).use ?_
            intro W' hg
            exact hK _ _ hg (by show Value.bool _ = _; simp)
          · obtain ⟨d26, d32, _⟩ := d
            change vals 26 = _ at d26
            change vals 32 = _ at d32
            refine gOp_one rfl rfl rfl fun K hK => ?_
            simp only [gFr, d26, d32] at hK ⊢
            go_simp
            exact hK _ _ (G.refl _) rfl
          · obtain ⟨d33, _⟩ := d
            change vals 33 = _ at d33
            refine gOp_one rfl rfl rfl fun K hK => ?_
            simp only [gFr, d33] at hK ⊢
            go_simp
            exact hK _ _ (G.refl _) rfl
          · obtain ⟨d34, _⟩ := d
            change vals 34 = _ at d34
            refine gOp_yes2 (t := 77) (g := 34) (tg := 76) rfl rfl (by decide) (by decide) rfl d34 rfl rfl fun K hK => ?_
            simp only [gFr, d34] at hK ⊢
            go_simp
            exact hK _ _ (G.refl _) rfl
          · obtain ⟨d34, _⟩ := d
            change vals 34 = _ at d34
            refine gOp_yes2 (t := 78) (g := 34) (tg := 76) rfl rfl (by decide) (by decide) rfl d34 rfl rfl fun K hK => ?_
            simp only [gFr, d34] at hK ⊢
            have c0 := (HB.out.grow g).c0
            have c1 := (HB.out.grow g).c1
            go_simp
            exact hK _ _ (G.refl _) rfl
          · obtain ⟨d34, _⟩ := d
            change vals 34 = _ at d34
            refine gOp_yes2 (t := 79) (g := 34) (tg := 76) rfl rfl (by decide) (by decide) rfl d34 rfl rfl fun K hK => ?_
            simp only [gFr, d34] at hK ⊢
            go_simp
            exact hK _ _ (G.refl _) rfl
          · obtain ⟨d37, d34, _, _⟩ := d
            change vals 37 = _ at d37
            change vals 34 = _ at d34
            refine gOp_yes2 (t := 80) (g := 34) (tg := 76) rfl rfl (by decide) (by decide) rfl d34 rfl rfl fun K hK => ?_
            simp only [gFr, d37, d34] at hK ⊢
            go_simp
            refine (upper_any s W (by omega)).use ?_
            intro W' hg
            exact hK _ _ hg rfl
          · obtain ⟨d36, d38, _, d34, _⟩ := d
            change vals 36 = _ at d36
            change vals 38 = _ at d38
            change vals 34 = _ at d34
            refine gOp_yes2 (t := 81) (g := 34) (tg := 76) rfl rfl (by decide) (by decide) rfl d34 rfl rfl fun K hK => ?_
            simp only [gFr, d36, d38, d34] at hK ⊢
            go_simp
            refine (all_any ver _ xs (upperL s) W (HI.out.grow (HG.out.trans g)) HFI.out (by rw [upper_len]; omega) (HM.out.grow (HG.out.trans g))).use ?_
            rintro v W' ⟨l', h1, h2⟩ hg
            exact hK _ _ hg (HSAME.out l' (Or.inr h1) ▸ h2.mono (Nat.zero_le _))
        · intro vals W g d
          simp only [gFacts_cons, gFacts_nil] at d
          obtain ⟨d0, d1, d2, d3, d4, d5, d6, d7, d8, d9, d10, d11, d12, d13, d14, d15, d16, d17, d18, d19, d20, d21, d22, d23, d24, d25, d26, d27, d28, d29, d30, d31, d32, d33, d34, d35, d36, d37, d38, d39, _⟩ := d
          change vals 0 = _ at d0
          change vals 3 = _ at d3
          change vals 4 = _ at d4
          change vals 5 = _ at d5
          change vals 6 = _ at d6
          change vals 7 = _ at d7
          change vals 8 = _ at d8
          change vals 9 = _ at d9
          change vals 10 = _ at d10
          change vals 11 = _ at d11
          change vals 12 = _ at d12
          change vals 13 = _ at d13
          change vals 14 = _ at d14
          change vals 15 = _ at d15
          change vals 16 = _ at d16
          change vals 17 = _ at d17
          change vals 18 = _ at d18
          change vals 19 = _ at d19
          change vals 20 = _ at d20
          change vals 21 = _ at d21
          change vals 22 = _ at d22
          change vals 23 = _ at d23
          change vals 24 = _ at d24
          change vals 25 = _ at d25
          change vals 26 = _ at d26
          change vals 27 = _ at d27
          change vals 28 = _ at d28
          change vals 29 = _ at d29
          change vals 30 = _ at d30
          change vals 32 = _ at d32
          change vals 33 = _ at d33
          change vals 34 = _ at d34
          change vals 35 = _ at d35
          change vals 36 = _ at d36
          change vals 37 = _ at d37
          change vals 38 = _ at d38
          have HG := hid (HG.out.trans g)
          obtain ⟨sa, sc, hsv, _⟩ := (show OwnN W 0 (vals 39) _ from d39).nums
          have HD := hid (show OwnN W 0 (vals 39) _ from d39)
          rw [hsv] at HD
          have HA := hid (HA.out.grow g)
          refine ⟨?_⟩
          show wpList _ _ _ [_, _, _] _ _
          simp only [gFr, d0, d3, d4, d5, d6, d7, d8, d9, d10, d11, d12, d13, d14, d15, d16, d17, d18, d19, d20, d21, d22, d23, d24, d25, d26, d27, d28, d29, d30, d32, d33, d34, d35, d36, d37, d38]
          clear d0 d3 d4 d5 d6 d7 d8 d9 d10 d11 d12 d13 d14 d15 d16 d17 d18 d19 d20 d21 d22 d23 d24 d25 d26 d27 d28 d29 d30 d32 d33 d34 d35 d36 d37 d38
          go_wp2_with fail
          refine (equal_ints HA.out.nums HD.out.nums (by have := HLL.out; omega) (by have := HLL.out; omega)).use ?_
          intro W2 g2
          have HG := hid (HG.out.trans g2)
          simp only [decide_true]
          go_wp2_with fail
          go_ret
          exact ⟨rfl, HG.out⟩

end Go.Proofs.YtniidkkldoijcaaDoor
