/-
  The law PickGroups walked.
-/
import Derived.Test.YtniidkkldoijcaaDoorPickMorePlain
import Derived.Test.YtniidkkldoijcaaDoorChosen
import Derived.Test.YtniidkkldoijcaaDoorMSeen
import Derived.Test.YtniidkkldoijcaaDoorOpenItem
namespace Go.Proofs.YtniidkkldoijcaaDoor
open Go.RowKit Stab
set_option linter.unusedVariables false
set_option linter.unusedSimpArgs false

theorem infoStrG : (Tryd.prog.info? 9).map (fun i => (i.zero, i.size, i.bytes)) = some (some (.string ⟨#[]⟩), 1, 16) := by kernel_rfl
/-- a row of texts of the call's own -/
def OwnT (w : World) (base : Nat) (v : Value) (ds : List (List UInt8)) : Prop := w.ownsRow base 9 1 v ds.length (ds.map fun d => .string (S d))
theorem OwnT.kept {w w' : World} {base C : Nat} {v : Value} {ds : List (List UInt8)} (h : OwnT w base v ds) (g : w.grownBy w' (some C)) (hC : C < base) : OwnT w' base v ds := by
  refine World.ownsRow.kept h g ?_
  rcases h.2 with ⟨rfl, _⟩ | ⟨b, cap, cur, rfl, hb, _⟩
  · exact .inl rfl
  · right
    show some b ≠ some C
    intro e
    cases e
    omega
theorem OwnT.grow {w w' : World} {base : Nat} {v : Value} {ds : List (List UInt8)} (h : OwnT w base v ds) (g : G w w') : OwnT w' base v ds :=
  World.ownsRow.kept h (mv_of none g) (by cases hv : v.ownBlock <;> simp)
theorem OwnN.kept {w w' : World} {base C : Nat} {v : Value} {ds : List Int} (h : OwnN w base v ds) (g : w.grownBy w' (some C)) (hC : C < base) : OwnN w' base v ds := by
  refine World.ownsRow.kept h g ?_
  rcases h.2 with ⟨rfl, _⟩ | ⟨b, cap, cur, rfl, hb, _⟩
  · exact .inl rfl
  · right
    show some b ≠ some C
    intro e
    cases e
    omega
theorem containsT_any {w : World} {base : Nat} {v : Value} {ds : List (List UInt8)} (y : List UInt8) (h : OwnT w base v ds) (hl : ds.length ≤ 1000) : Pure 18 #[v, .string (S y)] w (.bool (decide (y ∈ ds))) := by
  have hh := h
  rcases h.2 with ⟨rfl, h0⟩ | ⟨g, cap, cur, rfl, hb, hg, hn, hm, hs, ht⟩
  · obtain rfl : ds = [] := List.eq_nil_of_length_eq_zero h0
    exact (Tryd.slices_Contains_string_empty none 0 (S y) w).mono (by rintro e w' ⟨rfl, rfl⟩; exact ⟨ret_bool (by simp), rfl⟩)
  · refine (Tryd.slices_Contains_string g 0 ds.length cap (ds.map S) (S y) w (by simp) (by omega) (fun j hj => ?_)).mono ?_
    · simp at hj
      have := World.ownsRow.cells hh (g := g) rfl j (.string (S ds[j])) (by simp [hj])
      rw [addr_add] at this
      rw [this]; simp [hj]
    · rintro e w' ⟨rfl, rfl⟩
      refine ⟨ret_bool ?_, rfl⟩
      rw [List.take_of_length_le (by simp)]
      have hm : S y ∈ ds.map S ↔ y ∈ ds := ⟨fun h => by obtain ⟨z, hz, e⟩ := List.mem_map.1 h; exact (S_inj.1 e) ▸ hz, fun h => List.mem_map.2 ⟨y, h, rfl⟩⟩
      rw [Bool.eq_iff_iff, decide_eq_true_eq, ← hm]
      exact Lib.containsS_iff _ _
theorem push_step {w9 wr W1 w11 : World} {C X : Nat} {dv : Value} {ds : List (List UInt8)} (hmv : w9.grownBy W1 (some C)) (hC : C < w9.heap.size) (r0 : OwnT wr w9.heap.size dv ds) (hX : wr.heap.size = X) (hXl : X < W1.heap.size) (r : OwnT W1 w9.heap.size dv ds) (hgrow : W1.grownBy w11 dv.ownBlock) :
    w9.grownBy w11 (some C) ∧ w11.heap[C]? = W1.heap[C]? ∧ w11.heap[X]? = W1.heap[X]? := by
  have hB := Below.grown (Below.refl w9.heap.size W1) hgrow hmv.size (fun j hj => (r.lt j hj).1)
  refine ⟨⟨hB.os.trans hmv.os, hB.tape.trans hmv.tape, hB.output.trans hmv.output, Nat.le_trans hmv.size hB.size, fun k hk hne => (hB.block k hk).trans (hmv.block k hk hne)⟩, hB.block C hC, hgrow.block X hXl fun e => ?_⟩
  have := (r0.lt X e.symm).2
  omega
theorem made_seen (n : Nat) (hn : n ≤ 1000) (W : World) : (Instr.makeSlice 35 (.int .i64 (n : Int)) (.int .i64 (n : Int))).run Tryd.prog W = .ok (.slice (some ⟨W.heap.size, 0, none⟩) n n) (W.alloc (.cells ((List.range n).map fun _ => Value.int .i64 0).toArray 3)) := by
  have h := run_make_row' (P := Tryd.prog) 35 3 (.int .i64 0) 8 Tryd.underlying35 info_intN rfl .i64 .i64 n (by omega) (by omega) W
  have e : madeCells #[Value.int .i64 0] n = ((List.range n).map fun _ => Value.int .i64 0).toArray := by
    apply Array.ext
    · simp [madeCells]
    · intro i h1 h2
      simp [madeCells, Nat.mod_one] at h1 ⊢
  rw [e] at h
  exact h
set_option maxRecDepth 100000 in
set_option maxHeartbeats 8000000 in
theorem pickGroups_walk (ver : Int) (iv : Value) (xs : List It) (w : World) (h : IsItems w iv xs) (hf : iv = .slice none 0 0 ∨ ∃ a n c, iv = .slice (some a) n c) (hl : xs.length ≤ 1048576) (hL : ∀ y ∈ xs, lenI y ≤ 1048576) (hM : RMem w) :
    Gives 4 #[cardV ver iv] w (.bool true) := by
  have HF := hid hf
  have HI := hid h
  have HM := hid hM
  have HL := hid (fun y hy => lim_of (hL y hy))
  obtain ⟨ia, ic, rfl, _⟩ := h.len
  clear hf h hM hL
  unfold cardV
  go_enter Tryd.func4, Tryd.ntmps4
  go_wp2_with fail
  generalize hw5 : (World.alloc w _) = w5
  have hB : CardAt w5 w.heap.size ver (.slice ia xs.length ic) xs := by rw [← hw5]; exact CardAt.new HI.out
  have g5 : G w w5 := by rw [← hw5]; exact (G.refl w).alloc _
  clear hw5
  refine (chosen_any w5 (HM.out.grow g5)).use ?_
  intro w6 g6
  have HB := hid (hB.grow g6)
  have HG := hid (g5.trans g6)
  clear g5 g6 hB
  have c0 := HB.out.c0
  have c1 := HB.out.c1
  go_wp2_with fail
  have hbg := big_any ver _ xs w6 HB.out.it (HL.out) hl
  obtain ⟨t1, ht1⟩ : ∃ t, bigC xs = t := ⟨_, rfl⟩
  rw [ht1] at hbg
  have HT1 := hid ht1
  refine hbg.use ?_
  clear hbg ht1
  intro w8 g8
  have HB := hid (HB.out.grow g8)
  have HG := hid (HG.out.trans g8)
  clear g8 c0 c1
  cases t1 with
  | true =>
    go_wp2_with fail
    go_ret
    exact ⟨rfl, HG.out⟩
  | false =>
  have c0 := HB.out.c0
  have c1 := HB.out.c1
  have hs40 := (bigC_small HT1.out).1
  have HFI := hid (fine_small HT1.out)
  have hmk := made_seen xs.length (by omega)
  obtain ⟨i0, hi, hz0, hz1, hz2⟩ := info_parts infoStrG
  have hlt := HB.out.lt
  go_wp2_with fail
  generalize hw9 : (World.alloc w8 _) = w9
  have g9 : G w8 w9 := by rw [← hw9]; exact (G.refl _).alloc _
  have hs9 : Sn w9 w8.heap.size xs.length (seenF xs []) := by
    refine Sn.congr (f := fun _ => 0) ?_ fun j _ => (seen_start xs j).symm
    unfold Sn
    rw [← hw9]
    exact heap_alloc_new w8 _
  have hz9 : w9.heap.size = w8.heap.size + 1 := by rw [← hw9]; simp
  have HIT := hid HB.out.it
  have GC := hid hlt
  clear hw9 hmk c0 c1 hlt
  go_loopw [4, 21] (fun dv i wr => ∃ k ds, k ≤ xs.length ∧ i = .int .i64 (k : Nat) ∧ OwnT wr w9.heap.size dv ds ∧ Sn wr w8.heap.size xs.length (seenF xs ds) ∧ (∀ j (x : It), j < k → xs[j]? = some x → lowerL x.g ∈ ds) ∧ ds.length ≤ k ∧ w9.grownBy wr (some w8.heap.size)) (fun _ i _ => xs.length - (intOf i).toNat)
  case atStart => exact ⟨0, [], Nat.zero_le _, rfl, World.ownsRow_nil _ _ _ _, hs9, fun j _ h => by omega, Nat.le_refl _, mv_refl _ _⟩
  case round =>
    obtain ⟨k, ds, hk, rfl, hown, hsn, hds, hdl, hmv⟩ := hrel
    have HO := hid hown
    have HS := hid hsn
    have HD := hid hds
    have HMV := hid hmv
    have HGR := hid (g_of_mv g9 hmv (Nat.le_refl _))
    clear hown hsn hds hmv
    by_cases hlt2 : k < xs.length
    · obtain ⟨b, off, cap, e, hb, hit⟩ := (HIT.out.grow HGR.out).at_ (by rintro rfl; simp at hlt2)
      cases e
      have hx := List.getElem?_eq_getElem hlt2
      obtain ⟨x, hxe⟩ : ∃ x, xs[k] = x := ⟨_, rfl⟩
      rw [hxe] at hx
      obtain ⟨pv, lv, hat⟩ := hit k x hx
      obtain ⟨pa, pc, rfl⟩ := hat.ok.pv
      obtain ⟨la, lc, rfl⟩ := hat.ok.lv
      obtain ⟨k0, k1, k2, k3, k4, k5, k6, k7, k8, k9, k10, k11, k12, k13, k14⟩ := hat.e
      have HX := hid hx
      have hkl : (k : Int) < (xs.length : Int) := by omega
      have hxb := big_small ((bigC_small HT1.out).2 x (List.mem_of_getElem? hx))
      have hgl : x.g.length ≤ x.big := by unfold It.big; omega
      clear hit hat hx hxe
      go_wp2_with fail
      refine (lower_any x.g _ (by omega)).use ?_
      intro w10 g10
      have hg10 := (((G.refl wr).alloc (.cells (x.cells (.slice pa x.ps.length pc) (.slice la x.v.ps.length lc)).toArray 32)).trans g10)
      have hbx : w10.cell? ⟨wr.heap.size, 0, none⟩ = some (.string (S x.g)) := by
        rw [g10.cell (by simp), cell_of_row _ _ 0 _ _ _ (heap_alloc_new wr _)]; rfl
      have HG10 := hid hg10
      have HBX := hid hbx
      have HBXL := hid (World.block_lt_of_cell? _ _ hbx)
      obtain ⟨t3, ht3⟩ : ∃ t, decide (lowerL x.g ∈ ds) = t := ⟨_, rfl⟩
      have hct := containsT_any (lowerL x.g) (OwnT.grow HO.out hg10) (by omega)
      rw [ht3] at hct
      have HCT := hid hct
      clear hct hbx g10 hg10 k0 k1 k2 k3 k4 k5 k6 k7 k8 k9 k10 k11 k12 k13 k14
      cases t3 with
      | true =>
        have hin : lowerL x.g ∈ ds := by simpa using ht3
        have HIN := hid hin
        clear ht3 hin
        go_wp2_with fail
        refine HCT.out.use ?_
        go_wp2_with fail
        go_roundw
        case measure => simp [intOf]; omega
        case rel => exact ⟨k + 1, ds, by omega, by go_num, OwnT.grow HO.out HG10.out, HS.out.grow HG10.out, fun j y hj hy => by
          rcases Nat.lt_or_ge j k with h | h
          · exact HD.out j y h hy
          · obtain rfl : j = k := by omega
            have := HX.out.symm.trans hy
            cases this
            exact HIN.out, by omega, mv_g HMV.out HG10.out⟩
      | false =>
        have hin : lowerL x.g ∉ ds := by simpa using ht3
        have HIN := hid hin
        clear ht3 hin
        have HOA := hid (OwnT.grow HO.out (HG10.out.alloc (.cells #[.string (S (lowerL x.g))] 9)))
        go_wp2_with fail
        refine HCT.out.use ?_
        go_wp2_with (at_builtin; refine wpList_append_own _ rfl _ _ 43 rfl w9.heap.size 9 i0 _ 1 16 Tryd.underlying43 hi hz0 hz1 hz2 rfl (by decide) _ _ _ rfl HOA.out ⟨w10.heap.size, 0, none⟩ 1 1 [.string (S (lowerL x.g))] rfl rfl (fun j u hu => by rw [addr_add, Nat.zero_add, cell_of_row _ _ j _ _ _ (heap_alloc_new w10 _)]; simpa using hu) (by intro u hu; rw [List.mem_singleton.1 hu]; rfl) (by unfold maxLen; omega) (by omega) (by have := HMV.out.size; have := HG10.out.size; simp; omega) ?_; intro v' w11 hown' hgrow hnil; obtain ⟨hmv2, hsc2, hsx2⟩ := push_step (mv_alloc (mv_g HMV.out HG10.out) (.cells #[.string (S (lowerL x.g))] 9)) (by omega) HO.out rfl (by have := HG10.out.size; have := HBXL.out; simp; omega) HOA.out hgrow; have HS2 := hid (show Sn w11 w8.heap.size xs.length (seenF xs ds) from hsc2.trans (HS.out.grow (HG10.out.alloc _))); have hbx2 : w11.cell? ⟨wr.heap.size, 0, none⟩ = some (.string (S x.g)) := (World.cell?_of_block (a := ⟨wr.heap.size, 0, none⟩) hsx2).trans (((G.refl w10).alloc _).cell (p := ⟨wr.heap.size, 0, none⟩) HBXL.out |>.trans HBX.out); have HMV2 := hid hmv2; have HGR2 := hid (g_of_mv g9 hmv2 (Nat.le_refl _)); have HO2 := hid (show OwnT w11 w9.heap.size v' (ds ++ [lowerL x.g]) by unfold OwnT; rw [List.map_append, List.length_append]; exact hown'); have c0 := (HB.out.grow HGR2.out).c0; have c1 := (HB.out.grow HGR2.out).c1; clear hown' hgrow hnil hmv2 hsc2 hsx2)
        refine (group_any ver _ xs x.g w11 (HIT.out.grow HGR2.out) HFI.out (by omega)).use ?_
        intro v w12 hgp g12
        have hgs := g12.size
        have hws := HMV2.out.size
        unfold GroupP at hgp
        have hsrt := idx_sorted (ofGroup x.g) xs 0
        have hlen := idx_len (ofGroup x.g) xs 0
        have hmem := fun (i : Int) (h : i ∈ idxL (ofGroup x.g) xs) => idx_lt h
        have hmore := fun (j : Nat) (hj : j < xs.length) => seen_more (ds := ds) HIN.out hj
        obtain ⟨l, hl0⟩ : ∃ l, idxL (ofGroup x.g) xs = l := ⟨_, rfl⟩
        rw [show idxFrom (ofGroup x.g) xs 0 = l from hl0] at hsrt hlen
        rw [hl0] at hgp hmem
        simp only [hl0] at hmore
        have HL2 := hid hgp
        have HMV3 := hid (mv_g HMV2.out g12)
        have HS3 := hid (HS2.out.grow g12)
        have HO3 := hid (OwnT.grow HO2.out g12)
        have HSRT := hid hsrt
        have HMEM := hid hmem
        have HMORE := hid hmore
        obtain ⟨lva, lvc, rfl, _⟩ := hgp.nums
        clear hgp g12 hsrt hmem hmore hl0 c0 c1 hbx2
        go_wp2_with fail
        go_loopw [40] (fun j wi => ∃ m, m ≤ l.length ∧ j = .int .i64 (m : Nat) ∧ w12.grownBy wi (some w8.heap.size) ∧ Sn wi w8.heap.size xs.length (fun j => seenF xs ds j + if (j : Int) ∈ l.take m then 1 else 0)) (fun j _ => l.length - (intOf j).toNat)
        case atStart => exact ⟨0, Nat.zero_le _, rfl, mv_refl _ _, HS3.out.congr fun j _ => by simp⟩
        case round =>
          obtain ⟨m, hm, rfl, hmvi, hsi⟩ := hrel
          have HMI := hid hmvi
          have HSI := hid hsi
          clear hmvi hsi
          by_cases hmt : m < l.length
          · have hli := List.getElem?_eq_getElem hmt
            obtain ⟨i, hie⟩ : ∃ i, l[m] = i := ⟨_, rfl⟩
            rw [hie] at hli
            obtain ⟨h0i, hin⟩ := HMEM.out i (List.mem_of_getElem? hli)
            obtain ⟨i0, rfl⟩ : ∃ i0 : Nat, i = (i0 : Int) := ⟨i.toNat, by omega⟩
            have hin2 : i0 < xs.length := by omega
            have hin3 : (i0 : Int) < (xs.length : Int) := by omega
            obtain ⟨la2, lc2, e2, _, hcc⟩ := (OwnN.kept HL2.out HMI.out (by omega)).nums
            obtain ⟨b2, o2, e3, _, hcc2⟩ := hcc (by rintro rfl; simp at hmt)
            subst e3
            cases e2
            have d1 := hcc2 m _ hli
            have d2 := HSI.out.cell hin2
            have d3 := HSI.out.fz i0
            have hq : ∃ q : Int, (seenF xs ds i0 + if (i0 : Int) ∈ l.take m then 1 else 0) = q ∧ 0 ≤ q ∧ q ≤ 2 := by
              refine ⟨_, rfl, ?_⟩
              unfold seenF
              split <;> split <;> (try split) <;> omega
            obtain ⟨q, hq1, hq2, hq3⟩ := hq
            simp only [hq1] at d2
            have HQ := hid hq1
            have hstep := take_more HSRT.out hli
            have HST := hid (fun j => hstep j h0i)
            have hml : (m : Int) < (l.length : Int) := by omega
            clear hcc hcc2 hli hie hq1 hstep hin
            go_wp2_with fail
            go_roundw
            case measure => simp [intOf]; omega
            case rel => exact ⟨m + 1, by omega, by go_num, mv_st HMI.out, (HSI.out.inc hin2 _ (by rw [HQ.out])).congr fun j hj => by have := HST.out j; simp only [Int.toNat_natCast] at this; rw [this]; omega⟩
          · obtain rfl : m = l.length := by omega
            have HSE := hid (HSI.out.congr (f' := seenF xs (ds ++ [lowerL x.g])) fun j hj => by rw [List.take_of_length_le (Nat.le_refl _)]; exact (HMORE.out j hj).symm)
            go_wp2_with fail
            go_roundw
            case measure => simp [intOf]; omega
            case rel => exact ⟨k + 1, ds ++ [lowerL x.g], by omega, by go_num, OwnT.kept HO3.out HMI.out (by omega), HSE.out, fun j y hj hy => by
              rcases Nat.lt_or_ge j k with h | h
              · exact List.mem_append.2 (.inl (HD.out j y h hy))
              · obtain rfl : j = k := by omega
                have := HX.out.symm.trans hy
                cases this
                simp, by simp; omega, mv_trans HMV3.out HMI.out⟩
    · obtain rfl : k = xs.length := by omega
      have hall := seen_all (xs := xs) (ds := ds) fun x hx => by
        obtain ⟨j, hj, e⟩ := List.mem_iff_getElem.1 hx
        exact HD.out j x hj (by rw [List.getElem?_eq_getElem hj, e])
      have hno := someNotOne_any (.slice (some ⟨w8.heap.size, 0, none⟩) xs.length xs.length) _ wr (HS.out.nums xs.length (Nat.le_refl _)) (by simp; omega) hall
      have HNO := hid hno
      clear hall hno
      go_wp2_with fail
      refine HNO.out.use ?_
      go_wp2_with fail
      go_ret
      exact ⟨rfl, HG.out.trans HGR.out⟩

end Go.Proofs.YtniidkkldoijcaaDoor
