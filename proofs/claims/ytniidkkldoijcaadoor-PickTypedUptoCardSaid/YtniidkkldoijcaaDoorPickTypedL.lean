/-
  The law PickTyped walked. (printed by gen_picktyped.py)
-/
import Derived.Test.YtniidkkldoijcaaDoorTyped
import Derived.Test.YtniidkkldoijcaaDoorEdit
import Derived.Test.YtniidkkldoijcaaDoorChosen
import Derived.Test.YtniidkkldoijcaaDoorMVeil
import Derived.Test.YtniidkkldoijcaaDoorOpenItem
namespace Go.Proofs.YtniidkkldoijcaaDoor
open Go.RowKit Stab
set_option linter.unusedVariables false
set_option linter.unusedSimpArgs false

theorem nums_at {w : World} {a : Option Addr} {n c : Nat} {l : List Int} {m : Nat} {i : Int} (h : IsNums w (.slice a n c) l) (hm : l[m]? = some i) : ∃ b off, a = some ⟨b, off, none⟩ ∧ w.cell? ⟨b, off + m, none⟩ = some (.int .i64 i) := by
  obtain ⟨a', cap, e, hc, h2⟩ := h
  obtain ⟨b, off, e2, hb, h3⟩ := h2 (by rintro rfl; simp at hm)
  cases e
  exact ⟨b, off, e2, h3 m i hm⟩
theorem cells_ne {w : World} {b : Nat} {c c' : Array Value} {t t' : TypeId} {f f' : Nat × Nat} (h : w.heap[b]? = some (.cells c t f)) (h' : w.heap[b]? = some (.cells c' t' f')) : t = t' := by
  rw [h] at h'
  cases h'
  rfl
theorem map_step {f : It → It} {xs : List It} {k : Nat} {x : It} (hx : xs[k]? = some x) : ((xs.take k).map f ++ xs.drop k)[k]? = some x ∧ ((xs.take k).map f ++ xs.drop k).set k (f x) = (xs.take (k + 1)).map f ++ xs.drop (k + 1) := by
  obtain ⟨hk, rfl⟩ := List.getElem?_eq_some_iff.1 hx
  have hl : ((xs.take k).map f).length = k := by simp; omega
  constructor
  · rw [List.getElem?_append_right (by omega), hl, Nat.sub_self, List.getElem?_drop]
    simp
  · rw [List.set_append_right _ _ (by omega), hl, Nat.sub_self, List.drop_eq_getElem_cons hk, List.set_cons_zero, List.take_add_one, List.getElem?_eq_getElem hk]
    simp only [Option.toList_some, List.map_append, List.map_cons, List.map_nil, List.append_assoc, List.singleton_append]
/-- the second loop: the items ahead of k have the type -/
def TyI (w1 w13 : World) (Bd : Nat) (ver : Int) (ua : Option Addr) (uc : Nat) (xs : List It) (f : It → It) (k : Nat) (W : World) : Prop :=
  G w1 W ∧ W.cell? ⟨Bd, 0, none⟩ = some (.int .i64 ver) ∧ W.cell? ⟨Bd, 1, none⟩ = some (.slice ua xs.length uc) ∧ (xs ≠ [] → ∃ D, ua = some ⟨D, 0, none⟩ ∧ Bd < D ∧ w1.heap.size ≤ D ∧ ED w13 D uc ((xs.take k).map f ++ xs.drop k) W)
theorem TyI.step {w1 w13 : World} {Bd : Nat} {ver : Int} {D uc : Nat} {xs : List It} {f : It → It} {k : Nat} {W W' : World} {i : Nat} {v : Value} (h : TyI w1 w13 Bd ver (some ⟨D, 0, none⟩) uc xs f k W) (g : G W W') (hB : Bd < D) (hw : w1.heap.size ≤ D) (he : ED w13 D uc ((xs.take (k + 1)).map f ++ xs.drop (k + 1)) (W'.setCell ⟨D, i, none⟩ v)) : TyI w1 w13 Bd ver (some ⟨D, 0, none⟩) uc xs f (k + 1) (W'.setCell ⟨D, i, none⟩ v) := by
  obtain ⟨h1, h2, h3, _⟩ := h
  refine ⟨Below.setCell (h1.trans g) (p := ⟨D, i, none⟩) hw _, ?_, ?_, fun _ => ⟨D, rfl, hB, hw, he⟩⟩
  · rw [World.cell?_setCell_other _ _ _ _ (by intro e; cases e; omega), g.cell (World.block_lt_of_cell? _ _ h2)]; exact h2
  · rw [World.cell?_setCell_other _ _ _ _ (by intro e; cases e; omega), g.cell (World.block_lt_of_cell? _ _ h3)]; exact h3
def typPhi (ver : Int) (iv : Value) (xs : List It) (s kind : List UInt8) (k : Nat) (v : Value) (W : World) : Prop :=
  match k with
  | 0 => v = .agg #[.int .i64 ver, iv]
  | 1 => v = .string (S s)
  | 2 => ∃ l, Sorted (keyL xs) (idxL (ofName s) xs) l ∧ OwnN W 0 v l
  | 3 => v = .agg #[.int .i64 ver, iv]
  | 4 => v = .string (S s)
  | 5 => v = .string (S kind)
  | 6 => TypedP xs s kind 0 v W
  | _ => True
def typPsi (Bd D n uc m : Nat) (pv : Value) (n0 : Nat) (qs : List PmC) (kind : List UInt8) (b : Bool) (k : Nat) (v : Value) (W : World) : Prop :=
  match k with
  | 0 => v = .pointer (some ⟨Bd, 1, none⟩)
  | 1 => v = .slice (some ⟨D, 0, none⟩) n uc
  | 2 => v = .int .i64 (m : Int)
  | 3 => v = .pointer (some ⟨Bd, 1, none⟩)
  | 4 => v = .slice (some ⟨D, 0, none⟩) n uc
  | 5 => v = .int .i64 (m : Int)
  | 6 => v = .pointer (some ⟨D, m * 15, none⟩)
  | 7 => v = .pointer (some ⟨D, m * 15 + 2, none⟩)
  | 8 => v = pv
  | 9 => b = false → W.ownsRow n0 52 2 v qs.length (qs.flatMap cellsP)
  | 10 => v = .string (S kind)
  | 11 => b = false → ∃ kb, v = .slice (some ⟨kb, 0, none⟩) 1 1 ∧ n0 ≤ kb ∧ W.heap[kb]? = some (.cells #[.string (S kind)] 9 (0, 0))
  | 12 => b = false → ∃ kb, v = .agg #[.string (S typeP), .slice (some ⟨kb, 0, none⟩) 1 1] ∧ n0 ≤ kb ∧ W.heap[kb]? = some (.cells #[.string (S kind)] 9 (0, 0))
  | 13 => b = false → ∃ pb kb, v = .slice (some ⟨pb, 0, none⟩) 1 1 ∧ n0 ≤ pb ∧ W.heap[pb]? = some (.cells #[.string (S typeP), .slice (some ⟨kb, 0, none⟩) 1 1] 52 (0, 0)) ∧ n0 ≤ kb ∧ W.heap[kb]? = some (.cells #[.string (S kind)] 9 (0, 0))
  | 14 => b = true ∧ ∃ kb g cap, v = .slice (some ⟨g, 0, none⟩) (qs.length + 1) cap ∧ W.ownsRow n0 52 2 v (qs.length + 1) (qs.flatMap cellsP ++ [.string (S typeP), .slice (some ⟨kb, 0, none⟩) 1 1]) ∧ n0 ≤ kb ∧ W.heap[kb]? = some (.cells #[.string (S kind)] 9 (0, 0))
  | 15 => v = .pointer (some ⟨D, m * 15, none⟩)
  | 16 => v = .pointer (some ⟨D, m * 15 + 2, none⟩)
  | _ => True
set_option maxRecDepth 100000 in
set_option maxHeartbeats 40000000 in
theorem pickTyped_walk (ver : Int) (iv : Value) (xs : List It) (s kind : List UInt8) (w : World) (h : IsItems w iv xs) (hf : iv = .slice none 0 0 ∨ ∃ a n c, iv = .slice (some a) n c) (hl : xs.length ≤ 1048576) (hL : ∀ y ∈ xs, lenI y ≤ 1048576) (hs : s.length ≤ 140737488351232) (hk : kind.length ≤ 140737488351232) (hM : RMem w) :
    Gives 5 #[cardV ver iv, .string (S s), .string (S kind)] w (.bool true) := by
  have HF := hid hf
  have HI := hid h
  have HM := hid hM
  have HL := hid (fun y hy => lim_of (hL y hy))
  obtain ⟨ia, ic, rfl, _⟩ := h.len
  clear hf h hM hL
  unfold cardV
  go_enter Tryd.func5, Tryd.ntmps5
  go_wp2_with fail
  generalize hw5 : (World.alloc w _) = w5
  have hB : CardAt w5 w.heap.size ver (.slice ia xs.length ic) xs := by rw [← hw5]; exact CardAt.new HI.out
  have g5 : G w w5 := by rw [← hw5]; exact (G.refl w).alloc _
  clear hw5
  refine (chosen_any w5 (HM.out.grow g5)).use ?_
  intro w6 g6
  have HB := hid (hB.grow g6)
  have HG := hid (g5.trans g6)
  clear g5 g6 hB
  have c0 := HB.out.c0
  have c1 := HB.out.c1
  go_wp2_with fail
  have hbg := big_any ver _ xs w6 HB.out.it (HL.out) hl
  obtain ⟨t1, ht1⟩ : ∃ t, bigC xs = t := ⟨_, rfl⟩
  rw [ht1] at hbg
  have HT1 := hid ht1
  refine hbg.use ?_
  clear hbg ht1
  intro w8 g8
  have HB := hid (HB.out.grow g8)
  have HG := hid (HG.out.trans g8)
  clear g8 c0 c1
  cases t1 with
  | true =>
    go_wp2_with fail
    go_ret
    exact ⟨rfl, HG.out⟩
  | false =>
  by_cases hsl : 100 < s.length + kind.length
  · have hsi : (100 : Int) < (s.length : Int) + (kind.length : Int) := by omega
    go_wp2_with fail
    go_ret
    exact ⟨rfl, HG.out⟩
  have hsi : ¬ (100 : Int) < (s.length : Int) + (kind.length : Int) := by omega
  have hs40 := (bigC_small HT1.out).1
  have HFI := hid (fine_small HT1.out)
  go_wp2_with fail
  refine wp_region_any (by kernel_rfl) ?_
  refine wpAny_veiled (E := #[false, false, false, false, false, false, false, false, false]) G 7 (typPhi ver (.slice ia xs.length ic) xs s kind) [some [], some [], some [(0, 26), (1, 27)], some [], some [], some [], some [(3, 29), (4, 30), (5, 31)], none, none] [(0, 26), (1, 27), (2, 28), (3, 29), (4, 30), (5, 31), (6, 32)] _ (by kernel_rfl) (by decide) (by kernel_rfl) (by kernel_rfl) rfl G.refl (fun _ _ _ => G.trans) (w0 := w8) ((G.refl w8).drew) ?_ ?_ ?_
  · intro k v W W' g h
    match k, h with
    | 0, h => exact h
    | 1, h => exact h
    | 2, h => exact by obtain ⟨l, h1, h2⟩ := h; exact ⟨l, h1, h2.grow g⟩
    | 3, h => exact h
    | 4, h => exact h
    | 5, h => exact h
    | 6, h => exact by obtain ⟨l, h1, h2⟩ := h; exact ⟨l, h1, h2.grow g⟩
    | n + 7, h => trivial
  · refine gAll_some (fun vals W g d => ?_) <| gAll_some (fun vals W g d => ?_) <| gAll_some (fun vals W g d => ?_) <| gAll_some (fun vals W g d => ?_) <| gAll_some (fun vals W g d => ?_) <| gAll_some (fun vals W g d => ?_) <| gAll_some (fun vals W g d => ?_) <| gAll_none <| gAll_none gAll_nil
    · refine gOp_one rfl rfl rfl fun K hK => ?_
      simp only [gFr] at hK ⊢
      have c0 := (HB.out.grow g).c0
      have c1 := (HB.out.grow g).c1
      go_simp
      exact hK _ _ (G.refl _) rfl
    · refine gOp_one rfl rfl rfl fun K hK => ?_
      simp only [gFr] at hK ⊢
      go_simp
      exact hK _ _ (G.refl _) rfl
    · obtain ⟨d0, d1, _⟩ := d
      change vals 0 = _ at d0
      change vals 1 = _ at d1
      refine gOp_one rfl rfl rfl fun K hK => ?_
      simp only [gFr, d0, d1] at hK ⊢
      go_simp
      refine (all_any ver _ xs s W (HI.out.grow (HG.out.trans g)) HFI.out (by omega) (HM.out.grow (HG.out.trans g))).use ?_
      rintro v W' ⟨l, h1, h2⟩ hg
      exact hK _ _ hg ⟨l, h1, h2.mono (Nat.zero_le _)⟩
    · refine gOp_one rfl rfl rfl fun K hK => ?_
      simp only [gFr] at hK ⊢
      have c0 := (HB.out.grow g).c0
      have c1 := (HB.out.grow g).c1
      go_simp
      exact hK _ _ (G.refl _) rfl
    · refine gOp_one rfl rfl rfl fun K hK => ?_
      simp only [gFr] at hK ⊢
      go_simp
      exact hK _ _ (G.refl _) rfl
    · refine gOp_one rfl rfl rfl fun K hK => ?_
      simp only [gFr] at hK ⊢
      go_simp
      exact hK _ _ (G.refl _) rfl
    · obtain ⟨d3, d4, d5, _⟩ := d
      change vals 3 = _ at d3
      change vals 4 = _ at d4
      change vals 5 = _ at d5
      refine gOp_one rfl rfl rfl fun K hK => ?_
      simp only [gFr, d3, d4, d5] at hK ⊢
      go_simp
      refine (typed_any ver _ xs s kind W (HI.out.grow (HG.out.trans g)) HFI.out (by omega) (by omega) (HM.out.grow (HG.out.trans g))).use ?_
      rintro v W' ⟨l, h1, h2⟩ hg
      exact hK _ _ hg ⟨l, h1, h2.mono (Nat.zero_le _)⟩
  · intro vals W g d
    simp only [gFacts_cons, gFacts_nil] at d
    obtain ⟨d0, d1, d2, d3, d4, d5, d6, _⟩ := d
    change vals 0 = _ at d0
    change vals 1 = _ at d1
    change vals 3 = _ at d3
    change vals 4 = _ at d4
    change vals 5 = _ at d5
    have HG := hid (HG.out.trans g)
    have HB := hid (HB.out.grow g)
    obtain ⟨l, hl9, hao⟩ := (show ∃ l, Sorted (keyL xs) (idxL (ofName s) xs) l ∧ OwnN W 0 (vals 2) l from d2)
    obtain ⟨l1, hl1, hso⟩ := (show TypedP xs s kind 0 (vals 6) W from d6)
    obtain rfl := sorted_unique hl1 hl9
    have HA := hid hao
    have HSO := hid hso
    have HSRT := hid hl9
    obtain ⟨la, lc, hlv, _⟩ := hao.nums
    obtain ⟨sa, sc, hsv, _⟩ := hso.nums
    rw [hlv] at HA
    rw [hsv] at HSO
    clear hl1 hl9 hao hso d2 d6
    refine ⟨?_⟩
    show wpList _ _ _ [_, _] _ _
    simp only [gFr, d0, d1, d3, d4, d5]
    clear d0 d1 d3 d4 d5
    rw [hlv, hsv]
    clear hlv hsv
    have hll := all_len HSRT.out
    have hfl := List.length_filter_le (typedI xs kind) l1
    obtain ⟨p, hp⟩ : ∃ p, typedI xs kind = p := ⟨_, rfl⟩
    have HP := hid hp
    rw [hp] at HSO hfl ⊢
    clear hp
    generalize hsn : (l1.filter p).length = sn at hfl HSO ⊢
    have HSN := hid hsn
    clear hsn
    go_wp2_with fail
    go_loopw [9, 11, 35] (fun k9 _ i wr => ∃ m k : Nat, m ≤ l1.length ∧ i = .int .i64 (m : Int) ∧ k9 = .int .i64 (k : Int) ∧ Hid (k = ((l1.take m).filter p).length) ∧ wr = W) (fun _ _ i _ => l1.length - (intOf i).toNat)
    case atStart => exact ⟨0, 0, Nat.zero_le _, rfl, rfl, hid rfl, rfl⟩
    case round =>
      obtain ⟨m, k, hm, rfl, rfl, HK, rfl⟩ := hrel
      by_cases hlt : m < l1.length
      · obtain ⟨a, hae⟩ : ∃ a, l1[m]? = some a := ⟨_, List.getElem?_eq_getElem hlt⟩
        obtain ⟨b, off, rfl, cA⟩ := nums_at HA.out.nums hae
        obtain ⟨hy, hn⟩ := filter_step (p := p) hae
        have hltz : (m : Int) < (l1.length : Int) := by omega
        have hks : k ≤ sn := by rw [HK.out, ← HSN.out]; exact ((List.take_sublist m l1).filter p).length_le
        cases hpa : p a with
        | true =>
          obtain ⟨h1, h2⟩ := hy hpa
          rw [← HK.out] at h1
          have hk1 := (List.getElem?_eq_some_iff.1 h1).1
          rw [HSN.out] at hk1
          have hkz : (k : Int) < (sn : Int) := by omega
          obtain ⟨b2, off2, rfl, cS⟩ := nums_at HSO.out.nums h1
          have HK2 := hid (show k + 1 = ((l1.take (m + 1)).filter p).length by rw [h2, HK.out])
          clear hy hn h1 h2 hae hpa
          go_wp2_with fail
          go_roundw
          case measure => simp [intOf]; omega
          case rel => exact ⟨m + 1, k + 1, by omega, by go_num, by go_num, HK2, trivial⟩
        | false =>
          obtain ⟨h1, h2⟩ := hn hpa
          have HK2 := hid (show k = ((l1.take (m + 1)).filter p).length by rw [h2, HK.out])
          rw [← HK.out] at h1
          by_cases hk1 : k < sn
          · obtain ⟨j, hj⟩ : ∃ j, (l1.filter p)[k]? = some j := ⟨_, List.getElem?_eq_getElem (by rw [HSN.out]; exact hk1)⟩
            have hne := h1 j hj
            have hkz : (k : Int) < (sn : Int) := by omega
            obtain ⟨b2, off2, rfl, cS⟩ := nums_at HSO.out.nums hj
            clear hy hn h1 h2 hae hpa hj
            go_wp2_with fail
            go_roundw
            case measure => simp [intOf]; omega
            case rel => exact ⟨m + 1, k, by omega, by go_num, rfl, HK2, trivial⟩
          · have hkz : ¬ (k : Int) < (sn : Int) := by omega
            clear hy hn h1 h2 hae hpa
            go_wp2_with fail
            go_roundw
            case measure => simp [intOf]; omega
            case rel => exact ⟨m + 1, k, by omega, by go_num, rfl, HK2, trivial⟩
      · obtain rfl : m = l1.length := by omega
        have hks : k = sn := by rw [HK.out, List.take_length, HSN.out]
        subst hks
        have hltz : ¬ (l1.length : Int) < (l1.length : Int) := by omega
        obtain ⟨w10, rfl⟩ : ∃ w10, w10 = wr := ⟨_, rfl⟩
        have c0 := HB.out.c0
        have c1 := HB.out.c1
        obtain ⟨cs, hcs, hrs⟩ := (HI.out.grow HG.out).lies
        have HCS := hid hcs
        have HRS := hid hrs
        have hltB := HB.out.lt
        clear hcs hrs hltz
        go_wp2_with fail
        generalize hw11 : World.alloc w10 _ = w11
        have g11 : G w10 w11 := by rw [← hw11]; exact (G.refl _).alloc _
        have hbd : BR w11 w10.heap.size 24 [.int .i64 ver, .slice ia xs.length ic] w11 := ⟨mv_refl _ _, by rw [← hw11]; exact heap_alloc_new w10 _⟩
        have hz11 : w11.heap.size = w10.heap.size + 1 := by rw [← hw11]; simp
        have HC := hid (clone_items (.slice ia xs.length ic) xs.length cs w10 HCS.out HF.out (by omega) w11 g11 w11.heap.size (Nat.le_refl _))
        have HBD := hid hbd
        have HG11 := hid g11
        have HZ11 := hid hz11
        clear hw11 g11 hbd hz11 c0 c1
        refine HC.out.mono ?_
        rintro e w12 ⟨u, rfl, ho, g12⟩
        have HO := hid ho
        have hbd := HBD.out.grow g12
        have d1 := hbd.cell (i := 1) (v := .slice ia xs.length ic) rfl
        have f1 := hbd.fz 1
        obtain ⟨ua, uc, rfl⟩ := (ho.lies (by have := HCS.out.2.1; exact this)).form
        have HBD2 := hid (hbd.set 1 (.slice ua xs.length uc))
        have HG12 := hid g12
        clear hbd ho g12 HC
        go_wp2_with fail
        generalize hw13 : World.setCell w12 _ _ = w13
        rw [hw13] at HBD2
        have e0 := HBD2.out.cell (i := 0) (v := .int .i64 ver) rfl
        have e1 := HBD2.out.cell (i := 1) (v := .slice ua xs.length uc) rfl
        have HG13 : Hid (G w10 w13) := hid (by rw [← hw13]; exact Below.setCell (HG11.out.trans HG12.out) (p := ⟨w10.heap.size, 1, none⟩) (Nat.le_refl _) _)
        have HT : Hid (TyI w10 w13 w10.heap.size ver ua uc xs (withType kind) 0 w13) := hid (by
          refine ⟨HG13.out, e0, e1, fun h0 => ?_⟩
          rcases HO.out.2 with ⟨e, h00⟩ | ⟨D, cap, cur, e, hD, hg, h1, h2, h3, h4⟩
          · exact absurd (List.eq_nil_of_length_eq_zero h00) h0
          · cases e
            have hz := HZ11.out
            refine ⟨D, rfl, by omega, by omega, ?_⟩
            have ho13 : OwnR w11.heap.size w13 (.slice (some ⟨D, 0, none⟩) xs.length uc) xs.length cs := HO.out.same fun b hb _ => by rw [← hw13]; exact Below.heap_setCell _ _ _ _ (by simp only; omega)
            exact ED.start ho13 HRS.out rfl HG13.out (by omega))
        clear d1 f1 e0 hw13 HBD HBD2 HO HG11 HG12
        generalize hBd : w10.heap.size = Bd at HT e1 ⊢
        have HBE := hid hBd
        clear hBd
        go_wp2_with fail
        go_loopw [13, 62] (fun _ i wr => ∃ m : Nat, m ≤ xs.length ∧ i = .int .i64 (m : Int) ∧ TyI w10 w13 Bd ver ua uc xs (withType kind) m wr) (fun _ i _ => xs.length - (intOf i).toNat)
        case atStart => exact ⟨0, Nat.zero_le _, rfl, HT.out⟩
        case round =>
          obtain ⟨m, hm, rfl, hT⟩ := hrel
          have HT := hid hT
          obtain ⟨t1, t2, t3, t4⟩ := hT
          have HGW := hid t1
          clear t1
          by_cases hlt : m < xs.length
          · obtain ⟨D, rfl, hBD, hwD, hE⟩ := t4 (by rintro rfl; simp at hlt)
            obtain ⟨x, hx⟩ : ∃ x, xs[m]? = some x := ⟨_, List.getElem?_eq_getElem hlt⟩
            obtain ⟨hx1, hx2⟩ := map_step (f := withType kind) hx
            obtain ⟨pv, lv, hok, hcell, hfz, hset⟩ := hE.at_ hx1
            have ep := hcell 2 pv rfl
            have ez := t3
            have hB1 := World.block_lt_of_cell? _ _ t3
            have hD1 := hE.lt
            have fz2 := hfz (m * 15 + 2)
            obtain ⟨qs, hq1, hq2, hq3⟩ := hok.p.row hok.f
            have hql : qs.length = x.ps.length := by rw [← hq1]; simp
            have hxb := big_small ((bigC_small HT1.out).2 x (List.mem_of_getElem? hx))
            have hpl := ps_le x
            obtain ⟨pa, pc, rfl⟩ := hok.pv
            have CLN := hid (fun W (g : G wr W) => clone_pm (.slice pa x.ps.length pc) qs.length (qs.flatMap cellsP) wr (hq3.sub (Wo.sub D wr)) (by omega) W g)
            obtain ⟨i0, hi, hz0, hz1, hz2⟩ := info_parts infoParam
            have hmz : (m : Int) < (xs.length : Int) := by omega
            have HX := hid (show qs.map (·.1) = x.ps ∧ (∀ y ∈ qs, IsStrs (Wo D wr) (slP y) y.1.2) ∧ ItOk (Wo D wr) x (.slice pa x.ps.length pc) lv from ⟨hq1, hq2, hok⟩)
            have HSET := hid hset
            have HX2 := hid hx2
            clear hq1 hq2 hq3 hok hset hcell hfz hx hx1 hx2 hE t2 t3 t4
            go_wp2_with fail
            refine wp_region_any (by kernel_rfl) ?_
            refine wpAny_turned (E := #[false, false, false, false, false, false, false, false, false, false, false, false, false, false, false, false, false, false]) (fun _ y => G wr y) G (Below wr.heap.size) 14 17 (typPsi Bd D xs.length uc m (.slice pa x.ps.length pc) wr.heap.size qs kind) [some [], some [(0, 65)], some [], some [], some [(3, 68)], some [], some [(4, 69), (5, 70)], some [(6, 71)], some [(7, 72)], some [(8, 73)], some [], some [(10, 75)], some [(11, 76)], some [(12, 77)], some [(9, 74), (13, 78), (9, 74)], some [(1, 66), (2, 67), (1, 66), (2, 67)], some [(15, 80)], none] [(0, 65), (1, 66), (2, 67), (3, 68), (4, 69), (5, 70), (6, 71), (7, 72), (8, 73), (9, 74), (10, 75), (11, 76), (12, 77), (13, 78), (14, 79), (15, 80), (16, 81)] _ (by kernel_rfl) (by kernel_rfl) rfl (by decide) (by kernel_rfl) (by kernel_rfl) rfl G.refl (fun x => Below.refl _ x) (fun _ _ _ h k => G.trans h k) (fun _ _ _ h k => Below.trans h k) ((G.refl wr).drew) ?_ ?_ ?_ ?_
            · intro b k v W W' g h
              match k, h with
              | 0, h => exact h
              | 1, h => exact h
              | 2, h => exact h
              | 3, h => exact h
              | 4, h => exact h
              | 5, h => exact h
              | 6, h => exact h
              | 7, h => exact h
              | 8, h => exact h
              | 9, h => exact fun e => World.ownsRow.kept (h e) (mv_of none g) (by cases hv : v.ownBlock <;> simp)
              | 10, h => exact h
              | 11, h => exact fun e => by obtain ⟨kb, h1, h2, h3⟩ := h e; exact ⟨kb, h1, h2, (g.below.block _ (Array.getElem?_eq_some_iff.1 h3).1).trans h3⟩
              | 12, h => exact fun e => by obtain ⟨kb, h1, h2, h3⟩ := h e; exact ⟨kb, h1, h2, (g.below.block _ (Array.getElem?_eq_some_iff.1 h3).1).trans h3⟩
              | 13, h => exact fun e => by obtain ⟨pb, kb, h1, h2, h3, h4, h5⟩ := h e; exact ⟨pb, kb, h1, h2, (g.below.block _ (Array.getElem?_eq_some_iff.1 h3).1).trans h3, h4, (g.below.block _ (Array.getElem?_eq_some_iff.1 h5).1).trans h5⟩
              | 14, h => exact by obtain ⟨e, kb, g1, cap, h1, h2, h3, h4⟩ := h; exact ⟨e, kb, g1, cap, h1, World.ownsRow.kept h2 (mv_of none g) (by cases hv : v.ownBlock <;> simp), h3, (g.below.block _ (Array.getElem?_eq_some_iff.1 h4).1).trans h4⟩
              | 15, h => exact h
              | 16, h => exact h
              | n + 17, h => trivial
            · intro k v W W' g h
              match k, h with
              | 0, h => exact h
              | 1, h => exact h
              | 2, h => exact h
              | 3, h => exact h
              | 4, h => exact h
              | 5, h => exact h
              | 6, h => exact h
              | 7, h => exact h
              | 8, h => exact h
              | 9, h => exact fun e => (by cases e)
              | 10, h => exact h
              | 11, h => exact fun e => (by cases e)
              | 12, h => exact fun e => (by cases e)
              | 13, h => exact fun e => (by cases e)
              | 14, h => exact by obtain ⟨e, _⟩ := h; cases e
              | 15, h => exact h
              | 16, h => exact h
              | n + 17, h => trivial
            · refine gAll2_some (by decide) (fun b vals W g d => ?_) <| gAll2_some (by decide) (fun b vals W g d => ?_) <| gAll2_some (by decide) (fun b vals W g d => ?_) <| gAll2_ahead (by decide) (by kernel_rfl) (fun vals W g d => ?_) <| gAll2_ahead (by decide) (by kernel_rfl) (fun vals W g d => ?_) <| gAll2_ahead (by decide) (by kernel_rfl) (fun vals W g d => ?_) <| gAll2_ahead (by decide) (by kernel_rfl) (fun vals W g d => ?_) <| gAll2_ahead (by decide) (by kernel_rfl) (fun vals W g d => ?_) <| gAll2_ahead (by decide) (by kernel_rfl) (fun vals W g d => ?_) <| gAll2_ahead (by decide) (by kernel_rfl) (fun vals W g d => ?_) <| gAll2_ahead (by decide) (by kernel_rfl) (fun vals W g d => ?_) <| gAll2_ahead (by decide) (by kernel_rfl) (fun vals W g d => ?_) <| gAll2_ahead (by decide) (by kernel_rfl) (fun vals W g d => ?_) <| gAll2_ahead (by decide) (by kernel_rfl) (fun vals W g d => ?_) <| gAll2_here rfl (fun vals W g d => ?_) <| gAll2_some (by decide) (fun b vals W g d => ?_) <| gAll2_some (by decide) (fun b vals W g d => ?_) <| gAll2_none gAll2_nil
              · refine gOp_one rfl rfl rfl fun K hK => ?_
                simp only [gFr] at hK ⊢
                go_simp
                exact hK _ _ (G.refl _) rfl
              · obtain ⟨d0, _⟩ := d
                change vals 0 = _ at d0
                refine gOp_one rfl rfl rfl fun K hK => ?_
                simp only [gFr, d0] at hK ⊢
                have s1 := (g.cell (p := ⟨Bd, 1, none⟩) hB1).trans ez
                go_simp
                exact hK _ _ (G.refl _) rfl
              · refine gOp_one rfl rfl rfl fun K hK => ?_
                simp only [gFr] at hK ⊢
                go_simp
                exact hK _ _ (G.refl _) rfl
              · refine gOp_one rfl rfl rfl fun K hK => ?_
                simp only [gFr] at hK ⊢
                go_simp
                exact hK _ _ (G.refl _) rfl
              · obtain ⟨d3, _⟩ := d
                change vals 3 = _ at d3
                refine gOp_one rfl rfl rfl fun K hK => ?_
                simp only [gFr, d3] at hK ⊢
                have s1 := (g.cell (p := ⟨Bd, 1, none⟩) hB1).trans ez
                go_simp
                exact hK _ _ (G.refl _) rfl
              · refine gOp_one rfl rfl rfl fun K hK => ?_
                simp only [gFr] at hK ⊢
                go_simp
                exact hK _ _ (G.refl _) rfl
              · obtain ⟨d4, d5, _⟩ := d
                change vals 4 = _ at d4
                change vals 5 = _ at d5
                refine gOp_one rfl rfl rfl fun K hK => ?_
                simp only [gFr, d4, d5] at hK ⊢
                have hmm := hmz
                go_simp
                exact hK _ _ (G.refl _) rfl
              · obtain ⟨d6, _⟩ := d
                change vals 6 = _ at d6
                refine gOp_one rfl rfl rfl fun K hK => ?_
                simp only [gFr, d6] at hK ⊢
                go_simp
                exact hK _ _ (G.refl _) rfl
              · obtain ⟨d7, _⟩ := d
                change vals 7 = _ at d7
                refine gOp_one rfl rfl rfl fun K hK => ?_
                simp only [gFr, d7] at hK ⊢
                have s2 := (g.cell (p := ⟨D, m * 15 + 2, none⟩) hD1).trans ep
                go_simp
                exact hK _ _ (G.refl _) rfl
              · obtain ⟨d8, _⟩ := d
                change vals 8 = _ at d8
                refine gOp_one rfl rfl rfl fun K hK => ?_
                simp only [gFr, d8] at hK ⊢
                go_simp
                refine (CLN.out W g).mono ?_
                rintro e W' ⟨u, rfl, hown, hg⟩
                exact hK _ _ hg fun _ => ownsRow_mono hown g.size
              · refine gOp_one rfl rfl rfl fun K hK => ?_
                simp only [gFr] at hK ⊢
                go_simp
                exact hK _ _ (G.refl _) rfl
              · obtain ⟨d10, _⟩ := d
                change vals 10 = _ at d10
                refine gOp_one rfl rfl rfl fun K hK => ?_
                simp only [gFr, d10] at hK ⊢
                go_simp
                exact hK _ _ ((G.refl _).alloc _) fun _ => ⟨W.heap.size, rfl, g.size, heap_alloc_new W _⟩
              · obtain ⟨d11, _⟩ := d
                refine gOp_one rfl rfl rfl fun K hK => ?_
                obtain ⟨kb, h1, h2, h3⟩ := d11 rfl
                simp only [gFr] at hK ⊢
                simp only [h1] at hK ⊢
                go_simp
                exact hK _ _ (G.refl _) fun _ => ⟨kb, rfl, h2, h3⟩
              · obtain ⟨d12, _⟩ := d
                refine gOp_one rfl rfl rfl fun K hK => ?_
                obtain ⟨kb, h1, h2, h3⟩ := d12 rfl
                simp only [gFr] at hK ⊢
                simp only [h1] at hK ⊢
                go_simp
                exact hK _ _ ((G.refl _).alloc _) fun _ => ⟨W.heap.size, kb, rfl, g.size, heap_alloc_new W _, h2, by rw [Lib.alloc_old _ _ _ (Array.getElem?_eq_some_iff.1 h3).1]; exact h3⟩
              · obtain ⟨d9, d13, _, _⟩ := d
                refine gOp_one rfl rfl rfl fun K hK => ?_
                have hown := d9 rfl
                obtain ⟨pb, kb, h1, h2, h3, h4, h5⟩ := d13 rfl
                simp only [gFr, h1] at hK ⊢
                refine wp_append_lies W (.tmp 74) (.tmp 78) 25 rfl wr.heap.size 52 i0 _ 2 40 Tryd.underlying25 hi hz0 hz1 hz2 rfl (by decide) (vals 9) qs.length _ (by simp [Act.eval, Act.put]) hown ⟨pb, 0, none⟩ 1 1 [.string (S typeP), .slice (some ⟨kb, 0, none⟩) 1 1] (by simp [Act.eval, Act.put]) rfl (fun j u hu => by rw [addr_add, Nat.zero_add, cell_of_row W pb j _ _ _ h3]; simpa using hu) (by intro x hx; simp at hx; rcases hx with rfl | rfl <;> rfl) (by omega) (by unfold maxLen; omega) (by omega) g.size _ rfl ?_
                intro g1 cap w'' hown2 hgrow hat hlt2
                refine hK _ _ ((Below.refl wr.heap.size W).grown hgrow g.size (fun j hj => (hown.lt j hj).1)) ⟨rfl, kb, g1, cap, rfl, hown2, h4, ?_⟩
                refine (hgrow.block kb (Array.getElem?_eq_some_iff.1 h5).1 fun e => ?_).trans h5
                rcases hown.2 with ⟨e2, _⟩ | ⟨b2, c2, cur2, e2, _, hg2, _⟩
                · rw [e2] at e; cases e
                · rw [e2] at e
                  cases e
                  exact absurd (cells_ne h5 hg2) (by decide)
              · obtain ⟨d1, d2, _, _, _⟩ := d
                change vals 1 = _ at d1
                change vals 2 = _ at d2
                refine gOp_one rfl rfl rfl fun K hK => ?_
                simp only [gFr, d1, d2] at hK ⊢
                have hmm := hmz
                go_simp
                exact hK _ _ (G.refl _) rfl
              · obtain ⟨d15, _⟩ := d
                change vals 15 = _ at d15
                refine gOp_one rfl rfl rfl fun K hK => ?_
                simp only [gFr, d15] at hK ⊢
                go_simp
                exact hK _ _ (G.refl _) rfl
            · intro vals W g d
              simp only [gFacts_cons, gFacts_nil] at d
              obtain ⟨d0, d1, d2, d3, d4, d5, d6, d7, d8, d9, d10, d11, d12, d13, d14, d15, d16, _⟩ := d
              change vals 0 = _ at d0
              change vals 1 = _ at d1
              change vals 2 = _ at d2
              change vals 3 = _ at d3
              change vals 4 = _ at d4
              change vals 5 = _ at d5
              change vals 6 = _ at d6
              change vals 7 = _ at d7
              change vals 8 = _ at d8
              change vals 10 = _ at d10
              change vals 15 = _ at d15
              change vals 16 = _ at d16
              obtain ⟨_, kb, g1, cap, hv, hown2, h4, h5⟩ := d14
              have HOW := hid hown2
              have HKB := hid h5
              have h4z := h4
              have HGG := hid g
              rw [hv] at HOW
              clear hown2 h5 h4 d9 d11 d12 d13
              refine ⟨?_⟩
              show wpList _ _ _ [_] _ _
              simp only [gFr, d0, d1, d2, d3, d4, d5, d6, d7, d8, d10, d15, d16]
              clear d0 d1 d2 d3 d4 d5 d6 d7 d8 d10 d15 d16
              simp only [hv]
              have t2 := (HGG.out.cell (p := ⟨D, m * 15 + 2, none⟩) hD1).trans ep
              have t3 : W.frozen? ⟨D, m * 15 + 2, none⟩ = false := by rw [HGG.out.below.frozen (p := ⟨D, m * 15 + 2, none⟩) hD1]; exact fz2
              clear hv g
              go_wp2_with fail
              go_roundw
              case measure => simp [intOf]; omega
              case rel =>
                refine ⟨m + 1, by omega, by go_num, ?_⟩
                refine HT.out.step HGG.out hBD hwD ?_
                rw [← HX2.out]
                obtain ⟨hq1, hq2, hok⟩ := HX.out
                refine HSET.out W _ _ HGG.out ⟨?_, hok.l.grow (Wo.g HGG.out), .inr ⟨_, _, _, rfl⟩, hok.y, hok.t⟩
                have hsv : IsStrs (Wo D W) (.slice (some ⟨kb, 0, none⟩) 1 1) [kind] := by
                  have hk2 : (Wo D W).heap[kb]? = some (.cells #[.string (S kind)] 9 (0, 0)) := by
                    rw [Wo.other D W kb (by omega)]; exact HKB.out
                  refine ⟨⟨rfl, by intro u hu; simp at hu; subst hu; rfl, .inr ⟨kb, 0, 1, rfl, (Array.getElem?_eq_some_iff.1 hk2).1, Nat.zero_lt_one, fun j hj => ?_⟩⟩, Nat.le_refl _⟩
                  obtain rfl : j = 0 := by simp at hj; omega
                  rw [cell_of_row _ kb (0 + 0) _ _ _ hk2]
                  rfl
                have := params_more (nm := typeP) (fun y hy => (hq2 y hy).grow (Wo.g HGG.out)) hsv (G.refl _) (own_wo HOW.out hD1)
                rw [hq1, hql] at this
                exact this
          · obtain rfl : m = xs.length := by omega
            have hitems : IsItems wr (.slice ua xs.length uc) (xs.map (withType kind)) := by
              by_cases h0 : xs = []
              · subst h0; exact items_nil _ _ _
              · obtain ⟨D, rfl, _, _, hE⟩ := t4 h0
                have := hE.items
                simp only [List.take_length, List.drop_length, List.append_nil, List.length_map] at this
                exact this
            have hff := typed_fine (xs := xs) HT1.out (kind := kind) (by omega)
            have htp := typed_any ver (.slice ua xs.length uc) (xs.map (withType kind)) s kind wr hitems hff (by omega) (by omega) (HM.out.grow (HG.out.trans HGW.out))
            have HTP := hid htp
            have HAZ := hid (HA.out.grow HGW.out)
            clear hitems hff htp t4
            unfold cardV at HTP
            go_wp2_with fail
            refine HTP.out.use ?_
            rintro v w20 ⟨l2, hl2, ho2⟩ g20
            have hall := typed_all HSRT.out hl2
            rw [hall] at ho2
            obtain ⟨va, vc, hvv, _⟩ := ho2.nums
            have HO2 := hid (ho2.mono (Nat.zero_le _))
            rw [hvv] at HO2
            have HAY := hid (HAZ.out.grow g20)
            have HGE := hid ((HG.out.trans HGW.out).trans g20)
            subst hvv
            clear ho2 hl2 hall g20
            go_wp2_with fail
            refine (equal_ints HO2.out.nums HAY.out.nums (by omega) (by omega)).use ?_
            intro w21 g21
            simp only [decide_true]
            go_wp2_with fail
            go_ret
            exact ⟨rfl, HGE.out.trans g21⟩

end Go.Proofs.YtniidkkldoijcaaDoor
