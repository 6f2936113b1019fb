/-
  THE WALK of JsonWraps.
-/
import Derived.Test.YtlejbindochiiaaDoorJsonBuild
import Derived.Test.YtlejbindochiiaaDoorJsonTree
import Derived.Test.YtlejbindochiiaaDoorTell
namespace Go.Proofs.YtlejbindochiiaaDoor
open Go.RowKit
set_option linter.unusedVariables false
set_option linter.unusedSimpArgs false

theorem wrap_more {j : Jt} (hr : rightJ 11 j = none) {t : List UInt8} (ht : writeJ 12 j = t) {key : List UInt8} (hk : badL key = none) :
    wrJ (.mk 6 [] [] [j, j]) = .tuple #[.string (S (91 :: (t ++ 44 :: (t ++ [93])))), .nilIface] ∧ wrJ (.mk 7 [] [key] [j]) = .tuple #[.string (S (123 :: (quoteJ key ++ 58 :: (t ++ [125])))), .nilIface] := by
  have h1 : rightJ 12 (.mk 6 [] [] [j, j]) = none := (wrap_arr 11 j).trans hr
  have h2 : rightJ 12 (.mk 7 [] [key] [j]) = none := (wrap_obj 11 hk).trans hr
  have h3 : writeJ 11 j = t := by rw [← ht]; exact (write_fuel 11 j hr).symm
  unfold wrJ
  rw [h1, h2, if_pos rfl, if_pos rfl, write_arr, write_obj, h3]
  exact ⟨by simp [errJ], by simp [errJ]⟩
theorem wrap_four {j : Jt} (hr : rightJ 11 j = some 4) {key : List UInt8} (hk : badL key = none) :
    wrJ (.mk 6 [] [] [j, j]) = .tuple #[.string (S []), eno 4] ∧ wrJ (.mk 7 [] [key] [j]) = .tuple #[.string (S []), eno 4] := by
  have h1 : rightJ 12 (.mk 6 [] [] [j, j]) = some 4 := (wrap_arr 11 j).trans hr
  have h2 : rightJ 12 (.mk 7 [] [key] [j]) = some 4 := (wrap_obj 11 hk).trans hr
  unfold wrJ
  rw [h1, h2]
  exact ⟨rfl, rfl⟩
theorem wrap_len {j : Jt} {key : List UInt8} (hk : badL key = none) (hkl : key.length ≤ 100) (hl : rightJ 12 j = none → (writeJ 12 j).length ≤ 10000000000) (hr12 : rightJ 12 j = none) :
    (rightJ 12 (.mk 6 [] [] [j, j]) = none → (writeJ 12 (.mk 6 [] [] [j, j])).length ≤ 10000000000000) ∧ (rightJ 12 (.mk 7 [] [key] [j]) = none → (writeJ 12 (.mk 7 [] [key] [j])).length ≤ 10000000000000) := by
  have h0 := hl hr12
  have hq := flat_six key
  refine ⟨fun h => ?_, fun h => ?_⟩
  · have hr : rightJ 11 j = none := (wrap_arr 11 j).symm.trans h
    have e : writeJ 12 j = writeJ 11 j := write_fuel 11 j hr
    rw [e] at h0
    rw [write_arr]
    simp only [List.length_append, List.length_cons, List.length_nil]; omega
  · have hr : rightJ 11 j = none := (wrap_obj 11 hk).symm.trans h
    have e : writeJ 12 j = writeJ 11 j := write_fuel 11 j hr
    rw [e] at h0
    rw [write_obj]
    unfold quoteJ
    simp only [List.length_append, List.length_cons, List.length_nil]; omega
set_option maxRecDepth 100000 in
set_option maxHeartbeats 8000000 in
theorem jsonWraps_walk (j : Jt) (n : Nat) (p : Nat → Prop) (v : Value) (key : List UInt8) (w : World) (hv : JAt n p w v j) (hs : ∀ d, SzJ 1048576 1048576 d j) (hk : key.length ≤ 140737488351232) (hE : LaidE w) : Gives 5 #[v, .string (S key)] w (.bool true) := by
  have WT := hid (weight_one hv hs)
  have HV := hid (hv.mono (q := fun _ => True) fun _ _ _ => trivial)
  have HS := hid hs
  have HE := hid hE
  obtain ⟨ka, kc, la, lc, rfl⟩ := hv.shape4
  clear hv hs hE
  obtain ⟨K, hK⟩ : ∃ K, wtJ 20 j = K := ⟨_, rfl⟩
  rw [hK] at WT
  have HK := hid hK
  clear hK
  go_enter Tryd.func5, Tryd.ntmps5
  go_upto_region 1 with fail
  generalize hw0 : World.alloc w _ = w0
  obtain ⟨B, hB⟩ : ∃ B, w.heap.size = B := ⟨_, rfl⟩
  rw [hB]
  have hb0 : w0.heap[B]? = some (.cells #[.int .i64 j.kind, .string (S j.text), .slice ka j.keys.length kc, .slice la j.list.length lc] 25) := by rw [← hw0, ← hB]; exact (MapKept.heap_alloc w _).1
  have G0 := hid (show G w w0 by rw [← hw0]; exact (G.refl _).alloc _)
  have H0 := hid hb0
  clear hw0 hb0 hB
  go_wp2_with fail
  refine (noted_any w0).mono ?_
  rintro e w1 ⟨rfl, g1⟩
  have hb1 := (g1.below.block _ (lt_of_row H0.out)).trans H0.out
  obtain ⟨c0, c1, c2, c3⟩ := box4 hb1
  have H1 := hid hb1
  have G1 := hid (G0.out.trans g1)
  clear g1 hb1 H0 G0
  go_wp2_with fail
  refine (WT.out w1 G1.out).mono ?_
  rintro e w2 ⟨rfl, g2⟩
  have hb2 := (g2.below.block _ (lt_of_row H1.out)).trans H1.out
  have H2 := hid hb2
  have G2 := hid (G1.out.trans g2)
  clear g2 c0 c1 c2 c3 H1 G1 WT
  by_cases hbig : 400 < K
  · have hd : decide ((400 : Int) < (K : Int)) = true := decide_eq_true (by omega)
    clear hbig hb2
    go_wp2_with fail
    go_ret
    exact ⟨rfl, G2.out⟩
  have hd : decide ((400 : Int) < (K : Int)) = false := decide_eq_false (by omega)
  have hle : wtJ 20 j ≤ 600 := by rw [HK.out]; omega
  have HSZ := hid (light_sz HS.out hle)
  have HLL := hid (light_len HS.out hle)
  have JR := hid (fun W (g : G w W) => jright_any 5000 1048576 n _ W _ j (by decide) (by decide) (HV.out.grow g) HSZ.out)
  clear hbig hle
  by_cases hkl : 100 < key.length
  · have hd2 : decide ((100 : Int) < (key.length : Int)) = true := decide_eq_true (by omega)
    clear hkl hb2
    go_wp2_with fail
    go_ret
    exact ⟨rfl, G2.out⟩
  have hd2 : decide ((100 : Int) < (key.length : Int)) = false := decide_eq_false (by omega)
  have hkey : key.length ≤ 100 := by omega
  obtain ⟨c0, c1, c2, c3⟩ := box4 hb2
  clear hkl hb2 hk
  cases hr : rightJ 12 j with
  | some c =>
    rw [hr] at JR
    simp only [errJ] at JR
    clear hr
    go_wp2_with fail
    refine (JR.out w2 G2.out).mono ?_
    rintro e w3 ⟨rfl, g3⟩
    have G3 := hid (G2.out.trans g3)
    clear g3 c0 c1 c2 c3
    go_wp2_with fail
    go_ret
    exact ⟨rfl, G3.out⟩
  | none =>
    rw [hr] at JR
    simp only [errJ] at JR
    have HR := hid hr
    clear hr
    go_wp2_with fail
    refine (JR.out w2 G2.out).mono ?_
    rintro e w3 ⟨rfl, g3⟩
    have hb3 := (g3.below.block _ (lt_of_row H2.out)).trans H2.out
    have H3 := hid hb3
    have G3 := hid (G2.out.trans g3)
    clear c0 c1 c2 c3 g3
    obtain ⟨c0, c1, c2, c3⟩ := box4 hb3
    have hbad := fun W => bad_any key W (by omega)
    cases hb : badL key with
    | some i =>
      rw [hb] at hbad
      have BA := hid (show ∀ W, Pure 11 #[.string (S key)] W (.int .i64 (i : Int)) from hbad)
      clear hbad hb hb3 c0 c1 c2 c3
      go_wp2_with fail
      refine (BA.out _).use ?_
      go_wp2_with fail
      go_ret
      exact ⟨rfl, G3.out⟩
    | none =>
      rw [hb] at hbad
      have BA := hid (show ∀ W, Pure 11 #[.string (S key)] W (.int .i64 (-1)) from hbad)
      have HB := hid hb
      have hB3 := lt_of_row hb3
      clear hbad hb hb3
      go_wp2_with fail
      refine (BA.out _).use ?_
      go_upto_region 6 with fail
      obtain ⟨Q, hQ⟩ : ∃ Q, w3.heap.size = Q := ⟨_, rfl⟩
      generalize hw5 : World.alloc (World.alloc w3 _) _ = w5
      have l1 : w5.heap[Q]? = some (.cells #[.int .i64 j.kind, .string (S j.text), .slice ka j.keys.length kc, .slice la j.list.length lc, .int .i64 j.kind, .string (S j.text), .slice ka j.keys.length kc, .slice la j.list.length lc] 25) := by rw [← hw5, ← hQ]; exact row_alloc ((MapKept.heap_alloc w3 _).1) (by simp)
      have a1 : w5.heap[Q + 1]? = some (.cells #[.int .i64 6, .string (S []), .slice none 0 0, .slice (some ⟨Q, 0, none⟩) 2 2] 25) := by rw [← hw5, ← hQ]; exact heap_of_drew _ _ _ (by simp)
      have b5 : w5.heap[B]? = some (.cells #[.int .i64 j.kind, .string (S j.text), .slice ka j.keys.length kc, .slice la j.list.length lc] 25) := by rw [← hw5]; exact row_alloc (row_alloc H3.out (lt_of_row H3.out)) (by have := lt_of_row H3.out; simp; omega)
      have s5 : w5.heap.size = Q + 2 := by rw [← hw5, ← hQ]; simp
      have G5 := hid (show G w w5 by rw [← hw5]; exact (G3.out.alloc _).alloc _)
      rw [hQ]
      obtain ⟨k0, k1, k2, k3⟩ := box4 (row_alloc (x := .cells #[.string (S key)] 9) b5 (lt_of_row b5))
      have L1 := hid l1
      have A1 := hid a1
      have B5 := hid b5
      have S5 := hid s5
      clear hw5 hQ l1 a1 b5 c0 c1 c2 c3 hB3 H3
      go_upto_region 7 with fail
      clear k0 k1 k2 k3
      generalize hw6 : World.alloc (World.alloc (World.alloc w5 _) _) _ = w6
      have b6 : w6.heap[B]? = some (.cells #[.int .i64 j.kind, .string (S j.text), .slice ka j.keys.length kc, .slice la j.list.length lc] 25) := by rw [← hw6]; exact row_alloc (row_alloc (row_alloc B5.out (lt_of_row B5.out)) (by have := lt_of_row B5.out; simp; omega)) (by have := lt_of_row B5.out; simp; omega)
      have l1 : w6.heap[Q]? = some (.cells #[.int .i64 j.kind, .string (S j.text), .slice ka j.keys.length kc, .slice la j.list.length lc, .int .i64 j.kind, .string (S j.text), .slice ka j.keys.length kc, .slice la j.list.length lc] 25) := by rw [← hw6]; exact row_alloc (row_alloc (row_alloc L1.out (lt_of_row L1.out)) (by simp; omega)) (by simp; omega)
      have a1 : w6.heap[Q + 1]? = some (.cells #[.int .i64 6, .string (S []), .slice none 0 0, .slice (some ⟨Q, 0, none⟩) 2 2] 25) := by rw [← hw6]; exact row_alloc (row_alloc (row_alloc A1.out (lt_of_row A1.out)) (by simp; omega)) (by simp; omega)
      have k1 : w6.heap[Q + 2]? = some (.cells #[.string (S key)] 9) := by rw [← hw6]; exact row_alloc (row_alloc (heap_of_drew _ _ _ (by omega)) (by simp; omega)) (by simp; omega)
      have l2 : w6.heap[Q + 2 + 1]? = some (.cells #[.int .i64 j.kind, .string (S j.text), .slice ka j.keys.length kc, .slice la j.list.length lc] 25) := by rw [← hw6]; exact row_alloc (heap_of_drew _ _ _ (by simp; omega)) (by simp; omega)
      have o2 : w6.heap[Q + 2 + 1 + 1]? = some (.cells #[.int .i64 7, .string (S []), .slice (some ⟨Q + 2, 0, none⟩) 1 1, .slice (some ⟨Q + 2 + 1, 0, none⟩) 1 1] 25) := by
        rw [← hw6]; exact heap_of_drew _ _ _ (by simp; omega)
      have G6 := hid (show G w w6 by rw [← hw6]; exact ((G5.out.alloc _).alloc _).alloc _)
      have hx : JAt n (fun _ => True) w6 (.agg #[.int .i64 j.kind, .string (S j.text), .slice ka j.keys.length kc, .slice la j.list.length lc]) j := HV.out.grow G6.out
      have TA := JAt.two (k := 6) (strs_none w6) l1 hx hx
      have TO := JAt.one (k := 7) (strs_block (n := 1) (ks := [key]) k1 rfl rfl (by decide)) l2 hx
      have hsz11 := HSZ.out.less
      have hlen := wrap_len HB.out hkey HLL.out HR.out
      have JA := hid (fun W (g : G w6 W) => jwrite_any 5000 1048576 (n + 1) _ W _ _ (by decide) (by decide) (TA.grow g) (sz_built (d := 11) (by simp) (by simp) (by simp) (by intro y hy; simp at hy; subst hy; exact hsz11)) hlen.1)
      have JO := hid (fun W (g : G w6 W) => jwrite_any 5000 1048576 (n + 1) _ W _ _ (by decide) (by decide) (TO.grow g) (sz_built (d := 11) (by simp) (by simp) (by intro q hq; simp at hq; subst hq; omega) (by intro y hy; simp at hy; subst hy; exact hsz11)) hlen.2)
      have J0 := hid (fun W (g : G w6 W) => jwrite_any 5000 1048576 n _ W _ j (by decide) (by decide) (hx.grow g) HSZ.out (fun h => by have := HLL.out h; omega))
      obtain ⟨c0, c1, c2, c3⟩ := box4 b6
      have A6 := hid a1
      have O6 := hid o2
      clear hw6 b6 l1 a1 k1 l2 o2 hx TA TO hsz11 hlen L1 A1 B5 s5 S5 H2
      obtain ⟨t, ht⟩ : ∃ t, writeJ 12 j = t := ⟨_, rfl⟩
      have htl : t.length ≤ 10000000000 := by rw [← ht]; exact HLL.out HR.out
      have e0 : wrJ j = .tuple #[.string (S t), .nilIface] := by unfold wrJ; rw [HR.out, if_pos rfl, ht]; rfl
      rw [e0] at J0
      have hE6 := HE.out.grow G6.out
      have HE6 := hid hE6
      clear e0 hE6
      rcases right_less 11 j HR.out with hr11 | hr11
      · obtain ⟨ea, eo⟩ := wrap_more hr11 ht HB.out (key := key)
        rw [ea] at JA
        rw [eo] at JO
        obtain ⟨q, hq⟩ : ∃ q, quoteJ key = q := ⟨_, rfl⟩
        have hql : q.length ≤ 1000 := by
          have h8 := flat_six key
          rw [← hq]; unfold quoteJ; simp only [List.length_append, List.length_cons, List.length_nil]; omega
        have HSF := hid (show hasE (123 :: (q ++ 58 :: (t ++ [125]))) (58 :: (t ++ [125])) = true from hasE_append (123 :: q) (58 :: (t ++ [125])))
        have HPF := hid (show hasP (123 :: (q ++ 58 :: (t ++ [125]))) [123, 34] = true by rw [← hq]; rfl)
        rw [hq] at JO
        clear ea eo hr11 ht hq
        go_wp2_with fail
        refine (J0.out _ (G.refl _)).mono ?_
        rintro e w7 ⟨rfl, g7⟩
        have a7 := (g7.below.block _ (lt_of_row A6.out)).trans A6.out
        have o7 := (g7.below.block _ (lt_of_row O6.out)).trans O6.out
        have G7 := hid g7
        have O7 := hid o7
        clear g7 c0 c1 c2 c3 o7
        obtain ⟨c0, c1, c2, c3⟩ := box4 a7
        clear a7
        go_wp2_with fail
        refine (JA.out _ G7.out).mono ?_
        rintro e w8 ⟨rfl, g8⟩
        have o8 := (g8.below.block _ (lt_of_row O7.out)).trans O7.out
        have G8 := hid (G7.out.trans g8)
        clear g8 c0 c1 c2 c3
        obtain ⟨c0, c1, c2, c3⟩ := box4 o8
        clear o8
        go_wp2_with fail
        refine (JO.out _ G8.out).mono ?_
        rintro e w9 ⟨rfl, g9⟩
        have G9 := hid (G6.out.trans (G8.out.trans g9))
        clear g9 c0 c1 c2 c3
        go_wp2_with fail
        refine (hasSuffix_any (123 :: (q ++ 58 :: (t ++ [125]))) (58 :: (t ++ [125])) _ (by simp only [List.length_cons, List.length_append, List.length_nil]; omega)).use ?_
        rw [HSF.out]
        go_wp2_with fail
        refine (prefW_any (123 :: (q ++ 58 :: (t ++ [125]))) [123, 34] true _ rfl HPF.out _).use ?_
        go_wp2_with fail
        go_ret
        exact ⟨rfl, G9.out⟩
      · obtain ⟨ea, eo⟩ := wrap_four hr11 HB.out (key := key)
        rw [ea] at JA
        rw [eo] at JO
        clear ea eo hr11 ht
        go_wp2_with fail
        refine (J0.out _ (G.refl _)).mono ?_
        rintro e w7 ⟨rfl, g7⟩
        have a7 := (g7.below.block _ (lt_of_row A6.out)).trans A6.out
        have o7 := (g7.below.block _ (lt_of_row O6.out)).trans O6.out
        have G7 := hid g7
        have O7 := hid o7
        clear g7 c0 c1 c2 c3 o7
        obtain ⟨c0, c1, c2, c3⟩ := box4 a7
        clear a7
        go_wp2_with fail
        refine (JA.out _ G7.out).mono ?_
        rintro e w8 ⟨rfl, g8⟩
        have o8 := (g8.below.block _ (lt_of_row O7.out)).trans O7.out
        have G8 := hid (G7.out.trans g8)
        clear g8 c0 c1 c2 c3
        obtain ⟨c0, c1, c2, c3⟩ := box4 o8
        clear o8
        go_wp2_with fail
        refine (JO.out _ G8.out).mono ?_
        rintro e w9 ⟨rfl, g9⟩
        have G69 := hid (G8.out.trans g9)
        clear g9 c0 c1 c2 c3
        go_wp2_with fail
        refine (tell_eno 4 w9 (HE6.out.grow G69.out)).use ?_
        intro w10 g10
        have G10 := hid (G69.out.trans g10)
        clear g10
        go_wp2_with fail
        refine (tell_eno 4 w10 (HE6.out.grow G10.out)).use ?_
        intro w11 g11
        have G11 := hid (G6.out.trans (G10.out.trans g11))
        clear g11
        go_wp2_with fail
        go_ret
        exact ⟨rfl, G11.out⟩

end Go.Proofs.YtlejbindochiiaaDoor
