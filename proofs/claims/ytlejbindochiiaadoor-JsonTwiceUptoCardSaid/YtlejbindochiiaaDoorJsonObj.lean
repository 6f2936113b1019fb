/-
  CONTRACT of json's reader: object (trees less deep are given).
-/
import Derived.Test.YtlejbindochiiaaDoorJsonTree
import Derived.Test.YtlejbindochiiaaDoorJsonObjL
import Derived.Carry
namespace Go.Proofs.YtlejbindochiiaaDoor
open Go.RowKit
set_option linter.unusedVariables false
set_option linter.unusedSimpArgs false

/-- what stands ahead of a key -/
def commaJ (ks : List (List UInt8)) (t : List UInt8) : JRs Unit := if ks = [] then .ok ((), t) else JRs.next (wantJ 44 t) fun _ t => .ok ((), blankJ t)
theorem memb_comma (f : List UInt8 → JRs Jt) (n : Nat) (ks : List (List UInt8)) (l : List UInt8) (h : isJ 125 l = none) : membJ f (n + 1) ks l = JRs.next (commaJ ks l) fun _ t =>
      JRs.next (strJ t) fun k u => if k ∈ ks then .error (9, t.length) else
        JRs.next (wantJ 58 (blankJ u)) fun _ v => JRs.next (f v) fun x w => JRs.next (membJ f n (ks ++ [k]) (blankJ w)) fun p z => .ok ((k :: p.1, x :: p.2), z) := by
  rw [membJ_step, h]; rfl
theorem comma_len {ks : List (List UInt8)} {t t1 : List UInt8} {v : Unit} (h : commaJ ks t = .ok (v, t1)) : t1.length ≤ t.length := by
  unfold commaJ at h
  split at h
  · injection h with h; injection h with _ h; rw [h]; exact Nat.le_refl _
  · obtain ⟨_, u, h1, h2⟩ := jnext_ok.1 h
    injection h2 with h2; injection h2 with _ h2; subst h2
    have := blank_len u
    rw [want_ok h1]; simp; omega
theorem str_len {l t s : List UInt8} (h : strJ l = .ok (s, t)) : t.length < l.length := by
  obtain ⟨a, e, _⟩ := str_loc h
  rw [e]; simp; omega
/-- what has been read, and what is to come -/
structure ObEq (d : Nat) (s l0 : List UInt8) (n0 : Nat) (ks : List (List UInt8)) (xs : List Jt) (t : List UInt8) (n : Nat) : Prop where
  eq : membJ (treeJ d) n0 [] l0 = JRs.next (membJ (treeJ d) n ks t) fun p u => .ok ((ks ++ p.1, xs ++ p.2), u)
  lt : t.length < n
  len : ks.length = xs.length
  cnt : ks.length + t.length ≤ s.length
section
variable {d : Nat} {s l0 : List UInt8} {n0 : Nat} {ks : List (List UInt8)} {xs : List Jt} {t : List UInt8} {n : Nat}
theorem ObEq.start (h : l0.length < n0) (hs : l0.length ≤ s.length) : ObEq d s l0 n0 [] [] l0 n0 :=
  ⟨by cases membJ (treeJ d) n0 [] l0 with | ok p => obtain ⟨a, t⟩ := p; rfl | error e => rfl, h, rfl, by simpa using hs⟩
theorem ObEq.end (h : ObEq d s l0 n0 ks xs t (n + 1)) {r : List UInt8} (hb : isJ 125 t = some r) : membJ (treeJ d) n0 [] l0 = .ok ((ks, xs), r) := by
  rw [h.eq, membJ_step, hb]; simp [JRs.next]
theorem ObEq.badC (h : ObEq d s l0 n0 ks xs t (n + 1)) {e : JEr} (hb : isJ 125 t = none) (hc : commaJ ks t = .error e) : membJ (treeJ d) n0 [] l0 = .error e := by
  rw [h.eq, memb_comma _ _ _ _ hb, hc]; rfl
variable {v : Unit} {t1 : List UInt8}
theorem ObEq.badK (h : ObEq d s l0 n0 ks xs t (n + 1)) {e : JEr} (hb : isJ 125 t = none) (hc : commaJ ks t = .ok (v, t1)) (hk : strJ t1 = .error e) : membJ (treeJ d) n0 [] l0 = .error e := by
  rw [h.eq, memb_comma _ _ _ _ hb, hc, jnext_pos, hk]; rfl
variable {k t2 : List UInt8}
theorem ObEq.twice (h : ObEq d s l0 n0 ks xs t (n + 1)) (hb : isJ 125 t = none) (hc : commaJ ks t = .ok (v, t1)) (hk : strJ t1 = .ok (k, t2)) (hm : k ∈ ks) : membJ (treeJ d) n0 [] l0 = .error (9, t1.length) := by
  rw [h.eq, memb_comma _ _ _ _ hb, hc, jnext_pos, hk, jnext_pos, if_pos hm]; rfl
theorem ObEq.badD (h : ObEq d s l0 n0 ks xs t (n + 1)) {e : JEr} (hb : isJ 125 t = none) (hc : commaJ ks t = .ok (v, t1)) (hk : strJ t1 = .ok (k, t2)) (hm : k ∉ ks) (hd : wantJ 58 (blankJ t2) = .error e) : membJ (treeJ d) n0 [] l0 = .error e := by
  rw [h.eq, memb_comma _ _ _ _ hb, hc, jnext_pos, hk, jnext_pos, if_neg hm, hd]; rfl
variable {v2 : Unit} {t3 : List UInt8}
theorem ObEq.badT (h : ObEq d s l0 n0 ks xs t (n + 1)) {e : JEr} (hb : isJ 125 t = none) (hc : commaJ ks t = .ok (v, t1)) (hk : strJ t1 = .ok (k, t2)) (hm : k ∉ ks) (hd : wantJ 58 (blankJ t2) = .ok (v2, t3)) (ht : treeJ d t3 = .error e) : membJ (treeJ d) n0 [] l0 = .error e := by
  rw [h.eq, memb_comma _ _ _ _ hb, hc, jnext_pos, hk, jnext_pos, if_neg hm, hd, jnext_pos, ht]; rfl
theorem ObEq.go (h : ObEq d s l0 n0 ks xs t (n + 1)) {x : Jt} {u : List UInt8} (hb : isJ 125 t = none) (hc : commaJ ks t = .ok (v, t1)) (hk : strJ t1 = .ok (k, t2)) (hm : k ∉ ks) (hd : wantJ 58 (blankJ t2) = .ok (v2, t3)) (ht : treeJ d t3 = .ok (x, u)) : ObEq d s l0 n0 (ks ++ [k]) (xs ++ [x]) (blankJ u) n := by
  have h1 := comma_len hc
  have h2 := str_len hk
  have h3 := blank_len t2
  have h4 : t3.length < (blankJ t2).length := by rw [want_ok hd]; simp
  have h5 := tree_len ht
  have h6 := blank_len u
  have h7 := h.lt
  have h8 := h.cnt
  refine ⟨?_, by omega, by simp [h.len], by simp; omega⟩
  rw [h.eq, memb_comma _ _ _ _ hb, hc, jnext_pos, hk, jnext_pos, if_neg hm, hd, jnext_pos, ht, jnext_pos]
  cases membJ (treeJ d) n (ks ++ [k]) (blankJ u) with
  | ok p => obtain ⟨a, t⟩ := p; simp [JRs.next]
  | error e => rfl
end
set_option maxRecDepth 100000 in
set_option maxHeartbeats 16000000 in
theorem obj_of (d : Nat) (hd : d + 1 ≤ 12) (ht : TreeC d) : ObjC d := by
  intro w R s l h hs
  obtain ⟨k, hk⟩ : ∃ k, 12 - d = k := ⟨_, rfl⟩
  have TC : Hid (∀ (W : World) (l : List UInt8), JRd W R s l → Calls Tryd.prog 19 #[.pointer (some ⟨R, 0, none⟩), .int .i64 ((k : Int) + 1)] W (JRdP s R (VJ W.heap.size d) (treeJ d l) W)) := hid (fun W l h => by have := ht W R s l h hs; rwa [show ((13 - d : Nat) : Int) = (k : Int) + 1 by omega] at this)
  rw [hk]
  have hkb : k + 1 ≤ 1000000 := by omega
  have H := hid h
  have hR := h.lt
  have HRW := hid hR
  have hls : l.length ≤ s.length := by obtain ⟨p, e, _⟩ := h; rw [e]; simp
  obtain ⟨i0, hi0, hz0, hz1, hz2⟩ := info_parts infoJson
  obtain ⟨j0, hj0, hy0, hy1, hy2⟩ := info_parts infoStr
  clear h ht hk
  have hmm := @run_makeMap Tryd.prog
  go_enter Tryd.func33, Tryd.ntmps33
  go_upto_region 3 with fail
  obtain ⟨X, hX⟩ : ∃ X, w.heap.size = X := ⟨_, rfl⟩
  generalize hwb : World.alloc (World.alloc (World.alloc w _) _) _ = wb
  have hbX : wb.heap[X]? = some (.cells #[.int .i64 0, .string (S []), .slice none 0 0, .slice none 0 0] 25) := by
    rw [← hwb, Below.heap_alloc _ _ _ (by simp; omega), Below.heap_alloc _ _ _ (by simp; omega), ← hX]; exact (MapKept.heap_alloc w _).1
  have hbJ : wb.heap[X + 1]? = some (.cells #[.int .i64 7, .string (S []), .slice none 0 0, .slice none 0 0] 25) := by
    rw [← hwb, Below.heap_alloc _ _ _ (by simp; omega), ← hX]; exact heap_of_drew _ _ _ (by simp)
  have hbM : wb.heap[X + 2]? = some (.map #[] 0) := by
    rw [← hwb, ← hX]; exact heap_of_drew _ _ _ (by simp)
  have hGw : G w wb := by rw [← hwb]; exact (((G.refl _).alloc _).alloc _).alloc _
  rw [hX]
  clear hwb hmm
  have OB := hid (show ObSt d w wb R s X (X + 1) (X + 2) [] [] [] (.slice none 0 0) (.slice none 0 0) [] l from ⟨hR, by omega, by omega, by omega, mv_of _ hGw, H.out.grow hGw, hbX, hbJ, ⟨_, _, hbM, seen_nil⟩, World.ownsRow_nil _ _ _ _, ElQ.nil _ _ _⟩)
  clear hbX hbJ hbM hGw
  have HX := hid hX
  clear hX
  go_wp2_with fail
  refine (jblank_any wb R s l OB.out.rd (by omega)).mono ?_
  rintro e w1 ⟨rfl, m1, h1⟩
  have O1 := hid (OB.out.go m1 h1)
  have EQ0 := hid (ObEq.start (d := d) (s := s) (l0 := blankJ l) (n0 := l.length + 1) (by have := blank_len l; omega) (by have := blank_len l; omega))
  clear m1 h1 OB
  go_wp2_with fail
  go_loopw [7, 8] (fun _ _ wr => ∃ ks xs kv lv vs t n, ObSt d w wr R s X (X + 1) (X + 2) ks ks xs kv lv vs t ∧ ObEq d s (blankJ l) (l.length + 1) ks xs t n) (fun _ _ wr => s.length - (intOf ((wr.cell? ⟨R, 1, none⟩).getD .nilIface)).toNat)
  case atStart => exact ⟨[], [], _, _, [], _, _, O1.out, EQ0.out⟩
  case round =>
    obtain ⟨ks, xs, kv, lv, vs, t, n, hst, heq⟩ := hrel
    obtain ⟨la, lc, rfl⟩ := slice_own hst.st.row
    obtain ⟨ka, kc, rfl⟩ := slice_own hst.keys
    obtain ⟨n, rfl⟩ : ∃ m, n = m + 1 := ⟨n - 1, by have := heq.lt; omega⟩
    have HKX := hid heq.len
    have hcnt := heq.cnt
    have AR := hid hst
    have AE := hid heq
    clear hst heq
    cases hb : isJ 125 t with
    | some r1 =>
      have HB := hid hb
      clear hb
      go_wp2_with fail
      refine (jis_any wr R s t 125 AR.out.rd (by omega)).mono ?_
      rw [HB.out]
      rintro e w7 ⟨rfl, m7, h7⟩
      have A7 := hid (AR.out.go m7 (show JRd w7 R s r1 from h7))
      have bx := A7.out.boxX
      have bj := A7.out.boxJ
      have x0 : w7.cell? ⟨X, 0, none⟩ = some (.int .i64 0) := by rw [cell_of_row w7 X 0 _ _ _ bx]; rfl
      have x1 : w7.cell? ⟨X, 1, none⟩ = some (.string (S [])) := by rw [cell_of_row w7 X 1 _ _ _ bx]; rfl
      have x2 : w7.cell? ⟨X, 2, none⟩ = some (.slice none 0 0) := by rw [cell_of_row w7 X 2 _ _ _ bx]; rfl
      have x3 : w7.cell? ⟨X, 3, none⟩ = some (.slice none 0 0) := by rw [cell_of_row w7 X 3 _ _ _ bx]; rfl
      have fx0 : w7.frozen? ⟨X, 0, none⟩ = false := frozen_of_row w7 X 0 _ _ bx
      have fx1 : w7.frozen? ⟨X, 1, none⟩ = false := frozen_of_row w7 X 1 _ _ bx
      have fx2 : w7.frozen? ⟨X, 2, none⟩ = false := frozen_of_row w7 X 2 _ _ bx
      have fx3 : w7.frozen? ⟨X, 3, none⟩ = false := frozen_of_row w7 X 3 _ _ bx
      have j0 : w7.cell? ⟨X + 1, 0, none⟩ = some (.int .i64 7) := by rw [cell_of_row w7 (X + 1) 0 _ _ _ bj]; rfl
      have j1 : w7.cell? ⟨X + 1, 1, none⟩ = some (.string (S [])) := by rw [cell_of_row w7 (X + 1) 1 _ _ _ bj]; rfl
      have j2 : w7.cell? ⟨X + 1, 2, none⟩ = some (.slice ka ks.length kc) := by rw [cell_of_row w7 (X + 1) 2 _ _ _ bj]; rfl
      have j3 : w7.cell? ⟨X + 1, 3, none⟩ = some (.slice la xs.length lc) := by rw [cell_of_row w7 (X + 1) 3 _ _ _ bj]; rfl
      clear m7 h7 bj
      have BX7 := hid bx
      clear bx
      go_wp2_with fail
      refine box_ret (X := X) rfl rfl rfl (box_put BX7.out) rfl ?_
      obtain ⟨p7, he7, ho7⟩ := A7.out.rd
      refine JRdP.yes (t := r1) (mv_putX A7.out.mv (by rw [HX.out]; omega)) (by unfold objJ; rw [AE.out.end HB.out]; rfl) ?_ ⟨p7, he7, ho7.putX (by have := HX.out; omega)⟩
      have tr := A7.out.st.tree (lo := X + 1) (k := 7) (t := []) A7.out.strs (fun h b e => by have := (A7.out.keys.lt b e).1; omega) (by omega)
      have hXX := HX.out
      show JAt (d + 1) (fun b => w.heap.size ≤ b) _ _ (.mk 7 [] ks xs)
      refine (tr.kept (by simp) fun b hb hlt => ?_).mono fun b hb _ => by omega
      rw [Below.heap_setCell _ _ _ _ (by simp; omega), Below.heap_setCell _ _ _ _ (by simp; omega), Below.heap_setCell _ _ _ _ (by simp; omega), Below.heap_setCell _ _ _ _ (by simp; omega)]
    | none =>
      have HB := hid hb
      clear hb
      go_wp2_with fail
      refine (jis_any wr R s t 125 AR.out.rd (by omega)).mono ?_
      rw [HB.out]
      rintro e w7 ⟨rfl, m7, h7⟩
      have A7 := hid (AR.out.go m7 (show JRd w7 R s t from h7))
      have bj := A7.out.boxJ
      have j3 : w7.cell? ⟨X + 1, 3, none⟩ = some (.slice la xs.length lc) := by rw [cell_of_row w7 (X + 1) 3 _ _ _ bj]; rfl
      clear m7 h7 bj
      go_upto_if 19 with fail
      obtain ⟨q, hq⟩ : ∃ q, decide (0 < xs.length) = q := ⟨_, rfl⟩
      rw [hq]
      have HQ1 := hid hq
      clear hq
      go_cut [] from 13 to 58 (fun wx => ∃ (v : Unit) (t1 : List UInt8), commaJ ks t = .ok (v, t1) ∧ w7.grownBy wx (some R) ∧ JRd wx R s t1)
      case first =>
        cases q with
        | false =>
          have hks : ks = [] := List.eq_nil_of_length_eq_zero (by have := HKX.out; have := of_decide_eq_false HQ1.out; omega)
          go_wp2_with fail
          go_meet
          exact ⟨(), t, by unfold commaJ; rw [if_pos hks], mv_refl _ _, A7.out.rd⟩
        | true =>
          have HKS := hid (show ks ≠ [] by rintro rfl; have hkx := HKX.out; have := of_decide_eq_true HQ1.out; simp at hkx; omega)
          go_wp2_with fail
          refine (jwant_any w7 R s t 44 A7.out.rd (by omega)).mono ?_
          intro e w8 hp8
          cases hw : wantJ 44 t with
          | error q =>
            obtain ⟨ec, ek⟩ := q
            rw [hw] at hp8
            obtain ⟨gm8, rfl⟩ := hp8.bad
            exact ⟨rfl, JRdP.no (mv_trans A7.out.mv gm8) (by unfold objJ; rw [AE.out.badC HB.out (by unfold commaJ; rw [if_neg HKS.out, hw]; rfl)]; rfl) rfl⟩
          | ok q =>
            obtain ⟨v, t1⟩ := q
            rw [hw] at hp8
            obtain ⟨gm8, v', rfl, rfl, hr8⟩ := hp8.ok
            have GM8 := hid gm8
            have HR8 := hid hr8
            have HW := hid hw
            clear hp8 gm8 hr8 hw
            go_wp2_with fail
            refine (jblank_any w8 R s t1 HR8.out (by omega)).mono ?_
            rintro e w9 ⟨rfl, m9, h9⟩
            have M9 := hid (mv_trans GM8.out m9)
            have H9 := hid h9
            clear m9 h9
            go_wp2_with fail
            go_meet
            exact ⟨(), _, by unfold commaJ; rw [if_neg HKS.out, HW.out]; rfl, M9.out, H9.out⟩
      case rest =>
        obtain ⟨v1, t1, hc, gm8, hr8⟩ := hcut
        have HC := hid hc
        have A8 := hid (A7.out.go gm8 hr8)
        obtain ⟨p8, he8, ho8⟩ := hr8
        have d1 := ho8.c1
        have HP8 := hid (show s.length - t1.length = p8.length by rw [he8]; simp)
        clear hc gm8 he8 ho8 j3
        go_wp2_with fail
        refine (jtext_any wc R s t1 A8.out.rd (by omega)).mono ?_
        intro e w9 hp9
        cases hk : strJ t1 with
        | error q =>
          obtain ⟨ec, ek⟩ := q
          rw [hk] at hp9
          obtain ⟨gm9, rfl⟩ := hp9.bad
          exact ⟨rfl, JRdP.no (mv_trans A8.out.mv gm9) (by unfold objJ; rw [AE.out.badK HB.out HC.out hk]; rfl) rfl⟩
        | ok q =>
          obtain ⟨kk, t2⟩ := q
          rw [hk] at hp9
          obtain ⟨gm9, v, rfl, rfl, hr9⟩ := hp9.ok
          have A9 := hid (A8.out.go gm9 hr9)
          have HK := hid hk
          clear hp9 gm9 hr9 hk d1
          obtain ⟨es, ec, hmap, hseen⟩ := A9.out.map
          have HMAP := hid hmap
          have HSEEN := hid hseen
          have hlook := look_seen (k := kk) hmap hseen
          by_cases hin : kk ∈ ks
          · rw [decide_eq_true hin] at hlook
            have HIN := hid hin
            clear hin hmap hseen
            go_wp2_with fail
            refine (jthrow_any _ _ _ _).mono ?_
            rintro e w10 ⟨rfl, rfl⟩
            exact ⟨rfl, JRdP.no A9.out.mv (by unfold objJ; rw [AE.out.twice HB.out HC.out HK.out HIN.out]; rfl) HP8.out⟩
          · rw [decide_eq_false hin] at hlook
            have hput := put_seen (k := kk) hmap hseen hin
            have A10 := hid (A9.out.put hmap hseen kk)
            have HIN := hid hin
            clear hin hmap hseen
            go_upto_region 13 with fail
            generalize hw10 : World.mk _ _ _ _ _ = w10
            rw [hw10] at A10
            have hM10 := A10.out.M_lt
            clear hlook hput hw10
            go_wp2_with fail
            refine (jblank_any w10 R s t2 A10.out.rd (by omega)).mono ?_
            rintro e w11 ⟨rfl, m11, h11⟩
            have A11 := hid (A10.out.go m11 h11)
            clear m11 h11
            go_wp2_with fail
            refine (jwant_any w11 R s (blankJ t2) 58 A11.out.rd (by omega)).mono ?_
            intro e w12 hp12
            cases hw : wantJ 58 (blankJ t2) with
            | error q =>
              obtain ⟨ec, ek⟩ := q
              rw [hw] at hp12
              obtain ⟨gm12, rfl⟩ := hp12.bad
              exact ⟨rfl, JRdP.no (mv_trans A11.out.mv gm12) (by unfold objJ; rw [AE.out.badD HB.out HC.out HK.out HIN.out hw]; rfl) rfl⟩
            | ok q =>
              obtain ⟨v3, t3⟩ := q
              rw [hw] at hp12
              obtain ⟨gm12, v', rfl, rfl, hr12⟩ := hp12.ok
              have A12 := hid (A11.out.go gm12 hr12)
              have HW := hid hw
              clear hp12 gm12 hr12 hw
              have bj := A12.out.boxJ
              have j2 : w12.cell? ⟨X + 1, 2, none⟩ = some (.slice ka ks.length kc) := by rw [cell_of_row w12 (X + 1) 2 _ _ _ bj]; rfl
              have hj12 := lt_of_row bj
              have BJ12 := hid bj
              clear bj
              go_wp2_with (at_builtin; refine wpList_append_lies _ rfl (.tmp 43) (.tmp 45) 22 rfl (X + 2 + 1) 9 j0 _ 1 16 Tryd.underlying22 hj0 hy0 hy1 hy2 rfl (by decide) _ _ _ rfl (A12.out.keys.alloc _) ⟨w12.heap.size, 0, none⟩ 1 1 [.string (S kk)] rfl rfl (news1 _ _ _) (cell1 _ rfl) (by omega) ?c3 ?c4 ?c5 _ rfl ?_)
              case c3 => unfold maxLen; omega
              case c4 => omega
              case c5 => have := A12.out.M_lt; simp; omega
              intro g1 cap1 w13 hown1 hgrow1 hat1 hlt1
              have bz13 : w13.heap[X + 1]? = some (.cells #[.int .i64 7, .string (S []), .slice ka ks.length kc, .slice la xs.length lc] 25) := (hgrow1.block (X + 1) (by simp; omega) (fun e => by have := (A12.out.keys.lt (X + 1) e.symm).1; omega)).trans ((Below.heap_alloc _ _ _ hj12).trans BJ12.out)
              have z132 : w13.frozen? ⟨X + 1, 2, none⟩ = false := frozen_of_row w13 (X + 1) 2 _ _ bz13
              have b132 : w13.cell? ⟨X + 1, 2, none⟩ = some (.slice ka ks.length kc) := by rw [cell_of_row w13 (X + 1) 2 _ _ _ bz13]; rfl
              have A14 := hid (A12.out.key hgrow1 hown1 (by simpa using hat1))
              clear hgrow1 hown1 hat1 hlt1 bz13
              go_upto_region 16 with fail
              clear z132 b132
              generalize hw14 : World.setCell w13 _ _ = w14
              rw [hw14] at A14
              clear hw14
              have BJ14 := hid A14.out.boxJ
              have bj14 := BJ14.out
              have j143 : w14.cell? ⟨X + 1, 3, none⟩ = some (.slice la xs.length lc) := by rw [cell_of_row w14 (X + 1) 3 _ _ _ bj14]; rfl
              have hJ14 := lt_of_row bj14
              have hM14 := A14.out.M_lt
              have hRX : R < X := by have := HX.out; omega
              have hwk : IntKind.i64.wrap ((k : Int) + 1) = (k : Int) + 1 := IntWalk.i64_in _ (by omega)
              clear bj14
              cases hv : treeJ d t3 with
              | error ck =>
                obtain ⟨c, q⟩ := ck
                have FIN : Hid (∀ w9, w14.grownBy w9 (some R) → JRdP s R (VJ w.heap.size (d + 1)) (objJ d l) w (.panicked [{ v := faultJ c (s.length - q : Nat), recovered := false }]) w9) := hid (fun w9 m9 => JRdP.no (mv_trans A14.out.mv m9) (by unfold objJ; rw [AE.out.badT HB.out HC.out HK.out HIN.out HW.out hv]; rfl) rfl)
                have HV := hid hv
                clear hv
                refine wp_region_any (by kernel_rfl) ?_
                change wpAny _ _ _ _ _ _ _ (World.drew _)
                refine wpAny_take (i := 0) (v := ?_) rfl (by kernel_rfl) (by kernel_rfl) (by kernel_rfl) (fun _ _ _ h => h) (Or.inl ⟨by rfl, ?_⟩) ?_
                rotate_left 1
                · intro w; go_simp; try with_reducible rfl
                refine wpAny_take (i := 2) (v := ?_) rfl (by kernel_rfl) (by kernel_rfl) (by kernel_rfl) (fun _ _ _ h => h) (Or.inl ⟨by rfl, ?_⟩) ?_
                rotate_left 1
                · intro w; go_simp; try with_reducible rfl
                refine wpAny_take (i := 3) (v := ?_) rfl (by kernel_rfl) (by kernel_rfl) (by kernel_rfl) (fun _ _ _ h => h) (Or.inl ⟨by rfl, ?_⟩) ?_
                rotate_left 1
                · intro w; go_simp; try with_reducible rfl
                refine wpAny_take (i := 4) (v := ?_) rfl (by kernel_rfl) (by kernel_rfl) (by kernel_rfl) (fun _ _ _ h => h) (Or.inl ⟨by rfl, ?_⟩) ?_
                rotate_left 1
                · intro w; go_simp; try with_reducible rfl
                refine wpAny_ready (rs := [1, 5]) (by kernel_rfl) (by simp) ?_
                refine AllReady.cons rfl ?_ ?_
                · intro K hK
                  go_simp
                  refine hK _ _ ?_
                  clear hK K
                  refine wpAny_ready (rs := [5]) (by kernel_rfl) (by simp) ?_
                  refine AllReady.cons rfl ?_ AllReady.nil
                  intro K hK
                  go_simp
                  refine (TC.out _ t3 (A14.out.rd.grow ((G.refl _).drew))).mono ?_
                  rintro e w9 h9
                  rw [HV.out] at h9
                  obtain ⟨m9, rfl⟩ := h9
                  exact ⟨rfl, FIN.out _ (mv_trans (mv_drew (mv_refl _ _)) m9)⟩
                · refine AllReady.cons rfl ?_ AllReady.nil
                  intro K hK
                  go_simp
                  refine (TC.out _ t3 (A14.out.rd.grow ((G.refl _).drew))).mono ?_
                  rintro e w9 h9
                  rw [HV.out] at h9
                  obtain ⟨m9, rfl⟩ := h9
                  exact ⟨rfl, FIN.out _ (mv_trans (mv_drew (mv_refl _ _)) m9)⟩
              | ok vt =>
                obtain ⟨y0, u⟩ := vt
                have HV := hid hv
                have hxl : xs.length ≤ 999999 := by have := HKX.out; omega
                clear hv
                go_region_law (first
                  | (refine step_append_lies _ rfl (.tmp 49) (.tmp 54) 23 rfl (X + 2 + 1) 25 i0 _ 4 72 Tryd.underlying23 hi0 hz0 hz1 hz2 rfl (by decide) (.slice la xs.length lc) xs.length _ (by simp [Act.eval, Act.put]) (ROW9.out.alloc (.cells #[.int .i64 y0.kind, .string (S y0.text), .slice ya y0.keys.length yc, .slice za y0.list.length zc] 25)) ⟨w9.heap.size, 0, none⟩ 1 1 [.int .i64 y0.kind, .string (S y0.text), .slice ya y0.keys.length yc, .slice za y0.list.length zc] (by simp [Act.eval, Act.put]) rfl (news4 w9 _ _ _ _ _) (by intro x hx; simp at hx; rcases hx with rfl | rfl | rfl | rfl <;> rfl) Nat.one_pos (by unfold maxLen; omega) (by omega) (by simp; omega) _ rfl ?_; intro g gcap w5 hown hgrow hat hlt5; have bz5 : w5.heap[X + 1]? = some (.cells #[.int .i64 7, .string (S []), .slice (some ⟨g1, 0, none⟩) (ks.length + 1) cap1, .slice la xs.length lc] 25) := (hgrow.block (X + 1) (by simp; omega) (fun e => by have := (ROW9.out.lt (X + 1) e.symm).1; omega)).trans ((Below.heap_alloc _ _ _ hJ9).trans BJ9.out); have z53 : w5.frozen? ⟨X + 1, 3, none⟩ = false := frozen_of_row w5 (X + 1) 3 _ _ bz5; have b53 : w5.cell? ⟨X + 1, 3, none⟩ = some (.slice la xs.length lc) := (by rw [cell_of_row w5 (X + 1) 3 _ _ _ bz5]; rfl); have HO5 := hid hown; have HG5 := hid hgrow; have HAT := hid hat; clear hown hgrow hat bz5)
                  | (go_simp; go_at_call 19; refine (TC.out _ t3 (A14.out.rd.grow ((G.refl _).drew))).mono ?_; rintro e w9 h9; rw [HV.out] at h9; obtain ⟨m9, v, rfl, hv9, h9⟩ := h9; obtain ⟨ya, yc, za, zc, rfl⟩ := JAt.shape4 hv9; have M9 := hid (show w14.grownBy w9 (some R) from mv_trans (mv_drew (mv_refl _ _)) m9); have H9 := hid h9; have HV9 := hid (show JAt d (fun b => w14.heap.size ≤ b) w9 _ y0 from hv9); have bj9 : w9.heap[X + 1]? = some (.cells #[.int .i64 7, .string (S []), .slice (some ⟨g1, 0, none⟩) (ks.length + 1) cap1, .slice la xs.length lc] 25) := (M9.out.block (X + 1) hJ14 (by simp; omega)).trans BJ14.out; have BJ9 := hid bj9; have hM9 : X + 2 < w9.heap.size := (by have := M9.out.size; omega); have ROW9 := hid (A14.out.st.row.kept M9.out (row_under A14.out.st.row (by omega))); have b93 : w9.cell? ⟨X + 1, 3, none⟩ = some (.slice la xs.length lc) := (by rw [cell_of_row w9 (X + 1) 3 _ _ _ bj9]; rfl); have hJ9 := lt_of_row bj9; clear m9 h9 hv9 bj9))
                all_goals
                  have hnew := A14.out.tree M9.out H9.out HV9.out HG5.out HO5.out HAT.out
                  have HNEW := hid hnew
                  clear hnew
                  go_wp2_with fail
                  refine (jblank_any _ R s u HNEW.out.rd (by omega)).mono ?_
                  rintro e w10 ⟨rfl, m10, h10⟩
                  have hm1 := leftJ_eq h10
                  have hm2 := leftJ_eq AR.out.rd
                  have hbu := blank_len u
                  have htl := tree_len HV.out
                  have hcl := comma_len HC.out
                  have hkl := str_len HK.out
                  have hbl := blank_len t2
                  have hwl : t3.length < (blankJ t2).length := by rw [want_ok HW.out]; simp
                  have NEW := hid (HNEW.out.go m10 h10)
                  have NEQ := hid (AE.out.go HB.out HC.out HK.out HIN.out HW.out HV.out)
                  clear m10 h10
                  go_wp2_with fail
                  go_roundw
                  case rel => exact ⟨_, _, _, _, _, _, _, (by simpa using NEW.out), NEQ.out⟩
                  case measure => rw [hm1, hm2]; omega

/-- TREES -/
theorem tree_all : ∀ d, d ≤ 12 → TreeC d
  | 0, _ => tree_zero
  | d + 1, h => tree_succ d h (tree_all d (by omega)) (obj_of d h (tree_all d (by omega)))

end Go.Proofs.YtlejbindochiiaaDoor
