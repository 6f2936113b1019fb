/-
  CONTRACT of strings.genericReplacer's WriteString and Replace over the trie of caret.Decode.
-/
import Derived.Test.YtccaknanagmmhaaGreatMTrie
import Derived.Test.YtccaknanagmmhaaGreatAsw
import Derived.Deep.RegionHeld3
namespace Go.Proofs.YtccaknanagmmhaaGreat
open Go.RowKit
set_option linter.unusedVariables false
set_option linter.unusedSimpArgs false

/-- the state between two rounds: i bytes read, of them the bytes from last on not yet written -/
structure GState (w0 w : World) (Bx : Nat) (l : List UInt8) (i last : Nat) (out : List UInt8) : Prop where
  buf : Buf w0 w Bx out
  li : last ≤ i
  il : i ≤ l.length
  ol : out.length ≤ last
  eq : decL l = out ++ (l.take i).drop last ++ decL (l.drop i)
theorem GState.start {w0 w : World} {Bx : Nat} {l : List UInt8} (h : Buf w0 w Bx []) : GState w0 w Bx l 0 0 [] := ⟨h, Nat.le_refl _, Nat.zero_le _, Nat.zero_le _, by simp⟩
theorem take_drop_snoc (l : List UInt8) (i last : Nat) (h : last ≤ i) (hi : i < l.length) : (l.take (i + 1)).drop last = (l.take i).drop last ++ [l[i]] := by
  rw [List.take_succ_eq_append_getElem hi, List.drop_append_of_le_length (by simp; omega)]
theorem GState.step {w0 w w' : World} {Bx : Nat} {l : List UInt8} {i last : Nat} {out : List UInt8} (h : GState w0 w Bx l i last out) (g : G w w') (hi : i < l.length) (hm : mtL (l.drop i) = none) : GState w0 w' Bx l (i + 1) last out := by
  refine ⟨h.buf.grow g, by have := h.li; omega, by omega, h.ol, ?_⟩
  rw [h.eq, take_drop_snoc l i last h.li hi, dec_step_none l i hi hm]
  simp
theorem GState.hit {w0 w w' : World} {Bx : Nat} {l : List UInt8} {i last : Nat} {out : List UInt8} {v : UInt8} (h : GState w0 w Bx l i last out) (hm : mtL (l.drop i) = some v) (hb : Buf w0 w' Bx (out ++ (l.take i).drop last ++ [v])) : GState w0 w' Bx l (i + 2) (i + 2) (out ++ (l.take i).drop last ++ [v]) := by
  obtain ⟨h2, hd⟩ := dec_step_some l i v hm
  have h1 := h.ol
  have h3 := h.li
  refine ⟨hb, Nat.le_refl _, h2, by simp; omega, ?_⟩
  rw [h.eq, hd]
  have e : (l.take (i + 2)).drop (i + 2) = [] := by rw [List.drop_eq_nil_iff]; simp; omega
  rw [e]
  simp
theorem GState.last {w0 w : World} {Bx : Nat} {l : List UInt8} {last : Nat} {out : List UInt8} (h : GState w0 w Bx l l.length last out) : decL l = out ++ l.drop last := by
  have := h.eq
  rwa [List.take_length, List.drop_length, decL_nil, List.append_nil] at this

set_option maxRecDepth 100000 in
set_option maxHeartbeats 4000000 in
theorem gwrite_any (w0 w : World) (Bx : Nat) (l : List UInt8) (R A B C D T U : Nat) (hT : Trie w0 R A B C D T U) (hb : Buf w0 w Bx []) (hl : l.length ≤ 100000) :
    Calls Tryz.prog 120 #[.pointer (some ⟨R, 0, none⟩), .iface 173 (.pointer (some ⟨Bx, 0, none⟩)), .string (S l)] w fun e w' => (∃ v, e = .returned v) ∧ Buf w0 w' Bx (decL l) := by
  have HT := hid hT
  have HB := hid hb
  have hmeth := asw_method
  have hahead := asw_ahead
  have hlt : R < w0.heap.size := World.block_lt_of_cell? _ _ hT.size
  clear hT hb
  go_enter Tryz.func120, Tryz.ntmps120
  go_wp2_with fail
  refine (getsw_any Bx w).use ?_
  go_wp2_with fail
  go_loopw [6, 7, 9, 10, 11, 12] (fun n e la wn pm iv wr => ∃ (i last : Nat) (out : List UInt8), i ≤ l.length + 1 ∧ iv = .int .i64 i ∧ la = .int .i64 last ∧ pm = .bool false ∧ e = .nilIface ∧ (∃ x, n = .int .i64 x) ∧ (∃ x, wn = .int .i64 x) ∧ GState w0 wr Bx l (min i l.length) last out) (fun _ _ _ _ _ iv _ => l.length + 2 - (intOf iv).toNat)
  case atStart => exact ⟨0, 0, [], by omega, rfl, rfl, rfl, rfl, ⟨0, rfl⟩, ⟨0, rfl⟩, by rw [Nat.zero_min]; exact GState.start HB.out⟩
  case round =>
    obtain ⟨i, last, out, hi1, rfl, rfl, rfl, rfl, ⟨nn, rfl⟩, ⟨wn, rfl⟩, hg⟩ := hrel
    have hli := hg.li
    have hol := hg.ol
    have hmi : min i l.length ≤ l.length := by omega
    have HG0 := hid hg
    have hTr := HT.out.grow hg.buf.g
    have HTr := hid hTr
    have q1 := hTr.root.v1
    simp only [Nat.zero_add] at q1
    have hlr : R < wr.heap.size := World.block_lt_of_cell? _ _ q1
    clear hg hTr
    by_cases hi : i < l.length
    · have HG : Hid (GState w0 wr Bx l i last out) := hid (by have := HG0.out; rwa [Nat.min_eq_left (by omega)] at this)
      have hli : last ≤ i := HG.out.li
      clear HG0
      have hne : ((i : Int) != (l.length : Int)) = true := by simp; omega
      obtain ⟨c, hc⟩ : ∃ c, c = l[i] := ⟨_, rfl⟩
      have hcm := HTr.out.map c
      have hc256 : (c.toNat : Int) < 256 := by have := c.toNat_lt; omega
      rw [hc] at hcm hc256
      have q5 := HTr.out.size
      have q4 := HTr.out.root.v4
      have k0 := HTr.out.t0
      have k1 := HTr.out.t1
      have k2 := HTr.out.t2
      simp only [Nat.zero_add] at q4
      have htl : T < wr.heap.size := World.block_lt_of_cell? _ _ k0
      clear hc c
      by_cases h94 : l[i] = 94
      · rw [show mapF l[i] = 1 by rw [h94]; rfl] at hcm
        have hdl : (l.drop i).length ≤ 1000000 := by simp; omega
        clear h94
        go_wp2_with fail
        refine wp_region_grow (by kernel_rfl) (by kernel_rfl) ?_
        repeat (first | go_big_quiet_skip | (go_big_quiet_want; go_big_quiet_op; first | go_big_quiet_on | (apply Exists.intro; apply And.intro; (focus (intro _ hg; (rw [G.cell hg (p := ⟨R, 6 + l[i].toNat, none⟩) hlr, hcm]; exact ⟨rfl, rfl⟩))); go_big_quiet_on) | (refine ⟨_, fun _ _ => rfl, ?_⟩; go_big_quiet_on)))
        refine wpQuiet_nil ?_
        intro wq gq
        have p5 := (G.cell gq (p := ⟨R, 5, none⟩) hlr).trans q5
        have p4 := (G.cell gq (p := ⟨R, 4, none⟩) hlr).trans q4
        have z1 := (G.cell gq (p := ⟨T, 1, none⟩) htl).trans k1
        have GQ := hid gq
        have LK := hid (lookup_any wq R A B C D T U (HTr.out.grow gq) (l.drop i) hdl)
        clear gq q5 q4 k0 k1 k2
        go_wp2_with fail
        refine LK.out.use ?_
        intro w2 g2
        have G2 := hid (GQ.out.trans g2)
        clear g2 p5 p4 z1 LK
        cases hmt : mtL (l.drop i) with
        | none =>
          have hlv : lookV (l.drop i) = .tuple #[.string ⟨#[]⟩, .int .i64 0, .bool false] := by unfold lookV; rw [hmt]
          rw [hlv]
          have HS := hid hmt
          clear hmt hlv
          go_wp2_with fail
          go_roundw
          case rel => exact ⟨i + 1, last, out, by omega, by go_num, rfl, rfl, rfl, ⟨_, rfl⟩, ⟨_, rfl⟩, by rw [Nat.min_eq_left (by omega)]; exact HG.out.step G2.out hi HS.out⟩
          case measure => simp [intOf]; omega
        | some v =>
          have hlv : lookV (l.drop i) = .tuple #[.string (S [v]), .int .i64 2, .bool true] := by unfold lookV; rw [hmt]
          rw [hlv]
          have HS := hid hmt
          have h2 := (dec_step_some l i v hmt).1
          clear hmt hlv
          obtain ⟨x, hx⟩ : ∃ x, x = (l.take i).drop last := ⟨_, rfl⟩
          have hxl : x.length ≤ 100000 := by rw [hx]; simp; omega
          have HX := hid hx
          have AW := hid (fun W (g : G w2 W) => asw_any w0 W Bx out x ((HG.out.buf.grow G2.out).grow g) (by omega))
          have hmf : ∀ (fn : Fn) (first cap : Array Value) (w : World), (Instr.makeFunc fn first cap).run Tryz.prog w = .ok (.func fn first cap) w := fun _ _ _ _ => rfl
          go_wp2_with fail
          go_region_held3 (fun _ => True) (trivial)
            (first
              | (go_at_call 136; rw [← HX.out]; refine (AW.out _ ?_).mono ?_; (· first | with_reducible exact G.refl _ | with_reducible exact (G.refl _).drew); rintro e w3 ⟨rfl, hbuf⟩; have HBUF := hid hbuf; clear hbuf))
          have hvl : [v].length = 1 := rfl
          go_wp2_with (go_at_call 136; refine (asw_any w0 w3 Bx (out ++ x) [v] HBUF.out (by simp; omega)).mono ?_; rintro e w4 ⟨rfl, hbuf2⟩)
          have hst := HG.out.hit HS.out (by rw [← HX.out]; exact hbuf2)
          have HST := hid hst
          clear hbuf2 hst
          go_roundw
          case rel => exact ⟨i + 2, i + 2, out ++ (l.take i).drop last ++ [v], by omega, by go_num, by go_num, rfl, rfl, ⟨_, rfl⟩, ⟨_, rfl⟩, by rw [Nat.min_eq_left (by omega)]; exact HST.out⟩
          case measure => simp [intOf]; omega
      · have hcne := h94
        by_cases h39 : l[i] = 39
        · rw [show mapF l[i] = 0 by rw [h39]; rfl] at hcm
          clear h94 h39
          have hmn : mtL (l.drop i) = none := by rw [List.drop_eq_getElem_cons hi]; exact mtL_no hcne
          have HS := hid hmn
          clear hmn
          go_wp2_with fail
          refine wp_region_grow (by kernel_rfl) (by kernel_rfl) ?_
          repeat (first | go_big_quiet_skip | (go_big_quiet_want; go_big_quiet_op; first | go_big_quiet_on | (apply Exists.intro; apply And.intro; (focus (intro _ hg; (rw [G.cell hg (p := ⟨R, 6 + l[i].toNat, none⟩) hlr, hcm]; exact ⟨rfl, rfl⟩))); go_big_quiet_on) | (refine ⟨_, fun _ _ => rfl, ?_⟩; go_big_quiet_on)))
          refine wpQuiet_nil ?_
          intro wq gq
          have p5 := (G.cell gq (p := ⟨R, 5, none⟩) hlr).trans q5
          have p4 := (G.cell gq (p := ⟨R, 4, none⟩) hlr).trans q4
          have z0 := (G.cell gq (p := ⟨T, 0, none⟩) htl).trans k0
          have z2 := (G.cell gq (p := ⟨T, 2, none⟩) htl).trans k2
          have GQ := hid gq
          clear gq
          go_wp2_with fail
          go_roundw
          case rel => exact ⟨i + 1, last, out, by omega, by go_num, rfl, rfl, rfl, ⟨_, rfl⟩, ⟨_, rfl⟩, by rw [Nat.min_eq_left (by omega)]; exact HG.out.step GQ.out hi HS.out⟩
          case measure => simp [intOf]; omega
        · by_cases h110 : l[i] = 110
          · rw [show mapF l[i] = 2 by rw [h110]; rfl] at hcm
            clear h94 h39 h110
            have hmn : mtL (l.drop i) = none := by rw [List.drop_eq_getElem_cons hi]; exact mtL_no hcne
            have HS := hid hmn
            clear hmn
            go_wp2_with fail
            refine wp_region_grow (by kernel_rfl) (by kernel_rfl) ?_
            repeat (first | go_big_quiet_skip | (go_big_quiet_want; go_big_quiet_op; first | go_big_quiet_on | (apply Exists.intro; apply And.intro; (focus (intro _ hg; (rw [G.cell hg (p := ⟨R, 6 + l[i].toNat, none⟩) hlr, hcm]; exact ⟨rfl, rfl⟩))); go_big_quiet_on) | (refine ⟨_, fun _ _ => rfl, ?_⟩; go_big_quiet_on)))
            refine wpQuiet_nil ?_
            intro wq gq
            have p5 := (G.cell gq (p := ⟨R, 5, none⟩) hlr).trans q5
            have p4 := (G.cell gq (p := ⟨R, 4, none⟩) hlr).trans q4
            have z0 := (G.cell gq (p := ⟨T, 0, none⟩) htl).trans k0
            have z2 := (G.cell gq (p := ⟨T, 2, none⟩) htl).trans k2
            have GQ := hid gq
            clear gq
            go_wp2_with fail
            go_roundw
            case rel => exact ⟨i + 1, last, out, by omega, by go_num, rfl, rfl, rfl, ⟨_, rfl⟩, ⟨_, rfl⟩, by rw [Nat.min_eq_left (by omega)]; exact HG.out.step GQ.out hi HS.out⟩
            case measure => simp [intOf]; omega
          · rw [mapF_off h39 h94 h110] at hcm
            clear h94 h39 h110
            have hmn : mtL (l.drop i) = none := by rw [List.drop_eq_getElem_cons hi]; exact mtL_no hcne
            have HS := hid hmn
            clear hmn
            go_wp2_with fail
            refine wp_region_grow (by kernel_rfl) (by kernel_rfl) ?_
            repeat (first | go_big_quiet_skip | (go_big_quiet_want; go_big_quiet_op; first | go_big_quiet_on | (apply Exists.intro; apply And.intro; (focus (intro _ hg; (rw [G.cell hg (p := ⟨R, 6 + l[i].toNat, none⟩) hlr, hcm]; exact ⟨rfl, rfl⟩))); go_big_quiet_on) | (refine ⟨_, fun _ _ => rfl, ?_⟩; go_big_quiet_on)))
            refine wpQuiet_nil ?_
            intro wq gq
            have p5 := (G.cell gq (p := ⟨R, 5, none⟩) hlr).trans q5
            have p4 := (G.cell gq (p := ⟨R, 4, none⟩) hlr).trans q4
            have z0 := (G.cell gq (p := ⟨T, 0, none⟩) htl).trans k0
            have z2 := (G.cell gq (p := ⟨T, 2, none⟩) htl).trans k2
            have GQ := hid gq
            clear gq
            go_wp2_with fail
            go_roundw
            case rel => exact ⟨i + 1, last, out, by omega, by go_num, rfl, rfl, rfl, ⟨_, rfl⟩, ⟨_, rfl⟩, by rw [Nat.min_eq_left (by omega)]; exact HG.out.step GQ.out hi HS.out⟩
            case measure => simp [intOf]; omega
    · by_cases hie : i = l.length
      · subst hie
        have HG : Hid (GState w0 wr Bx l l.length last out) := hid (by have := HG0.out; rwa [Nat.min_self] at this)
        have hne : ((l.length : Int) != (l.length : Int)) = false := by simp
        have LK := hid (lookup_any wr R A B C D T U HTr.out [] (by simp))
        have hdr : l.drop l.length = [] := List.drop_length
        clear HG0
        go_wp2_with fail
        refine LK.out.use ?_
        intro w2 g2
        have HG2 : Hid (GState w0 w2 Bx l l.length last out) := hid (by
          have h := HG.out
          exact ⟨h.buf.grow g2, h.li, h.il, h.ol, h.eq⟩)
        have hlv : lookV [] = .tuple #[.string ⟨#[]⟩, .int .i64 0, .bool false] := rfl
        rw [hlv]
        clear g2 LK hlv
        go_wp2_with fail
        go_roundw
        case rel => exact ⟨l.length + 1, last, out, by omega, by go_num, rfl, rfl, rfl, ⟨_, rfl⟩, ⟨_, rfl⟩, by rw [Nat.min_eq_right (by omega)]; exact HG2.out⟩
        case measure => first | (simp [intOf]; done) | (simp [intOf]; omega)
      · have hie1 : i = l.length + 1 := by omega
        subst hie1
        have HG : Hid (GState w0 wr Bx l l.length last out) := hid (by have := HG0.out; rwa [Nat.min_eq_right (by omega)] at this)
        have hle : last ≤ l.length := HG.out.li
        clear HG0 hie hi
        by_cases hla : last = l.length
        · subst hla
          have hne : ((l.length : Int) != (l.length : Int)) = false := by simp
          have HD : Hid (decL l = out) := hid (by rw [HG.out.last, List.drop_length, List.append_nil])
          go_wp2_with fail
          go_ret2
          exact ⟨⟨_, rfl⟩, by rw [HD.out]; exact HG.out.buf⟩
        · have hne : ((last : Int) != (l.length : Int)) = true := by simp; omega
          have hmf : ∀ (fn : Fn) (first cap : Array Value) (w : World), (Instr.makeFunc fn first cap).run Tryz.prog w = .ok (.func fn first cap) w := fun _ _ _ _ => rfl
          obtain ⟨x, hx⟩ : ∃ x, x = l.drop last := ⟨_, rfl⟩
          have hxl : x.length ≤ 100000 := by rw [hx, List.length_drop]; omega
          have HX := hid hx
          have HD : Hid (decL l = out ++ x) := hid (by rw [hx]; exact HG.out.last)
          have AW := hid (fun W (g : G wr W) => asw_any w0 W Bx out x (HG.out.buf.grow g) (by omega))
          clear hx
          go_wp2_with fail
          go_region_held3 (fun _ => True) (trivial)
            (first
              | (go_at_call 136; rw [← HX.out]; refine (AW.out _ ?_).mono ?_; (· first | with_reducible exact G.refl _ | with_reducible exact (G.refl _).drew); rintro e w3 ⟨rfl, hbuf⟩; have HBUF := hid hbuf; clear hbuf))
          go_wp2_with fail
          go_ret2
          exact ⟨⟨_, rfl⟩, by rw [HD.out]; exact HBUF.out⟩

theorem ownB_of_row {w : World} {base g n cap : Nat} {l : List UInt8} (h : w.ownsRow base 5 1 (.slice (some ⟨g, 0, none⟩) n cap) n (Lib.byteCells l)) : OwnB w g l := by
  rcases h.2 with ⟨e, _⟩ | ⟨b, c, cur, e, _, hb, _⟩
  · cases e
  · simp only [Value.slice.injEq, Option.some.injEq, Addr.mk.injEq, and_true, true_and] at e
    obtain ⟨rfl, rfl⟩ := e
    intro j hj
    have hc := h.cells (g := g) rfl j (.int .u8 l[j].toNat) (by simp [Lib.byteCells, hj])
    have ea : (⟨g, 0, none⟩ : Addr).add j = ⟨g, j, none⟩ := by unfold Addr.add; split <;> simp_all
    rw [ea] at hc
    exact ⟨hc, Lib.frozen_of_heap hb j⟩
set_option maxRecDepth 100000 in
set_option maxHeartbeats 2000000 in
theorem greplace_any (w : World) (l : List UInt8) (R A B C D T U : Nat) (hT : Trie w R A B C D T U) (hl : l.length ≤ 100000) :
    Gives 119 #[.pointer (some ⟨R, 0, none⟩), .string (S l)] w (.string (S (decL l))) := by
  obtain ⟨i0, hi, hz0, hz1, hz2⟩ := info_parts infoByte
  have HT := hid hT
  clear hT
  go_enter Tryz.func119, Tryz.ntmps119
  go_wp2_with (at_make; refine wpList_make_own _ rfl _ _ 172 rfl w.heap.size 5 i0 _ 1 Tryz.underlying172 hi hz0 hz1 .i64 .i64 _ l.length rfl rfl rfl ?m1 ?m2 (Nat.le_refl _) ?_)
  case m1 => rw [hz2]; omega
  case m2 => unfold maxLen; omega
  intro w1 hown hgrow
  have HOWN := hid hown
  have HG1 : Hid (G w w1) := hid (Below.grown (G.refl w) hgrow (Nat.le_refl _) (by simp))
  clear hown hgrow
  go_wp2_with fail
  have hbuf : Buf w (w1.alloc (.cells #[.slice (some ⟨w.heap.size, 0, none⟩) 0 l.length] 172)) w1.heap.size [] := by
    refine ⟨HG1.out.size, HG1.out.alloc _, _, by simp, Boxed.new _ _ _, ?_⟩
    have := HOWN.out.alloc (.cells #[.slice (some ⟨w.heap.size, 0, none⟩) 0 l.length] 172)
    simpa [Lib.byteCells] using this
  refine (gwrite_any w _ w1.heap.size l R A B C D T U HT.out hbuf hl).mono ?_
  rintro e w2 ⟨⟨rv, rfl⟩, hb2⟩
  obtain ⟨hbl, hg2, v, hv0, hv, hr⟩ := hb2
  obtain ⟨g, cap, rfl⟩ : ∃ g cap, v = .slice (some ⟨g, 0, none⟩) (decL l).length cap := by
    rcases hr.2 with ⟨h, _⟩ | ⟨g, cap, cur, h, _⟩
    · exact absurd h hv0
    · exact ⟨g, cap, h⟩
  have hc := hv.cell
  have hback := (ownB_of_row hr).back (P := Tryz.prog) 172 9 5 cap Tryz.underlying172 Tryz.underlying5 Tryz.underlying9
  have HG2 := hid hg2
  clear hbuf hv0 hv hr hbl hg2 HOWN HG1 HT
  go_wp2_with fail
  go_ret
  exact ⟨rfl, HG2.out⟩

end Go.Proofs.YtccaknanagmmhaaGreat
