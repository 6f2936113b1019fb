/-
  (*strings.byteStringReplacer).Replace, bytes replaced by two bytes each. (written by gen_replrun.py)
-/
import Derived.Test.YthbjabjchfmmoaaReplBuild
import Derived.Test.YthbjabjchfmmoaaShelf
import Derived.Laws.CopyOwn
import Derived.Deep.RegionLaw
namespace Go.Proofs.Ythbjabjchfmmoaa
open Go.RowKit
set_option linter.unusedVariables false
set_option linter.unusedSimpArgs false

theorem BState.grow {w0 w w' : World} {C : Nat} {tv : Value} {f : UInt8 → Option (List UInt8)} {keys : List UInt8} (h : BState w0 w C tv f keys) (g : G w w') : BState w0 w' C tv f keys := by
  refine ⟨h.g.trans g, h.cl, Nat.lt_of_lt_of_le h.ch g.size, fun k => (Below.frozen g (p := ⟨C, k, none⟩) h.ch).trans (h.fz k), ownsRow_kept' h.own g, h.ne, (g.cell h.ch).trans h.top, fun c => ?_⟩
  rcases h.slots c with ⟨h1, h2⟩ | ⟨l, b, cap, h1, h2, h3, h4, h5, h6⟩
  · exact .inl ⟨h1, (g.cell h.ch).trans h2⟩
  · exact .inr ⟨l, b, cap, h1, (g.cell h.ch).trans h2, Nat.lt_of_lt_of_le h3 g.size, h4, h5, fun j hj => (g.cell h3).trans (h6 j hj)⟩
/-- bytes that are replaced by two bytes each -/
def Two (f : UInt8 → Option (List UInt8)) : Prop := ∀ c l, f c = some l → l.length = 2
theorem BState.some {w0 w : World} {C : Nat} {tv : Value} {f : UInt8 → Option (List UInt8)} {keys : List UInt8} (h : BState w0 w C tv f keys) (h2 : Two f) {c : UInt8} {l : List UInt8} (hf : f c = .some l) :
    ∃ b cap, w.cell? ⟨C, c.toNat, none⟩ = .some (.slice (.some ⟨b, 0, none⟩) 2 cap) ∧ b < w.heap.size ∧ ∀ j (h : j < l.length), w.cell? ⟨b, j, none⟩ = .some (.int .u8 (l[j].toNat : Int)) := by
  rcases h.slots c with ⟨h1, _⟩ | ⟨l', b, cap, h1, h3, h4, _, _, h6⟩
  · rw [h1] at hf; cases hf
  · rw [h1] at hf
    injection hf with hf
    subst hf
    exact ⟨b, cap, by rw [h3, h2 c l' h1], h4, h6⟩
theorem BState.none {w0 w : World} {C : Nat} {tv : Value} {f : UInt8 → Option (List UInt8)} {keys : List UInt8} (h : BState w0 w C tv f keys) {c : UInt8} (hf : f c = .none) : w.cell? ⟨C, c.toNat, .none⟩ = .some (.slice .none 0 0) := by
  rcases h.slots c with ⟨_, h2⟩ | ⟨l', b, cap, h1, _⟩
  · exact h2
  · rw [h1] at hf; cases hf
theorem addK_step (f : UInt8 → Option (List UInt8)) (h2 : Two f) (s keys : List UInt8) (hin : ∀ k ∈ keys, f k ≠ none) (i : Nat) (hi : i < keys.length) : addK f s (keys.take (i + 1)) = addK f s (keys.take i) + s.count keys[i] := by
  rw [List.take_succ_eq_append_getElem hi]
  unfold addK
  rw [List.map_append, List.sum_append]
  have hk := hin _ (List.getElem_mem hi)
  have : grow1 f keys[i] = 1 := by
    unfold grow1
    cases hf : f keys[i] with
    | none => exact absurd hf hk
    | some l => simp [rep1, hf, h2 _ _ hf]
  simp [this]
theorem count_le (s keys : List UInt8) (f : UInt8 → Option (List UInt8)) (hk : Keyed1 f keys) (i : Nat) : addK f s (keys.take i) ≤ 9 * s.length := by
  have h1 : addK f s (keys.take i) ≤ addK f s keys := by
    conv => rhs; rw [← List.take_append_drop i keys]
    unfold addK
    rw [List.map_append, List.sum_append]; omega
  have := repl_len hk s
  have := (repl_le hk s).2
  omega
theorem repl_none {f : UInt8 → Option (List UInt8)} {keys : List UInt8} (hk : Keyed1 f keys) (s : List UInt8) (h : ∀ k ∈ keys, s.count k = 0) : replL f s = s :=
  repl_same s fun c hc => (hk.iff c).2 fun hm => by have := h c hm; exact absurd hc (List.count_eq_zero.1 this)

/-- bytes as values -/
def valsB (l : List UInt8) : List Value := l.map fun b => .int .u8 (b.toNat : Int)
@[simp] theorem valsB_length (l : List UInt8) : (valsB l).length = l.length := by simp [valsB]
theorem info_u8 : (Try.prog.info? 5).map (fun i => (i.zero, i.size, i.bytes)) = some (some (.int .u8 0), 1, 1) := by kernel_rfl
set_option maxRecDepth 100000 in
set_option maxHeartbeats 4000000 in
theorem bsr_replace (C : Nat) (tv : Value) (f : UInt8 → Option (List UInt8)) (keys s : List UInt8) (w0 w : World) (h : BState w0 w C tv f keys) (hk : Keyed1 f keys) (h2 : Two f) (hs : s.length ≤ 100000) (hkl : keys.length ≤ 100) (hk0 : 0 < keys.length) :
    Gives 88 #[.pointer (some ⟨C, 0, none⟩), .string (S s)] w (.string (S (replL f s))) := by
  have HB := hid h
  have HK := hid hk
  have H2 := hid h2
  obtain ⟨q, cap, hq, -, hqlt⟩ := h.own.form hk0
  subst hq
  have htop := h.top
  have hlt := h.ch
  have HIN : Hid (∀ k ∈ keys, f k ≠ none) := hid (fun k hm e => (hk.iff k).1 e hm)
  clear h hk h2
  obtain ⟨R, hR⟩ : ∃ R, (replL f s).length = R := ⟨_, rfl⟩
  have hR1 : R ≤ 1000000 := by have := (repl_le HK.out s).2; omega
  have HR := hid hR
  clear hR
  obtain ⟨i0, hi, hz0, hz1, hz2⟩ := info_parts info_u8
  go_enter Try.func88, Try.ntmps88
  cases qb : decide ((keys.length : Int) * 8 ≤ (s.length : Int)) with
  | true =>
    go_wp2_with fail
    go_loopw [5, 6, 32] (fun nv bv kv wr => ∃ (k : Nat) (N : Nat) (bb : Bool), kv = .int .i64 k ∧ nv = .int .i64 N ∧ bv = .bool bb ∧ k ≤ keys.length ∧ N = s.length + addK f s (keys.take k) ∧ (bb = false → ∀ c ∈ keys.take k, s.count c = 0) ∧ G w wr) (fun nv bv kv _ => keys.length - (intOf kv).toNat)
    case atStart => exact ⟨0, s.length, false, rfl, rfl, rfl, Nat.zero_le _, by simp [addK], by simp, G.refl _⟩
    case round =>
      obtain ⟨k, N, bb, rfl, rfl, rfl, hkk, hN, hbb, hg⟩ := hrel
      have HBB := hid hbb
      have HG := hid hg
      have HNN := hid hN
      have hN1 : N ≤ 1000000 := by have := count_le s keys f HK.out k; omega
      clear hbb hg hN
      by_cases hlk : k < keys.length
      · obtain ⟨c, hc⟩ : ∃ c, keys[k]'hlk = c := ⟨_, rfl⟩
        have hcell : wr.cell? ⟨q, k, none⟩ = some (.string (S [c])) := by
          have := (HB.out.grow HG.out).own.cellAt k (by omega)
          rw [this, List.getElem?_map, List.getElem?_eq_getElem hlk, hc]; rfl
        obtain ⟨l, hl⟩ : ∃ l, f c = some l := Option.ne_none_iff_exists'.1 (HIN.out c (hc ▸ List.getElem_mem hlk))
        obtain ⟨b, cap2, hsl, -, -⟩ := (HB.out.grow HG.out).some H2.out hl
        have hc256 := c.toNat_lt
        have HC := hid hc
        have HL := hid hl
        obtain ⟨n, hn⟩ : ∃ n, s.count c = n := ⟨_, rfl⟩
        have hn1 : n ≤ 100000 := by have := List.count_le_length (a := c) (l := s); omega
        have HNC := hid hn
        have HBK : Hid (BState w0 wr C _ f keys) := hid (HB.out.grow HG.out)
        have htop' := HBK.out.top
        clear hc hl hn
        go_wp2_with fail
        refine (Try.strings_Count_one (S s) c _).mono ?_
        rintro e w' ⟨rfl, rfl⟩
        have e0 : Lib.countByte (S s).data.toList c = n := HNC.out
        rw [e0]
        clear e0
        by_cases hn0 : n = 0
        · have qn : ((n : Int) != 0) = false := by simp [hn0]
          have HN0 := hid hn0
          clear hn0
          go_wp2_with fail
          go_roundw
          case rel =>
            refine ⟨k + 1, N, bb, by go_num, rfl, rfl, by omega, ?_, ?_, HG.out⟩
            · have := HNN.out
              rw [addK_step f H2.out s keys HIN.out k hlk, HC.out, HNC.out, HN0.out]; omega
            · intro h c' hc'
              rw [List.take_succ_eq_append_getElem hlk, List.mem_append] at hc'
              rcases hc' with hc' | hc'
              · exact HBB.out h c' hc'
              · simp at hc'
                rw [hc', HC.out, HNC.out, HN0.out]
          case measure => simp [intOf]; omega
        · have qn : ((n : Int) != 0) = true := by simp [hn0]
          clear hn0
          go_wp2_with fail
          go_quiet (fail)
          go_wp2_with fail
          go_roundw
          case rel =>
            refine ⟨k + 1, N + n, true, by go_num, by go_num, rfl, by omega, ?_, by simp, HG.out.drewN _⟩
            rw [addK_step f H2.out s keys HIN.out k hlk, HC.out, HNC.out, HNN.out]; omega
          case measure => simp [intOf]; omega
      · obtain rfl : k = keys.length := by omega
        have HRN : Hid (N = R) := hid (by
          have h1 := HNN.out
          rw [List.take_length] at h1
          rw [h1, ← HR.out, repl_len HK.out])
        have HNO : Hid (bb = false → replL f s = s) := hid (fun h => repl_none HK.out s (by
          have := HBB.out h
          rwa [List.take_length] at this))
        have hRN := HRN.out
        subst hRN
        clear HNN HBB hlk
        cases bb with
        | false =>
          have HS := hid (HNO.out rfl)
          go_wp2_with fail
          go_ret
          exact ⟨ret_val (by rw [HS.out]; rfl), HG.out⟩
        | true =>
          have HG0 : Hid (BState w0 wr C _ f keys) := hid (HB.out.grow HG.out)
          go_wp2_with (at_make; refine wpList_make_full _ rfl _ _ 72 rfl wr.heap.size 5 i0 _ 1 Try.underlying72 hi hz0 hz1 .i64 .i64 _ _ N rfl rfl rfl rfl ?m1 ?m2 (Nat.le_refl _) ?_)
          case m1 => first | omega | (rw [hz2]; omega)
          case m2 => unfold maxLen; omega
          intro w1 hown hgrow
          obtain ⟨g, hg⟩ : ∃ g, wr.heap.size = g := ⟨_, rfl⟩
          have hG1 : G wr w1 := Below.grown (G.refl wr) hgrow (Nat.le_refl _) (by simp)
          have hwg : w.heap.size ≤ g := by have := HG.out.size; omega
          rw [hg] at hown ⊢
          obtain ⟨Z, hZ, hZl⟩ : ∃ Z : List Value, w1.heap[g]? = some (.cells Z.toArray 5 (0, 0)) ∧ Z.length = N := by
            rcases hown.2 with ⟨e, _⟩ | ⟨g', cap', cur, e, _, h1, _, _, h2, _⟩
            · cases e
            · simp only [Value.slice.injEq, Option.some.injEq, Addr.mk.injEq, and_true] at e
              obtain ⟨rfl, _, rfl⟩ := e
              exact ⟨cur.toList, by simpa using h1, by simpa using h2⟩
          have HZ := hid hZ
          have HZL := hid hZl
          have HG1 : Hid (G w w1) := hid (HG.out.trans hG1)
          have HB1 : Hid (BState w0 w1 C _ f keys) := hid (HG0.out.grow hG1)
          clear hown hgrow hG1 hZ hZl hg HG0
          go_wp2_with fail
          go_loopw [13, 14] (fun jv iv wr => ∃ (i J : Nat), jv = .int .i64 J ∧ iv = .int .i64 i ∧ i ≤ s.length ∧ J = (replL f (s.take i)).length ∧ wr.heap[g]? = some (.cells (valsB (replL f (s.take i)) ++ Z.drop J).toArray 5 (0, 0)) ∧ G w wr) (fun _ iv _ => s.length - (intOf iv).toNat)
          case atStart => exact ⟨0, 0, rfl, rfl, Nat.zero_le _, by simp [replL], by simpa [replL, valsB] using HZ.out, HG1.out⟩
          case round =>
            obtain ⟨i, J, rfl, rfl, hi1, hJ, hrow, hg1⟩ := hrel
            have HJ := hid hJ
            have HROW := hid hrow
            have HG2 := hid hg1
            have HB2 : Hid (BState w0 wr C _ f keys) := hid (HB.out.grow HG2.out)
            clear hJ hrow hg1
            by_cases hlt2 : i < s.length
            · obtain ⟨c, hc⟩ : ∃ c, s[i]'hlt2 = c := ⟨_, rfl⟩
              have HC := hid hc
              have hJN : J + (rep1 f c).length ≤ N := by
                have h1 := repl_snoc f s i hlt2
                have h2 := repl_take_le f s (i + 1)
                rw [h1, hc] at h2
                have := HJ.out; have := HR.out
                simp at h2; omega
              have hc256 := c.toNat_lt
              cases hf : f c with
              | none =>
                have HF := hid hf
                have hsl := HB2.out.none hf
                have hr1 : rep1 f c = [c] := by simp [rep1, hf]
                rw [hr1] at hJN
                have hJ1 : J < N := by simp at hJN; omega
                have hcJ : wr.cell? ⟨g, J, none⟩ = some (Z[J]'(by rw [HZL.out]; exact hJ1)) := by
                  rw [cell_of_row wr g J _ _ _ HROW.out]
                  simp only [List.getElem?_toArray]
                  rw [List.getElem?_append_right (by simp [HJ.out]), List.getElem?_drop]
                  simp [HJ.out]
                have hfJ : wr.frozen? ⟨g, J, none⟩ = false := frozen_of_row wr g J _ _ HROW.out
                have HR1 := hid hr1
                clear hf hr1 hJN
                subst hc
                go_wp2_with fail
                go_roundw
                case rel =>
                  refine ⟨i + 1, J + 1, by go_num, by go_num, by omega, ?_, ?_, HG2.out.below.setCell (p := ⟨g, J, none⟩) hwg _⟩
                  · rw [repl_snoc f s i hlt2, HC.out, HR1.out]; simp [HJ.out]
                  · rw [setCell_eq_setRow wr g J _ _ _ _ HROW.out]
                    rw [setRow_heap wr g _ _ _ _ HROW.out]
                    congr 2
                    rw [repl_snoc f s i hlt2, HC.out, HR1.out]
                    rw [List.setIfInBounds_toArray]
                    congr 1
                    rw [List.set_append_right _ _ (by simp [HJ.out])]
                    simp only [valsB_length, ← HJ.out, Nat.sub_self]
                    rw [List.drop_eq_getElem_cons (by rw [HZL.out]; exact hJ1), List.set_cons_zero]
                    simp [valsB]
                case measure => simp [intOf]; omega
              | some l =>
                have HF := hid hf
                obtain ⟨b', cap3, hsl, -, hlc⟩ := HB2.out.some H2.out hf
                have hl2 := H2.out _ _ hf
                have hr1 : rep1 f c = l := by simp [rep1, hf]
                rw [hr1, hl2] at hJN
                have hJ1 : J ≤ N := by omega
                have HL2 := hid hl2
                have HR1 := hid hr1
                have HLC := hid hlc
                have hNJ : ((N : Int) - (J : Int)).toNat = N - J := by omega
                have hlen : (valsB (replL f (s.take i)) ++ Z.drop J).length = N := by simp [HZL.out, ← HJ.out]; omega
                have HLEN := hid hlen
                obtain ⟨cur, hcur⟩ : ∃ cur, valsB (replL f (s.take i)) ++ Z.drop J = cur := ⟨_, rfl⟩
                obtain ⟨cs, hcs⟩ : ∃ cs, valsB l = cs := ⟨_, rfl⟩
                have HCUR := hid hcur
                have HCS := hid hcs
                rw [hcur] at HROW HLEN
                have hcl : Hid (cs.length = 2) := hid (by rw [← hcs]; simp [hl2])
                have hcs1 : Hid (∀ v ∈ cs, v.oneCell' = true) := hid (by rw [← hcs]; intro v hv; simp [valsB] at hv; obtain ⟨x, _, rfl⟩ := hv; rfl)
                have hsrc : Hid (∀ j v, cs[j]? = some v → wr.cell? ((⟨b', 0, none⟩ : Addr).add j) = some v) := hid (by
                  intro j v hv
                  rw [addZ]
                  rw [← hcs] at hv
                  unfold valsB at hv
                  rw [List.getElem?_map] at hv
                  cases hlj : l[j]? with
                  | none => rw [hlj] at hv; cases hv
                  | some x =>
                    rw [hlj] at hv
                    injection hv with hv
                    obtain ⟨h, rfl⟩ := List.getElem?_eq_some_iff.1 hlj
                    rw [hlc j h, ← hv])
                clear hf hr1 hlc hl2 hlen hcur hcs
                have hc9 : ((c.toNat : Nat) : Int) < 256 := by omega
                subst hc
                go_wp2_with fail
                go_region_law (refine step_copy_splice rfl (.tmp 105) (.tmp 111) 72 72 rfl 5 Try.underlying72 (by rw [hi]; exact congrArg some hz1) (some ⟨g, J, none⟩) (some ⟨b', 0, none⟩) (N - J) (N - J) 2 cap3 (by simp [Act.eval, Act.put]; omega) (by simp [Act.eval, Act.put]) g J cur 5 HROW.out cs (by rw [hcl.out]; show 2 = min 2 (N - J); omega) (fun _ => ⟨rfl, _, rfl, hsrc.out⟩) (by rw [hcl.out, HLEN.out]; omega) hcs1.out w.heap.size w HG2.out.drew hwg ?_; intro w4 hg4 hb4)
                all_goals
                  rw [hcl.out]
                  go_wp2_with fail
                  go_roundw
                  case rel =>
                    refine ⟨i + 1, J + 2, by go_num, by go_num, by omega, ?_, ?_, hb4⟩
                    · rw [repl_snoc f s i hlt2, HR1.out]; simp [HJ.out, HL2.out]
                    · rw [hg4.out]
                      congr 2
                      rw [repl_snoc f s i hlt2, HR1.out]
                      unfold splice
                      rw [hcl.out, ← HCUR.out, ← HCS.out]
                      have e1 : (valsB (replL f (s.take i)) ++ Z.drop J).take J = valsB (replL f (s.take i)) := by
                        rw [List.take_append_of_le_length (by simp [HJ.out])]
                        exact List.take_of_length_le (by simp [HJ.out])
                      have e2 : (valsB (replL f (s.take i)) ++ Z.drop J).drop (J + 2) = Z.drop (J + 2) := by
                        rw [List.drop_append, List.drop_eq_nil_of_le (by simp [← HJ.out])]
                        simp [← HJ.out, List.drop_drop]
                      rw [e1, e2]
                      simp [valsB]
                  case measure => simp [intOf]; omega
            · obtain rfl : i = s.length := by omega
              have hrow : wr.heap[g]? = some (.cells (valsB (replL f s)).toArray 5 (0, 0)) := by
                have h1 := HROW.out
                have h2 := HJ.out
                rw [List.take_length] at h1 h2
                have h3 : Z.drop J = [] := List.drop_eq_nil_of_le (Nat.le_of_eq (by rw [HZL.out, h2, HR.out]))
                rw [h3, List.append_nil] at h1
                exact h1
              have hob : OwnB wr g (replL f s) := fun j hj => ⟨by rw [cell_of_row wr g j _ _ _ hrow]; simp [valsB, hj], frozen_of_row wr g j _ _ hrow⟩
              have hback := hob.back (P := Try.prog) 72 9 5 N Try.underlying72 Try.underlying5 Try.underlying9
              rw [HR.out] at hback
              clear hob hrow
              go_wp2_with fail
              go_ret
              exact ⟨ret_val rfl, HG2.out⟩
  | false =>
    go_wp2_with fail
    go_loopw [5, 6, 10] (fun nv bv iv wr => ∃ (i N : Nat) (bb : Bool), nv = .int .i64 N ∧ bv = .bool bb ∧ iv = .int .i64 i ∧ i ≤ s.length ∧ N + i = s.length + (replL f (s.take i)).length ∧ (bb = false → ∀ c ∈ s.take i, f c = none) ∧ G w wr) (fun nv bv iv _ => s.length - (intOf iv).toNat)
    case atStart => exact ⟨0, s.length, false, rfl, rfl, rfl, Nat.zero_le _, by simp [replL], by simp, G.refl _⟩
    case round =>
      obtain ⟨i, N, bb, rfl, rfl, rfl, hii, hN, hbb, hg⟩ := hrel
      have HBB := hid hbb
      have HG := hid hg
      have HNN := hid hN
      have hN1 : N ≤ 2000000 := by have := repl_take_le f s i; have := HR.out; omega
      have HBK : Hid (BState w0 wr C _ f keys) := hid (HB.out.grow HG.out)
      clear hbb hg hN
      by_cases hlk : i < s.length
      · obtain ⟨c, hc⟩ : ∃ c, s[i]'hlk = c := ⟨_, rfl⟩
        have hc256 := c.toNat_lt
        have HC := hid hc
        cases hf : f c with
        | none =>
          have HF := hid hf
          have hsl := HBK.out.none hf
          have HR1 : Hid (rep1 f c = [c]) := hid (by simp [rep1, hf])
          clear hf
          subst hc
          go_wp2_with fail
          go_roundw
          case rel =>
            refine ⟨i + 1, N, bb, rfl, rfl, by go_num, by omega, ?_, ?_, HG.out⟩
            · rw [repl_snoc f s i hlk, HR1.out]
              have := HNN.out
              simp; omega
            · intro h c' hc'
              rw [List.take_succ_eq_append_getElem hlk, List.mem_append] at hc'
              rcases hc' with hc' | hc'
              · exact HBB.out h c' hc'
              · simp at hc'
                rw [hc']; exact HF.out
          case measure => simp [intOf]; omega
        | some l =>
          obtain ⟨b', cap3, hsl, -, -⟩ := HBK.out.some H2.out hf
          have hl2 := H2.out _ _ hf
          have HR1 : Hid (rep1 f c = l) := hid (by simp [rep1, hf])
          have HL2 := hid hl2
          clear hf hl2
          subst hc
          go_wp2_with fail
          go_roundw
          case rel =>
            refine ⟨i + 1, N + 1, true, by go_num, rfl, by go_num, by omega, ?_, by simp, HG.out⟩
            rw [repl_snoc f s i hlk, HR1.out]
            have := HNN.out
            simp [HL2.out]; omega
          case measure => simp [intOf]; omega
      · obtain rfl : i = s.length := by omega
        have HRN : Hid (N = R) := hid (by
          have h1 := HNN.out
          rw [List.take_length, HR.out] at h1
          omega)
        have HNO : Hid (bb = false → replL f s = s) := hid (fun h => repl_same s (by
          have := HBB.out h
          rwa [List.take_length] at this))
        have hRN := HRN.out
        subst hRN
        clear HNN HBB hlk
        cases bb with
        | false =>
          have HS := hid (HNO.out rfl)
          go_wp2_with fail
          go_ret
          exact ⟨ret_val (by rw [HS.out]; rfl), HG.out⟩
        | true =>
          have HG0 : Hid (BState w0 wr C _ f keys) := hid (HB.out.grow HG.out)
          go_wp2_with (at_make; refine wpList_make_full _ rfl _ _ 72 rfl wr.heap.size 5 i0 _ 1 Try.underlying72 hi hz0 hz1 .i64 .i64 _ _ N rfl rfl rfl rfl ?m1 ?m2 (Nat.le_refl _) ?_)
          case m1 => first | omega | (rw [hz2]; omega)
          case m2 => unfold maxLen; omega
          intro w1 hown hgrow
          obtain ⟨g, hg⟩ : ∃ g, wr.heap.size = g := ⟨_, rfl⟩
          have hG1 : G wr w1 := Below.grown (G.refl wr) hgrow (Nat.le_refl _) (by simp)
          have hwg : w.heap.size ≤ g := by have := HG.out.size; omega
          rw [hg] at hown ⊢
          obtain ⟨Z, hZ, hZl⟩ : ∃ Z : List Value, w1.heap[g]? = some (.cells Z.toArray 5 (0, 0)) ∧ Z.length = N := by
            rcases hown.2 with ⟨e, _⟩ | ⟨g', cap', cur, e, _, h1, _, _, h2, _⟩
            · cases e
            · simp only [Value.slice.injEq, Option.some.injEq, Addr.mk.injEq, and_true] at e
              obtain ⟨rfl, _, rfl⟩ := e
              exact ⟨cur.toList, by simpa using h1, by simpa using h2⟩
          have HZ := hid hZ
          have HZL := hid hZl
          have HG1 : Hid (G w w1) := hid (HG.out.trans hG1)
          have HB1 : Hid (BState w0 w1 C _ f keys) := hid (HG0.out.grow hG1)
          clear hown hgrow hG1 hZ hZl hg HG0
          go_wp2_with fail
          go_loopw [13, 14] (fun jv iv wr => ∃ (i J : Nat), jv = .int .i64 J ∧ iv = .int .i64 i ∧ i ≤ s.length ∧ J = (replL f (s.take i)).length ∧ wr.heap[g]? = some (.cells (valsB (replL f (s.take i)) ++ Z.drop J).toArray 5 (0, 0)) ∧ G w wr) (fun _ iv _ => s.length - (intOf iv).toNat)
          case atStart => exact ⟨0, 0, rfl, rfl, Nat.zero_le _, by simp [replL], by simpa [replL, valsB] using HZ.out, HG1.out⟩
          case round =>
            obtain ⟨i, J, rfl, rfl, hi1, hJ, hrow, hg1⟩ := hrel
            have HJ := hid hJ
            have HROW := hid hrow
            have HG2 := hid hg1
            have HB2 : Hid (BState w0 wr C _ f keys) := hid (HB.out.grow HG2.out)
            clear hJ hrow hg1
            by_cases hlt2 : i < s.length
            · obtain ⟨c, hc⟩ : ∃ c, s[i]'hlt2 = c := ⟨_, rfl⟩
              have HC := hid hc
              have hJN : J + (rep1 f c).length ≤ N := by
                have h1 := repl_snoc f s i hlt2
                have h2 := repl_take_le f s (i + 1)
                rw [h1, hc] at h2
                have := HJ.out; have := HR.out
                simp at h2; omega
              have hc256 := c.toNat_lt
              cases hf : f c with
              | none =>
                have HF := hid hf
                have hsl := HB2.out.none hf
                have hr1 : rep1 f c = [c] := by simp [rep1, hf]
                rw [hr1] at hJN
                have hJ1 : J < N := by simp at hJN; omega
                have hcJ : wr.cell? ⟨g, J, none⟩ = some (Z[J]'(by rw [HZL.out]; exact hJ1)) := by
                  rw [cell_of_row wr g J _ _ _ HROW.out]
                  simp only [List.getElem?_toArray]
                  rw [List.getElem?_append_right (by simp [HJ.out]), List.getElem?_drop]
                  simp [HJ.out]
                have hfJ : wr.frozen? ⟨g, J, none⟩ = false := frozen_of_row wr g J _ _ HROW.out
                have HR1 := hid hr1
                clear hf hr1 hJN
                subst hc
                go_wp2_with fail
                go_roundw
                case rel =>
                  refine ⟨i + 1, J + 1, by go_num, by go_num, by omega, ?_, ?_, HG2.out.below.setCell (p := ⟨g, J, none⟩) hwg _⟩
                  · rw [repl_snoc f s i hlt2, HC.out, HR1.out]; simp [HJ.out]
                  · rw [setCell_eq_setRow wr g J _ _ _ _ HROW.out]
                    rw [setRow_heap wr g _ _ _ _ HROW.out]
                    congr 2
                    rw [repl_snoc f s i hlt2, HC.out, HR1.out]
                    rw [List.setIfInBounds_toArray]
                    congr 1
                    rw [List.set_append_right _ _ (by simp [HJ.out])]
                    simp only [valsB_length, ← HJ.out, Nat.sub_self]
                    rw [List.drop_eq_getElem_cons (by rw [HZL.out]; exact hJ1), List.set_cons_zero]
                    simp [valsB]
                case measure => simp [intOf]; omega
              | some l =>
                have HF := hid hf
                obtain ⟨b', cap3, hsl, -, hlc⟩ := HB2.out.some H2.out hf
                have hl2 := H2.out _ _ hf
                have hr1 : rep1 f c = l := by simp [rep1, hf]
                rw [hr1, hl2] at hJN
                have hJ1 : J ≤ N := by omega
                have HL2 := hid hl2
                have HR1 := hid hr1
                have HLC := hid hlc
                have hNJ : ((N : Int) - (J : Int)).toNat = N - J := by omega
                have hlen : (valsB (replL f (s.take i)) ++ Z.drop J).length = N := by simp [HZL.out, ← HJ.out]; omega
                have HLEN := hid hlen
                obtain ⟨cur, hcur⟩ : ∃ cur, valsB (replL f (s.take i)) ++ Z.drop J = cur := ⟨_, rfl⟩
                obtain ⟨cs, hcs⟩ : ∃ cs, valsB l = cs := ⟨_, rfl⟩
                have HCUR := hid hcur
                have HCS := hid hcs
                rw [hcur] at HROW HLEN
                have hcl : Hid (cs.length = 2) := hid (by rw [← hcs]; simp [hl2])
                have hcs1 : Hid (∀ v ∈ cs, v.oneCell' = true) := hid (by rw [← hcs]; intro v hv; simp [valsB] at hv; obtain ⟨x, _, rfl⟩ := hv; rfl)
                have hsrc : Hid (∀ j v, cs[j]? = some v → wr.cell? ((⟨b', 0, none⟩ : Addr).add j) = some v) := hid (by
                  intro j v hv
                  rw [addZ]
                  rw [← hcs] at hv
                  unfold valsB at hv
                  rw [List.getElem?_map] at hv
                  cases hlj : l[j]? with
                  | none => rw [hlj] at hv; cases hv
                  | some x =>
                    rw [hlj] at hv
                    injection hv with hv
                    obtain ⟨h, rfl⟩ := List.getElem?_eq_some_iff.1 hlj
                    rw [hlc j h, ← hv])
                clear hf hr1 hlc hl2 hlen hcur hcs
                have hc9 : ((c.toNat : Nat) : Int) < 256 := by omega
                subst hc
                go_wp2_with fail
                go_region_law (refine step_copy_splice rfl (.tmp 105) (.tmp 111) 72 72 rfl 5 Try.underlying72 (by rw [hi]; exact congrArg some hz1) (some ⟨g, J, none⟩) (some ⟨b', 0, none⟩) (N - J) (N - J) 2 cap3 (by simp [Act.eval, Act.put]; omega) (by simp [Act.eval, Act.put]) g J cur 5 HROW.out cs (by rw [hcl.out]; show 2 = min 2 (N - J); omega) (fun _ => ⟨rfl, _, rfl, hsrc.out⟩) (by rw [hcl.out, HLEN.out]; omega) hcs1.out w.heap.size w HG2.out.drew hwg ?_; intro w4 hg4 hb4)
                all_goals
                  rw [hcl.out]
                  go_wp2_with fail
                  go_roundw
                  case rel =>
                    refine ⟨i + 1, J + 2, by go_num, by go_num, by omega, ?_, ?_, hb4⟩
                    · rw [repl_snoc f s i hlt2, HR1.out]; simp [HJ.out, HL2.out]
                    · rw [hg4.out]
                      congr 2
                      rw [repl_snoc f s i hlt2, HR1.out]
                      unfold splice
                      rw [hcl.out, ← HCUR.out, ← HCS.out]
                      have e1 : (valsB (replL f (s.take i)) ++ Z.drop J).take J = valsB (replL f (s.take i)) := by
                        rw [List.take_append_of_le_length (by simp [HJ.out])]
                        exact List.take_of_length_le (by simp [HJ.out])
                      have e2 : (valsB (replL f (s.take i)) ++ Z.drop J).drop (J + 2) = Z.drop (J + 2) := by
                        rw [List.drop_append, List.drop_eq_nil_of_le (by simp [← HJ.out])]
                        simp [← HJ.out, List.drop_drop]
                      rw [e1, e2]
                      simp [valsB]
                  case measure => simp [intOf]; omega
            · obtain rfl : i = s.length := by omega
              have hrow : wr.heap[g]? = some (.cells (valsB (replL f s)).toArray 5 (0, 0)) := by
                have h1 := HROW.out
                have h2 := HJ.out
                rw [List.take_length] at h1 h2
                have h3 : Z.drop J = [] := List.drop_eq_nil_of_le (Nat.le_of_eq (by rw [HZL.out, h2, HR.out]))
                rw [h3, List.append_nil] at h1
                exact h1
              have hob : OwnB wr g (replL f s) := fun j hj => ⟨by rw [cell_of_row wr g j _ _ _ hrow]; simp [valsB, hj], frozen_of_row wr g j _ _ hrow⟩
              have hback := hob.back (P := Try.prog) 72 9 5 N Try.underlying72 Try.underlying5 Try.underlying9
              rw [HR.out] at hback
              clear hob hrow
              go_wp2_with fail
              go_ret
              exact ⟨ret_val rfl, HG2.out⟩

end Go.Proofs.Ythbjabjchfmmoaa

