/-
  CONTRACT of text.pieces: for all texts of at most 1000000 bytes.
-/
import Derived.Test.YtaakkpkhkbhcmaaPieces
import Derived.Test.YtaakkpkhkbhcmaaErr
import Derived.Deep.RegionLaw
namespace Go.Proofs.Ytaakkpkhkbhcmaa
open Go.RowKit
set_option linter.unusedVariables false
set_option linter.unusedSimpArgs false

theorem infoStr : (Try.prog.info? 9).map (fun i => (i.zero, i.size, i.bytes)) = some (some (.string ⟨#[]⟩), 1, 16) := by kernel_rfl
theorem idx_contains (a : List UInt8) (c : UInt8) : (0 ≤ Lib.indexByte a c ↔ a.contains c = true) := by
  induction a with
  | nil => simp [Lib.indexByte]
  | cons b l ih =>
    have hge := Lib.indexByte_ge l c
    unfold Lib.indexByte
    by_cases h : b = c
    · subst h; simp
    · have h1 : (b == c) = false := by simpa using h
      have h2 : ((b :: l).contains c) = l.contains c := by
        have : ¬ c = b := fun e => h e.symm
        simp [this]
      rw [h1, h2, ← ih]
      simp only [Bool.false_eq_true, if_false]
      split
      · rename_i h3; have := eq_of_beq h3; omega
      · rename_i h3; have : Lib.indexByte l c ≠ -1 := fun e => h3 (by rw [e]; rfl); omega
theorem news1 (w : World) (v : Value) (e : TypeId) : ∀ (j : Nat) (u : Value), [v][j]? = some u → (w.alloc (.cells #[v] e)).cell? ((⟨w.heap.size, 0, none⟩ : Addr).add j) = some u := by
  intro j u hj
  match j, hj with
  | 0, hj => simp at hj; subst hj; simp [Addr.add]
theorem cell1 (v : Value) (h : v.oneCell' = true) : ∀ u ∈ [v], u.oneCell' = true := by intro u hu; simp at hu; subst hu; exact h
/-- the bytes of a slice -/
def IsBytes (w : World) (v : Value) (l : List UInt8) : Prop := IsRow 1 w v l.length (l.map fun c => .int .u8 (c.toNat : Int))
theorem row_of_own {w : World} {base : Nat} {e : TypeId} {k : Nat} {v : Value} {n : Nat} {xs : List Value} (h : w.ownsRow base e k v n xs) (h1 : ∀ u ∈ xs, u.oneCell' = true) : IsRow k w v n xs := by
  refine ⟨h.1, h1, ?_⟩
  rcases Nat.eq_zero_or_pos n with h0 | h0
  · left
    refine ⟨h0, ?_⟩
    rcases h.2 with ⟨e, _⟩ | ⟨g, cap, cur, e, _⟩
    · exact .inl e
    · exact .inr ⟨_, _, by rw [e, h0]⟩
  · right
    obtain ⟨g, cap, rfl, _, hlt⟩ := h.form h0
    refine ⟨g, 0, cap, rfl, hlt, h0, fun j hj => ?_⟩
    have := h.cells (g := g) rfl j xs[j] (List.getElem?_eq_getElem hj)
    rw [Nat.zero_add]
    have e : (⟨g, 0, none⟩ : Addr).add j = ⟨g, j, none⟩ := by unfold Addr.add; split <;> simp_all
    rw [e] at this; exact this
theorem cap_of_own {w : World} {base : Nat} {e : TypeId} {k : Nat} {v : Value} {n : Nat} {xs : List Value} (h : w.ownsRow base e k v n xs) : capOk v := by
  rcases h.2 with ⟨rfl, _⟩ | ⟨g, cap, cur, rfl, _, _, hc, _⟩
  · exact Nat.le_refl _
  · exact hc
theorem strs_of_own {w : World} {base : Nat} {v : Value} {ls : List (List UInt8)} (h : w.ownsRow base 9 1 v ls.length (ls.map fun l => .string (S l))) : IsStrs w v ls :=
  ⟨row_of_own h (by intro u hu; obtain ⟨l, _, rfl⟩ := List.mem_map.1 hu; rfl), cap_of_own h⟩
theorem bytes_of_own {w : World} {base : Nat} {v : Value} {l : List UInt8} (h : w.ownsRow base 5 1 v l.length (l.map fun c => .int .u8 (c.toNat : Int))) : IsBytes w v l :=
  row_of_own h (by intro u hu; obtain ⟨c, _, rfl⟩ := List.mem_map.1 hu; rfl)
def PiecesPost (r : PiecesR) (v : Value) (w' : World) : Prop :=
  match r with
  | .good ts cs => ∃ tv cv, v = .tuple #[tv, cv, .nilIface] ∧ IsStrs w' tv ts ∧ IsBytes w' cv cs
  | .bad c p => ∃ e, v = .tuple #[.slice none 0 0, .slice none 0 0, e] ∧ IsAt w' e c p
theorem PiecesPost.good {r : PiecesR} {ts : List (List UInt8)} {cs : List UInt8} {tv cv : Value} {w' : World} (h : r = .good ts cs) (h1 : IsStrs w' tv ts) (h2 : IsBytes w' cv cs) : PiecesPost r (.tuple #[tv, cv, .nilIface]) w' := by subst h; exact ⟨_, _, rfl, h1, h2⟩
theorem PiecesPost.bad {r : PiecesR} {c : Int} {p : Nat} {e : Value} {w' : World} (h : r = .bad c p) (he : IsAt w' e c p) : PiecesPost r (.tuple #[.slice none 0 0, .slice none 0 0, e]) w' := by subst h; exact ⟨e, rfl, he⟩
def PiecesRel (a s : List UInt8) (w wr : World) (k : Nat) (tv cv : Value) (cur : List UInt8) (ts : List (List UInt8)) (cs : List UInt8) : Prop :=
  k ≤ s.length ∧ piecesGo a s 0 [] [] [] = piecesGo a (s.drop k) k cur ts cs ∧ PState w wr w.heap.size tv cv cur ts cs ∧ cur.length ≤ k ∧ ts.length ≤ k ∧ cs.length ≤ k

theorem unesc_none {d : UInt8} (h : unescB d = none) : ((d.toNat : Int) == 92) = false ∧ ((d.toNat : Int) == 44) = false ∧ ((d.toNat : Int) == 59) = false ∧ ((d.toNat : Int) == 110) = false ∧ ((d.toNat : Int) == 78) = false :=
  of_decide_eq_true (byte_all (fun d => decide (unescB d = none → ((d.toNat : Int) == 92) = false ∧ ((d.toNat : Int) == 44) = false ∧ ((d.toNat : Int) == 59) = false ∧ ((d.toNat : Int) == 110) = false ∧ ((d.toNat : Int) == 78) = false)) (by decide +kernel) d) h
theorem unesc_some {d x : UInt8} (h : unescB d = some x) : (d = 92 ∧ x = 92) ∨ (d = 44 ∧ x = 44) ∨ (d = 59 ∧ x = 59) ∨ (d = 110 ∧ x = 10) ∨ (d = 78 ∧ x = 10) := by
  unfold unescB at h
  split at h
  · rename_i h1
    injection h with h
    subst h
    rcases h1 with rfl | rfl | rfl <;> simp
  · split at h
    · rename_i h1
      injection h with h
      subst h
      rcases h1 with rfl | rfl <;> simp
    · cases h

set_option maxRecDepth 100000 in
set_option maxHeartbeats 4000000 in
theorem pieces_any (s a : List UInt8) (w : World) (hs : s.length ≤ 100000) (ha : a.length ≤ 100) : Makes 35 #[.string (S s), .string (S a)] w (PiecesPost (piecesGo a s 0 [] [] [])) := by
  obtain ⟨i0, hi, hz0, hz1, hz2⟩ := info_parts infoStr
  obtain ⟨i1, hi1, hz10, hz11, hz12⟩ := info_parts infoByte
  go_enter Try.func35, Try.ntmps35
  go_wp2
  go_loopw [4, 5, 8] (fun tv cv i wr => ∃ k cur ts cs, i = .int .i64 (k : Nat) ∧ PiecesRel a s w wr k tv cv cur ts cs) (fun _ _ i _ => s.length - (intOf i).toNat)
  case atStart => exact ⟨0, [], [], [], rfl, Nat.zero_le _, by simp, PState.new (G.refl _), Nat.le_refl _, Nat.le_refl _, Nat.le_refl _⟩
  case round =>
    obtain ⟨k, cur, ts, cs, rfl, hk, hgo, hst, hl1, hl2, hl3⟩ := hrel
    have HGO := hid hgo
    have HST := hid hst
    clear hgo hst
    by_cases hlt : k < s.length
    · obtain ⟨c, hc⟩ : ∃ c, s[k] = c := ⟨_, rfl⟩
      have hdr : Hid (s.drop k = c :: s.drop (k + 1)) := hid (by rw [← hc]; exact List.drop_eq_getElem_cons hlt)
      by_cases h92 : c = 92
      · subst h92
        by_cases hend : k + 1 < s.length
        · obtain ⟨d, hd⟩ : ∃ d, s[k + 1] = d := ⟨_, rfl⟩
          have hdr2 : Hid (s.drop (k + 1) = d :: s.drop (k + 1 + 1)) := hid (by rw [← hd]; exact List.drop_eq_getElem_cons hend)
          cases hu : unescB d with
          | none =>
            have HR : Hid (piecesGo a s 0 [] [] [] = .bad 3 (k + 1 : Nat)) := hid (by
              rw [HGO.out, hdr.out, hdr2.out]; exact pieces_none hu)
            obtain ⟨f1, f2, f3, f4, f5⟩ := unesc_none hu
            clear hu
            go_wp2_with fail
            go_ret3
            exact ⟨_, rfl, PiecesPost.bad HR.out (IsAt.new _ _ _ _), HST.out.g.alloc _⟩
          | some x =>
            have HR : Hid (piecesGo a s 0 [] [] [] = piecesGo a (s.drop (k + 2)) (k + 2) (cur ++ [x]) ts cs) := hid (by
              rw [HGO.out, hdr.out, hdr2.out]; exact pieces_esc hu)
            rcases unesc_some hu with ⟨rfl, rfl⟩ | ⟨rfl, rfl⟩ | ⟨rfl, rfl⟩ | ⟨rfl, rfl⟩ | ⟨rfl, rfl⟩
            · clear hu
              go_wp2_with fail
              refine (HST.out.byteI 92 92 (by decide) (by omega)).mono ?_
              rintro e w1 ⟨rfl, hst1⟩
              have H1 := hid hst1
              clear hst1
              go_wp2_with fail
              go_roundw
              case rel => exact ⟨k + 2, _, _, _, by go_num, by omega, HR.out, H1.out, by simp; omega, by omega, by omega⟩
              case measure => simp [intOf]; omega
            · clear hu
              go_wp2_with fail
              refine (HST.out.byteI 44 44 (by decide) (by omega)).mono ?_
              rintro e w1 ⟨rfl, hst1⟩
              have H1 := hid hst1
              clear hst1
              go_wp2_with fail
              go_roundw
              case rel => exact ⟨k + 2, _, _, _, by go_num, by omega, HR.out, H1.out, by simp; omega, by omega, by omega⟩
              case measure => simp [intOf]; omega
            · clear hu
              go_wp2_with fail
              refine (HST.out.byteI 59 59 (by decide) (by omega)).mono ?_
              rintro e w1 ⟨rfl, hst1⟩
              have H1 := hid hst1
              clear hst1
              go_wp2_with fail
              go_roundw
              case rel => exact ⟨k + 2, _, _, _, by go_num, by omega, HR.out, H1.out, by simp; omega, by omega, by omega⟩
              case measure => simp [intOf]; omega
            · clear hu
              go_wp2_with fail
              refine (HST.out.byteI 10 10 (by decide) (by omega)).mono ?_
              rintro e w1 ⟨rfl, hst1⟩
              have H1 := hid hst1
              clear hst1
              go_wp2_with fail
              go_roundw
              case rel => exact ⟨k + 2, _, _, _, by go_num, by omega, HR.out, H1.out, by simp; omega, by omega, by omega⟩
              case measure => simp [intOf]; omega
            · clear hu
              go_wp2_with fail
              refine (HST.out.byteI 10 10 (by decide) (by omega)).mono ?_
              rintro e w1 ⟨rfl, hst1⟩
              have H1 := hid hst1
              clear hst1
              go_wp2_with fail
              go_roundw
              case rel => exact ⟨k + 2, _, _, _, by go_num, by omega, HR.out, H1.out, by simp; omega, by omega, by omega⟩
              case measure => simp [intOf]; omega
        · have HR : Hid (piecesGo a s 0 [] [] [] = .bad 7 (k + 1 : Nat)) := hid (by
            rw [HGO.out, hdr.out, List.drop_eq_nil_of_le (by omega)]; exact pieces_end ..)
          have b1 : ((k : Int) + 1 == (s.length : Int)) = true := beq_iff_eq.2 (by omega)
          go_wp2_with fail
          go_ret3
          exact ⟨_, rfl, PiecesPost.bad HR.out (IsAt.new _ _ _ _), HST.out.g.alloc _⟩
      · have b92 : ((c.toNat : Int) == 92) = false := beq_eq_false_iff_ne.2 (fun e => h92 (UInt8.toNat_inj.1 (by show c.toNat = 92; omega)))
        cases hcon : a.contains c with
        | true =>
          have HR : Hid (piecesGo a s 0 [] [] [] = piecesGo a (s.drop (k + 1)) (k + 1) [] (ts ++ [cur]) (cs ++ [c])) := hid (by
            rw [HGO.out, hdr.out]; exact pieces_cut h92 hcon)
          have hix : 0 ≤ Lib.indexByte a c := (idx_contains a c).2 hcon
          go_wp2_with fail
          refine (indexByte_any a c _).use ?_
          go_wp2_with fail
          refine (HST.out.str).mono ?_
          rintro e w1 ⟨rfl, hq, _, _⟩
          have Q1 := hid hq
          clear hq
          go_wp2_with (at_builtin; refine wpList_append_lies _ rfl (.tmp 58) (.tmp 60) 31 rfl w.heap.size 9 i0 _ 1 16 Try.underlying31 hi hz0 hz1 hz2 rfl (by decide) _ _ _ rfl (Q1.out.ot.alloc _) ⟨w1.heap.size, 0, none⟩ 1 1 [.string (S cur)] rfl rfl (news1 _ _ _) (cell1 _ rfl) (by omega) ?c3 ?c4 ?c5 _ rfl ?_)
          case c3 => unfold maxLen; omega
          case c4 => omega
          case c5 => have := Q1.out.g.size; simp; omega
          intro g1 cap1 w2 hown2 hgrow2 hat2 hlt2
          have Q2 : Hid (QState w w2 w.heap.size (.slice (some ⟨g1, 0, none⟩) (ts.length + 1) cap1) _ (ts ++ [cur]) cs) := hid ((Q1.out.grow ((G.refl _).alloc (.cells #[.string (S cur)] 9))).pushT cur hown2 hgrow2 hat2 (by simp))
          clear hown2 hgrow2 hat2 Q1
          go_wp2_with (at_builtin; refine wpList_append_lies _ rfl (.tmp 62) (.tmp 64) 50 rfl w.heap.size 5 i1 _ 1 1 Try.underlying50 hi1 hz10 hz11 hz12 rfl (by decide) _ _ _ rfl (Q2.out.oc.alloc _) ⟨w2.heap.size, 0, none⟩ 1 1 [.int .u8 (c.toNat : Int)] rfl rfl (news1 _ _ _) (cell1 _ rfl) (by omega) ?d3 ?d4 ?d5 _ rfl ?_)
          case d3 => unfold maxLen; omega
          case d4 => omega
          case d5 => have := Q2.out.g.size; simp; omega
          intro g2 cap2 w3 hown3 hgrow3 hat3 hlt3
          have Q3 : Hid (QState w w3 w.heap.size (.slice (some ⟨g1, 0, none⟩) (ts.length + 1) cap1) (.slice (some ⟨g2, 0, none⟩) (cs.length + 1) cap2) (ts ++ [cur]) (cs ++ [c])) := hid ((Q2.out.grow ((G.refl _).alloc (.cells #[.int .u8 (c.toNat : Int)] 5))).pushC c hown3 hgrow3 hat3 (by simp))
          clear hown3 hgrow3 hat3 Q2
          go_wp2_with fail
          refine (Q3.out.reset).mono ?_
          rintro e w4 ⟨rfl, hst1⟩
          have H1 := hid hst1
          clear hst1
          go_wp2_with fail
          go_roundw
          case rel => exact ⟨k + 1, _, _, _, by go_num, by omega, HR.out, H1.out, by simp, by simp; omega, by simp; omega⟩
          case measure => simp [intOf]; omega
        | false =>
          have HR : Hid (piecesGo a s 0 [] [] [] = piecesGo a (s.drop (k + 1)) (k + 1) (cur ++ [c]) ts cs) := hid (by
            rw [HGO.out, hdr.out]; exact pieces_one h92 hcon)
          have hix : Lib.indexByte a c < 0 := by
            have h1 := (idx_contains a c).1
            rcases Int.lt_or_le (Lib.indexByte a c) 0 with h | h
            · exact h
            · rw [h1 h] at hcon; cases hcon
          go_wp2_with fail
          refine (indexByte_any a c _).use ?_
          go_wp2_with fail
          refine (HST.out.byte c (by omega)).mono ?_
          rintro e w1 ⟨rfl, hst1⟩
          have H1 := hid hst1
          clear hst1
          go_wp2_with fail
          go_roundw
          case rel => exact ⟨k + 1, _, _, _, by go_num, by omega, HR.out, H1.out, by simp; omega, by omega, by omega⟩
          case measure => simp [intOf]; omega
    · have HR : Hid (piecesGo a s 0 [] [] [] = .good (ts ++ [cur]) cs) := hid (by
        rw [HGO.out, List.drop_eq_nil_of_le (by omega)]; exact pieces_nil ..)
      go_wp2_with fail
      refine (HST.out.str).mono ?_
      rintro e w1 ⟨rfl, hq, _, _⟩
      have Q1 := hid hq
      clear hq
      go_wp2_with (at_builtin; refine wpList_append_lies _ rfl (.tmp 67) (.tmp 69) 31 rfl w.heap.size 9 i0 _ 1 16 Try.underlying31 hi hz0 hz1 hz2 rfl (by decide) _ _ _ rfl (Q1.out.ot.alloc _) ⟨w1.heap.size, 0, none⟩ 1 1 [.string (S cur)] rfl rfl (news1 _ _ _) (cell1 _ rfl) (by omega) ?c3 ?c4 ?c5 _ rfl ?_)
      case c3 => unfold maxLen; omega
      case c4 => omega
      case c5 => have := Q1.out.g.size; simp; omega
      intro g1 cap1 w2 hown2 hgrow2 hat2 hlt2
      have Q2 : Hid (QState w w2 w.heap.size (.slice (some ⟨g1, 0, none⟩) (ts.length + 1) cap1) _ (ts ++ [cur]) cs) := hid ((Q1.out.grow ((G.refl _).alloc (.cells #[.string (S cur)] 9))).pushT cur hown2 hgrow2 hat2 (by simp))
      clear hown2 hgrow2 hat2 Q1
      go_wp2_with fail
      go_ret3
      exact ⟨_, rfl, PiecesPost.good HR.out (strs_of_own (by simpa using Q2.out.ot)) (bytes_of_own Q2.out.oc), Q2.out.g⟩

end Go.Proofs.Ytaakkpkhkbhcmaa
