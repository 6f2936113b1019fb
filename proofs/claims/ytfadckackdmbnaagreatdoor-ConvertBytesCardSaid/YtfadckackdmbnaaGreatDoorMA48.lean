/-
  Texts merged into one: IsLists, Texts, CountMap, NamesPlain.
-/
import Derived.Test.YtfadckackdmbnaaGreatDoorMA46
import Derived.Test.YtfadckackdmbnaaGreatDoorMPieces
import Derived.Test.YtfadckackdmbnaaGreatDoorMRepl
import Derived.Lib.JoinLaws
import Derived.Test.YtfadckackdmbnaaGreatDoorMA50
import Derived.RangeFuncBox
namespace Go.Proofs.YtfadckackdmbnaaGreatDoor
open Go.RowKit
set_option linter.unusedVariables false
set_option linter.unusedSimpArgs false
def sumL (ls : List (List UInt8)) : Nat := (ls.map fun l => l.length + 1).sum
theorem sumL_cons (l : List UInt8) (ls : List (List UInt8)) : sumL (l :: ls) = l.length + 1 + sumL ls := by simp [sumL]
theorem sumL_len (ls : List (List UInt8)) : ls.length ≤ sumL ls := by
  induction ls with
  | nil => simp
  | cons a ls ih => rw [sumL_cons]; simp; omega
theorem sumL_mem {ls : List (List UInt8)} {l : List UInt8} (h : l ∈ ls) : l.length + 1 ≤ sumL ls := by
  induction ls with
  | nil => cases h
  | cons a ls ih =>
    rw [sumL_cons]
    rcases List.mem_cons.1 h with rfl | h
    · omega
    · have := ih h; omega
def IsLists (w : World) (v : Value) (ls : List (List (List UInt8))) : Prop :=
  ∃ cells, IsRow 1 w v ls.length cells ∧ capOk v ∧ ∀ (i : Nat) (l : List (List UInt8)), ls[i]? = some l → ∃ sv, cells[i]? = some sv ∧ IsStrs w sv l
theorem IsLists.grow {w w' : World} {v : Value} {ls : List (List (List UInt8))} (h : IsLists w v ls) (g : G w w') : IsLists w' v ls := by
  obtain ⟨cells, h1, h2, h3⟩ := h
  refine ⟨cells, h1.grow g, h2, fun i l hl => ?_⟩
  obtain ⟨sv, h4, h5⟩ := h3 i l hl
  exact ⟨sv, h4, h5.grow g⟩
theorem IsLists.len {w : World} {v : Value} {ls : List (List (List UInt8))} (h : IsLists w v ls) : ∃ a c, v = .slice a ls.length c ∧ ls.length ≤ c := by
  obtain ⟨cells, h1, h2, h3⟩ := h
  obtain ⟨a, c, e⟩ := IsRow.len h1
  exact ⟨a, c, e, by rw [e] at h2; exact h2⟩
theorem IsLists.at_ {w : World} {v : Value} {ls : List (List (List UInt8))} (h : IsLists w v ls) (h0 : ls ≠ []) : ∃ b off cap, v = .slice (some ⟨b, off, none⟩) ls.length cap ∧ ls.length ≤ cap ∧ b < w.heap.size ∧ ∀ (i : Nat) (l : List (List UInt8)), ls[i]? = some l → ∃ sv, w.cell? ⟨b, off + i, none⟩ = some sv ∧ IsStrs w sv l := by
  obtain ⟨cells, ⟨h1, h2, h3⟩, hk, hc⟩ := h
  rcases h3 with ⟨h3, _⟩ | ⟨b, off, cap, e, hb, hn, hcell⟩
  · exact absurd (List.eq_nil_of_length_eq_zero h3) h0
  · refine ⟨b, off, cap, e, by rw [e] at hk; exact hk, hb, fun i l hl => ?_⟩
    obtain ⟨sv, h4, h5⟩ := hc i l hl
    have hi : i < cells.length := by
      rcases Nat.lt_or_ge i cells.length with h | h
      · exact h
      · rw [List.getElem?_eq_none h] at h4; cases h4
    refine ⟨sv, ?_, h5⟩
    rw [hcell i hi]
    rw [List.getElem?_eq_getElem hi] at h4
    exact h4
def sumP (ls : List (List (List UInt8))) : Nat := (ls.map fun l => sumL l + 1).sum
theorem sumP_cons (l : List (List UInt8)) (ls : List (List (List UInt8))) : sumP (l :: ls) = sumL l + 1 + sumP ls := by simp [sumP]
theorem sumP_len (ls : List (List (List UInt8))) : ls.length ≤ sumP ls := by
  induction ls with
  | nil => simp
  | cons a ls ih => rw [sumP_cons]; simp; omega
theorem sumP_mem {ls : List (List (List UInt8))} {l : List (List UInt8)} (h : l ∈ ls) : sumL l + 1 ≤ sumP ls := by
  induction ls with
  | nil => cases h
  | cons a ls ih =>
    rw [sumP_cons]
    rcases List.mem_cons.1 h with rfl | h
    · omega
    · have := ih h; omega
end Go.Proofs.YtfadckackdmbnaaGreatDoor

namespace Go.Proofs.YtfadckackdmbnaaGreatDoor
open Go.RowKit
set_option linter.unusedVariables false
set_option linter.unusedSimpArgs false
theorem joinS_tail (sep p : List UInt8) (ps : List (List UInt8)) : joinS sep p ps = p ++ Lib.joinTail sep ps := by
  induction ps generalizing p with
  | nil => simp [joinS, Lib.joinTail]
  | cons q ps ih =>
    show p ++ (sep ++ joinS sep q ps) = _
    rw [ih]; simp [Lib.joinTail]
theorem lib_join (sep p : List UInt8) (ps : List (List UInt8)) : Lib.join (p :: ps) sep = joinS sep p ps := by
  rw [Lib.join_cons, joinS_tail]
theorem joinS_length (sep p : List UInt8) (ps : List (List UInt8)) : (joinS sep p ps).length = p.length + (ps.map fun q => sep.length + q.length).sum := by
  induction ps generalizing p with
  | nil => simp [joinS]
  | cons q ps ih =>
    show (p ++ (sep ++ joinS sep q ps)).length = _
    simp [ih]; omega
theorem joinS_any (v : Value) (p : List UInt8) (ps : List (List UInt8)) (sep : List UInt8) (w : World) (h : IsStrs w v (p :: ps)) (hn : ps.length ≤ 1000000) (hl : (joinS sep p ps).length ≤ 100000000) : Gives 186 #[v, .string (S sep)] w (.string (S (joinS sep p ps))) := by
  obtain ⟨b, off, cap, rfl, hc, h3, h4⟩ := h.at_ (by simp)
  have hj : Lib.join (((p :: ps).map S).map (·.data.toList)) sep = joinS sep p ps := by
    rw [List.map_map, ← lib_join]
    congr 1
    conv => rhs; rw [← List.map_id (p :: ps)]
    exact List.map_congr_left fun l _ => rfl
  have c := Tryz.strings_Join b off cap ((p :: ps).map S) (S sep) w (fun j x hx => by
      rw [List.getElem?_map] at hx
      cases hl : (p :: ps)[j]? with
      | none => rw [hl] at hx; cases hx
      | some l =>
        rw [hl] at hx
        injection hx with hx
        rw [h4 j l hl, ← hx]) h3 (by simp; omega) (by simpa using hc) (by show (Lib.join _ sep).length ≤ _; rw [hj]; omega)
  rw [List.length_map] at c
  refine c.mono fun e w' ⟨h1, h2⟩ => ⟨?_, h2⟩
  rw [h1]
  show Ending.returned (.string ⟨(Lib.join _ sep).toArray⟩) = _
  rw [hj]; rfl
def textR (r : PiecesR) (v : Value) (w' : World) : Prop :=
  match r with
  | .good ts _ => v = .tuple #[.string (S (ts.headD [])), .nilIface]
  | .bad c p => ∃ e, v = .tuple #[.string (S []), e] ∧ IsAt w' e c p
theorem textR.good {r : PiecesR} {t : List UInt8} {ts : List (List UInt8)} {cs : List UInt8} {w' : World} (h : r = .good (t :: ts) cs) : textR r (.tuple #[.string (S t), .nilIface]) w' := by subst h; rfl
theorem textR.bad {r : PiecesR} {c : Int} {p : Nat} {e : Value} {w' : World} (h : r = .bad c p) (he : IsAt w' e c p) : textR r (.tuple #[.string (S []), e]) w' := by subst h; exact ⟨e, rfl, he⟩
def listR (r : PiecesR) (v : Value) (w' : World) : Prop :=
  match r with
  | .good ts _ => ∃ tv, v = .tuple #[tv, .nilIface] ∧ IsStrs w' tv ts
  | .bad c p => ∃ e, v = .tuple #[.slice none 0 0, e] ∧ IsAt w' e c p
theorem listR.good {r : PiecesR} {ts : List (List UInt8)} {cs : List UInt8} {tv : Value} {w' : World} (h : r = .good ts cs) (h1 : IsStrs w' tv ts) : listR r (.tuple #[tv, .nilIface]) w' := by subst h; exact ⟨_, rfl, h1⟩
theorem listR.bad {r : PiecesR} {c : Int} {p : Nat} {e : Value} {w' : World} (h : r = .bad c p) (he : IsAt w' e c p) : listR r (.tuple #[.slice none 0 0, e]) w' := by subst h; exact ⟨e, rfl, he⟩
theorem joinL_eq (p : List UInt8) (ps : List (List UInt8)) : joinL (p :: ps) = joinS [44] (escL p) (ps.map escL) := rfl
def joinR (ls : List (List UInt8)) : Value := if ls = [] then .tuple #[.string (S []), eno 8] else .tuple #[.string (S (joinL ls)), .nilIface]
theorem take_map_snoc {α β : Type} (f : α → β) (l : List α) (k : Nat) (h : k < l.length) : (l.take (k + 1)).map f = (l.take k).map f ++ [f l[k]] := by
  rw [List.take_succ_eq_append_getElem h, List.map_append]; rfl
theorem escL_le (s : List UInt8) : (escL s).length ≤ 2 * s.length := by
  have := esc_len s
  have h2 : needL s ≤ s.length := List.length_filter_le _ _
  omega
theorem joinL_le (ls : List (List UInt8)) : (joinL ls).length ≤ 2 * sumL ls := by
  cases ls with
  | nil => simp [joinL]
  | cons p ps =>
    rw [joinL_eq, joinS_length, sumL_cons]
    have h1 := escL_le p
    have h2 : ((ps.map escL).map fun q => [44].length + q.length).sum ≤ 2 * sumL ps := by
      clear h1
      induction ps with
      | nil => simp [sumL]
      | cons q ps ih =>
        rw [sumL_cons]
        have := escL_le q
        simp only [List.map_cons, List.sum_cons, List.length_cons, List.length_nil]
        simp only [List.length_cons, List.length_nil] at ih
        omega
    simp only [List.length_cons, List.length_nil] at h2 ⊢
    omega
theorem own_strs_snoc (f : List UInt8 → List UInt8) (ls : List (List UInt8)) (k : Nat) (h : k < ls.length) : ((ls.take (k + 1)).map fun l => Value.string (S (f l))) = ((ls.take k).map fun l => Value.string (S (f l))) ++ [.string (S (f ls[k]))] :=
  take_map_snoc _ _ _ h
set_option maxRecDepth 100000 in
set_option maxHeartbeats 2000000 in
theorem join_text (v : Value) (ls : List (List UInt8)) (w : World) (h : IsStrs w v ls) (hs : sumL ls ≤ 100000) : Gives 185 #[v] w (joinR ls) := by
  obtain ⟨i0, hi, hz0, hz1, hz2⟩ := info_parts infoStr
  have hlen := sumL_len ls
  by_cases h0 : ls = []
  · subst h0
    obtain ⟨a, cap, rfl, _⟩ := h.len
    clear h
    go_enter Tryz.func185, Tryz.ntmps185
    go_wp2_with fail
    go_ret2
    exact ⟨rfl, G.refl _⟩
  · have hpos : 0 < ls.length := List.length_pos_iff.2 h0
    have HJ : Hid (joinR ls = .tuple #[.string (S (joinL ls)), .nilIface]) := hid (by unfold joinR; rw [if_neg h0])
    have H0 := hid h0
    obtain ⟨b, off, cap, rfl, hc, hb, hcell⟩ := h.at_ h0
    clear h h0
    have HC := hid hcell
    clear hcell
    have hne : ((ls.length : Int) == 0) = false := beq_eq_false_iff_ne.2 (by omega)
    have HM : Hid (∀ l ∈ ls, l.length + 1 ≤ sumL ls) := hid (fun l hl => sumL_mem hl)
    go_enter Tryz.func185, Tryz.ntmps185
    go_wp2_with fail
    go_loopw [4, 13] (fun t i wr => ∃ k : Nat, k ≤ ls.length ∧ i = .int .i64 k ∧ wr.ownsRow w.heap.size 9 1 t k ((ls.take k).map fun l => .string (S (escL l))) ∧ G w wr) (fun _ i _ => ls.length - (intOf i).toNat)
    case atStart => exact ⟨0, Nat.zero_le _, rfl, by simpa using World.ownsRow_nil _ _ _ _, G.refl _⟩
    case round =>
      obtain ⟨k, hk, rfl, hown, g⟩ := hrel
      have HO := hid hown
      have HG := hid g
      clear hown g
      by_cases hlt : k < ls.length
      · have c1 : wr.cell? ⟨b, off + k, none⟩ = some (.string (S ls[k])) := by
          rw [HG.out.cell (p := ⟨b, off + k, none⟩) hb]; exact HC.out k _ (List.getElem?_eq_getElem hlt)
        obtain ⟨x, hx⟩ : ∃ x, ls[k] = x := ⟨_, rfl⟩
        rw [hx] at c1
        have hxl : x.length + 1 ≤ sumL ls := by rw [← hx]; exact HM.out _ (List.getElem_mem hlt)
        have HX := hid hx
        clear hx
        go_wp2_with fail
        refine (escape_any x _ (by omega)).use ?_
        intro w1 g1
        have HG1 := hid g1
        clear g1
        have HO1 : Hid (w1.ownsRow w.heap.size 9 1 u4 k ((ls.take k).map fun l => .string (S (escL l)))) := hid (ownsRow_same HO.out fun j _ hj => HG1.out.below.block j hj)
        go_wp2_with (at_builtin; refine wpList_append_lies _ rfl (.tmp 17) (.tmp 20) 23 rfl w.heap.size 9 i0 _ 1 16 Tryz.underlying23 hi hz0 hz1 hz2 rfl (by decide) _ _ _ rfl (HO1.out.alloc _) ⟨w1.heap.size, 0, none⟩ 1 1 [.string (S (escL x))] rfl rfl (news1 _ _ _) (cell1 _ rfl) (by omega) ?c3 ?c4 ?c5 _ rfl ?_)
        case c3 => unfold maxLen; omega
        case c4 => omega
        case c5 => have := HG.out.size; have := HG1.out.size; simp; omega
        intro g1 cap1 w2 hown2 hgrow2 hat2 hlt2
        have HG2 : Hid (G w w2) := hid (((HG.out.trans HG1.out).alloc _).below.grown hgrow2 (by have := HG.out.size; have := HG1.out.size; simp; omega) (fun j hj => (HO1.out.lt j hj).1))
        have HO2 := hid hown2
        clear hown2 hgrow2 hat2
        go_wp2_with fail
        go_roundw
        case rel => exact ⟨k + 1, by omega, by go_num, by rw [own_strs_snoc _ _ _ hlt, HX.out]; simpa [List.map_take] using HO2.out, HG2.out⟩
        case measure => simp [intOf]; omega
      · obtain rfl : k = ls.length := by omega
        have hown := HO.out
        rw [List.take_length] at hown
        obtain ⟨p, ps, rfl⟩ : ∃ p ps, ls = p :: ps := by cases ls with | nil => exact absurd rfl H0.out | cons p ps => exact ⟨p, ps, rfl⟩
        have hst : IsStrs wr u4 (escL p :: ps.map escL) := strs_of_own (by simpa [Function.comp_def] using hown)
        have HS := hid hst
        clear hown hst
        have hjl := joinL_le (p :: ps)
        have hjl2 : (joinS [44] (escL p) (ps.map escL)).length ≤ 100000000 := by rw [← joinL_eq]; omega
        have hpl : (ps.map escL).length ≤ 1000000 := by simp at hlen ⊢; omega
        have HL := hid hjl2
        have HP := hid hpl
        clear hjl hjl2 hpl
        go_wp2_with fail
        refine (joinS_any u4 (escL p) (ps.map escL) [44] _ HS.out HP.out HL.out).use ?_
        intro w1 g1
        go_wp2_with fail
        go_ret2
        exact ⟨HJ.out.symm ▸ rfl, HG.out.trans g1⟩
theorem joinP_eq (p : List (List UInt8)) (ps : List (List (List UInt8))) : joinP (p :: ps) = joinS [59] (joinL p) (ps.map joinL) := rfl
theorem joinP_le (ls : List (List (List UInt8))) : (joinP ls).length ≤ 2 * sumP ls := by
  cases ls with
  | nil => simp [joinP]
  | cons p ps =>
    rw [joinP_eq, joinS_length, sumP_cons]
    have h1 := joinL_le p
    have h2 : ((ps.map joinL).map fun q => [59].length + q.length).sum ≤ 2 * sumP ps := by
      clear h1
      induction ps with
      | nil => simp [sumP]
      | cons q ps ih =>
        rw [sumP_cons]
        have := joinL_le q
        simp only [List.map_cons, List.sum_cons, List.length_cons, List.length_nil]
        simp only [List.length_cons, List.length_nil] at ih
        omega
    simp only [List.length_cons, List.length_nil] at h2 ⊢
    omega
def joinPR (ls : List (List (List UInt8))) (v : Value) (w' : World) : Prop :=
  (ls = [] ∧ v = .tuple #[.string (S []), eno 8]) ∨ (ls ≠ [] ∧ (∀ l ∈ ls, l ≠ []) ∧ v = .tuple #[.string (S (joinP ls)), .nilIface]) ∨ ∃ k e, ls[k]? = some [] ∧ v = .tuple #[.string (S []), e] ∧ IsAt w' e 8 (k : Nat)
theorem own_lists_snoc (ls : List (List (List UInt8))) (k : Nat) (h : k < ls.length) : ((ls.take (k + 1)).map fun l => Value.string (S (joinL l))) = ((ls.take k).map fun l => Value.string (S (joinL l))) ++ [.string (S (joinL ls[k]))] :=
  take_map_snoc _ _ _ h
set_option maxRecDepth 100000 in
set_option maxHeartbeats 2000000 in
theorem joinParts_any (v : Value) (ls : List (List (List UInt8))) (w : World) (h : IsLists w v ls) (hs : sumP ls ≤ 100000) : Makes 141 #[v] w (joinPR ls) := by
  obtain ⟨i0, hi, hz0, hz1, hz2⟩ := info_parts infoStr
  have hlen := sumP_len ls
  by_cases h0 : ls = []
  · subst h0
    obtain ⟨a, cap, rfl, _⟩ := h.len
    clear h
    go_enter Tryz.func141, Tryz.ntmps141
    go_wp2_with fail
    go_ret2
    exact ⟨_, rfl, .inl ⟨rfl, rfl⟩, G.refl _⟩
  · have hpos : 0 < ls.length := List.length_pos_iff.2 h0
    have H0 := hid h0
    obtain ⟨b, off, cap, rfl, hc, hb, hcell⟩ := h.at_ h0
    clear h h0
    have HC := hid hcell
    clear hcell
    have hne : ((ls.length : Int) == 0) = false := beq_eq_false_iff_ne.2 (by omega)
    have HM : Hid (∀ l ∈ ls, sumL l + 1 ≤ sumP ls) := hid (fun l hl => sumP_mem hl)
    go_enter Tryz.func141, Tryz.ntmps141
    go_wp2_with fail
    go_loopw [4, 15] (fun t i wr => ∃ k : Nat, k ≤ ls.length ∧ i = .int .i64 k ∧ (∀ j, j < k → ls[j]? ≠ some []) ∧ wr.ownsRow w.heap.size 9 1 t k ((ls.take k).map fun l => .string (S (joinL l))) ∧ G w wr) (fun _ i _ => ls.length - (intOf i).toNat)
    case atStart => exact ⟨0, Nat.zero_le _, rfl, by omega, by simpa using World.ownsRow_nil _ _ _ _, G.refl _⟩
    case round =>
      obtain ⟨k, hk, rfl, hfull, hown, g⟩ := hrel
      have HO := hid hown
      have HG := hid g
      have HF := hid hfull
      clear hown g hfull
      by_cases hlt : k < ls.length
      · obtain ⟨sv, hsv, hst⟩ := HC.out k _ (List.getElem?_eq_getElem hlt)
        have c1 : wr.cell? ⟨b, off + k, none⟩ = some sv := by
          rw [HG.out.cell (p := ⟨b, off + k, none⟩) hb]; exact hsv
        have HST := hid (hst.grow HG.out)
        clear hst hsv
        obtain ⟨x, hx⟩ : ∃ x, ls[k] = x := ⟨_, rfl⟩
        rw [hx] at HST
        have hxl : sumL x + 1 ≤ sumP ls := by rw [← hx]; exact HM.out _ (List.getElem_mem hlt)
        have hxl2 : (joinL x).length ≤ 200000 := by have := joinL_le x; omega
        have HX := hid hx
        clear hx
        by_cases hx0 : x = []
        · subst hx0
          go_wp2_with fail
          refine (join_text sv [] _ HST.out (by omega)).use ?_
          intro w1 g1
          have HJ : Hid (joinR [] = .tuple #[.string (S []), eno 8]) := hid rfl
          rw [HJ.out]
          go_wp2_with fail
          go_ret2
          exact ⟨_, rfl, .inr (.inr ⟨k, _, by rw [List.getElem?_eq_getElem hlt, HX.out], rfl, IsAt.new _ _ _ _⟩), (HG.out.trans g1).alloc _⟩
        · have HJ : Hid (joinR x = .tuple #[.string (S (joinL x)), .nilIface]) := hid (by unfold joinR; rw [if_neg hx0])
          have HX0 := hid hx0
          clear hx0
          go_wp2_with fail
          refine (join_text sv x _ HST.out (by omega)).use ?_
          intro w1 g1
          rw [HJ.out]
          have HG1 := hid g1
          clear g1
          have HO1 : Hid (w1.ownsRow w.heap.size 9 1 u4 k ((ls.take k).map fun l => .string (S (joinL l)))) := hid (ownsRow_same HO.out fun j _ hj => HG1.out.below.block j hj)
          go_wp2_with (at_builtin; refine wpList_append_lies _ rfl (.tmp 31) (.tmp 33) 23 rfl w.heap.size 9 i0 _ 1 16 Tryz.underlying23 hi hz0 hz1 hz2 rfl (by decide) _ _ _ rfl (HO1.out.alloc _) ⟨w1.heap.size, 0, none⟩ 1 1 [.string (S (joinL x))] rfl rfl (news1 _ _ _) (cell1 _ rfl) (by omega) ?c3 ?c4 ?c5 _ rfl ?_)
          case c3 => unfold maxLen; omega
          case c4 => omega
          case c5 => have := HG.out.size; have := HG1.out.size; simp; omega
          intro g1 cap1 w2 hown2 hgrow2 hat2 hlt2
          have HG2 : Hid (G w w2) := hid (((HG.out.trans HG1.out).alloc _).below.grown hgrow2 (by have := HG.out.size; have := HG1.out.size; simp; omega) (fun j hj => (HO1.out.lt j hj).1))
          have HO2 := hid hown2
          clear hown2 hgrow2 hat2
          go_wp2_with fail
          go_roundw
          case rel =>
            refine ⟨k + 1, by omega, by go_num, ?_, by rw [own_lists_snoc _ _ hlt, HX.out]; simpa [List.map_take] using HO2.out, HG2.out⟩
            intro j hj
            rcases Nat.lt_or_ge j k with h | h
            · exact HF.out j h
            · obtain rfl : j = k := by omega
              rw [List.getElem?_eq_getElem hlt, HX.out]
              intro e; injection e with e; exact HX0.out e
          case measure => simp [intOf]; omega
      · obtain rfl : k = ls.length := by omega
        have hown := HO.out
        rw [List.take_length] at hown
        obtain ⟨p, ps, rfl⟩ : ∃ p ps, ls = p :: ps := by cases ls with | nil => exact absurd rfl H0.out | cons p ps => exact ⟨p, ps, rfl⟩
        have hst : IsStrs wr u4 (joinL p :: ps.map joinL) := strs_of_own (by simpa [Function.comp_def] using hown)
        have HS := hid hst
        clear hown hst
        have hjl := joinP_le (p :: ps)
        have hjl2 : (joinS [59] (joinL p) (ps.map joinL)).length ≤ 100000000 := by rw [← joinP_eq]; omega
        have hpl : (ps.map joinL).length ≤ 1000000 := by simp at hlen ⊢; omega
        have HL := hid hjl2
        have HP := hid hpl
        clear hjl hjl2 hpl
        go_wp2_with fail
        refine (joinS_any u4 (joinL p) (ps.map joinL) [59] _ HS.out HP.out HL.out).use ?_
        intro w1 g1
        go_wp2_with fail
        go_ret2
        refine ⟨_, rfl, .inr (.inl ⟨by simp, ?_, rfl⟩), HG.out.trans g1⟩
        intro l hl e
        obtain ⟨j, hj, he⟩ := List.getElem_of_mem hl
        exact HF.out j hj (by rw [List.getElem?_eq_getElem hj, he, e])
end Go.Proofs.YtfadckackdmbnaaGreatDoor

namespace Go.Proofs.YtfadckackdmbnaaGreatDoor
open Go.RowKit Go.MapKept
set_option linter.unusedVariables false
set_option linter.unusedSimpArgs false
structure CntEs (es : Array MapEntry) (c : Nat) (f : List UInt8 → Int) : Prop where
  st : Stamped es c
  en : ∀ e ∈ es.toList, ∃ k, e.key = .string (S k) ∧ e.val = .int .i64 (f k)
  al : ∀ k, f k ≠ 0 → ∃ e ∈ es.toList, e.key = .string (S k)
theorem cnt_keys {a b : List UInt8} (h : Value.string (S a) = .string (S b)) : a = b := by
  injection h with h
  exact S_inj.1 h
theorem cnt_nil (c : Nat) : CntEs #[] c (fun _ => 0) := ⟨stamped_empty c, by simp, fun k h => absurd rfl h⟩
theorem CntEs.isKey {es : Array MapEntry} {c : Nat} {f : List UInt8 → Int} (h : CntEs es c f) : ∀ x ∈ es.toList, IsKey .string x.key := fun e he => by
  obtain ⟨x, hx, _⟩ := h.en e he
  rw [hx]; trivial
theorem CntEs.find {es : Array MapEntry} {c : Nat} {f : List UInt8 → Int} (h : CntEs es c f) (k : List UInt8) : (f k = 0 ∧ Instr.findNow .string (.string (S k)) es.toList 0 = some none ∧ ∀ x ∈ es.toList, x.key ≠ .string (S k)) ∨ ∃ i e, Instr.findNow .string (.string (S k)) es.toList 0 = some (some (i, .int .i64 (f k))) ∧ es[i]? = some e ∧ e.key = .string (S k) := by
  rcases findNow_spec (d := .string) (k := .string (S k)) trivial es.toList 0 h.isKey with ⟨h1, h2⟩ | ⟨j, e, h1, h2, h3⟩
  · refine .inl ⟨?_, h1, h2⟩
    by_cases h0 : f k = 0
    · exact h0
    · obtain ⟨e, he, hk⟩ := h.al k h0
      exact absurd hk (h2 e he)
  · obtain ⟨x, hx, hv⟩ := h.en e (List.mem_of_getElem? h2)
    have e1 : x = k := cnt_keys (hx.symm.trans h3)
    refine .inr ⟨j, e, ?_, by simpa using h2, h3⟩
    rw [h1, hv, e1, Nat.zero_add]
section
variable {W : World} {b : Nat} {es : Array MapEntry} {c : Nat} {f : List UInt8 → Int} {k : List UInt8}
theorem look_cnt (hb : W.heap[b]? = some (.map es c)) (h : CntEs es c f) (k : List UInt8) : (Instr.lookup 81 (.map (some b)) (.string (S k)) false).run Tryz.prog W = .ok (.int .i64 (f k)) W := by
  have hc : ∀ e, (Instr.checkKey e 10000 9 (.string (S k))).run Tryz.prog W = .ok () W := fun e => MapKept.run_checkKey (d := .string) (k := .string (S k)) Tryz.underlying9 trivial e 9999
  have hz : (zeroValue 3).run Tryz.prog W = .ok (.int .i64 0) W := by kernel_rfl
  rcases h.find k with ⟨h1, h2, _⟩ | ⟨i, e, h2, _⟩
  · simp [Instr.lookup, run_underlying Tryz.underlying81, MapKept.run_getObj_map hb, hc, MapKept.run_findKey Tryz.underlying9 h2, Result.andThen, h1, hz]
  · simp [Instr.lookup, run_underlying Tryz.underlying81, MapKept.run_getObj_map hb, hc, MapKept.run_findKey Tryz.underlying9 h2, Result.andThen]
theorem put_cnt (hb : W.heap[b]? = some (.map es c)) (h : CntEs es c f) (k : List UInt8) (v : Int) : ∃ es' c', (Instr.mapUpdate 81 (.map (some b)) (.string (S k)) (.int .i64 v)).run Tryz.prog W = .ok () { W with heap := W.heap.setIfInBounds b (.map es' c') } ∧ CntEs es' c' (fun x => if x = k then v else f x) := by
  have hc : (Instr.checkKey false 10000 9 (.string (S k))).run Tryz.prog W = .ok () W := MapKept.run_checkKey (d := .string) (k := .string (S k)) Tryz.underlying9 trivial false 9999
  rcases h.find k with ⟨h1, h2, h3⟩ | ⟨i, e, h2, h3, h4⟩
  · refine ⟨es.push { key := .string (S k), val := .int .i64 v, born := c }, c + 1, ?_, ?_, ?_, ?_⟩
    · exact run_put_at W _ _ _ _ Tryz.underlying81 Tryz.underlying9 b es c _ _ hb trivial h2
    · exact stamped_push h.st h3
    · intro e he
      simp only [Array.toList_push, List.mem_append, List.mem_singleton] at he
      rcases he with he | rfl
      · obtain ⟨x, hx, hv⟩ := h.en e he
        refine ⟨x, hx, ?_⟩
        have : x ≠ k := fun q => h3 e he (by rw [hx, q])
        rw [hv]; simp only [if_neg this]
      · exact ⟨k, rfl, by simp⟩
    · intro x hx
      by_cases e : x = k
      · subst e; exact ⟨{ key := .string (S x), val := .int .i64 v, born := c }, by simp, rfl⟩
      · simp only [if_neg e] at hx
        obtain ⟨y, hy, hk⟩ := h.al x hx
        exact ⟨y, by simp [hy], hk⟩
  · obtain ⟨g, hg⟩ : ∃ g : MapEntry → MapEntry, g = fun e => { e with key := .string (S k), val := .int .i64 v } := ⟨_, rfl⟩
    have hkey : ∀ e', es[i]? = some e' → (g e').key = e'.key := fun e' he' => by rw [h3] at he'; cases he'; rw [hg]; exact h4.symm
    refine ⟨es.modify i g, c, ?_, ?_, ?_, ?_⟩
    · subst hg
      simp [Instr.mapUpdate, run_underlying Tryz.underlying81, MapKept.run_getObj_map hb, hc, MapKept.run_findKey Tryz.underlying9 h2, h3, h4, MapKept.run_keyThatStays (d := .string) (k := .string (S k)) trivial, MapKept.run_setObj_map _ hb, Result.andThen]
    · exact stamped_modify h.st _ _ (fun _ _ => by rw [hg]) (fun e' _ he' => hkey e' he')
    · intro e' he'
      obtain ⟨j, hj, hje⟩ := List.getElem_of_mem he'
      have hj' : j < es.size := by simpa using hj
      have h5 : e' = if i = j then g es[j] else es[j] := by
        rw [← hje]; simp [List.getElem_modify]
      by_cases q : i = j
      · rw [if_pos q] at h5
        exact ⟨k, by rw [h5, hg], by rw [h5, hg]; simp⟩
      · rw [if_neg q] at h5
        obtain ⟨x, hx, hv⟩ := h.en es[j] (by simp)
        refine ⟨x, by rw [h5, hx], ?_⟩
        have : x ≠ k := fun q2 => by
          have hp := ((stamped_iff _ _).1 h.st).2.2
          have hi : i < es.size := (Array.getElem?_eq_some_iff.1 h3).1
          have hei : es[i] = e := (Array.getElem?_eq_some_iff.1 h3).2
          rw [List.pairwise_iff_getElem] at hp
          rcases Nat.lt_or_gt_of_ne q with l | l
          · exact hp i j (by simpa using hi) (by simpa using hj') l (by simp only [Array.getElem_toList]; rw [hei, h4, hx, q2])
          · exact hp j i (by simpa using hj') (by simpa using hi) l (by simp only [Array.getElem_toList]; rw [hei, h4, hx, q2])
        rw [h5, hv]; simp only [if_neg this]
    · intro x hx
      have hkeys := modify_keys (es := es) i g hkey
      have hin : ∀ y ∈ es.toList, ∃ z ∈ (es.modify i g).toList, z.key = y.key := fun y hy => by
        have : y.key ∈ (es.modify i g).toList.map (·.key) := by rw [hkeys]; exact List.mem_map_of_mem hy
        obtain ⟨z, hz, e⟩ := List.mem_map.1 this
        exact ⟨z, hz, e⟩
      by_cases e0 : x = k
      · obtain ⟨z, hz, hk⟩ := hin e (List.mem_of_getElem? (by simpa using h3))
        exact ⟨z, hz, by rw [hk, h4, e0]⟩
      · simp only [if_neg e0] at hx
        obtain ⟨y, hy, hk⟩ := h.al x hx
        obtain ⟨z, hz, hkz⟩ := hin y hy
        exact ⟨z, hz, hkz.trans hk⟩
theorem cnt_grown (W : World) (b : Nat) (o : Obj) : W.grownBy { W with heap := W.heap.setIfInBounds b o } (some b) :=
  ⟨rfl, rfl, rfl, by simp, fun i hi hne => by
    have : b ≠ i := fun e => hne (by rw [e])
    simp [Array.getElem?_setIfInBounds, this]⟩
theorem cnt_heap (hb : W.heap[b]? = some (.map es c)) (o : Obj) : ({ W with heap := W.heap.setIfInBounds b o } : World).heap[b]? = some o := (MapKept.heap_set hb).1
end
end Go.Proofs.YtfadckackdmbnaaGreatDoor

namespace Go.Proofs.YtfadckackdmbnaaGreatDoor
open Go.RowKit
set_option linter.unusedVariables false
theorem boxed_below {W W' : World} {B : Nat} {t : TypeId} {v : Value} (h : Boxed W B t v) (g : Below W.heap.size W W') : Boxed W' B t v := (g.block B h.lt).trans h
theorem ownsRow_below {W W' : World} {base : Nat} {e : TypeId} {size : Nat} {v : Value} {n : Nat} {xs : List Value} (h : W.ownsRow base e size v n xs) (g : Below W.heap.size W W') : W'.ownsRow base e size v n xs := by
  refine ⟨h.1, h.2.imp id ?_⟩
  rintro ⟨b, cap, cur, e1, e2, e3, r⟩
  exact ⟨b, cap, cur, e1, e2, (g.block b (Array.getElem?_eq_some_iff.1 e3).1).trans e3, r⟩
theorem rowMono {W : World} {base base' : Nat} {e : TypeId} {size : Nat} {v : Value} {n : Nat} {xs : List Value} (h : W.ownsRow base e size v n xs) (g : base' ≤ base) : W.ownsRow base' e size v n xs := by
  refine ⟨h.1, h.2.imp id ?_⟩
  rintro ⟨b, cap, cur, e1, e2, r⟩
  exact ⟨b, cap, cur, e1, Nat.le_trans g e2, r⟩
theorem kpSeq_set {Bp B1 Bz b : Nat} {W : World} (v : Value) (h1 : b ≠ Bp) (h2 : b ≠ B1) (h3 : b ≠ Bz) : KpSeq Bp B1 Bz W (W.setCell ⟨b, 0, none⟩ v) :=
  ⟨World.cell?_setCell_other _ _ _ _ (by first | (simp; done) | (simp; omega)), World.cell?_setCell_other _ _ _ _ (by first | (simp; done) | (simp; omega)), World.cell?_setCell_other _ _ _ _ (by first | (simp; done) | (simp; omega)), World.frozen?_setCell _ _ _ _⟩
theorem below_grown {n : Nat} {W w1 : World} {e : TypeId} {size : Nat} {v : Value} {k : Nat} {xs : List Value} {tmp : Obj} (hrow : W.ownsRow n e size v k xs) (hn : n ≤ W.heap.size) (hgrow : (W.alloc tmp).grownBy w1 v.ownBlock) : Below n W w1 := by
  refine ((Below.refl n W).alloc hn tmp).grown hgrow (by simp; omega) fun j ej => ?_
  rcases hrow.2 with ⟨rfl, _⟩ | ⟨g, cap, cur, rfl, hb, _, _⟩
  · simp [Value.ownBlock] at ej
  · obtain rfl : g = j := by simpa [Value.ownBlock] using ej
    exact hb
theorem infoNames : (Tryz.prog.info? 9).map (fun i => (i.zero, i.size, i.bytes)) = some (some (.string ⟨#[]⟩), 1, 16) := by kernel_rfl
def nameOf (x : List UInt8) : List UInt8 := (Lib.cut x [32]).1
theorem nameOf_text (v : Int) : (tabT v).map (fun e => nameOf e.text) = (tabT v).map Ent.name := by
  unfold tabT
  split
  · decide +kernel
  · decide +kernel
theorem tab_len (v : Int) : (tabT v).length ≤ 100 := by
  unfold tabT
  split
  · decide +kernel
  · decide +kernel
end Go.Proofs.YtfadckackdmbnaaGreatDoor
