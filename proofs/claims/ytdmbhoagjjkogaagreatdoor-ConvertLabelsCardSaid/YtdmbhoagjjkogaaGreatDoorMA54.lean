/-
  Texts merged into one: Texts, RulesOf4.
-/
import Derived.Test.YtdmbhoagjjkogaaGreatDoorMPieces
import Derived.Test.YtdmbhoagjjkogaaGreatDoorMA40
import Derived.Test.YtdmbhoagjjkogaaGreatDoorMRepl
import Derived.Lib.JoinLaws
import Derived.Test.YtdmbhoagjjkogaaGreatDoorMA36
namespace Go.Proofs.YtdmbhoagjjkogaaGreatDoor
open Go.RowKit
set_option linter.unusedVariables false
set_option linter.unusedSimpArgs false
theorem joinS_tail (sep p : List UInt8) (ps : List (List UInt8)) : joinS sep p ps = p ++ Lib.joinTail sep ps := by
  induction ps generalizing p with
  | nil => simp [joinS, Lib.joinTail]
  | cons q ps ih =>
    show p ++ (sep ++ joinS sep q ps) = _
    rw [ih]; simp [Lib.joinTail]
theorem lib_join (sep p : List UInt8) (ps : List (List UInt8)) : Lib.join (p :: ps) sep = joinS sep p ps := by
  rw [Lib.join_cons, joinS_tail]
theorem joinS_length (sep p : List UInt8) (ps : List (List UInt8)) : (joinS sep p ps).length = p.length + (ps.map fun q => sep.length + q.length).sum := by
  induction ps generalizing p with
  | nil => simp [joinS]
  | cons q ps ih =>
    show (p ++ (sep ++ joinS sep q ps)).length = _
    simp [ih]; omega
theorem joinS_any (v : Value) (p : List UInt8) (ps : List (List UInt8)) (sep : List UInt8) (w : World) (h : IsStrs w v (p :: ps)) (hn : ps.length ≤ 1000000) (hl : (joinS sep p ps).length ≤ 100000000) : Gives 172 #[v, .string (S sep)] w (.string (S (joinS sep p ps))) := by
  obtain ⟨b, off, cap, rfl, hc, h3, h4⟩ := h.at_ (by simp)
  have hj : Lib.join (((p :: ps).map S).map (·.data.toList)) sep = joinS sep p ps := by
    rw [List.map_map, ← lib_join]
    congr 1
    conv => rhs; rw [← List.map_id (p :: ps)]
    exact List.map_congr_left fun l _ => rfl
  have c := Tryz.strings_Join b off cap ((p :: ps).map S) (S sep) w (fun j x hx => by
      rw [List.getElem?_map] at hx
      cases hl : (p :: ps)[j]? with
      | none => rw [hl] at hx; cases hx
      | some l =>
        rw [hl] at hx
        injection hx with hx
        rw [h4 j l hl, ← hx]) h3 (by simp; omega) (by simpa using hc) (by show (Lib.join _ sep).length ≤ _; rw [hj]; omega)
  rw [List.length_map] at c
  refine c.mono fun e w' ⟨h1, h2⟩ => ⟨?_, h2⟩
  rw [h1]
  show Ending.returned (.string ⟨(Lib.join _ sep).toArray⟩) = _
  rw [hj]; rfl
/-! ## reading -/
def textR (r : PiecesR) (v : Value) (w' : World) : Prop :=
  match r with
  | .good ts _ => v = .tuple #[.string (S (ts.headD [])), .nilIface]
  | .bad c p => ∃ e, v = .tuple #[.string (S []), e] ∧ IsAt w' e c p
theorem textR.good {r : PiecesR} {t : List UInt8} {ts : List (List UInt8)} {cs : List UInt8} {w' : World} (h : r = .good (t :: ts) cs) : textR r (.tuple #[.string (S t), .nilIface]) w' := by subst h; rfl
theorem textR.bad {r : PiecesR} {c : Int} {p : Nat} {e : Value} {w' : World} (h : r = .bad c p) (he : IsAt w' e c p) : textR r (.tuple #[.string (S []), e]) w' := by subst h; exact ⟨e, rfl, he⟩
def listR (r : PiecesR) (v : Value) (w' : World) : Prop :=
  match r with
  | .good ts _ => ∃ tv, v = .tuple #[tv, .nilIface] ∧ IsStrs w' tv ts
  | .bad c p => ∃ e, v = .tuple #[.slice none 0 0, e] ∧ IsAt w' e c p
theorem listR.good {r : PiecesR} {ts : List (List UInt8)} {cs : List UInt8} {tv : Value} {w' : World} (h : r = .good ts cs) (h1 : IsStrs w' tv ts) : listR r (.tuple #[tv, .nilIface]) w' := by subst h; exact ⟨_, rfl, h1⟩
theorem listR.bad {r : PiecesR} {c : Int} {p : Nat} {e : Value} {w' : World} (h : r = .bad c p) (he : IsAt w' e c p) : listR r (.tuple #[.slice none 0 0, e]) w' := by subst h; exact ⟨e, rfl, he⟩
def ListO (n : Nat) (r : PiecesR) (v : Value) (w' : World) : Prop :=
  match r with
  | .good ts _ => ∃ tv, v = .tuple #[tv, .nilIface] ∧ w'.ownsRow n 9 1 tv ts.length (ts.map fun t => .string (S t))
  | .bad c p => ∃ e, v = .tuple #[.slice none 0 0, e] ∧ IsAt w' e c p
theorem ListO.good {n : Nat} {r : PiecesR} {ts : List (List UInt8)} {cs : List UInt8} {tv : Value} {w' : World} (h : r = .good ts cs) (h1 : w'.ownsRow n 9 1 tv ts.length (ts.map fun t => .string (S t))) : ListO n r (.tuple #[tv, .nilIface]) w' := by subst h; exact ⟨_, rfl, h1⟩
theorem ListO.bad {n : Nat} {r : PiecesR} {c : Int} {p : Nat} {e : Value} {w' : World} (h : r = .bad c p) (he : IsAt w' e c p) : ListO n r (.tuple #[.slice none 0 0, e]) w' := by subst h; exact ⟨e, rfl, he⟩
/-! ## writing -/
theorem joinL_eq (p : List UInt8) (ps : List (List UInt8)) : joinL (p :: ps) = joinS [44] (escL p) (ps.map escL) := rfl
def joinR (ls : List (List UInt8)) : Value := if ls = [] then .tuple #[.string (S []), eno 8] else .tuple #[.string (S (joinL ls)), .nilIface]
theorem take_map_snoc {α β : Type} (f : α → β) (l : List α) (k : Nat) (h : k < l.length) : (l.take (k + 1)).map f = (l.take k).map f ++ [f l[k]] := by
  rw [List.take_succ_eq_append_getElem h, List.map_append]; rfl
theorem escL_le (s : List UInt8) : (escL s).length ≤ 2 * s.length := by
  have := esc_len s
  have h2 : needL s ≤ s.length := List.length_filter_le _ _
  omega
theorem joinL_le (ls : List (List UInt8)) : (joinL ls).length ≤ 2 * sumL ls := by
  cases ls with
  | nil => simp [joinL]
  | cons p ps =>
    rw [joinL_eq, joinS_length, sumL_cons]
    have h1 := escL_le p
    have h2 : ((ps.map escL).map fun q => [44].length + q.length).sum ≤ 2 * sumL ps := by
      clear h1
      induction ps with
      | nil => simp [sumL]
      | cons q ps ih =>
        rw [sumL_cons]
        have := escL_le q
        simp only [List.map_cons, List.sum_cons, List.length_cons, List.length_nil]
        simp only [List.length_cons, List.length_nil] at ih
        omega
    simp only [List.length_cons, List.length_nil] at h2 ⊢
    omega
theorem own_strs_snoc (f : List UInt8 → List UInt8) (ls : List (List UInt8)) (k : Nat) (h : k < ls.length) : ((ls.take (k + 1)).map fun l => Value.string (S (f l))) = ((ls.take k).map fun l => Value.string (S (f l))) ++ [.string (S (f ls[k]))] :=
  take_map_snoc _ _ _ h
set_option maxRecDepth 100000 in
set_option maxHeartbeats 2000000 in
theorem join_text (v : Value) (ls : List (List UInt8)) (w : World) (h : IsStrs w v ls) (hs : sumL ls ≤ 100000) : Gives 171 #[v] w (joinR ls) := by
  obtain ⟨i0, hi, hz0, hz1, hz2⟩ := info_parts infoStr
  have hlen := sumL_len ls
  by_cases h0 : ls = []
  · subst h0
    obtain ⟨a, cap, rfl, _⟩ := h.len
    clear h
    go_enter Tryz.func171, Tryz.ntmps171
    go_wp2_with fail
    go_ret2
    exact ⟨rfl, G.refl _⟩
  · have hpos : 0 < ls.length := List.length_pos_iff.2 h0
    have HJ : Hid (joinR ls = .tuple #[.string (S (joinL ls)), .nilIface]) := hid (by unfold joinR; rw [if_neg h0])
    have H0 := hid h0
    obtain ⟨b, off, cap, rfl, hc, hb, hcell⟩ := h.at_ h0
    clear h h0
    have HC := hid hcell
    clear hcell
    have hne : ((ls.length : Int) == 0) = false := beq_eq_false_iff_ne.2 (by omega)
    have HM : Hid (∀ l ∈ ls, l.length + 1 ≤ sumL ls) := hid (fun l hl => sumL_mem hl)
    go_enter Tryz.func171, Tryz.ntmps171
    go_wp2_with fail
    go_loopw [4, 13] (fun t i wr => ∃ k : Nat, k ≤ ls.length ∧ i = .int .i64 k ∧ wr.ownsRow w.heap.size 9 1 t k ((ls.take k).map fun l => .string (S (escL l))) ∧ G w wr) (fun _ i _ => ls.length - (intOf i).toNat)
    case atStart => exact ⟨0, Nat.zero_le _, rfl, by simpa using World.ownsRow_nil _ _ _ _, G.refl _⟩
    case round =>
      obtain ⟨k, hk, rfl, hown, g⟩ := hrel
      have HO := hid hown
      have HG := hid g
      clear hown g
      by_cases hlt : k < ls.length
      · have c1 : wr.cell? ⟨b, off + k, none⟩ = some (.string (S ls[k])) := by
          rw [HG.out.cell (p := ⟨b, off + k, none⟩) hb]; exact HC.out k _ (List.getElem?_eq_getElem hlt)
        obtain ⟨x, hx⟩ : ∃ x, ls[k] = x := ⟨_, rfl⟩
        rw [hx] at c1
        have hxl : x.length + 1 ≤ sumL ls := by rw [← hx]; exact HM.out _ (List.getElem_mem hlt)
        have HX := hid hx
        clear hx
        go_wp2_with fail
        refine (escape_any x _ (by omega)).use ?_
        intro w1 g1
        have HG1 := hid g1
        clear g1
        have HO1 : Hid (w1.ownsRow w.heap.size 9 1 u4 k ((ls.take k).map fun l => .string (S (escL l)))) := hid (ownsRow_same HO.out fun j _ hj => HG1.out.below.block j hj)
        go_wp2_with (at_builtin; refine wpList_append_lies _ rfl (.tmp 17) (.tmp 20) 23 rfl w.heap.size 9 i0 _ 1 16 Tryz.underlying23 hi hz0 hz1 hz2 rfl (by decide) _ _ _ rfl (HO1.out.alloc _) ⟨w1.heap.size, 0, none⟩ 1 1 [.string (S (escL x))] rfl rfl (news1 _ _ _) (cell1 _ rfl) (by omega) ?c3 ?c4 ?c5 _ rfl ?_)
        case c3 => unfold maxLen; omega
        case c4 => omega
        case c5 => have := HG.out.size; have := HG1.out.size; simp; omega
        intro g1 cap1 w2 hown2 hgrow2 hat2 hlt2
        have HG2 : Hid (G w w2) := hid (((HG.out.trans HG1.out).alloc _).below.grown hgrow2 (by have := HG.out.size; have := HG1.out.size; simp; omega) (fun j hj => (HO1.out.lt j hj).1))
        have HO2 := hid hown2
        clear hown2 hgrow2 hat2
        go_wp2_with fail
        go_roundw
        case rel => exact ⟨k + 1, by omega, by go_num, by rw [own_strs_snoc _ _ _ hlt, HX.out]; simpa [List.map_take] using HO2.out, HG2.out⟩
        case measure => simp [intOf]; omega
      · obtain rfl : k = ls.length := by omega
        have hown := HO.out
        rw [List.take_length] at hown
        obtain ⟨p, ps, rfl⟩ : ∃ p ps, ls = p :: ps := by cases ls with | nil => exact absurd rfl H0.out | cons p ps => exact ⟨p, ps, rfl⟩
        have hst : IsStrs wr u4 (escL p :: ps.map escL) := strs_of_own (by simpa [Function.comp_def] using hown)
        have HS := hid hst
        clear hown hst
        have hjl := joinL_le (p :: ps)
        have hjl2 : (joinS [44] (escL p) (ps.map escL)).length ≤ 100000000 := by rw [← joinL_eq]; omega
        have hpl : (ps.map escL).length ≤ 1000000 := by simp at hlen ⊢; omega
        have HL := hid hjl2
        have HP := hid hpl
        clear hjl hjl2 hpl
        go_wp2_with fail
        refine (joinS_any u4 (escL p) (ps.map escL) [44] _ HS.out HP.out HL.out).use ?_
        intro w1 g1
        go_wp2_with fail
        go_ret2
        exact ⟨HJ.out.symm ▸ rfl, HG.out.trans g1⟩
theorem joinP_eq (p : List (List UInt8)) (ps : List (List (List UInt8))) : joinP (p :: ps) = joinS [59] (joinL p) (ps.map joinL) := rfl
theorem joinP_le (ls : List (List (List UInt8))) : (joinP ls).length ≤ 2 * sumP ls := by
  cases ls with
  | nil => simp [joinP]
  | cons p ps =>
    rw [joinP_eq, joinS_length, sumP_cons]
    have h1 := joinL_le p
    have h2 : ((ps.map joinL).map fun q => [59].length + q.length).sum ≤ 2 * sumP ps := by
      clear h1
      induction ps with
      | nil => simp [sumP]
      | cons q ps ih =>
        rw [sumP_cons]
        have := joinL_le q
        simp only [List.map_cons, List.sum_cons, List.length_cons, List.length_nil]
        simp only [List.length_cons, List.length_nil] at ih
        omega
    simp only [List.length_cons, List.length_nil] at h2 ⊢
    omega
def joinPR (ls : List (List (List UInt8))) (v : Value) (w' : World) : Prop :=
  (ls = [] ∧ v = .tuple #[.string (S []), eno 8]) ∨ (ls ≠ [] ∧ (∀ l ∈ ls, l ≠ []) ∧ v = .tuple #[.string (S (joinP ls)), .nilIface]) ∨ ∃ k e, ls[k]? = some [] ∧ v = .tuple #[.string (S []), e] ∧ IsAt w' e 8 (k : Nat)
theorem own_lists_snoc (ls : List (List (List UInt8))) (k : Nat) (h : k < ls.length) : ((ls.take (k + 1)).map fun l => Value.string (S (joinL l))) = ((ls.take k).map fun l => Value.string (S (joinL l))) ++ [.string (S (joinL ls[k]))] :=
  take_map_snoc _ _ _ h
set_option maxRecDepth 100000 in
set_option maxHeartbeats 2000000 in
theorem joinParts_any (v : Value) (ls : List (List (List UInt8))) (w : World) (h : IsLists w v ls) (hs : sumP ls ≤ 100000) : Makes 139 #[v] w (joinPR ls) := by
  obtain ⟨i0, hi, hz0, hz1, hz2⟩ := info_parts infoStr
  have hlen := sumP_len ls
  by_cases h0 : ls = []
  · subst h0
    obtain ⟨a, cap, rfl, _⟩ := h.len
    clear h
    go_enter Tryz.func139, Tryz.ntmps139
    go_wp2_with fail
    go_ret2
    exact ⟨_, rfl, .inl ⟨rfl, rfl⟩, G.refl _⟩
  · have hpos : 0 < ls.length := List.length_pos_iff.2 h0
    have H0 := hid h0
    obtain ⟨b, off, cap, rfl, hc, hb, hcell⟩ := h.at_ h0
    clear h h0
    have HC := hid hcell
    clear hcell
    have hne : ((ls.length : Int) == 0) = false := beq_eq_false_iff_ne.2 (by omega)
    have HM : Hid (∀ l ∈ ls, sumL l + 1 ≤ sumP ls) := hid (fun l hl => sumP_mem hl)
    go_enter Tryz.func139, Tryz.ntmps139
    go_wp2_with fail
    go_loopw [4, 15] (fun t i wr => ∃ k : Nat, k ≤ ls.length ∧ i = .int .i64 k ∧ (∀ j, j < k → ls[j]? ≠ some []) ∧ wr.ownsRow w.heap.size 9 1 t k ((ls.take k).map fun l => .string (S (joinL l))) ∧ G w wr) (fun _ i _ => ls.length - (intOf i).toNat)
    case atStart => exact ⟨0, Nat.zero_le _, rfl, by omega, by simpa using World.ownsRow_nil _ _ _ _, G.refl _⟩
    case round =>
      obtain ⟨k, hk, rfl, hfull, hown, g⟩ := hrel
      have HO := hid hown
      have HG := hid g
      have HF := hid hfull
      clear hown g hfull
      by_cases hlt : k < ls.length
      · obtain ⟨sv, hsv, hst⟩ := HC.out k _ (List.getElem?_eq_getElem hlt)
        have c1 : wr.cell? ⟨b, off + k, none⟩ = some sv := by
          rw [HG.out.cell (p := ⟨b, off + k, none⟩) hb]; exact hsv
        have HST := hid (hst.grow HG.out)
        clear hst hsv
        obtain ⟨x, hx⟩ : ∃ x, ls[k] = x := ⟨_, rfl⟩
        rw [hx] at HST
        have hxl : sumL x + 1 ≤ sumP ls := by rw [← hx]; exact HM.out _ (List.getElem_mem hlt)
        have hxl2 : (joinL x).length ≤ 200000 := by have := joinL_le x; omega
        have HX := hid hx
        clear hx
        by_cases hx0 : x = []
        · subst hx0
          go_wp2_with fail
          refine (join_text sv [] _ HST.out (by omega)).use ?_
          intro w1 g1
          have HJ : Hid (joinR [] = .tuple #[.string (S []), eno 8]) := hid rfl
          rw [HJ.out]
          go_wp2_with fail
          go_ret2
          exact ⟨_, rfl, .inr (.inr ⟨k, _, by rw [List.getElem?_eq_getElem hlt, HX.out], rfl, IsAt.new _ _ _ _⟩), (HG.out.trans g1).alloc _⟩
        · have HJ : Hid (joinR x = .tuple #[.string (S (joinL x)), .nilIface]) := hid (by unfold joinR; rw [if_neg hx0])
          have HX0 := hid hx0
          clear hx0
          go_wp2_with fail
          refine (join_text sv x _ HST.out (by omega)).use ?_
          intro w1 g1
          rw [HJ.out]
          have HG1 := hid g1
          clear g1
          have HO1 : Hid (w1.ownsRow w.heap.size 9 1 u4 k ((ls.take k).map fun l => .string (S (joinL l)))) := hid (ownsRow_same HO.out fun j _ hj => HG1.out.below.block j hj)
          go_wp2_with (at_builtin; refine wpList_append_lies _ rfl (.tmp 31) (.tmp 33) 23 rfl w.heap.size 9 i0 _ 1 16 Tryz.underlying23 hi hz0 hz1 hz2 rfl (by decide) _ _ _ rfl (HO1.out.alloc _) ⟨w1.heap.size, 0, none⟩ 1 1 [.string (S (joinL x))] rfl rfl (news1 _ _ _) (cell1 _ rfl) (by omega) ?c3 ?c4 ?c5 _ rfl ?_)
          case c3 => unfold maxLen; omega
          case c4 => omega
          case c5 => have := HG.out.size; have := HG1.out.size; simp; omega
          intro g1 cap1 w2 hown2 hgrow2 hat2 hlt2
          have HG2 : Hid (G w w2) := hid (((HG.out.trans HG1.out).alloc _).below.grown hgrow2 (by have := HG.out.size; have := HG1.out.size; simp; omega) (fun j hj => (HO1.out.lt j hj).1))
          have HO2 := hid hown2
          clear hown2 hgrow2 hat2
          go_wp2_with fail
          go_roundw
          case rel =>
            refine ⟨k + 1, by omega, by go_num, ?_, by rw [own_lists_snoc _ _ hlt, HX.out]; simpa [List.map_take] using HO2.out, HG2.out⟩
            intro j hj
            rcases Nat.lt_or_ge j k with h | h
            · exact HF.out j h
            · obtain rfl : j = k := by omega
              rw [List.getElem?_eq_getElem hlt, HX.out]
              intro e; injection e with e; exact HX0.out e
          case measure => simp [intOf]; omega
      · obtain rfl : k = ls.length := by omega
        have hown := HO.out
        rw [List.take_length] at hown
        obtain ⟨p, ps, rfl⟩ : ∃ p ps, ls = p :: ps := by cases ls with | nil => exact absurd rfl H0.out | cons p ps => exact ⟨p, ps, rfl⟩
        have hst : IsStrs wr u4 (joinL p :: ps.map joinL) := strs_of_own (by simpa [Function.comp_def] using hown)
        have HS := hid hst
        clear hown hst
        have hjl := joinP_le (p :: ps)
        have hjl2 : (joinS [59] (joinL p) (ps.map joinL)).length ≤ 100000000 := by rw [← joinP_eq]; omega
        have hpl : (ps.map joinL).length ≤ 1000000 := by simp at hlen ⊢; omega
        have HL := hid hjl2
        have HP := hid hpl
        clear hjl hjl2 hpl
        go_wp2_with fail
        refine (joinS_any u4 (joinL p) (ps.map joinL) [59] _ HS.out HP.out HL.out).use ?_
        intro w1 g1
        go_wp2_with fail
        go_ret2
        refine ⟨_, rfl, .inr (.inl ⟨by simp, ?_, rfl⟩), HG.out.trans g1⟩
        intro l hl e
        obtain ⟨j, hj, he⟩ := List.getElem_of_mem hl
        exact HF.out j hj (by rw [List.getElem?_eq_getElem hj, he, e])
end Go.Proofs.YtdmbhoagjjkogaaGreatDoor

namespace Go.Proofs.YtdmbhoagjjkogaaGreatDoor
open Go.RowKit Go.Shelf
attribute [local go_sem] Oper.semAt_some
set_option linter.unusedVariables false
set_option linter.unusedSimpArgs false
set_option maxRecDepth 100000 in
set_option maxHeartbeats 40000000 in
theorem of_in4 (s : List UInt8) (w : World) (hs : s.length ≤ 1000000) (hsp : Lib.TabIs Tryz.prog w "strings.asciiSpace" .u8 Lib.asciiSpaceTab) :
    CallsIn Fence.wide 6 Tryz.prog 21 #[.string (S s), .int .i64 4] w fun e w' => e = .returned (.tuple #[.agg #[.int .i64 (ruleOf (tabT 4) (upperL s)).1, .int .i64 (ruleOf (tabT 4) (upperL s)).2.1, .int .i64 (ruleOf (tabT 4) (upperL s)).2.2.1, .int .i64 (ruleOf (tabT 4) (upperL s)).2.2.2], .nilIface]) ∧ Below w.heap.size w w' := by
  have tb := fun W => table_any 4 W
  have TB := hid tb
  clear tb
  refine callsIn_of_wp_marks Tryz.func21 rfl trivial ?_ rfl
  simp only [Tryz.ntmps21, List.size_toArray, List.length_cons, List.length_nil, Nat.reduceAdd, Nat.reduceSub, Array.replicate_succ, Array.replicate_zero, List.push_toArray, List.append_toArray, List.nil_append, List.cons_append]
  gi_wp2_with (first | (refine ⟨trivial, ?_⟩; gi_at_call 44; refine (callsIn_wide.2 (TB.out _)).mono ?_; rintro e w' ⟨rfl, rfl⟩) | (refine ⟨trivial, ?_⟩; gi_at_call 43; refine (callsIn_wide.2 (SplitSeq_any _ _ _)).mono ?_; rintro e w' ⟨rfl, rfl⟩))
  obtain ⟨p, ps, e1, e2, e3, e4⟩ := tab_facts 4
  rw [e2]
  generalize hW0 : World.alloc _ (Obj.cells #[Value.int IntKind.i64 0] 3) = W0
  have z0 : W0.heap.size = w.heap.size + 6 := by rw [← hW0]; simp
  have c0 : W0.cell? ⟨w.heap.size, 0, none⟩ = some (.string (S s)) := by rw [← hW0]; simp [go_sem]
  have c2 : W0.cell? ⟨w.heap.size + 3, 0, none⟩ = some (.string (S (joinS [124] p ps))) := by rw [← hW0]; simp [go_sem]
  have c3 : W0.cell? ⟨w.heap.size + 4, 0, none⟩ = some (.string (S [124])) := by rw [← hW0]; simp [go_sem]
  have c4 : W0.cell? ⟨w.heap.size + 5, 0, none⟩ = some (.int .i64 0) := by rw [← hW0]; simp [go_sem]
  have f2 : W0.frozen? ⟨w.heap.size + 3, 0, none⟩ = false := by rw [← hW0]; simp [go_sem]
  have hof : OfAt w.heap.size s (0, 0, 0, 0) W0 := by rw [← hW0]; refine ⟨?_, ?_, ?_, ?_, ?_, ?_, ?_, ?_, ?_, ?_, ?_⟩ <;> simp [go_sem]
  have hB0 : Below w.heap.size w W0 := by rw [← hW0]; repeat (first | exact Below.refl _ _ | (refine Below.alloc ?_ (by simp; try omega) _))
  refine wpIn_rangeFunc_ownAt (B := w.heap.size + 3) (by omega) rfl (by decide) (gf := 119) (lb := #[.pointer (some ⟨w.heap.size + 4, 0, none⟩), .pointer (some ⟨w.heap.size + 3, 0, none⟩), .pointer (some ⟨w.heap.size + 5, 0, none⟩)]) rfl trivial (enters_of Tryz.func119 (by kernel_rfl) rfl)
    (seq_stops 5 (w.heap.size + 4) (w.heap.size + 3) (w.heap.size + 5) (by omega) (by omega) (by omega) p ps e3 e4 W0 (by omega) (by omega) (by omega) c3 c2 c4 f2) kpSeq_t
    (fun W l o o' hl hW ho hw => kpSeq_below (belowK_b (w := W0) (Nat.le_refl _) W l o o' hl hW ho hw) (by omega) (by omega) (by omega)) (Below.refl _ _) (fun _ => rfl)
    (fun pre W => (OfAt w.heap.size s (0, 0, 0, 0) W ∧ (∀ e ∈ tabT 4, e.text ∈ pre → ¬ e.name = upperL s) ∧ W0.heap.size ≤ W.heap.size) ∧ Below w.heap.size w W)
    (fun c pre W => (OfAt w.heap.size s (ruleOf (tabT 4) (upperL s)) W ∧ c = .ret) ∧ Below w.heap.size w W)
    (OwnFrom.and (Own.from (fun x A B row hs hg hr => ⟨OfAt.own _ _ _ x A B row hs.1 hg hr, hs.2.1, Nat.le_trans hs.2.2 hg.size⟩) _) (ownFrom_below (Nat.le_refl _) (by omega)))
    (fun x W v hs => ⟨⟨hs.1.1.set _ _ (by omega), hs.1.2.1, Nat.le_trans hs.1.2.2 (by simp)⟩, hs.2.setCell (p := ⟨w.heap.size + 3, 0, none⟩) (by simp) _⟩)
    (fun c => OwnFrom.and (Own.from (fun x A B row hs hg hr => ⟨OfAt.own _ _ _ x A B row hs.1 hg hr, hs.2⟩) _) (ownFrom_below (Nat.le_refl _) (by omega)))
    ⟨⟨hof, by simp, Nat.le_refl _⟩, hB0⟩
    (fun x => { tmps := #[.string (S s), .int .i64 4, .pointer (some ⟨w.heap.size, 0, none⟩), undef, .pointer (some ⟨w.heap.size + 1, 0, none⟩), .pointer (some ⟨w.heap.size + 1 + 1, 0, none⟩), .string (S x), undef, undef, undef, .int .i64 4, .bool true, .bool true, .int .i64 4, .bool false, .bool false, undef, undef, .int .i64 4, .string (S (joinS [124] p ps)), .func (.func 119) #[] #[.pointer (some ⟨w.heap.size + 4, 0, none⟩), .pointer (some ⟨w.heap.size + 3, 0, none⟩), .pointer (some ⟨w.heap.size + 5, 0, none⟩)], .string (S x), undef, undef, undef, undef, undef, undef, undef, undef, undef, undef, undef, undef, undef, undef, undef, undef, undef, undef, undef, undef, undef, undef, undef, undef, undef, undef, undef, undef, undef, undef, undef, undef, undef], defers := [] })
    ?assign ?body ?done ?stop
  case assign =>
    intro l x W K hK
    gi_wp2
    exact hK
  case body =>
    rintro l pre x W ⟨⟨ho, hne, hsz⟩, hB⟩ hpre
    have hx : x ∈ (tabT 4).map Ent.text := by rw [e1]; exact hpre.subset (by simp)
    obtain ⟨e, he, rfl⟩ := List.mem_map.1 hx
    obtain ⟨hf, t1, t2, t3, t4, hlen, hasc⟩ := ent_fields 4 e he
    have fl := Tryz.strings_Fields_laid (S e.text) W (by simp; omega) (fun j b hb => hasc b (by simp at hb; exact List.mem_of_getElem? hb)) (Lib.tabBelow_of_tabIs hsp W hB)
    rw [show (S e.text).data.toList = e.text from by simp, hf] at fl
    have FL := hid fl
    have up := fun W => upper_any s W (by omega)
    have UP := hid up
    have ho0 := ho.c0
    clear fl up
    gi_wp2_with (refine ⟨trivial, ?_⟩; gi_at_call 45; refine (CallsIn.inRound l (callsIn_wide.2 FL.out)).mono ?_; rintro e' w' ⟨rfl, rfl⟩)
    generalize hW5 : W.alloc _ = W5
    have gW5 : Below W.heap.size W W5 := by rw [← hW5]; exact (Below.refl _ _).alloc (Nat.le_refl _) _
    have g5 : Below w.heap.size w W5 := by rw [← hW5]; exact hB.alloc hB.size _
    have k5 : ∀ i, i < 5 → W5.cell? ⟨W.heap.size, i, none⟩ = ([e.name, [UInt8.ofNat (48 + e.ty)], [UInt8.ofNat (48 + e.least)], [UInt8.ofNat (48 + e.most)], [UInt8.ofNat (48 + e.parts)]].map fun l => Value.string (S l))[i]? := by
      intro i hi
      have h5 : i = 0 ∨ i = 1 ∨ i = 2 ∨ i = 3 ∨ i = 4 := by omega
      rw [← hW5]
      rcases h5 with rfl | rfl | rfl | rfl | rfl <;> simp [go_sem] <;> rfl
    have a0 : W5.cell? ⟨W.heap.size, 0, none⟩ = some (.string (S e.name)) := k5 0 (by decide)
    have o5 : OfAt w.heap.size s (0, 0, 0, 0) W5 := by rw [← hW5]; exact OfAt.own _ _ _ [] W _ none ho (World.grownBy_alloc W _ none) (fun r e => by cases e)
    have o0 := o5.c0
    have hl5 : W.heap.size < W5.heap.size := by rw [← hW5]; simp
    have hl6 : w.heap.size < W5.heap.size := Nat.lt_of_le_of_lt hB.size hl5
    have hd : 1 ≤ 6 - 1 - 1 := by decide
    by_cases hn : e.name = upperL s
    · have hnb : (e.name == upperL s) = true := beq_iff_eq.2 hn
      have hmx : Tryz.prog.follows .mixedOrders = true := by kernel_rfl
      gi_region_with_o (refine ⟨trivial, ?_⟩; gi_at_call 37; refine (CallsIn.inRound l (callsIn_wide.2 (UP.out _))).mono ?_; rintro e' w' ⟨rfl, hg'⟩; have q0 : w'.cell? ⟨W.heap.size, 0, none⟩ = some (.string (S e.name)) := (G.cell hg' (p := ⟨W.heap.size, 0, none⟩) hl5).trans a0; have q1 : w'.cell? ⟨w.heap.size, 0, none⟩ = some (.string (S s)) := (G.cell hg' (p := ⟨w.heap.size, 0, none⟩) hl6).trans o0)
      all_goals gi_wp2_with fail
      all_goals
        have hl7 : W.heap.size < w'.heap.size := Nat.lt_of_lt_of_le hl5 hg'.below.size
        obtain ⟨l1, hl1'⟩ : ∃ x, x = [UInt8.ofNat (48 + e.ty)] := ⟨_, rfl⟩
        have r1 : w'.cell? ⟨W.heap.size, 1, none⟩ = some (.string (S l1)) := by rw [hl1']; exact (G.cell hg' (p := ⟨W.heap.size, 1, none⟩) hl5).trans (k5 1 (by decide))
        obtain ⟨l2, hl2'⟩ : ∃ x, x = [UInt8.ofNat (48 + e.least)] := ⟨_, rfl⟩
        have r2 : w'.cell? ⟨W.heap.size, 2, none⟩ = some (.string (S l2)) := by rw [hl2']; exact (G.cell hg' (p := ⟨W.heap.size, 2, none⟩) hl5).trans (k5 2 (by decide))
        obtain ⟨l3, hl3'⟩ : ∃ x, x = [UInt8.ofNat (48 + e.most)] := ⟨_, rfl⟩
        have r3 : w'.cell? ⟨W.heap.size, 3, none⟩ = some (.string (S l3)) := by rw [hl3']; exact (G.cell hg' (p := ⟨W.heap.size, 3, none⟩) hl5).trans (k5 3 (by decide))
        obtain ⟨l4, hl4'⟩ : ∃ x, x = [UInt8.ofNat (48 + e.parts)] := ⟨_, rfl⟩
        have r4 : w'.cell? ⟨W.heap.size, 4, none⟩ = some (.string (S l4)) := by rw [hl4']; exact (G.cell hg' (p := ⟨W.heap.size, 4, none⟩) hl5).trans (k5 4 (by decide))
        have at1 : ∀ W, Gives 46 #[.string (S l1)] W (.tuple #[.int .i64 e.ty, .nilIface]) := fun W => by rw [hl1']; exact atoi_digit_any e.ty W t1
        have at2 : ∀ W, Gives 46 #[.string (S l2)] W (.tuple #[.int .i64 e.least, .nilIface]) := fun W => by rw [hl2']; exact atoi_digit_any e.least W t2
        have at3 : ∀ W, Gives 46 #[.string (S l3)] W (.tuple #[.int .i64 e.most, .nilIface]) := fun W => by rw [hl3']; exact atoi_digit_any e.most W t3
        have at4 : ∀ W, Gives 46 #[.string (S l4)] W (.tuple #[.int .i64 e.parts, .nilIface]) := fun W => by rw [hl4']; exact atoi_digit_any e.parts W t4
        have A1 := hid at1
        have A2 := hid at2
        have A3 := hid at3
        have A4 := hid at4
        clear at1 at2 at3 at4 k5 a0 q0 hlen hasc hf hl1' hl2' hl3' hl4' e1 e2 e3 e4 hx hpre
        have hbl : Below w'.heap.size w' (w'.alloc (Obj.cells #[Value.int IntKind.i64 0, Value.int IntKind.i64 0, Value.int IntKind.i64 0, Value.int IntKind.i64 0] 85)) := (Below.refl _ _).alloc (Nat.le_refl _) _
        have hdg : Dig w'.heap.size e 0 (w'.alloc (Obj.cells #[Value.int IntKind.i64 0, Value.int IntKind.i64 0, Value.int IntKind.i64 0, Value.int IntKind.i64 0] 85)) := by refine ⟨?_, ?_, ?_, ?_, ?_, ?_, ?_, ?_⟩ <;> simp [go_sem]
        gi_loopw [30] (fun i wr => ∃ k : Nat, k ≤ 4 ∧ i = .int .i64 k ∧ Dig w'.heap.size e k wr ∧ Below w'.heap.size w' wr) (fun i _ => 4 - (intOf i).toNat)
        case atStart => exact ⟨0, by omega, rfl, hdg, hbl⟩
        case round =>
          obtain ⟨k, hk, rfl, hd', hb'⟩ := hrel
          have HD := hid hd'
          have HB := hid hb'
          have v1 := (hb'.cell (p := ⟨W.heap.size, 1, none⟩) hl7).trans r1
          have v2 := (hb'.cell (p := ⟨W.heap.size, 2, none⟩) hl7).trans r2
          have v3 := (hb'.cell (p := ⟨W.heap.size, 3, none⟩) hl7).trans r3
          have v4 := (hb'.cell (p := ⟨W.heap.size, 4, none⟩) hl7).trans r4
          obtain ⟨d0, d1, d2, d3, f0, f1, f2, f3⟩ := hd'
          clear hb' hdg hbl r1 r2 r3 r4
          have hG : Below W.heap.size W wr := (gW5.drew.trans (Below.mono hg'.below (Nat.le_of_lt hl5))).trans (HB.out.mono (Nat.le_of_lt (Nat.lt_of_lt_of_le hl5 hg'.below.size)))
          by_cases hk4 : k = 4
          · subst hk4
            clear v1 v2 v3 v4
            simp only [Nat.reduceLT, if_true] at d0 d1 d2 d3
            have o6 := ho.below hG (by omega)
            have y0 := o6.c0
            have y1 := o6.r0
            have y2 := o6.r1
            have y3 := o6.r2
            have y4 := o6.r3
            have y5 := o6.er
            have g1 := o6.f0
            have g2 := o6.f1
            have g3 := o6.f2
            have g4 := o6.f3
            have g5' := o6.fe
            gi_wp2
            have o7 := o6.put e.ty e.least e.most e.parts
            have hr : ruleOf (tabT 4) (upperL s) = ((e.ty : Int), (e.least : Int), (e.most : Int), (e.parts : Int)) := rule_at he hn
            have hB3 := (((((hB.trans (hG.mono hB.size)).setCell (p := ⟨w.heap.size + 1, 0, none⟩) (by simp) (.int .i64 e.ty)).setCell (p := ⟨w.heap.size + 1, 1, none⟩) (by simp) (.int .i64 e.least)).setCell (p := ⟨w.heap.size + 1, 2, none⟩) (by simp) (.int .i64 e.most)).setCell (p := ⟨w.heap.size + 1, 3, none⟩) (by simp) (.int .i64 e.parts)).setCell (p := ⟨w.heap.size + 2, 0, none⟩) (by simp) .nilIface
            have hK3 := (((((KeepsOthers.setCell wr ⟨w.heap.size + 1, 0, none⟩ (.int .i64 e.ty)).trans (KeepsOthers.setCell _ ⟨w.heap.size + 1, 1, none⟩ (.int .i64 e.least))).trans (KeepsOthers.setCell _ ⟨w.heap.size + 1, 2, none⟩ (.int .i64 e.most))).trans (KeepsOthers.setCell _ ⟨w.heap.size + 1, 3, none⟩ (.int .i64 e.parts))).trans (KeepsOthers.setCell _ ⟨w.heap.size + 2, 0, none⟩ .nilIface)).from (w.heap.size + 6)
            exact ⟨(keepsFrom_below hG).trans hK3, ⟨by rw [hr]; exact o7, rfl⟩, hB3⟩
          · have hk5 : k = 0 ∨ k = 1 ∨ k = 2 ∨ k = 3 := by omega
            clear hk4 hk
            rcases hk5 with rfl | rfl | rfl | rfl
            · gi_wp2_with (refine ⟨trivial, ?_⟩; gi_at_call 46; refine (CallsIn.inRound l (callsIn_wide.2 (A1.out _))).mono ?_; rintro e' wx ⟨rfl, hx'⟩; have x0 := (HD.out.grow hx').c0; have x1 := (HD.out.grow hx').f0)
              go_roundw
              case rel => exact ⟨1, by omega, rfl, (HD.out.grow hx').set (by omega), (HB.out.trans (hx'.below.mono HB.out.size)).setCell (Nat.le_refl _) _⟩
              case measure => simp [intOf]
            · gi_wp2_with (refine ⟨trivial, ?_⟩; gi_at_call 46; refine (CallsIn.inRound l (callsIn_wide.2 (A2.out _))).mono ?_; rintro e' wx ⟨rfl, hx'⟩; have x0 := (HD.out.grow hx').c1; have x1 := (HD.out.grow hx').f1)
              go_roundw
              case rel => exact ⟨2, by omega, rfl, (HD.out.grow hx').set (by omega), (HB.out.trans (hx'.below.mono HB.out.size)).setCell (Nat.le_refl _) _⟩
              case measure => simp [intOf]
            · gi_wp2_with (refine ⟨trivial, ?_⟩; gi_at_call 46; refine (CallsIn.inRound l (callsIn_wide.2 (A3.out _))).mono ?_; rintro e' wx ⟨rfl, hx'⟩; have x0 := (HD.out.grow hx').c2; have x1 := (HD.out.grow hx').f2)
              go_roundw
              case rel => exact ⟨3, by omega, rfl, (HD.out.grow hx').set (by omega), (HB.out.trans (hx'.below.mono HB.out.size)).setCell (Nat.le_refl _) _⟩
              case measure => simp [intOf]
            · gi_wp2_with (refine ⟨trivial, ?_⟩; gi_at_call 46; refine (CallsIn.inRound l (callsIn_wide.2 (A4.out _))).mono ?_; rintro e' wx ⟨rfl, hx'⟩; have x0 := (HD.out.grow hx').c3; have x1 := (HD.out.grow hx').f3)
              go_roundw
              case rel => exact ⟨4, by omega, rfl, (HD.out.grow hx').set (by omega), (HB.out.trans (hx'.below.mono HB.out.size)).setCell (Nat.le_refl _) _⟩
              case measure => simp [intOf]
    have hnb : (e.name == upperL s) = false := beq_eq_false_iff_ne.2 hn
    have hmx : Tryz.prog.follows .mixedOrders = true := by kernel_rfl
    gi_region_with_o (refine ⟨trivial, ?_⟩; gi_at_call 37; refine (CallsIn.inRound l (callsIn_wide.2 (UP.out _))).mono ?_; rintro e' w' ⟨rfl, hg'⟩; have q0 : w'.cell? ⟨W.heap.size, 0, none⟩ = some (.string (S e.name)) := (G.cell hg' (p := ⟨W.heap.size, 0, none⟩) hl5).trans a0; have q1 : w'.cell? ⟨w.heap.size, 0, none⟩ = some (.string (S s)) := (G.cell hg' (p := ⟨w.heap.size, 0, none⟩) hl6).trans o0)
    all_goals gi_wp2
    all_goals
      have hG : Below W.heap.size W w' := gW5.drew.trans (Below.mono hg'.below (Nat.le_of_lt hl5))
      exact ⟨keepsFrom_below hG, kpSeq_below hG (by omega) (by omega) (by omega), ⟨ho.below hG (by omega), fun e' he' hm => (List.mem_append.1 hm).elim (hne e' he') (fun h => by rw [text_name he he' (by simpa using h)]; exact hn), Nat.le_trans hsz hG.size⟩, hB.trans (hG.mono hB.size)⟩
  case done =>
    rintro D W hD ⟨⟨ho, hne, hsz⟩, hB⟩ hK
    have d1 := ho.r0
    have d2 := ho.r1
    have d3 := ho.r2
    have d4 := ho.r3
    have d5 := ho.er
    have y1 := ho.f0
    have y2 := ho.f1
    have y3 := ho.f2
    have y4 := ho.f3
    have y5 := ho.fe
    gi_wp2
    have ho3 := ho.put 8 0 0 0
    have hB3 := ((((hB.setCell (p := ⟨w.heap.size + 1, 0, none⟩) (by simp) (.int .i64 8)).setCell (p := ⟨w.heap.size + 1, 1, none⟩) (by simp) (.int .i64 0)).setCell (p := ⟨w.heap.size + 1, 2, none⟩) (by simp) (.int .i64 0)).setCell (p := ⟨w.heap.size + 1, 3, none⟩) (by simp) (.int .i64 0)).setCell (p := ⟨w.heap.size + 2, 0, none⟩) (by simp) .nilIface
    have hK3 := (((((KeepsOthers.setCell W ⟨w.heap.size + 1, 0, none⟩ (.int .i64 8)).trans (KeepsOthers.setCell _ ⟨w.heap.size + 1, 1, none⟩ (.int .i64 0))).trans (KeepsOthers.setCell _ ⟨w.heap.size + 1, 2, none⟩ (.int .i64 0))).trans (KeepsOthers.setCell _ ⟨w.heap.size + 1, 3, none⟩ (.int .i64 0))).trans (KeepsOthers.setCell _ ⟨w.heap.size + 2, 0, none⟩ .nilIface)).same D _ hK rfl
    have hr : ruleOf (tabT 4) (upperL s) = (8, 0, 0, 0) := by
      unfold ruleOf
      rw [List.find?_eq_none.2 (fun e he => by
        have := hne e he (by rw [← e1]; exact List.mem_map_of_mem he)
        simp [this])]
    rw [hr]
    generalize hW3 : World.setCell _ _ Value.nilIface = W3 at ho3 hB3 hK3 ⊢
    refine ⟨by simp, .inl ⟨_, _, rfl, run_takeDeferred hK3, ?_⟩⟩
    have ho2 := OfAt.own _ _ _ [] W3 _ (some D) ho3 (grownBy_putObj' _ D (.deferred none)) (fun r e => by cases e; exact ⟨_, hK3, rfl⟩)
    have d1 := ho2.r0
    have d2 := ho2.r1
    have d3 := ho2.r2
    have d4 := ho2.r3
    have d5 := ho2.er
    refine ⟨_, ?_, rfl, hB3.trans (belowK_b (w := w) (Nat.le_refl _) W3 D _ _ (by omega) hK3 rfl rfl)⟩
    simp [results, Tryz.f21, go_sem, d1, d2, d3, d4, d5]
  case stop =>
    rintro D c pre W hD hpre ⟨⟨ho, rfl⟩, hB⟩ hK
    gi_wp2
    refine ⟨by simp, .inl ⟨_, _, rfl, run_takeDeferred hK, ?_⟩⟩
    have ho2 := OfAt.own _ _ _ [] W _ (some D) ho (grownBy_putObj' _ D (.deferred none)) (fun r e => by cases e; exact ⟨_, hK, rfl⟩)
    have d1 := ho2.r0
    have d2 := ho2.r1
    have d3 := ho2.r2
    have d4 := ho2.r3
    have d5 := ho2.er
    refine ⟨_, ?_, rfl, hB.trans (belowK_b (w := w) (Nat.le_refl _) W D _ _ (by omega) hK rfl rfl)⟩
    simp [results, Tryz.f21, go_sem, d1, d2, d3, d4, d5]
end Go.Proofs.YtdmbhoagjjkogaaGreatDoor
