/-
  Texts merged into one: UriR, EqStrs, LangR, SameProp.
-/
import Derived.Test.YtfadckackdmbnaaGreatDoorMA60
import Derived.Test.YtfadckackdmbnaaGreatDoorMA46
import Derived.Test.YtfadckackdmbnaaGreatDoorShelf
import Derived.Test.YtfadckackdmbnaaGreatDoorMA56
namespace Go.Proofs.YtfadckackdmbnaaGreatDoor
open Go.RowKit
set_option linter.unusedVariables false
set_option linter.unusedSimpArgs false
def schP (k : Nat) (c : Int) : Prop := (97 ≤ c ∧ c ≤ 122) ∨ (65 ≤ c ∧ c ≤ 90) ∨ (0 < k ∧ ((48 ≤ c ∧ c ≤ 57) ∨ c = 43 ∨ c = 45 ∨ c = 46))
instance (k : Nat) (c : Int) : Decidable (schP k c) := by unfold schP; infer_instance
def begGo : List UInt8 → Nat → Nat
  | [], _ => 0
  | c :: t, k => if (c.toNat : Int) = 58 then k else if schP k c.toNat then begGo t (k + 1) else 0
def begL (l : List UInt8) : Nat := begGo l 0
theorem begGo_at {l : List UInt8} {k : Nat} (h : k < l.length) : begGo (l.drop k) k = if (l[k].toNat : Int) = 58 then k else if schP k l[k].toNat then begGo (l.drop (k + 1)) (k + 1) else 0 := by
  rw [List.drop_eq_getElem_cons h]; rfl
theorem beg_end {l : List UInt8} {k : Nat} (hr : begL l = begGo (l.drop k) k) (h : l.length ≤ k) : begL l = 0 := by
  rw [hr, List.drop_eq_nil_of_le h]; rfl
theorem beg_colon {l : List UInt8} {k : Nat} (hr : begL l = begGo (l.drop k) k) (h : k < l.length) (hc : (l[k].toNat : Int) = 58) : begL l = k := by
  rw [hr, begGo_at h, if_pos hc]
theorem beg_on {l : List UInt8} {k : Nat} (hr : begL l = begGo (l.drop k) k) (h : k < l.length) (hc : (l[k].toNat : Int) ≠ 58) (hs : schP k l[k].toNat) : begL l = begGo (l.drop (k + 1)) (k + 1) := by
  rw [hr, begGo_at h, if_neg hc, if_pos hs]
theorem beg_stop {l : List UInt8} {k : Nat} (hr : begL l = begGo (l.drop k) k) (h : k < l.length) (hc : (l[k].toNat : Int) ≠ 58) (hs : ¬ schP k l[k].toNat) : begL l = 0 := by
  rw [hr, begGo_at h, if_neg hc, if_neg hs]
theorem begGo_le (l : List UInt8) (k : Nat) : begGo l k = 0 ∨ (k ≤ begGo l k ∧ begGo l k < k + l.length) := by
  induction l generalizing k with
  | nil => exact .inl rfl
  | cons c t ih =>
    unfold begGo
    split
    · right; simp
    · split
      · rcases ih (k + 1) with h | h
        · exact .inl h
        · right; simp; omega
      · exact .inl rfl
theorem begL_le (l : List UInt8) : begL l ≤ l.length := by
  unfold begL; rcases begGo_le l 0 with h | h <;> omega
set_option maxRecDepth 100000 in
set_option maxHeartbeats 400000 in
theorem begins_any (l : List UInt8) (w : World) (hs : l.length ≤ 140737488351328) : Pure 121 #[.string (S l)] w (.int .i64 (begL l)) := by
  go_enter Tryz.func121, Tryz.ntmps121
  go_wp2
  go_loop [7] (fun i => ∃ k : Nat, k ≤ l.length ∧ i = .int .i64 k ∧ begL l = begGo (l.drop k) k) (fun i => l.length - (intOf i).toNat)
  case atStart => exact ⟨0, Nat.zero_le _, rfl, rfl⟩
  case round =>
    obtain ⟨k, hk, rfl, hr⟩ := hrel
    have HR := hid hr; clear hr
    by_cases hlt : k < l.length
    case neg =>
      go_wp2
      go_ret
      exact ⟨ret_int (by rw [beg_end HR.out (by omega)]; rfl), rfl⟩
    have hb := l[k].toNat_lt
    by_cases hc : (l[k].toNat : Int) = 58
    · have HC := hid hc
      have hc1 : ((l[k].toNat : Int) == 58) = true := by simp [hc]
      clear hc
      go_wp2
      go_ret
      exact ⟨ret_int (by rw [beg_colon HR.out hlt HC.out]), rfl⟩
    have hc1 : ((l[k].toNat : Int) == 58) = false := beq_eq_false_iff_ne.2 hc
    go_wp2
    all_goals try (go_ret; refine ⟨ret_int (by rw [beg_stop HR.out hlt (by omega) (by unfold schP; ((try simp only [beq_iff_eq, beq_eq_false_iff_ne, ne_eq] at *); omega))]; rfl), rfl⟩; done)
    all_goals go_round
    all_goals try (case measure => simp [intOf]; omega)
    all_goals exact ⟨k + 1, by omega, by go_num, beg_on HR.out hlt (by omega) (by unfold schP; ((try simp only [beq_iff_eq, beq_eq_false_iff_ne, ne_eq] at *); omega))⟩
def seenP (c : UInt8) : Bool := decide (33 ≤ (c.toNat : Int) ∧ (c.toNat : Int) ≤ 126)
def mediaP (c : UInt8) : Bool := decide (33 ≤ (c.toNat : Int) ∧ (c.toNat : Int) ≤ 126 ∧ (c.toNat : Int) ≠ 44 ∧ (c.toNat : Int) ≠ 59)
def mediaB (l : List UInt8) : Bool := l.all mediaP
theorem all_step {p : UInt8 → Bool} {l : List UInt8} {k : Nat} (ha : (l.take k).all p = true) (h : k < l.length) (hp : p l[k] = true) : (l.take (k + 1)).all p = true := by
  rw [List.take_succ_eq_append_getElem h, List.all_append, ha]; simp [hp]
theorem all_at {p : UInt8 → Bool} {l : List UInt8} {k : Nat} (h : k < l.length) (hp : p l[k] = false) : l.all p = false := by
  rw [List.all_eq_false]; exact ⟨l[k], List.getElem_mem h, by simp [hp]⟩
theorem all_end {p : UInt8 → Bool} {l : List UInt8} {k : Nat} (ha : (l.take k).all p = true) (h : l.length ≤ k) : l.all p = true := by
  rwa [List.take_of_length_le h] at ha
def badAt (p : UInt8 → Bool) (l : List UInt8) : Option Nat := l.findIdx? (fun c => !p c)
theorem badAt_none {p : UInt8 → Bool} {l : List UInt8} : badAt p l = none ↔ l.all p = true := by
  unfold badAt; simp [List.findIdx?_eq_none_iff]
theorem badAt_at {p : UInt8 → Bool} {l : List UInt8} {k : Nat} (ha : (l.take k).all p = true) (h : k < l.length) (hp : p l[k] = false) : badAt p l = some k := by
  unfold badAt
  rw [List.findIdx?_eq_some_iff_getElem]
  refine ⟨h, by simp [hp], fun j hj => ?_⟩
  have := List.all_eq_true.1 ha (l[j]'(by omega)) (by rw [List.mem_take_iff_getElem]; exact ⟨j, by omega, rfl⟩)
  simp [this]
def RightPost (l : List UInt8) (v : Value) (w' : World) : Prop :=
  if begL l = 0 then v = eno 8 else match badAt seenP l with
    | some i => IsAt w' v 3 i
    | none => if begL l + 1 = l.length then IsAt w' v 7 l.length else v = .nilIface
set_option maxRecDepth 100000 in
set_option maxHeartbeats 400000 in
theorem uriRight_any (l : List UInt8) (w : World) (hs : l.length ≤ 140737488351328) : Makes 77 #[.string (S l)] w (RightPost l) := by
  have hle := begL_le l
  by_cases h : begL l = 0
  · go_enter Tryz.func77, Tryz.ntmps77
    go_wp2_with fail
    refine (begins_any l _ hs).use ?_
    rw [h]
    go_wp2_with fail
    go_ret
    exact ⟨_, rfl, by unfold RightPost; rw [if_pos h]; rfl, G.refl _⟩
  · have h1 : ((begL l : Int) == 0) = false := beq_eq_false_iff_ne.2 (by omega)
    have H := hid h
    clear h
    go_enter Tryz.func77, Tryz.ntmps77
    go_wp2_with fail
    refine (begins_any l _ hs).use ?_
    go_wp2_with fail
    go_loop [12] (fun i => ∃ k : Nat, k ≤ l.length ∧ i = .int .i64 k ∧ (l.take k).all seenP = true) (fun i => l.length - (intOf i).toNat)
    case atStart => exact ⟨0, Nat.zero_le _, rfl, rfl⟩
    case round =>
      obtain ⟨k, hk, rfl, hr⟩ := hrel
      have HR := hid hr; clear hr
      by_cases hlt : k < l.length
      case neg =>
        have HN : Hid (badAt seenP l = none) := hid (badAt_none.2 (all_end HR.out (by omega)))
        by_cases h2 : begL l + 1 = l.length
        · have h3 : ((begL l : Int) + 1 == (l.length : Int)) = true := by simp; omega
          have H2 := hid h2
          clear h2
          go_wp2
          go_ret
          exact ⟨_, rfl, by unfold RightPost; rw [if_neg H.out, HN.out]; show (if _ then _ else _); rw [if_pos H2.out]; exact IsAt.new _ _ _ _, (G.refl _).alloc _⟩
        · have h3 : ((begL l : Int) + 1 == (l.length : Int)) = false := beq_eq_false_iff_ne.2 (by omega)
          have H2 := hid h2
          clear h2
          go_wp2
          go_ret
          exact ⟨_, rfl, by unfold RightPost; rw [if_neg H.out, HN.out]; show (if _ then _ else _); rw [if_neg H2.out]; rfl, G.refl _⟩
      have hb := l[k].toNat_lt
      go_wp2
      all_goals try (go_ret; refine ⟨_, rfl, by unfold RightPost; rw [if_neg H.out, badAt_at HR.out hlt (by unfold seenP; rw [decide_eq_false_iff_not]; ((try simp only [beq_iff_eq, beq_eq_false_iff_ne, ne_eq] at *); omega))]; exact IsAt.new _ _ _ _, (G.refl _).alloc _⟩; done)
      all_goals go_round
      all_goals try (case measure => simp [intOf]; omega)
      all_goals exact ⟨k + 1, by omega, by go_num, all_step HR.out hlt (by unfold seenP; rw [decide_eq_true_iff]; ((try simp only [beq_iff_eq, beq_eq_false_iff_ne, ne_eq] at *); omega))⟩
end Go.Proofs.YtfadckackdmbnaaGreatDoor

namespace Go.Proofs.YtfadckackdmbnaaGreatDoor
open Go.RowKit
set_option linter.unusedVariables false
set_option linter.unusedSimpArgs false
theorem map_S_inj {a b : List (List UInt8)} (h : a.map S = b.map S) : a = b := by
  induction a generalizing b with
  | nil => cases b with | nil => rfl | cons _ _ => simp at h
  | cons x a ih =>
    cases b with
    | nil => simp at h
    | cons y b =>
      simp only [List.map_cons, List.cons.injEq] at h
      rw [S_inj.1 h.1, ih h.2]
theorem eqStrs_q {va vb : Value} {xs ys : List (List UInt8)} {w : World} (ha : IsStrs w va xs) (hb : IsStrs w vb ys) (lx : xs.length ≤ 1000000) (ly : ys.length ≤ 1000000) :
    Calls Tryz.prog 27 #[va, vb] w fun e w' => e = .returned (.bool (decide (xs = ys))) ∧ ∃ q, w' = w.drewN q := by
  obtain ⟨aa, ca, hva, _⟩ := ha.len
  obtain ⟨ab, cb, hvb, _⟩ := hb.len
  by_cases hn : xs.length = ys.length
  · by_cases h0 : xs = []
    · subst h0
      have : ys = [] := List.eq_nil_of_length_eq_zero (by rw [← hn]; rfl)
      subst this
      subst hva; subst hvb
      refine (Tryz.slices_Equal_string_empty aa ab ca 0 cb w (by omega)).mono ?_
      rintro e w' ⟨rfl, rfl⟩
      exact ⟨by simp, 0, rfl⟩
    · have h1 : ys ≠ [] := by rintro rfl; exact h0 (List.eq_nil_of_length_eq_zero (by rw [hn]; rfl))
      obtain ⟨b1, o1, c1, rfl, _, _, hc1⟩ := ha.at_ h0
      obtain ⟨b2, o2, c2, rfl, _, _, hc2⟩ := hb.at_ h1
      have key : ∀ (l : List (List UInt8)) (b o : Nat), (∀ (i : Nat) (x : List UInt8), l[i]? = some x → w.cell? ⟨b, o + i, none⟩ = some (.string (S x))) → ∀ j, j < (l.map S).length → w.cell? ⟨b, o + j, none⟩ = some (.string ((l.map S).getD j ByteArray.empty)) := by
        intro l b o h j hj
        have hj' : j < l.length := by simpa using hj
        rw [h j l[j] (List.getElem?_eq_getElem hj')]
        simp [List.getD, List.getElem?_eq_getElem hj']
      refine (Tryz.slices_Equal_string b1 o1 xs.length c1 b2 o2 ys.length c2 (xs.map S) (ys.map S) w (by simp) (by simp) (by omega) (by omega) (key xs b1 o1 hc1) (key ys b2 o2 hc2)).mono ?_
      rintro e w' ⟨rfl, hq⟩
      refine ⟨ret_bool ?_, hq⟩
      rw [List.take_of_length_le (by simp), List.take_of_length_le (by simp)]
      exact decide_eq_decide.2 ⟨map_S_inj, fun h => by rw [h]⟩
  · subst hva; subst hvb
    refine (Tryz.slices_Equal_string_lens aa ab xs.length ca ys.length cb w hn).mono ?_
    rintro e w' ⟨rfl, rfl⟩
    exact ⟨ret_bool (decide_eq_false (fun e => hn (by rw [e]))).symm, 0, rfl⟩
theorem G.ofDrewN {w w' : World} (h : ∃ q, w' = w.drewN q) : G w w' := by
  obtain ⟨q, rfl⟩ := h; exact (G.refl w).drewN q
theorem eqStrs_any {va vb : Value} {xs ys : List (List UInt8)} {w : World} (ha : IsStrs w va xs) (hb : IsStrs w vb ys) (lx : xs.length ≤ 1000000) (ly : ys.length ≤ 1000000) : Gives 27 #[va, vb] w (.bool (decide (xs = ys))) :=
  (eqStrs_q ha hb lx ly).mono fun e w' ⟨h1, h2⟩ => ⟨h1, G.ofDrewN h2⟩
theorem IsStrs.lit (w : World) (ls : List (List UInt8)) (n : Nat) (hn : n = ls.length) (h : ls ≠ []) : IsStrs (w.alloc (.cells ((ls.map S).map Value.string).toArray 9)) (.slice (some ⟨w.heap.size, 0, none⟩) n n) ls := by
  subst hn; exact strs_of_alloc w _ ls h
end Go.Proofs.YtfadckackdmbnaaGreatDoor

namespace Go.Proofs.YtfadckackdmbnaaGreatDoor
open Go.RowKit
set_option linter.unusedVariables false
set_option linter.unusedSimpArgs false
def pieceB (first : Bool) (c : UInt8) : Bool := letterB c.toNat && !(first && decide ((c.toNat : Int) ≤ 57))
def scanL (first : Bool) (cur : Nat) : List UInt8 → Bool
  | [] => decide (1 ≤ cur ∧ cur ≤ 8)
  | c :: t => if c = 45 then decide (1 ≤ cur ∧ cur ≤ 8) && scanL false 0 t else pieceB first c && scanL first (cur + 1) t
def langB (s : List UInt8) : Bool := scanL true 0 s
theorem isName_one (c : UInt8) : isNameL [c] = letterB c.toNat := by unfold isNameL; simp
def LangPost (s : List UInt8) (v : Value) (w' : World) : Prop :=
  if langB s = true then v = .nilIface else ∃ e p, IsAt w' v e p ∧ e ≠ 0 ∧ 0 ≤ p ∧ p ≤ (s.length : Int)
theorem LangPost.yes {s : List UInt8} {w' : World} (h : langB s = true) : LangPost s .nilIface w' := by unfold LangPost; rw [if_pos h]
theorem LangPost.no {s : List UInt8} {v : Value} {w' : World} {e p : Int} (h : langB s = false) (hv : IsAt w' v e p) (hp : 0 ≤ p ∧ p ≤ (s.length : Int)) (he : e ≠ 0 := by decide) : LangPost s v w' := by unfold LangPost; rw [if_neg (by simp [h])]; exact ⟨e, p, hv, he, hp⟩
def LangRel (s : List UInt8) (k f : Nat) : Prop := (k ≤ s.length ∧ f ≤ k ∧ langB s = scanL (decide (f = 0)) (k - f) (s.drop k)) ∨ (k = s.length + 1 ∧ langB s = true)
set_option maxRecDepth 100000 in
set_option maxHeartbeats 4000000 in
theorem langRight_any (s : List UInt8) (w : World) (hs : s.length ≤ 100000) : Makes 134 #[.string (S s)] w (LangPost s) := by
  go_enter Tryz.func134, Tryz.ntmps134
  go_wp2
  go_loopw [3, 4] (fun fv iv wr => ∃ (k f : Nat), fv = .int .i64 f ∧ iv = .int .i64 k ∧ f ≤ s.length + 1 ∧ LangRel s k f ∧ G w wr) (fun _ iv _ => s.length + 1 - (intOf iv).toNat)
  case atStart => exact ⟨0, 0, rfl, rfl, by omega, .inl ⟨by omega, by omega, rfl⟩, G.refl _⟩
  case round =>
    obtain ⟨k, f, rfl, rfl, hf, hrel, hg⟩ := hrel
    have HG := hid hg
    clear hg
    by_cases hend : k = s.length + 1
    · rcases hrel with ⟨h, _⟩ | ⟨_, h⟩
      · omega
      · have H := hid h
        subst hend
        clear h hf
        go_wp2_with fail
        go_ret
        exact ⟨_, rfl, LangPost.yes H.out, HG.out⟩
    have hk : k ≤ s.length := by rcases hrel with ⟨h, _⟩ | ⟨h, _⟩ <;> omega
    have hfk : f ≤ k := by rcases hrel with ⟨_, h, _⟩ | ⟨h, _⟩ <;> omega
    have hR : langB s = scanL (decide (f = 0)) (k - f) (s.drop k) := by rcases hrel with ⟨_, _, h⟩ | ⟨h, _⟩; exact h; exact absurd h hend
    have HR := hid hR
    clear hrel hR hend
    by_cases hin : k < s.length
    · obtain ⟨c, hc⟩ : ∃ c, s[k]'hin = c := ⟨_, rfl⟩
      have hd : s.drop k = c :: s.drop (k + 1) := by rw [List.drop_eq_getElem_cons hin, hc]
      have hsl : (s.take (k + 1)).drop k = [c] := by
        rw [List.take_succ_eq_append_getElem hin, List.drop_append_of_le_length (by simp; omega), hc]
        simp
      have HD := hid hd
      clear hd
      by_cases h45 : c = 45
      · subst h45
        have HS : Hid (langB s = (decide (1 ≤ k - f ∧ k - f ≤ 8) && scanL false 0 (s.drop (k + 1)))) := hid (by rw [HR.out, HD.out]; rfl)
        by_cases h0 : k = f
        · subst h0
          have hq : ((k : Int) == (k : Int)) = true := by simp
          go_wp2_with fail
          go_ret
          exact ⟨_, rfl, LangPost.no (by rw [HS.out]; simp) (IsAt.new _ _ _ _) (by omega), HG.out.alloc _⟩
        · have hq : ((k : Int) == (f : Int)) = false := beq_eq_false_iff_ne.2 (by omega)
          by_cases h8 : 8 < (k : Int) - f
          · go_wp2_with fail
            go_ret
            exact ⟨_, rfl, LangPost.no (by rw [HS.out, decide_eq_false (by omega)]; rfl) (IsAt.new _ _ _ _) (by omega), HG.out.alloc _⟩
          · go_wp2_with fail
            go_roundw
            case rel =>
              refine ⟨k + 1, k + 1, rfl, rfl, by omega, .inl ⟨by omega, by omega, ?_⟩, HG.out⟩
              rw [HS.out, decide_eq_true (by omega), Nat.sub_self]
              simp
            case measure => simp [intOf]; omega
      · have q45 : ((c.toNat : Int) != 45) = true := bne_iff_ne.2 (fun e => h45 (UInt8.toNat_inj.1 (by show c.toNat = 45; omega)))
        have HS : Hid (langB s = (pieceB (decide (f = 0)) c && scanL (decide (f = 0)) (k - f + 1) (s.drop (k + 1)))) := hid (by rw [HR.out, HD.out, scanL, if_neg h45])
        have IS : Hid (∀ w, Pure 131 #[.string (S [c])] w (.bool (letterB c.toNat))) := hid (fun w => by have := is_any [c] w (by simp); rw [isName_one] at this; exact this)
        cases hl : letterB c.toNat with
        | false =>
          rw [hl] at IS
          have HL := hid hl
          clear hl h45
          go_wp2_with fail
          refine (IS.out _).use ?_
          go_wp2_with fail
          go_ret
          exact ⟨_, rfl, LangPost.no (by rw [HS.out]; unfold pieceB; rw [HL.out]; rfl) (IsAt.new _ _ _ _) (by omega), HG.out.alloc _⟩
        | true =>
          rw [hl] at IS
          have HL := hid hl
          clear hl h45
          by_cases hbad : f = 0 ∧ (c.toNat : Int) ≤ 57
          · obtain ⟨rfl, h57⟩ := hbad
            go_wp2_with fail
            refine (IS.out _).use ?_
            go_wp2_with fail
            go_ret
            exact ⟨_, rfl, LangPost.no (by rw [HS.out]; unfold pieceB; rw [HL.out]; simp; omega) (IsAt.new _ _ _ _) (by omega), HG.out.alloc _⟩
          · have HP : Hid (pieceB (decide (f = 0)) c = true) := hid (by
              unfold pieceB
              rw [HL.out]
              by_cases h0 : f = 0
              · have : ¬ (c.toNat : Int) ≤ 57 := fun h => hbad ⟨h0, h⟩
                simp [h0]; omega
              · simp [h0])
            have hgo : LangRel s (k + 1) f := .inl ⟨by omega, by omega, by
              rw [HS.out, HP.out, Bool.true_and]; congr 1; omega⟩
            have HGO := hid hgo
            clear hgo
            by_cases h0 : f = 0
            · subst h0
              have h57 : 57 < (c.toNat : Int) := by
                by_cases h : (c.toNat : Int) ≤ 57
                · exact absurd ⟨rfl, h⟩ hbad
                · omega
              clear hbad
              go_wp2_with fail
              refine (IS.out _).use ?_
              go_wp2_with fail
              go_roundw
              case rel => exact ⟨k + 1, 0, rfl, rfl, hf, HGO.out, HG.out⟩
              case measure => simp [intOf]; omega
            · have q0 : ((f : Int) == 0) = false := beq_eq_false_iff_ne.2 (by omega)
              clear hbad h0
              go_wp2_with fail
              refine (IS.out _).use ?_
              go_wp2_with fail
              go_roundw
              case rel => exact ⟨k + 1, f, rfl, rfl, hf, HGO.out, HG.out⟩
              case measure => simp [intOf]; omega
    · obtain rfl : k = s.length := by omega
      have HS : Hid (langB s = decide (1 ≤ s.length - f ∧ s.length - f ≤ 8)) := hid (by rw [HR.out, List.drop_length]; rfl)
      by_cases h0 : s.length = f
      · have h0' := hid h0
        subst h0
        go_wp2_with fail
        go_ret
        exact ⟨_, rfl, LangPost.no (by rw [HS.out]; simp) (IsAt.new _ _ _ _) (by omega), HG.out.alloc _⟩
      · have hq : ((s.length : Int) == (f : Int)) = false := beq_eq_false_iff_ne.2 (by omega)
        by_cases h8 : 8 < (s.length : Int) - f
        · go_wp2_with fail
          go_ret
          exact ⟨_, rfl, LangPost.no (by rw [HS.out, decide_eq_false (by omega)]) (IsAt.new _ _ _ _) (by omega), HG.out.alloc _⟩
        · go_wp2_with fail
          go_roundw
          case rel =>
            refine ⟨s.length + 1, s.length + 1, rfl, rfl, by omega, .inr ⟨rfl, ?_⟩, HG.out⟩
            rw [HS.out, decide_eq_true (by omega)]
          case measure => simp [intOf]
end Go.Proofs.YtfadckackdmbnaaGreatDoor

namespace Go.Proofs.YtfadckackdmbnaaGreatDoor
open Go.RowKit
set_option linter.unusedVariables false
set_option linter.unusedSimpArgs false
set_option maxRecDepth 100000 in
set_option maxHeartbeats 1000000 in
theorem samePm_any (n m : List UInt8) (va vb : Value) (xs ys : List (List UInt8)) (w : World) (ha : IsStrs w va xs) (hb : IsStrs w vb ys) (lx : xs.length ≤ 1000000) (ly : ys.length ≤ 1000000) (ln : n.length ≤ 1000000) (lm : m.length ≤ 1000000) :
    Gives 109 #[.agg #[.string (S n), va], .agg #[.string (S m), vb]] w (.bool (decide ((n, xs) = (m, ys)))) := by
  have HA := hid ha
  have HB := hid hb
  obtain ⟨aa, ca, rfl, _⟩ := ha.len
  obtain ⟨ab, cb, rfl, _⟩ := hb.len
  clear ha hb
  by_cases hnm : n = m
  · subst hnm
    have hd : decide ((n, xs) = (n, ys)) = decide (xs = ys) := by simp
    rw [hd]
    clear hd
    go_enter Tryz.func109, Tryz.ntmps109
    go_wp2_with fail
    refine (eqStrs_any (HA.out.grow (by repeat (first | exact G.refl _ | assumption | apply G.drew | apply G.drewN | apply G.alloc | refine G.trans ?_ (by assumption)))) (HB.out.grow (by repeat (first | exact G.refl _ | assumption | apply G.drew | apply G.drewN | apply G.alloc | refine G.trans ?_ (by assumption)))) lx ly).use ?_
    intro w1 g1
    go_wp2_with fail
    go_ret
    exact ⟨rfl, G.trans (by repeat (first | exact G.refl _ | assumption | apply G.drew | apply G.drewN | apply G.alloc | refine G.trans ?_ (by assumption))) g1⟩
  · have hd : decide ((n, xs) = (m, ys)) = false := decide_eq_false fun e => hnm (congrArg Prod.fst e)
    have hz : (n == m) = false := beq_eq_false_iff_ne.2 hnm
    rw [hd]
    clear hd hnm
    go_enter Tryz.func109, Tryz.ntmps109
    go_wp2_with fail
    go_ret
    exact ⟨rfl, (by repeat (first | exact G.refl _ | assumption | apply G.drew | apply G.drewN | apply G.alloc | refine G.trans ?_ (by assumption)))⟩
def smallPm (ps : List Pm) : Prop := ∀ p ∈ ps, p.1.length ≤ 1000000 ∧ p.2.length ≤ 1000000
set_option maxRecDepth 100000 in
set_option maxHeartbeats 2000000 in
theorem eqParams_any {va vb : Value} {xs ys : List Pm} {w : World} (ha : IsParams w va xs) (hb : IsParams w vb ys) (lx : xs.length ≤ 1000000) (ly : ys.length ≤ 1000000) (sx : smallPm xs) (sy : smallPm ys) :
    Gives 108 #[va, vb, .func (.func 109) #[] #[]] w (.bool (decide (xs = ys))) := by
  have HA := hid ha
  have HB := hid hb
  obtain ⟨aa, ca, rfl, _, _⟩ := ha
  obtain ⟨ab, cb, rfl, _, _⟩ := hb
  have SX := hid sx
  have SY := hid sy
  clear sx sy
  by_cases hn : xs.length = ys.length
  · have hb1 : ((xs.length : Int) != (ys.length : Int)) = false := by rw [hn]; simp
    have HN := hid hn
    clear hn
    go_enter Tryz.func108, Tryz.ntmps108
    go_wp2_with fail
    go_loopw [17] (fun i wr => ∃ k : Nat, k ≤ xs.length ∧ i = .int .i64 k ∧ G w wr ∧ ∀ j, j < k → xs[j]? = ys[j]?) (fun i _ => xs.length - (intOf i).toNat)
    case atStart => exact ⟨0, Nat.zero_le _, rfl, G.refl _, by omega⟩
    case round =>
      obtain ⟨k, hk, rfl, g, hall⟩ := hrel
      have HG := hid g
      have HALL := hid hall
      clear g hall
      by_cases hlt : k < xs.length
      · have hlt2 : k < ys.length := by rw [← HN.out]; exact hlt
        obtain ⟨a1, c1, e1, _, hc1⟩ := HA.out
        obtain ⟨b1, o1, e1', hb1', hcc1⟩ := hc1 (by rintro rfl; simp at hlt)
        obtain ⟨a2, c2, e2, _, hc2⟩ := HB.out
        obtain ⟨b2, o2, e2', hb2', hcc2⟩ := hc2 (by rintro rfl; simp at hlt2)
        simp only [Value.slice.injEq, true_and] at e1 e2
        obtain ⟨rfl, rfl⟩ := e1
        obtain ⟨rfl, rfl⟩ := e2
        subst e1'; subst e2'
        obtain ⟨s1, d1, f1, i1⟩ := hcc1 k _ (List.getElem?_eq_getElem hlt)
        obtain ⟨s2, d2, f2, i2⟩ := hcc2 k _ (List.getElem?_eq_getElem hlt2)
        obtain ⟨x, hx⟩ : ∃ x, xs[k] = x := ⟨_, rfl⟩
        obtain ⟨y, hy⟩ : ∃ y, ys[k] = y := ⟨_, rfl⟩
        have zx := SX.out _ (List.getElem_mem hlt)
        have zy := SY.out _ (List.getElem_mem hlt2)
        rw [hx] at i1 zx d1
        rw [hy] at i2 zy d2
        have I1 := hid i1
        have I2 := hid i2
        obtain ⟨ax, cx, rfl, _⟩ := i1.len
        obtain ⟨ay, cy, rfl, _⟩ := i2.len
        rw [← HG.out.cell (p := ⟨b1, o1 + k * 2, none⟩) hb1'] at d1
        rw [← HG.out.cell (p := ⟨b2, o2 + k * 2, none⟩) hb2'] at d2
        rw [← HG.out.cell (p := ⟨b1, o1 + k * 2 + 1, none⟩) hb1'] at f1
        rw [← HG.out.cell (p := ⟨b2, o2 + k * 2 + 1, none⟩) hb2'] at f2
        have bl1 : b1 < wr.heap.size := Nat.lt_of_lt_of_le hb1' HG.out.size
        have bl2 : b2 < wr.heap.size := Nat.lt_of_lt_of_le hb2' HG.out.size
        have HX := hid hx
        have HY := hid hy
        have ZX := hid zx
        have ZY := hid zy
        obtain ⟨n, x⟩ := x
        obtain ⟨m, y⟩ := y
        clear hx hy i1 i2 hc1 hc2 hcc1 hcc2 zx zy
        simp only at d1 d2
        obtain ⟨r, hr⟩ : ∃ r, decide ((n, x) = (m, y)) = r := ⟨_, rfl⟩
        have SP := hid (fun W (g : G wr W) => show Gives 109 #[.agg #[.string (S n), .slice ax x.length cx], .agg #[.string (S m), .slice ay y.length cy]] W (.bool r) by rw [← hr]; exact samePm_any n m _ _ x y W (I1.out.grow (G.trans HG.out g)) (I2.out.grow (G.trans HG.out g)) ZX.out.2 ZY.out.2 ZX.out.1 ZY.out.1)
        have HRR := hid hr
        clear hr
        go_wp2_with (go_at_call 109; refine (SP.out _ (by repeat (first | exact G.refl _ | assumption | apply G.drew | apply G.drewN | apply G.alloc | refine G.trans ?_ (by assumption)))).use ?_)
        intro w1 g1
        have G1 := hid (HG.out.trans (G.trans (by repeat (first | exact G.refl _ | assumption | apply G.drew | apply G.drewN | apply G.alloc | refine G.trans ?_ (by assumption))) g1))
        clear g1
        cases r with
        | true =>
          go_wp2_with fail
          go_roundw
          case rel =>
            refine ⟨k + 1, by omega, by go_num, G1.out, fun j hj => ?_⟩
            rcases Nat.lt_or_ge j k with h | h
            · exact HALL.out j h
            · obtain rfl : j = k := by omega
              rw [List.getElem?_eq_getElem hlt, List.getElem?_eq_getElem hlt2, HX.out, HY.out, of_decide_eq_true HRR.out]
          case measure => simp [intOf]; omega
        | false =>
          have HR : Hid (decide (xs = ys) = false) := hid (decide_eq_false (by
            intro e
            apply of_decide_eq_false HRR.out
            rw [← HX.out, ← HY.out]
            simp only [e]))
          go_wp2_with fail
          go_ret
          exact ⟨ret_bool HR.out.symm, G1.out⟩
      · have HR : Hid (decide (xs = ys) = true) := hid (decide_eq_true (by
          apply List.ext_getElem?
          intro j
          rcases Nat.lt_or_ge j k with h | h
          · exact HALL.out j h
          · rw [List.getElem?_eq_none (by omega), List.getElem?_eq_none (by have := HN.out; omega)]))
        go_wp2_with fail
        go_ret
        exact ⟨ret_bool HR.out.symm, HG.out⟩
  · have hb1 : ((xs.length : Int) != (ys.length : Int)) = true := by simp; omega
    have HR : Hid (decide (xs = ys) = false) := hid (decide_eq_false fun e => hn (by rw [e]))
    clear hn
    go_enter Tryz.func108, Tryz.ntmps108
    go_wp2_with fail
    go_ret
    exact ⟨ret_bool HR.out.symm, G.refl _⟩
set_option maxRecDepth 100000 in
set_option maxHeartbeats 1000000 in
theorem sameParams_any {va vb : Value} {xs ys : List Pm} {w : World} (ha : IsParams w va xs) (hb : IsParams w vb ys) (lx : xs.length ≤ 1000000) (ly : ys.length ≤ 1000000) (sx : smallPm xs) (sy : smallPm ys) :
    Gives 63 #[va, vb] w (.bool (decide (xs = ys))) := by
  have EQ := hid (fun W (g : G w W) => eqParams_any (ha.grow g) (hb.grow g) lx ly sx sy)
  obtain ⟨aa, ca, rfl, _, _⟩ := ha
  obtain ⟨ab, cb, rfl, _, _⟩ := hb
  go_enter Tryz.func63, Tryz.ntmps63
  go_wp2_with fail
  refine (EQ.out _ (by repeat (first | exact G.refl _ | assumption | apply G.drew | apply G.drewN | apply G.alloc | refine G.trans ?_ (by assumption)))).use ?_
  intro w1 g1
  go_wp2_with fail
  go_ret
  exact ⟨rfl, g1⟩
end Go.Proofs.YtfadckackdmbnaaGreatDoor
