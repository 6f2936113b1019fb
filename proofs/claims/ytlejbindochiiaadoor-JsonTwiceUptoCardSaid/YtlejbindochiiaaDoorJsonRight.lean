/-
  CONTRACT of json.right.
-/
import Derived.Test.YtlejbindochiiaaDoorJsonNum
import Derived.Test.YtlejbindochiiaaDoorJsonMem
import Derived.Test.YtlejbindochiiaaDoorJsonMore
import Derived.Test.YtlejbindochiiaaDoorSeen
import Derived.Test.YtlejbindochiiaaDoorErr
import Derived.Test.YtlejbindochiiaaDoorUtf3
import Derived.Carry
import Derived.Deep.CutRange
import Derived.Deep.DeepCutAuto
import Derived.Deep.CutBlock
namespace Go.Proofs.YtlejbindochiiaaDoor
open Go.RowKit
set_option linter.unusedVariables false
set_option linter.unusedSimpArgs false

def errJ : Option Int → Value
  | none => .nilIface
  | some c => eno c
/-- how much a tree holds, so deep -/
def SzJ (a b : Nat) : Nat → Jt → Prop
  | 0, _ => True
  | d + 1, x => x.text.length ≤ a ∧ x.keys.length ≤ a ∧ x.list.length ≤ a ∧ (∀ k ∈ x.keys, k.length ≤ b) ∧ ∀ y ∈ x.list, SzJ a b d y
def RightC (d : Nat) : Prop := ∀ (a b n : Nat) (p : Nat → Prop) (w : World) (v : Value) (x : Jt), a ≤ 999999 → b ≤ 100000000 → JAt n p w v x → SzJ a b d x → Gives 24 #[v, .int .i64 ((13 - d : Nat) : Int)] w (errJ (rightJ d x))
/-- a kind has what its kind may have -/
def PartsJ (k : Int) (t : List UInt8) (ks : List (List UInt8)) (l : List Jt) : Prop := (1 ≤ k ∧ k ≤ 7) ∧ (k = 4 ∨ k = 5 ∨ t = []) ∧ (k = 7 ∨ ks = []) ∧ (k = 7 → ks.length = l.length) ∧ (k = 7 ∨ k = 6 ∨ l = [])
section
variable {d : Nat} {k : Int} {t : List UInt8} {ks : List (List UInt8)} {l : List Jt}
theorem right_one (hk : 1 ≤ k ∧ k ≤ 7) (h : ¬ ((k = 4 ∨ k = 5 ∨ t = []) ∧ (k = 7 ∨ ks = []) ∧ (k = 7 → ks.length = l.length) ∧ (k = 7 ∨ k = 6 ∨ l = []))) : rightJ (d + 1) (.mk k t ks l) = some 1 := by
  unfold rightJ; rw [if_neg (fun x => x hk), if_pos h]
theorem right_three (h : PartsJ k t ks l) (h3 : (k = 4 ∧ (t = [] ∨ numJ t ≠ t.length)) ∨ badL t ≠ none) : rightJ (d + 1) (.mk k t ks l) = some 3 := by
  unfold rightJ; rw [if_neg (fun x => x h.1), if_neg (fun x => x h.2), if_pos h3]
theorem right_key (h : PartsJ k t ks l) (h3 : ¬ ((k = 4 ∧ (t = [] ∨ numJ t ≠ t.length)) ∨ badL t ≠ none)) (h4 : ∃ x ∈ ks, badL x ≠ none) : rightJ (d + 1) (.mk k t ks l) = some 3 := by
  unfold rightJ; rw [if_neg (fun x => x h.1), if_neg (fun x => x h.2), if_neg h3, if_pos h4]
theorem right_nine (h : PartsJ k t ks l) (h3 : ¬ ((k = 4 ∧ (t = [] ∨ numJ t ≠ t.length)) ∨ badL t ≠ none)) (h4 : ∀ x ∈ ks, badL x = none) (h5 : ¬ ks.Nodup) : rightJ (d + 1) (.mk k t ks l) = some 9 := by
  unfold rightJ; rw [if_neg (fun x => x h.1), if_neg (fun x => x h.2), if_neg h3, if_neg (by rintro ⟨x, hx, hb⟩; exact hb (h4 x hx)), if_pos h5]
theorem right_rest (h : PartsJ k t ks l) (h3 : ¬ ((k = 4 ∧ (t = [] ∨ numJ t ≠ t.length)) ∨ badL t ≠ none)) (h4 : ∀ x ∈ ks, badL x = none) (h5 : ks.Nodup) : rightJ (d + 1) (.mk k t ks l) = l.findSome? (rightJ d) := by
  unfold rightJ; rw [if_neg (fun x => x h.1), if_neg (fun x => x h.2), if_neg h3, if_neg (by rintro ⟨x, hx, hb⟩; exact hb (h4 x hx)), if_neg (fun h => h h5)]
end
theorem cellsJ_at : ∀ {vs : List Value}, (∀ u ∈ vs, (cellsU u).length = 4) → ∀ {j : Nat} {u : Value}, vs[j]? = some u → ∀ i, i < 4 → (cellsJ vs)[j * 4 + i]? = (cellsU u)[i]?
  | [], _, j, u, hu, _, _ => by simp at hu
  | v :: vs, h, 0, u, hu, i, hi => by
    simp at hu; subst hu
    have := h v List.mem_cons_self
    show (cellsU v ++ cellsJ vs)[0 * 4 + i]? = _
    rw [List.getElem?_append_left (by omega)]; congr 1; omega
  | v :: vs, h, j + 1, u, hu, i, hi => by
    have hv := h v List.mem_cons_self
    have ih := cellsJ_at (fun u hu => h u (List.mem_cons_of_mem _ hu)) (j := j) (u := u) (by simpa using hu) i hi
    show (cellsU v ++ cellsJ vs)[(j + 1) * 4 + i]? = _
    rw [List.getElem?_append_right (by omega), ← ih]; congr 1; omega
/-- a tree's keys and elements, cell by cell -/
theorem parts_of {n : Nat} {p : Nat → Prop} {w : World} {k : Int} {t : List UInt8} {ks : List (List UInt8)} {l : List Jt} {ka la : Option Addr} {kc lc : Nat} (h : JAt n p w (.agg #[.int .i64 k, .string (S t), .slice ka ks.length kc, .slice la l.length lc]) (.mk k t ks l)) :
    (∀ (j : Nat) (hj : j < ks.length), ∃ b o, ka = some ⟨b, o, none⟩ ∧ b < w.heap.size ∧ w.cell? ⟨b, o + j, none⟩ = some (.string (S ks[j]))) ∧
    (∀ (j : Nat) (hj : j < l.length), ∃ b o u m, la = some ⟨b, o, none⟩ ∧ b < w.heap.size ∧ JAt m p w u l[j] ∧ ∀ i (v : Value), i < 4 → (cellsU u)[i]? = some v → w.cell? ⟨b, o + (j * 4 + i), none⟩ = some v) ∧ True := by
  cases n with
  | zero => exact h.elim
  | succ n =>
    obtain ⟨kv, lv, vs, e, hk, _, hl, _, _, hn, hx⟩ := h
    simp only [Jt.kind, Jt.text, Jt.keys, Jt.list] at e hk hl hn hx
    injection e with e
    have e2 : [Value.slice ka ks.length kc, .slice la l.length lc] = [kv, lv] := by
      have := congrArg Array.toList e
      simp at this
      simp [this]
    obtain ⟨rfl, e3⟩ := List.cons.inj e2
    obtain ⟨rfl, _⟩ := List.cons.inj e3
    refine ⟨fun j hj => ?_, fun j hj => ?_, trivial⟩
    · obtain ⟨b, o, cap, e1, _, hb, hc⟩ := hk.at_ (by rintro rfl; simp at hj)
      injection e1 with e1 _ _
      exact ⟨b, o, e1, hb, hc j _ (List.getElem?_eq_getElem hj)⟩
    · obtain ⟨h1, _, h3⟩ := hl
      rcases h3 with ⟨h3, _⟩ | ⟨b, o, cap, e1, hb, _, hc⟩
      · omega
      · injection e1 with e1 _ _
        have hjv : j < vs.length := by omega
        refine ⟨b, o, vs[j], n, e1, hb, hx j _ _ (List.getElem?_eq_getElem hj) (List.getElem?_eq_getElem hjv), fun i v hi hv => ?_⟩
        have h4 : ∀ u ∈ vs, (cellsU u).length = 4 := fun u hu => by
          obtain ⟨i, hi, rfl⟩ := List.mem_iff_getElem.1 hu
          exact (hx i _ _ (List.getElem?_eq_getElem (by omega)) (List.getElem?_eq_getElem hi)).cells.1
        have := cellsJ_at h4 (List.getElem?_eq_getElem hjv) i hi
        rw [hv] at this
        obtain ⟨hlt, hget⟩ := List.getElem?_eq_some_iff.1 this
        rw [hc _ hlt, hget]
set_option maxRecDepth 100000 in
set_option maxHeartbeats 2000000 in
theorem right_zero : RightC 0 := by
  intro a b n p w v x ha hb hv hsz
  obtain ⟨ka, kc, la, lc, rfl⟩ := hv.shape4
  have h0 : rightJ 0 x = some 4 := by cases x; rfl
  rw [h0]
  clear hv hsz h0
  go_enter Tryd.func24, Tryd.ntmps24
  go_wp2_with fail
  go_ret
  exact ⟨rfl, (by repeat (first | exact G.refl _ | assumption | apply G.drew | apply G.drewN | apply G.alloc | refine G.trans ?_ (by assumption)))⟩
set_option maxRecDepth 100000 in
set_option maxHeartbeats 8000000 in
theorem right_succ (d : Nat) (hd : d + 1 ≤ 12) (ih : RightC d) : RightC (d + 1) := by
  intro a b n p w v x ha hb hv hsz
  obtain ⟨ka, kc, la, lc, rfl⟩ := hv.shape4
  obtain ⟨e, he⟩ : ∃ e, 13 - (d + 1) = e := ⟨_, rfl⟩
  have IH : Hid (RightC d) := hid ih
  have HV := hid hv
  have HSZ := hid hsz
  have h12 : ¬ (12 : Int) < (e : Int) := by omega
  have h12n : ¬ 12 < e := by omega
  have HE : Hid (e + 1 = 13 - d) := hid (by omega)
  rw [he]
  clear he ih hv hsz
  obtain ⟨k, t, ks, l⟩ := x
  simp only [Jt.kind, Jt.text, Jt.keys, Jt.list]
  go_enter Tryd.func24, Tryd.ntmps24
  go_upto_region 3 with fail
  generalize hwb : World.alloc w _ = wb
  obtain ⟨B, hB⟩ : ∃ B, w.heap.size = B := ⟨_, rfl⟩
  rw [hB]
  have hbox : wb.heap[B]? = some (.cells #[.int .i64 k, .string (S t), .slice ka ks.length kc, .slice la l.length lc] 25) := by rw [← hwb, ← hB]; exact (MapKept.heap_alloc w _).1
  have GB := hid (show G w wb by rw [← hwb]; exact (G.refl _).alloc _)
  have HBX := hid hbox
  have c0 : wb.cell? ⟨B, 0, none⟩ = some (.int .i64 k) := by rw [cell_of_row wb B 0 _ _ _ hbox]; rfl
  have c1 : wb.cell? ⟨B, 1, none⟩ = some (.string (S t)) := by rw [cell_of_row wb B 1 _ _ _ hbox]; rfl
  have c2 : wb.cell? ⟨B, 2, none⟩ = some (.slice ka ks.length kc) := by rw [cell_of_row wb B 2 _ _ _ hbox]; rfl
  have c3 : wb.cell? ⟨B, 3, none⟩ = some (.slice la l.length lc) := by rw [cell_of_row wb B 3 _ _ _ hbox]; rfl
  clear hwb hbox hB
  go_quiet (fail)
  obtain ⟨tb, htb⟩ : ∃ q, t.isEmpty = q := ⟨_, rfl⟩
  obtain ⟨kb, hkb⟩ : ∃ q, ((ks.length : Int) == 0) = q := ⟨_, rfl⟩
  obtain ⟨lb, hlb⟩ : ∃ q, ((l.length : Int) == 0) = q := ⟨_, rfl⟩
  obtain ⟨eb, heb⟩ : ∃ q, ((ks.length : Int) == (l.length : Int)) = q := ⟨_, rfl⟩
  rw [htb, hkb, hlb]
  have d0 : (wb.drewN nq).cell? ⟨B, 0, none⟩ = some (.int .i64 k) := c0
  have d2 : (wb.drewN nq).cell? ⟨B, 2, none⟩ = some (.slice ka ks.length kc) := c2
  have d3 : (wb.drewN nq).cell? ⟨B, 3, none⟩ = some (.slice la l.length lc) := c3
  have GB1 := hid (show G w (wb.drewN nq) from GB.out.drewN _)
  have HB1 := hid (show (wb.drewN nq).heap[B]? = some (.cells #[.int .i64 k, .string (S t), .slice ka ks.length kc, .slice la l.length lc] 25) from HBX.out)
  have HTB := hid (show tb = true ↔ t = [] by rw [← htb]; simp)
  have HKB := hid (show kb = true ↔ ks = [] by rw [← hkb]; simp [List.length_eq_zero_iff])
  have HLB := hid (show lb = true ↔ l = [] by rw [← hlb]; simp [List.length_eq_zero_iff])
  have HEB := hid (show eb = true ↔ ks.length = l.length by rw [← heb]; simp; omega)
  clear c0 c1 c2 c3 htb hkb hlb GB HBX
  generalize wb.drewN nq = w1 at d0 d2 d3 GB1 HB1 ⊢
  go_upto_block 0 with fail
  go_cut [5, 6, 7] from 30 to 50 (fun v5 v6 v7 wx => (1 ≤ k ∧ k ≤ 7) ∧ (∃ m, wx = w1.drewN m) ∧ ∃ t1 k1 l1 : Bool, v5 = .bool t1 ∧ v6 = .bool k1 ∧ v7 = .bool l1 ∧ (t1 = true ↔ (k = 4 ∨ k = 5 ∨ t = [])) ∧ (k1 = true ↔ (k = 7 ∨ ks = [])) ∧ (l1 = true ↔ ((k = 7 → ks.length = l.length) ∧ (k = 7 ∨ k = 6 ∨ l = []))))
  case first =>
    by_cases hk : k = 1 ∨ k = 2 ∨ k = 3 ∨ k = 4 ∨ k = 5 ∨ k = 6 ∨ k = 7
    · rcases hk with rfl | rfl | rfl | rfl | rfl | rfl | rfl
      · go_wp2_with fail
        go_meet
        exact ⟨by decide, ⟨0, rfl⟩, _, _, _, rfl, rfl, rfl, by simp [HTB.out], by simp [HKB.out], by simp [HLB.out]⟩
      · go_wp2_with fail
        go_meet
        exact ⟨by decide, ⟨0, rfl⟩, _, _, _, rfl, rfl, rfl, by simp [HTB.out], by simp [HKB.out], by simp [HLB.out]⟩
      · go_wp2_with fail
        go_meet
        exact ⟨by decide, ⟨0, rfl⟩, _, _, _, rfl, rfl, rfl, by simp [HTB.out], by simp [HKB.out], by simp [HLB.out]⟩
      · go_wp2_with fail
        go_meet
        exact ⟨by decide, ⟨0, rfl⟩, _, _, _, rfl, rfl, rfl, by simp, by simp [HKB.out], by simp [HLB.out]⟩
      · go_wp2_with fail
        go_meet
        exact ⟨by decide, ⟨0, rfl⟩, _, _, _, rfl, rfl, rfl, by simp, by simp [HKB.out], by simp [HLB.out]⟩
      · go_wp2_with fail
        go_meet
        exact ⟨by decide, ⟨0, rfl⟩, _, _, _, rfl, rfl, rfl, by simp [HTB.out], by simp [HKB.out], by simp⟩
      · go_wp2_with fail
        go_quiet (fail)
        go_wp2_with fail
        go_meet
        exact ⟨by decide, ⟨_, rfl⟩, _, _, _, rfl, rfl, rfl, by simp [HTB.out], by simp, by simp [HEB.out]⟩
    · have n1 : (k == 1) = false := beq_eq_false_iff_ne.2 (by omega)
      have n2 : (k == 2) = false := beq_eq_false_iff_ne.2 (by omega)
      have n3 : (k == 3) = false := beq_eq_false_iff_ne.2 (by omega)
      have n4 : (k == 4) = false := beq_eq_false_iff_ne.2 (by omega)
      have n5 : (k == 5) = false := beq_eq_false_iff_ne.2 (by omega)
      have n6 : (k == 6) = false := beq_eq_false_iff_ne.2 (by omega)
      have n7 : (k == 7) = false := beq_eq_false_iff_ne.2 (by omega)
      have hr : rightJ (d + 1) (.mk k t ks l) = some 1 := by unfold rightJ; rw [if_pos (by omega)]
      have HR := hid hr
      clear hk hr
      go_wp2_with fail
      go_ret
      exact ⟨by rw [HR.out]; rfl, GB1.out⟩
  case rest =>
    obtain ⟨hk, ⟨m, rfl⟩, t1, k1, l1, rfl, rfl, rfl, ht, hkk, hl⟩ := hcut
    have d0 : (w1.drewN m).cell? ⟨B, 0, none⟩ = some (.int .i64 k) := d0
    have HB2 := hid (show (w1.drewN m).heap[B]? = some (.cells #[.int .i64 k, .string (S t), .slice ka ks.length kc, .slice la l.length lc] 25) from HB1.out)
    have GB2 := hid (show G w (w1.drewN m) from GB1.out.drewN _)
    clear HB1 GB1
    generalize w1.drewN m = w2 at d0 HB2 GB2 ⊢
    have d1 : w2.cell? ⟨B, 1, none⟩ = some (.string (S t)) := by rw [cell_of_row w2 B 1 _ _ _ HB2.out]; rfl
    have hBl := lt_of_row HB2.out
    have HK := hid hk
    have HT := hid ht
    have HKK := hid hkk
    have HL := hid hl
    have hbad : Hid (∀ W, Pure 11 #[.string (S t)] W (.int .i64 (badV (badL t)))) := hid (fun W => bad_any t W (by have := HSZ.out.1; simp only [Jt.text] at this; omega))
    have NU : Hid (∀ W, Gives 29 #[.string (S t)] W (.int .i64 (numJ t : Int))) := hid (fun W => number_any t W (by have := HSZ.out.1; simp only [Jt.text] at this; omega))
    clear hk ht hkk hl
    go_upto_block 1 with fail
    go_cut [] from 51 to 87 (fun wx => PartsJ k t ks l ∧ ¬ ((k = 4 ∧ (t = [] ∨ numJ t ≠ t.length)) ∨ badL t ≠ none) ∧ G w2 wx)
    case first =>
      cases t1 with
      | false =>
        have HR := hid (show rightJ (d + 1) (.mk k t ks l) = some 1 from right_one HK.out (fun h => by have := HT.out.2 h.1; cases this))
        go_wp2_with fail
        go_ret
        exact ⟨by rw [HR.out]; rfl, GB2.out⟩
      | true =>
      cases k1 with
      | false =>
        have HR := hid (show rightJ (d + 1) (.mk k t ks l) = some 1 from right_one HK.out (fun h => by have := HKK.out.2 h.2.1; cases this))
        go_wp2_with fail
        go_ret
        exact ⟨by rw [HR.out]; rfl, GB2.out⟩
      | true =>
      cases l1 with
      | false =>
        have HR := hid (show rightJ (d + 1) (.mk k t ks l) = some 1 from right_one HK.out (fun h => by have := HL.out.2 ⟨h.2.2.1, h.2.2.2⟩; cases this))
        go_wp2_with fail
        go_ret
        exact ⟨by rw [HR.out]; rfl, GB2.out⟩
      | true =>
      have PA := hid (show PartsJ k t ks l from ⟨HK.out, HT.out.1 rfl, HKK.out.1 rfl, (HL.out.1 rfl).1, (HL.out.1 rfl).2⟩)
      by_cases h4 : k = 4
      · have k4 : (k == 4) = true := by rw [h4]; rfl
        have H4 := hid h4
        clear h4
        by_cases ht0 : t = []
        · have te : t.isEmpty = true := by rw [ht0]; rfl
          have HR := hid (show rightJ (d + 1) (.mk k t ks l) = some 3 from right_three PA.out (.inl ⟨H4.out, .inl ht0⟩))
          have BA := hbad
          clear ht0
          go_upto_region 18 with fail
          refine wp_region_grow (by kernel_rfl) (by kernel_rfl) ?_
          repeat (first | go_big_quiet_skip | (go_big_quiet_want; go_big_quiet_op; first | go_big_quiet_on | (apply Exists.intro; apply And.intro; (focus (intro _ hg; first | (go_at_call 29; with_reducible exact Gives.gq hg (NU.out _)) | (go_at_call 11; with_reducible exact Pure.gq hg (BA.out _)) | (rw [G.cell hg (p := ⟨B, 0, none⟩) hBl, d0]; exact ⟨rfl, rfl⟩) | (rw [G.cell hg (p := ⟨B, 1, none⟩) hBl, d1]; exact ⟨rfl, rfl⟩))); go_big_quiet_on) | (refine ⟨_, fun _ _ => rfl, ?_⟩; go_big_quiet_on)))
          refine wpQuiet_nil ?_
          intro wq gq
          go_wp2_with fail
          go_ret
          exact ⟨by rw [HR.out]; rfl, GB2.out.trans gq⟩
        · have te : t.isEmpty = false := by cases t with | nil => exact absurd rfl ht0 | cons c r => rfl
          have HT0 := hid ht0
          clear ht0
          by_cases hn : numJ t = t.length
          · have NU : Hid (∀ W, Gives 29 #[.string (S t)] W (.int .i64 (t.length : Int))) := hid (fun W => by have := NU.out W; rwa [hn] at this)
            have HN := hid hn
            clear hn
            cases hbt : badL t with
            | some i =>
              have BA := hid (show ∀ W, Pure 11 #[.string (S t)] W (.int .i64 (i : Int)) from fun W => by have := hbad.out W; rw [hbt] at this; exact this)
              have HR := hid (show rightJ (d + 1) (.mk k t ks l) = some 3 from right_three PA.out (.inr (by rw [hbt]; simp)))
              clear hbt
              go_upto_region 18 with fail
              refine wp_region_grow (by kernel_rfl) (by kernel_rfl) ?_
              repeat (first | go_big_quiet_skip | (go_big_quiet_want; go_big_quiet_op; first | go_big_quiet_on | (apply Exists.intro; apply And.intro; (focus (intro _ hg; first | (go_at_call 29; with_reducible exact Gives.gq hg (NU.out _)) | (go_at_call 11; with_reducible exact Pure.gq hg (BA.out _)) | (rw [G.cell hg (p := ⟨B, 0, none⟩) hBl, d0]; exact ⟨rfl, rfl⟩) | (rw [G.cell hg (p := ⟨B, 1, none⟩) hBl, d1]; exact ⟨rfl, rfl⟩))); go_big_quiet_on) | (refine ⟨_, fun _ _ => rfl, ?_⟩; go_big_quiet_on)))
              refine wpQuiet_nil ?_
              intro wq gq
              go_wp2_with fail
              go_ret
              exact ⟨by rw [HR.out]; rfl, GB2.out.trans gq⟩
            | none =>
              have BA := hid (show ∀ W, Pure 11 #[.string (S t)] W (.int .i64 (-1)) from fun W => by have := hbad.out W; rw [hbt] at this; exact this)
              have OK : Hid (¬ ((k = 4 ∧ (t = [] ∨ numJ t ≠ t.length)) ∨ badL t ≠ none)) := hid (by rintro (⟨_, h | h⟩ | h); (· exact HT0.out h); (· exact h HN.out); exact h hbt)
              clear hbt
              go_upto_region 18 with fail
              refine wp_region_grow (by kernel_rfl) (by kernel_rfl) ?_
              repeat (first | go_big_quiet_skip | (go_big_quiet_want; go_big_quiet_op; first | go_big_quiet_on | (apply Exists.intro; apply And.intro; (focus (intro _ hg; first | (go_at_call 29; with_reducible exact Gives.gq hg (NU.out _)) | (go_at_call 11; with_reducible exact Pure.gq hg (BA.out _)) | (rw [G.cell hg (p := ⟨B, 0, none⟩) hBl, d0]; exact ⟨rfl, rfl⟩) | (rw [G.cell hg (p := ⟨B, 1, none⟩) hBl, d1]; exact ⟨rfl, rfl⟩))); go_big_quiet_on) | (refine ⟨_, fun _ _ => rfl, ?_⟩; go_big_quiet_on)))
              refine wpQuiet_nil ?_
              intro wq gq
              go_wp2_with fail
              go_meet
              exact ⟨PA.out, OK.out, gq⟩
          · have hne : ((numJ t : Int) == (t.length : Int)) = false := beq_eq_false_iff_ne.2 (by omega)
            have hne2 : (numJ t == t.length) = false := beq_eq_false_iff_ne.2 hn
            have hne3 : ((numJ t : Int) != (t.length : Int)) = true := by simp [bne, hne]
            have hne4 : ¬ (numJ t : Int) = (t.length : Int) := by omega
            have HN := hid hn
            have BA := hbad
            have HR := hid (show rightJ (d + 1) (.mk k t ks l) = some 3 from right_three PA.out (.inl ⟨H4.out, .inr hn⟩))
            clear hn
            go_upto_region 18 with fail
            refine wp_region_grow (by kernel_rfl) (by kernel_rfl) ?_
            repeat (first | go_big_quiet_skip | (go_big_quiet_want; go_big_quiet_op; first | go_big_quiet_on | (apply Exists.intro; apply And.intro; (focus (intro _ hg; first | (go_at_call 29; with_reducible exact Gives.gq hg (NU.out _)) | (go_at_call 11; with_reducible exact Pure.gq hg (BA.out _)) | (rw [G.cell hg (p := ⟨B, 0, none⟩) hBl, d0]; exact ⟨rfl, rfl⟩) | (rw [G.cell hg (p := ⟨B, 1, none⟩) hBl, d1]; exact ⟨rfl, rfl⟩))); go_big_quiet_on) | (refine ⟨_, fun _ _ => rfl, ?_⟩; go_big_quiet_on)))
            refine wpQuiet_nil ?_
            intro wq gq
            go_wp2_with fail
            go_ret
            exact ⟨by rw [HR.out]; rfl, GB2.out.trans gq⟩
      · have k4 : (k == 4) = false := beq_eq_false_iff_ne.2 h4
        have H4 := hid h4
        clear h4
        cases hbt : badL t with
        | some i =>
          have BA := hid (show ∀ W, Pure 11 #[.string (S t)] W (.int .i64 (i : Int)) from fun W => by have := hbad.out W; rw [hbt] at this; exact this)
          have HR := hid (show rightJ (d + 1) (.mk k t ks l) = some 3 from right_three PA.out (.inr (by rw [hbt]; simp)))
          clear hbt
          go_upto_region 18 with fail
          refine wp_region_grow (by kernel_rfl) (by kernel_rfl) ?_
          repeat (first | go_big_quiet_skip | (go_big_quiet_want; go_big_quiet_op; first | go_big_quiet_on | (apply Exists.intro; apply And.intro; (focus (intro _ hg; first | (go_at_call 29; with_reducible exact Gives.gq hg (NU.out _)) | (go_at_call 11; with_reducible exact Pure.gq hg (BA.out _)) | (rw [G.cell hg (p := ⟨B, 0, none⟩) hBl, d0]; exact ⟨rfl, rfl⟩) | (rw [G.cell hg (p := ⟨B, 1, none⟩) hBl, d1]; exact ⟨rfl, rfl⟩))); go_big_quiet_on) | (refine ⟨_, fun _ _ => rfl, ?_⟩; go_big_quiet_on)))
          refine wpQuiet_nil ?_
          intro wq gq
          go_wp2_with fail
          go_ret
          exact ⟨by rw [HR.out]; rfl, GB2.out.trans gq⟩
        | none =>
          have BA := hid (show ∀ W, Pure 11 #[.string (S t)] W (.int .i64 (-1)) from fun W => by have := hbad.out W; rw [hbt] at this; exact this)
          have OK : Hid (¬ ((k = 4 ∧ (t = [] ∨ numJ t ≠ t.length)) ∨ badL t ≠ none)) := hid (by rintro (⟨h, _⟩ | h); (· exact H4.out h); exact h hbt)
          clear hbt
          go_upto_region 18 with fail
          refine wp_region_grow (by kernel_rfl) (by kernel_rfl) ?_
          repeat (first | go_big_quiet_skip | (go_big_quiet_want; go_big_quiet_op; first | go_big_quiet_on | (apply Exists.intro; apply And.intro; (focus (intro _ hg; first | (go_at_call 29; with_reducible exact Gives.gq hg (NU.out _)) | (go_at_call 11; with_reducible exact Pure.gq hg (BA.out _)) | (rw [G.cell hg (p := ⟨B, 0, none⟩) hBl, d0]; exact ⟨rfl, rfl⟩) | (rw [G.cell hg (p := ⟨B, 1, none⟩) hBl, d1]; exact ⟨rfl, rfl⟩))); go_big_quiet_on) | (refine ⟨_, fun _ _ => rfl, ?_⟩; go_big_quiet_on)))
          refine wpQuiet_nil ?_
          intro wq gq
          go_wp2_with fail
          go_meet
          exact ⟨PA.out, OK.out, gq⟩
    case rest =>
      obtain ⟨hpa, hok, gx⟩ := hcut
      have PA := hid hpa
      have OK := hid hok
      have GX := hid (GB2.out.trans gx)
      have hbx := (gx.below.block B hBl).trans HB2.out
      obtain ⟨M, hM⟩ : ∃ M, wc.heap.size = M := ⟨_, rfl⟩
      have hBM : B < M := by have := lt_of_row hbx; omega
      have hwB : w.heap.size ≤ M := by have := GX.out.size; omega
      have HBX := hid hbx
      have hmm := @run_makeMap Tryd.prog
      clear hpa hok gx hbx d0 d1 hBl HB2 GB2
      go_upto_region 21 with fail
      generalize hw3 : World.alloc wc _ = w3
      have hb3 : w3.heap[B]? = some (.cells #[.int .i64 k, .string (S t), .slice ka ks.length kc, .slice la l.length lc] 25) := by rw [← hw3]; exact row_alloc HBX.out (lt_of_row HBX.out)
      have hm3 : w3.heap[M]? = some (.map #[] 0) := by rw [← hw3, ← hM]; exact (MapKept.heap_alloc wc _).1
      have G3 := hid (show G w w3 by rw [← hw3]; exact GX.out.alloc _)
      have c2 : w3.cell? ⟨B, 2, none⟩ = some (.slice ka ks.length kc) := by rw [cell_of_row w3 B 2 _ _ _ hb3]; rfl
      have HB3 := hid hb3
      have HM3 := hid hm3
      clear hw3 hM hb3 hm3 hmm GX HBX
      obtain ⟨KA, LA, LZ⟩ := parts_of (k := k) (t := t) (ks := ks) (l := l) HV.out
      have hksl : ks.length ≤ 999999 := by have := HSZ.out.2.1; simp only [Jt.keys] at this; omega
      have hll : l.length ≤ 999999 := by have := HSZ.out.2.2.1; simp only [Jt.list] at this; omega
      have KB : Hid (∀ x ∈ ks, ∀ W, Pure 11 #[.string (S x)] W (.int .i64 (badV (badL x)))) := hid (fun x hx W => bad_any x W (by have := HSZ.out.2.2.2.1 x hx; omega))
      have HKA := hid KA
      have HLA := hid LA
      clear KA LA
      go_wp2_with fail
      clear c2
      go_loop [10, 92] (fun _ i => ∃ j : Nat, i = .int .i64 (j : Int) ∧ j ≤ ks.length ∧ ∀ x ∈ ks.take j, badL x = none) (fun _ i => ks.length - (intOf i).toNat)
      case atStart => exact ⟨0, rfl, by omega, by simp⟩
      case round =>
        obtain ⟨j, rfl, hj, hg⟩ := hrel
        have HG := hid hg
        clear hg
        by_cases hlt : j < ks.length
        · obtain ⟨bk, ok, rfl, hbk, hck⟩ := HKA.out j hlt
          have hlti : (j : Int) < (ks.length : Int) := by omega
          have ck : w3.cell? ⟨bk, ok + j, none⟩ = some (.string (S ks[j])) := by rw [G.cell G3.out (p := ⟨bk, ok + j, none⟩) hbk]; exact hck
          have hj1 : j + 1 ≤ 1000000 := by omega
          have KJ := hid (KB.out ks[j] (List.getElem_mem hlt))
          clear hck
          cases hbt : badL ks[j] with
          | some i =>
            have BA := hid (show ∀ W, Pure 11 #[.string (S ks[j])] W (.int .i64 (i : Int)) from fun W => by have := KJ.out W; rw [hbt] at this; exact this)
            have HR := hid (show rightJ (d + 1) (.mk k t ks l) = some 3 from right_key PA.out OK.out ⟨ks[j], List.getElem_mem hlt, by rw [hbt]; simp⟩)
            clear hbt
            go_wp2_with fail
            refine (BA.out _).use ?_
            go_wp2_with fail
            go_ret
            exact ⟨by rw [HR.out]; rfl, G3.out⟩
          | none =>
            have BA := hid (show ∀ W, Pure 11 #[.string (S ks[j])] W (.int .i64 (-1)) from fun W => by have := KJ.out W; rw [hbt] at this; exact this)
            have HBT := hid hbt
            clear hbt
            go_wp2_with fail
            refine (BA.out _).use ?_
            go_wp2_with fail
            go_round
            case rel =>
              refine ⟨j + 1, by simp, by omega, fun x hx => ?_⟩
              rw [List.take_add_one, List.getElem?_eq_getElem hlt] at hx
              rcases List.mem_append.1 hx with hx | hx
              · exact HG.out x hx
              · simp at hx; rw [hx]; exact HBT.out
            case measure => simp [intOf]; omega
        · obtain rfl : j = ks.length := by omega
          have HGA := hid (show ∀ x ∈ ks, badL x = none from fun x hx => HG.out x (by rw [List.take_length]; exact hx))
          have hno : ¬ (ks.length : Int) < (ks.length : Int) := by omega
          have c2 : w3.cell? ⟨B, 2, none⟩ = some (.slice ka ks.length kc) := by rw [cell_of_row w3 B 2 _ _ _ HB3.out]; rfl
          clear hlt hj HG
          go_wp2_with fail
          clear c2
          go_loopw [12, 104] (fun _ i wr => ∃ (j : Nat) (es : Array MapEntry) (c : Nat), i = .int .i64 (j : Int) ∧ j ≤ ks.length ∧ w3.grownBy wr (some M) ∧ wr.heap[M]? = some (.map es c) ∧ SeenEs es (ks.take j) ∧ (ks.take j).Nodup) (fun _ i _ => ks.length - (intOf i).toNat)
          case atStart => exact ⟨0, _, _, rfl, by omega, mv_refl _ _, HM3.out, seen_nil, by simp⟩
          case round =>
            obtain ⟨j, es, c, rfl, hj, hgm, hmap, hseen, hnd⟩ := hrel
            have HND := hid hnd
            have GM := hid hgm
            have HMAP := hid hmap
            have HSEEN := hid hseen
            clear hnd hgm
            by_cases hlt : j < ks.length
            · obtain ⟨bk, ok, rfl, hbk, hck⟩ := HKA.out j hlt
              have hlti : (j : Int) < (ks.length : Int) := by omega
              have ck : wr.cell? ⟨bk, ok + j, none⟩ = some (.string (S ks[j])) := by
                rw [World.cell?_of_block (GM.out.block bk (by have := G3.out.size; omega) (by simp; omega)), G.cell G3.out (p := ⟨bk, ok + j, none⟩) hbk]; exact hck
              have hj1 : j + 1 ≤ 1000000 := by omega
              have hlook := look_seen (k := ks[j]) hmap hseen
              clear hck
              by_cases hin : ks[j] ∈ ks.take j
              · rw [decide_eq_true hin] at hlook
                have HR := hid (show rightJ (d + 1) (.mk k t ks l) = some 9 from right_nine PA.out OK.out HGA.out (fun hn => by
                  have := (List.nodup_append.1 (by rw [← List.take_append_drop j ks] at hn; exact hn)).2.2 ks[j] hin ks[j] (by rw [List.drop_eq_getElem_cons hlt]; exact List.mem_cons_self)
                  exact this rfl))
                clear hin hmap hseen
                go_wp2_with fail
                go_ret
                exact ⟨by rw [HR.out]; rfl, g_of_mv G3.out GM.out hwB⟩
              · rw [decide_eq_false hin] at hlook
                have hput := put_seen (k := ks[j]) hmap hseen hin
                have HIN := hid hin
                clear hin hmap hseen
                go_wp2_with fail
                go_roundw
                case rel =>
                  have etk : ks.take (j + 1) = ks.take j ++ [ks[j]] := by rw [List.take_add_one, List.getElem?_eq_getElem hlt]; rfl
                  refine ⟨j + 1, _, _, by simp, by omega, mv_trans GM.out (mv_map _ _ _), heap_map HMAP.out _, by rw [etk]; exact seen_put HSEEN.out _ _, ?_⟩
                  rw [etk, List.nodup_append]
                  exact ⟨HND.out, by simp, fun a ha b hb => by simp at hb; subst hb; rintro rfl; exact HIN.out ha⟩
                case measure => simp [intOf]; omega
            · obtain rfl : j = ks.length := by omega
              have HNDA := hid (show ks.Nodup by have := HND.out; rwa [List.take_length] at this)
              have HRR := hid (show rightJ (d + 1) (.mk k t ks l) = l.findSome? (rightJ d) from right_rest PA.out OK.out HGA.out HNDA.out)
              have hno : ¬ (ks.length : Int) < (ks.length : Int) := by omega
              have GR := hid (g_of_mv G3.out GM.out hwB)
              have hbr : wr.heap[B]? = _ := (GM.out.block B (lt_of_row HB3.out) (by simp; omega)).trans HB3.out
              have c3 : wr.cell? ⟨B, 3, none⟩ = some (.slice la l.length lc) := by rw [cell_of_row wr B 3 _ _ _ hbr]; rfl
              clear hlt hj HND hmap hseen HMAP HSEEN GM hbr
              go_wp2_with fail
              clear c3
              go_loopw [14, 15, 118] (fun _ _ i w4 => ∃ j : Nat, i = .int .i64 (j : Int) ∧ j ≤ l.length ∧ G wr w4 ∧ ∀ y ∈ l.take j, rightJ d y = none) (fun _ _ i _ => l.length - (intOf i).toNat)
              case atStart => exact ⟨0, rfl, by omega, G.refl _, by simp⟩
              case round =>
                obtain ⟨j, rfl, hj, hg, hall⟩ := hrel
                have HALL := hid hall
                have G4 := hid (GR.out.trans hg)
                have GR4 := hid hg
                clear hall hg
                by_cases hlt : j < l.length
                · obtain ⟨bk, ok, u, n', rfl, hbk, hu, hc0⟩ := HLA.out j hlt
                  have HSY := HSZ.out.2.2.2.2 l[j] (List.getElem_mem hlt)
                  obtain ⟨y, hy⟩ : ∃ y, l[j] = y := ⟨_, rfl⟩
                  rw [hy] at hu HSY
                  obtain ⟨ya, yc, za, zc, rfl⟩ := hu.shape4
                  have hlti : (j : Int) < (l.length : Int) := by omega
                  have hj1 : j + 1 ≤ 1000000 := by omega
                  have hcell : ∀ i (v : Value), i < 4 → #[Value.int .i64 y.kind, .string (S y.text), .slice ya y.keys.length yc, .slice za y.list.length zc][i]? = some v → wr.cell? ⟨bk, ok + (j * 4 + i), none⟩ = some v := fun i v hi hv => by
                    rw [G.cell G4.out (p := ⟨bk, ok + (j * 4 + i), none⟩) hbk]; exact hc0 i v hi (by simpa [cellsU] using hv)
                  have x0 : wr.cell? ⟨bk, ok + j * 4, none⟩ = some (.int .i64 y.kind) := hcell 0 _ (by decide) rfl
                  have x1 : wr.cell? ⟨bk, ok + j * 4 + 1, none⟩ = some (.string (S y.text)) := hcell 1 _ (by decide) rfl
                  have x2 : wr.cell? ⟨bk, ok + j * 4 + 2, none⟩ = some (.slice ya y.keys.length yc) := hcell 2 _ (by decide) rfl
                  have x3 : wr.cell? ⟨bk, ok + j * 4 + 3, none⟩ = some (.slice za y.list.length zc) := hcell 3 _ (by decide) rfl
                  have hwk : IntKind.i64.wrap ((e : Int) + 1) = (e : Int) + 1 := IntWalk.i64_in _ (by omega)
                  have IHY : Hid (∀ W, G w W → Gives 24 #[.agg #[.int .i64 y.kind, .string (S y.text), .slice ya y.keys.length yc, .slice za y.list.length zc], .int .i64 ((e : Int) + 1)] W (errJ (rightJ d y))) := hid (fun W gW => by
                    have := IH.out a b n' p W _ y ha hb (hu.grow gW) HSY
                    rwa [show ((13 - d : Nat) : Int) = (e : Int) + 1 by have := HE.out; omega] at this)
                  have HY := hid hy
                  have HU := hid hu
                  clear hc0 hcell hy hu HSY
                  cases hr : rightJ d y with
                  | none =>
                    rw [hr] at IHY
                    have HR := hid hr
                    clear hr
                    go_wp2_with fail
                    refine (IHY.out _ (G4.out.alloc _)).mono ?_
                    rintro e9 w5 ⟨rfl, g5⟩
                    simp only [errJ]
                    have G5 := hid ((GR4.out.alloc _).trans g5)
                    clear g5
                    go_wp2_with fail
                    go_roundw
                    case rel =>
                      refine ⟨j + 1, by simp, by omega, G5.out, fun z hz => ?_⟩
                      rw [List.take_add_one, List.getElem?_eq_getElem hlt] at hz
                      rcases List.mem_append.1 hz with hz | hz
                      · exact HALL.out z hz
                      · simp at hz; rw [hz, HY.out]; exact HR.out
                    case measure => simp [intOf]; omega
                  | some c =>
                    rw [hr] at IHY
                    have HF := hid (show l.findSome? (rightJ d) = some c from by
                      rw [← List.take_append_drop j l, List.findSome?_append, List.findSome?_eq_none_iff.2 HALL.out, List.drop_eq_getElem_cons hlt, HY.out, List.findSome?_cons, hr]; rfl)
                    clear hr
                    go_wp2_with fail
                    refine (IHY.out _ (G4.out.alloc _)).mono ?_
                    rintro e9 w5 ⟨rfl, g5⟩
                    simp only [errJ]
                    have G5 := hid ((G4.out.alloc _).trans g5)
                    clear g5
                    go_wp2_with fail
                    go_ret
                    exact ⟨by rw [HRR.out, HF.out]; rfl, G5.out⟩
                · obtain rfl : j = l.length := by omega
                  have HF := hid (show l.findSome? (rightJ d) = none from List.findSome?_eq_none_iff.2 fun y hy => HALL.out y (by rw [List.take_length]; exact hy))
                  have hno : ¬ (l.length : Int) < (l.length : Int) := by omega
                  clear hlt hj HALL
                  go_wp2_with fail
                  go_ret
                  exact ⟨by rw [HRR.out, HF.out]; rfl, G4.out⟩

theorem right_all : ∀ d, d ≤ 12 → RightC d
  | 0, _ => right_zero
  | d + 1, h => right_succ d h (right_all d (by omega))
set_option maxRecDepth 100000 in
set_option maxHeartbeats 1000000 in
/-- json.Right -/
theorem jright_any (a b n : Nat) (p : Nat → Prop) (w : World) (v : Value) (x : Jt) (ha : a ≤ 999999) (hb : b ≤ 100000000) (hv : JAt n p w v x) (hs : SzJ a b 12 x) : Gives 13 #[v] w (errJ (rightJ 12 x)) := by
  have IH : Hid (∀ W, G w W → Gives 24 #[v, .int .i64 1] W (errJ (rightJ 12 x))) := hid (fun W gW => right_all 12 (Nat.le_refl _) a b n p W v x ha hb (hv.grow gW) hs)
  obtain ⟨ka, kc, la, lc, rfl⟩ := hv.shape4
  clear hv hs
  go_enter Tryd.func13, Tryd.ntmps13
  go_wp2_with fail
  refine (IH.out _ ((G.refl w).alloc _)).mono ?_
  rintro e w2 ⟨rfl, g2⟩
  have G2 := hid (((G.refl w).alloc _).trans g2)
  clear g2
  go_wp2_with fail
  go_ret
  exact ⟨rfl, G2.out⟩

end Go.Proofs.YtlejbindochiiaaDoor
