/-
  Texts merged into one: LineIs, LineValue, LineParams.
-/
import Derived.Test.YtccaknanagmmhaaGreatMMem
import Derived.Test.YtccaknanagmmhaaGreatMLineP
import Derived.Test.YtccaknanagmmhaaGreatMErr
import Derived.Test.YtccaknanagmmhaaGreatMLineR
import Derived.Test.YtccaknanagmmhaaGreatMGenB
import Derived.Deep.DeepCutAuto
import Derived.Deep.CutBlock
import Derived.Test.YtccaknanagmmhaaGreatParamsRow
import Derived.Deep.RegionHeld3
import Derived.Deep.RegionLaw
import Derived.Deep.Onto
namespace Go.Proofs.YtccaknanagmmhaaGreat
open Go.RowKit
set_option linter.unusedVariables false
set_option linter.unusedSimpArgs false

/-- what is thrown -/
def faultV (e p : Int) : Value := .iface 65 (.agg #[.int .i64 e, .int .i64 p])
set_option maxRecDepth 100000 in
set_option maxHeartbeats 400000 in
theorem throw_any (p : Value) (e a : Int) (w : World) : Calls Tryz.prog 34 #[p, .int .i64 e, .int .i64 a] w fun x w' => x = .panicked [{ v := faultV e a, recovered := false }] ∧ w' = w := by
  go_enter Tryz.func34, Tryz.ntmps34
  go_wp2_with fail
  exact ⟨rfl, rfl, rfl⟩
/-- line's reader stands ahead of the bytes l -/
abbrev LRd (w : World) (R : Nat) (s : L8) (cf : Bool) (l : L8) : Prop := RdL 69 [.bool cf] w R s l

set_option maxRecDepth 100000 in
set_option maxHeartbeats 1000000 in
theorem rdIs_any (w : World) (R : Nat) (s : L8) (cf : Bool) (l : L8) (c : UInt8) (h : LRd w R s cf l) (hs : s.length ≤ 1000000) :
    Calls Tryz.prog 32 #[.pointer (some ⟨R, 0, none⟩), .int .u8 (c.toNat : Int)] w fun e w' => e = .returned (.bool (isB c l).isSome) ∧ w.grownBy w' (some R) ∧ LRd w' R s cf ((isB c l).getD l) := by
  obtain ⟨p, he, ho⟩ := h
  have c0 := ho.c0
  have c1 := ho.c1
  have z1 := ho.fz 1
  have HO := hid ho
  have hlen : s.length = p.length + l.length := by rw [he]; simp
  have HE := hid he
  clear ho he
  cases l with
  | nil =>
    have hno : ¬ (p.length : Int) < (s.length : Int) := by simp at hlen; omega
    have hno2 : ¬ p.length < s.length := by simp at hlen; omega
    clear hlen
    go_enter Tryz.func32, Tryz.ntmps32
    go_wp2_with fail
    go_quiet (fail)
    go_wp2_with fail
    go_ret
    exact ⟨rfl, (by repeat (first | exact mv_refl _ _ | assumption | apply mv_drewN | apply mv_drew | apply mv_st | apply mv_alloc)), ⟨p, HE.out, HO.out.drewN _⟩⟩
  | cons d r =>
    have hlt : p.length < s.length := by simp at hlen; omega
    have hlti : (p.length : Int) < (s.length : Int) := by omega
    have hg : s[p.length]'hlt = d := by have := HE.out; subst this; simp
    have hle : p.length + 1 ≤ 1000000 := by omega
    clear hlen
    by_cases hdc : d = c
    · subst hdc
      go_enter Tryz.func32, Tryz.ntmps32
      go_wp2_with fail
      go_quiet (fail)
      go_wp2_with fail
      go_ret
      refine ⟨by rw [isB_cons]; rfl, (by repeat (first | exact mv_refl _ _ | assumption | apply mv_drewN | apply mv_drew | apply mv_st | apply mv_alloc)), ?_⟩
      rw [isB_cons]
      exact ⟨p ++ [d], by rw [HE.out]; simp, (HO.out.drewN _).setN _ _ (by simp)⟩
    · have hdn : (d.toNat == c.toNat) = false := beq_eq_false_iff_ne.2 fun e => hdc (UInt8.toNat_inj.1 e)
      have hdi : ((d.toNat : Int) == (c.toNat : Int)) = false := beq_eq_false_iff_ne.2 fun e => hdc (UInt8.toNat_inj.1 (by omega))
      have HDC := hid hdc
      clear hdc
      go_enter Tryz.func32, Tryz.ntmps32
      go_wp2_with fail
      go_quiet (fail)
      go_wp2_with fail
      go_ret
      refine ⟨by rw [isB_eq, if_neg HDC.out]; rfl, (by repeat (first | exact mv_refl _ _ | assumption | apply mv_drewN | apply mv_drew | apply mv_st | apply mv_alloc)), ?_⟩
      rw [isB_eq, if_neg HDC.out]
      exact ⟨p, HE.out, HO.out.drewN _⟩

theorem word_end {a b : L8} (ha : ∀ c ∈ a, nameCh c = true) (hb : ∀ c r, b = c :: r → nameCh c = false) : wordP (a ++ b) = if isNameL a = true then .ok (a, b) else .error (5, (a ++ b).length) := by
  have e1 : (a ++ b).takeWhile nameCh = a := by
    rw [List.takeWhile_append_of_pos ha]
    cases b with
    | nil => simp
    | cons c r => rw [List.takeWhile_cons_of_neg (by simp [hb c r rfl])]; simp
  have e2 : (a ++ b).dropWhile nameCh = b := by
    rw [List.dropWhile_append_of_pos ha]
    cases b with
    | nil => rfl
    | cons c r => rw [List.dropWhile_cons_of_neg (by simp [hb c r rfl])]
  unfold wordP
  rw [e1, e2]
theorem is_quiet (n : L8) (u : Bool) (hu : isNameL n = u) (W : World) (q : Nat) (hn : n.length ≤ 140737488355328) : Calls Tryz.prog 16 #[.string (S n)] (W.drewN q) fun e w'' => e = .returned (.bool u) ∧ ∃ m, w'' = W.drewN m := by
  subst hu; exact (is_any n _ hn).quiet
theorem is_quiet2 (n : L8) (u : Bool) (hu : isNameL n = u) (W : World) (q q0 : Nat) (hn : n.length ≤ 140737488355328) : Calls Tryz.prog 16 #[.string (S n)] (W.drewN (q0 + q)) fun e w'' => e = .returned (.bool u) ∧ ∃ m, w'' = W.drewN (q0 + m) := by
  subst hu; exact Calls.mono (is_any n (W.drewN (q0 + q)) hn) (by rintro e w2 ⟨rfl, rfl⟩; exact ⟨rfl, q, rfl⟩)
/-- what name.Is is asked at the bytes from a to b -/
theorem cut_at {p a b s : L8} (h : s = p ++ (a ++ b)) : (s.take (p.length + a.length)).drop p.length = a := by subst h; simp [← List.append_assoc]
theorem is_one (c : UInt8) : isNameL [c] = nameCh c := by unfold isNameL nameCh; simp
/-- what a reader's method does: it hands back what x tells, or throws -/
def RdP {α : Type} (s : L8) (cf : Bool) (R : Nat) (V : α → Value → World → Prop) (x : Rs α) (w : World) (e : Ending) (w' : World) : Prop :=
  w.grownBy w' (some R) ∧ match x with
    | .ok (a, t) => ∃ v, e = .returned v ∧ V a v w' ∧ LRd w' R s cf t
    | .error (c, k) => e = .panicked [{ v := faultV c (s.length - k : Nat), recovered := false }]
theorem RdP.yes {α : Type} {s : L8} {cf : Bool} {R : Nat} {V : α → Value → World → Prop} {x : Rs α} {w w' : World} {a : α} {t : L8} {v : Value} (m : w.grownBy w' (some R)) (h : x = .ok (a, t)) (hv : V a v w') (hr : LRd w' R s cf t) : RdP s cf R V x w (.returned v) w' := by
  subst h; exact ⟨m, v, rfl, hv, hr⟩
theorem RdP.no {α : Type} {s : L8} {cf : Bool} {R : Nat} {V : α → Value → World → Prop} {x : Rs α} {w w' : World} {c : Int} {k : Nat} {q : Nat} (m : w.grownBy w' (some R)) (h : x = .error (c, k)) (hq : s.length - k = q) : RdP s cf R V x w (.panicked [{ v := faultV c (q : Nat), recovered := false }]) w' := by
  subst h; subst hq; exact ⟨m, rfl⟩
def VS (n : L8) (v : Value) (w : World) : Prop := v = .string (S n)
set_option maxRecDepth 100000 in
set_option maxHeartbeats 2000000 in
theorem word_any (w : World) (R : Nat) (s : L8) (cf : Bool) (l : L8) (h : LRd w R s cf l) (hs : s.length ≤ 1000000) :
    Calls Tryz.prog 31 #[.pointer (some ⟨R, 0, none⟩)] w (RdP s cf R VS (wordP l) w) := by
  obtain ⟨p, he, ho⟩ := h
  have c0 := ho.c0
  have c1 := ho.c1
  have HO := hid ho
  have hlen : s.length = p.length + l.length := by rw [he]; simp
  have HL := hid hlen
  have HE := hid he
  have hlt0 := ho.lt
  clear ho he hlen
  go_enter Tryz.func31, Tryz.ntmps31
  go_wp2_with fail
  go_loopw [] (fun wr => ∃ a b : L8, l = a ++ b ∧ (∀ c ∈ a, nameCh c = true) ∧ w.grownBy wr (some R) ∧ RdO 69 [.bool cf] wr R s (p.length + a.length)) (fun wr => s.length - (intOf ((wr.cell? ⟨R, 1, none⟩).getD .nilIface)).toNat)
  case atStart => exact ⟨[], l, rfl, by simp, mv_refl _ _, by simpa using HO.out⟩
  case round =>
    obtain ⟨a, b, hl, ha, gm, hr⟩ := hrel
    have d0 := hr.c0
    have d1 := hr.c1
    have z1 := hr.fz 1
    have HR := hid hr
    have GM := hid gm
    have HA := hid ha
    have hsl := HL.out
    have hse : s = p ++ (a ++ b) := by rw [HE.out, hl]
    have hll : l.length = a.length + b.length := by rw [hl]; simp
    have hca := cut_at hse
    obtain ⟨k, hk⟩ : ∃ k, k = p.length + a.length := ⟨_, rfl⟩
    have hks : s.length = k + b.length := by omega
    rw [← hk] at hca d1
    have hkp : p.length ≤ k := by omega
    have HLL := hid hl
    have HK := hid hk
    have HSE := hid hse
    have hal : a.length ≤ 1000000 := by omega
    clear ha hr gm hl hll hsl hk c0 c1 hse
    have atEnd : (∀ c r, b = c :: r → nameCh c = false) → wordP l = if isNameL a = true then .ok (a, b) else .error (5, l.length) := fun hb => by rw [HLL.out]; exact word_end HA.out hb
    cases b with
    | nil =>
      have HEND := hid (atEnd (by simp))
      have hno : ¬ (k : Int) < (s.length : Int) := by simp at hks; omega
      have hno2 : ¬ k < s.length := by simp at hks; omega
      have hkl : k ≤ s.length := by omega
      clear atEnd hks
      cases hn : isNameL a with
      | true =>
        have HN := hid hn
        clear hn
        go_wp2_with fail
        go_quiet (fail)
        go_wp2_with fail
        go_quiet ((go_at_call 16; exact is_quiet2 a true HN.out _ _ _ (by omega)))
        go_wp2_with fail
        go_quiet (fail)
        go_wp2_with fail
        go_ret
        exact RdP.yes (mv_trans GM.out (by repeat (first | exact mv_refl _ _ | assumption | apply mv_drewN | apply mv_drew | apply mv_st | apply mv_alloc))) (by rw [HEND.out, if_pos HN.out]) rfl ⟨p ++ a, by rw [HSE.out]; simp, by rw [List.length_append]; exact HR.out⟩
      | false =>
        have HN := hid hn
        clear hn
        go_wp2_with fail
        go_quiet (fail)
        go_wp2_with fail
        go_quiet ((go_at_call 16; exact is_quiet2 a false HN.out _ _ _ (by omega)))
        go_wp2_with fail
        refine (throw_any _ _ _ _).mono ?_
        rintro e w2 ⟨rfl, rfl⟩
        exact ⟨rfl, RdP.no (mv_trans GM.out (by repeat (first | exact mv_refl _ _ | assumption | apply mv_drewN | apply mv_drew | apply mv_st | apply mv_alloc))) (by rw [HEND.out, if_neg (by rw [HN.out]; simp)]) (by rw [HL.out]; omega)⟩
    | cons c b =>
      have hlt : k < s.length := by simp at hks; omega
      have hlti : (k : Int) < (s.length : Int) := by omega
      have hone : (s.take (k + 1)).drop k = [c] := by
        have := cut_at (p := p ++ a) (a := [c]) (b := b) (s := s) (by rw [HSE.out]; simp)
        rw [HK.out]
        simpa [Nat.add_assoc] using this
      have hk1 : k + 1 ≤ s.length := by omega
      cases hc : nameCh c with
      | true =>
        have HC := hid (show isNameL [c] = true by rw [is_one]; exact hc)
        have HM := hid hc
        clear atEnd hc hks
        go_wp2_with fail
        go_quiet ((go_at_call 16; exact is_quiet [c] true HC.out _ _ (by simp)))
        go_wp2_with fail
        go_roundw
        case rel =>
          refine ⟨a ++ [c], b, by rw [HLL.out]; simp, fun x hx => ?_, mv_trans GM.out (by repeat (first | exact mv_refl _ _ | assumption | apply mv_drewN | apply mv_drew | apply mv_st | apply mv_alloc)), (HR.out.drewN _).setN _ _ (by rw [HK.out]; simp; omega)⟩
          rcases List.mem_append.1 hx with hx | hx
          · exact HA.out x hx
          · simp at hx; rw [hx]; exact HM.out
        case measure =>
          rw [World.cell?_setCell_same _ _ _ (show (wr.drewN _).cell? ⟨R, 1, none⟩ = some _ from d1), d1]
          simp [intOf]; omega
      | false =>
        have HC := hid (show isNameL [c] = false by rw [is_one]; exact hc)
        have HEND := hid (atEnd (fun x r e => by injection e with e _; rw [← e]; exact hc))
        clear atEnd hc hks
        cases hn : isNameL a with
        | true =>
          have HN := hid hn
          clear hn
          go_wp2_with fail
          go_quiet ((go_at_call 16; exact is_quiet [c] false HC.out _ _ (by simp)))
          go_wp2_with fail
          go_quiet ((go_at_call 16; exact is_quiet2 a true HN.out _ _ _ (by omega)))
          go_wp2_with fail
          go_quiet (fail)
          go_wp2_with fail
          go_ret
          exact RdP.yes (mv_trans GM.out (by repeat (first | exact mv_refl _ _ | assumption | apply mv_drewN | apply mv_drew | apply mv_st | apply mv_alloc))) (by rw [HEND.out, if_pos HN.out]) rfl ⟨p ++ a, by rw [HSE.out]; simp, by rw [List.length_append]; exact HR.out⟩
        | false =>
          have HN := hid hn
          clear hn
          go_wp2_with fail
          go_quiet ((go_at_call 16; exact is_quiet [c] false HC.out _ _ (by simp)))
          go_wp2_with fail
          go_quiet ((go_at_call 16; exact is_quiet2 a false HN.out _ _ _ (by omega)))
          go_wp2_with fail
          refine (throw_any _ _ _ _).mono ?_
          rintro e w2 ⟨rfl, rfl⟩
          exact ⟨rfl, RdP.no (mv_trans GM.out (by repeat (first | exact mv_refl _ _ | assumption | apply mv_drewN | apply mv_drew | apply mv_st | apply mv_alloc))) (by rw [HEND.out, if_neg (by rw [HN.out]; simp)]) (by rw [HL.out]; omega)⟩

end Go.Proofs.YtccaknanagmmhaaGreat

namespace Go.Proofs.YtccaknanagmmhaaGreat
open Go.RowKit
set_option linter.unusedVariables false
set_option linter.unusedSimpArgs false

theorem scan_bad {q : Bool} {c : UInt8} {r : L8} : ∀ (a : L8), (∀ x ∈ a, endB q x = false ∧ ctlB x = false) → endB q c = false → ctlB c = true → scanP q (a ++ c :: r) = .error (3, r.length + 1)
  | [], _, h1, h2 => by show scanP q (c :: r) = _; unfold scanP; rw [if_neg (by simp [h1]), if_pos h2]
  | x :: a, h, h1, h2 => by
    obtain ⟨e1, e2⟩ := h x List.mem_cons_self
    show scanP q (x :: (a ++ c :: r)) = _
    unfold scanP
    rw [if_neg (by simp [e1]), if_neg (by simp [e2]), scan_bad a (fun y hy => h y (List.mem_cons_of_mem _ hy)) h1 h2]
    rfl
theorem sep_yes (c : UInt8) : (0 ≤ Lib.indexByte [44, 59, 58] c) ↔ (c == 44 || c == 59 || c == 58) = true := by
  rw [idx_has]
  simp only [List.contains_cons, List.contains_nil, Bool.or_false, Bool.or_assoc]
  
set_option maxRecDepth 100000 in
set_option maxHeartbeats 4000000 in
theorem value_any (w : World) (R : Nat) (s : L8) (cf : Bool) (l : L8) (h : LRd w R s cf l) (hs : s.length ≤ 10000) :
    Calls Tryz.prog 49 #[.pointer (some ⟨R, 0, none⟩)] w (RdP s cf R VS (valueP cf l) w) := by
  have H0 := hid h
  clear h
  go_enter Tryz.func49, Tryz.ntmps49
  go_wp2_with fail
  refine (rdIs_any w R s cf l 34 H0.out (by omega)).mono ?_
  rintro e w1 ⟨rfl, m1, h1⟩
  obtain ⟨q, hq⟩ : ∃ q, (isB 34 l).isSome = q := ⟨_, rfl⟩
  obtain ⟨l1, hl1⟩ : ∃ l1, (isB 34 l).getD l = l1 := ⟨_, rfl⟩
  rw [hl1] at h1
  rw [hq]
  have M1 := hid m1
  have HQ := hid hq
  have HL1 := hid hl1
  have hvp : valueP cf l = Rs.next (scanP q l1) fun v t => if q = true then (match isB 34 t with | some u => .ok (decV cf v, u) | none => .error (7, t.length)) else .ok (decV cf v, t) := by
    unfold valueP
    rw [← hq, ← hl1]
    cases isB 34 l <;> rfl
  have HVP := hid hvp
  obtain ⟨p, he, ho⟩ := h1
  have c0 := ho.c0
  have c1 := ho.c1
  have HO := hid ho
  have hlen : s.length = p.length + l1.length := by rw [he]; simp
  have HL := hid hlen
  have HE := hid he
  clear ho he hlen hvp hq hl1 m1
  go_upto_block 0 with fail
  go_cut [] (fun wx => ∃ a b : L8, l1 = a ++ b ∧ (∀ x ∈ a, endB q x = false ∧ ctlB x = false) ∧ (∀ x r, b = x :: r → endB q x = true) ∧ w.grownBy wx (some R) ∧ RdO 69 [.bool cf] wx R s (p.length + a.length))
  case first =>
    go_wp2_with fail
    go_loopw [] (fun wr => ∃ a b : L8, l1 = a ++ b ∧ (∀ x ∈ a, endB q x = false ∧ ctlB x = false) ∧ w.grownBy wr (some R) ∧ RdO 69 [.bool cf] wr R s (p.length + a.length)) (fun wr => s.length - (intOf ((wr.cell? ⟨R, 1, none⟩).getD .nilIface)).toNat)
    case atStart => exact ⟨[], l1, rfl, by simp, M1.out, by simpa using HO.out⟩
    case round =>
      obtain ⟨a, b, hl, ha, gm, hr⟩ := hrel
      have d0 := hr.c0
      have d1 := hr.c1
      have z1 := hr.fz 1
      have HR := hid hr
      have GM := hid gm
      have HA := hid ha
      have hse : s = p ++ (a ++ b) := by rw [HE.out, hl]
      have hll : l1.length = a.length + b.length := by rw [hl]; simp
      have hsl := HL.out
      obtain ⟨k, hk⟩ : ∃ k, k = p.length + a.length := ⟨_, rfl⟩
      have hks : s.length = k + b.length := by omega
      rw [← hk] at d1
      have HLL := hid hl
      have HK := hid hk
      have HSE := hid hse
      clear ha hr gm hl hll hsl hk c0 c1 hse
      cases b with
      | nil =>
        have hno : ¬ (k : Int) < (s.length : Int) := by simp at hks; omega
        have hno2 : ¬ k < s.length := by simp at hks; omega
        clear hks
        go_wp2_with fail
        go_quiet (fail)
        go_wp2_with fail
        go_meet
        exact ⟨a, [], HLL.out, HA.out, by simp, mv_trans GM.out (by repeat (first | exact mv_refl _ _ | assumption | apply mv_drewN | apply mv_drew | apply mv_st | apply mv_alloc)), HR.out⟩
      | cons c b =>
        have hlt : k < s.length := by simp at hks; omega
        have hlti : (k : Int) < (s.length : Int) := by omega
        have hg : s[k]'hlt = c := by
          have h1 := HSE.out
          have h2 := HK.out
          subst h2; subst h1
          simp [← List.append_assoc]
        have HKS := hid hks
        clear hks
        by_cases h34 : c = 34
        · subst h34
          go_wp2_with fail
          go_quiet (fail)
          go_wp2_with fail
          go_quiet (fail)
          go_wp2_with fail
          go_meet
          exact ⟨a, 34 :: b, HLL.out, HA.out, fun x r e => by injection e with e _; subst e; rfl, mv_trans GM.out (by repeat (first | exact mv_refl _ _ | assumption | apply mv_drewN | apply mv_drew | apply mv_st | apply mv_alloc)), HR.out⟩
        · have hi34 : ((c.toNat : Int) == 34) = false := beq_eq_false_iff_ne.2 fun e => h34 (UInt8.toNat_inj.1 (by show c.toNat = 34; omega))
          have hb34 : (c == 34) = false := beq_eq_false_iff_ne.2 h34
          have hsy := sep_yes c
          have heq : endB q c = (!q && (c == 44 || c == 59 || c == 58)) := by unfold endB; rw [hb34]; rfl
          obtain ⟨y, hy⟩ : ∃ y, (c == 44 || c == 59 || c == 58) = y := ⟨_, rfl⟩
          rw [hy] at hsy heq
          have hix := fun W => indexByte_any [44, 59, 58] c W
          obtain ⟨ix, hixe⟩ : ∃ ix, Lib.indexByte [44, 59, 58] c = ix := ⟨_, rfl⟩
          rw [hixe] at hix hsy
          have HIX := hid hix
          have hct := fun W => control_any c W
          clear hix hixe hy h34 hb34
          have more : endB q c = false → ctlB c = true → valueP cf l = .error (3, b.length + 1) := fun h1 h2 => by
            rw [HVP.out, HLL.out, scan_bad a HA.out h1 h2]; rfl
          have goOn : endB q c = false → ctlB c = false → ∀ x ∈ a ++ [c], endB q x = false ∧ ctlB x = false := fun h1 h2 x hx => by
            rcases List.mem_append.1 hx with hx | hx
            · exact HA.out x hx
            · simp at hx; subst hx; exact ⟨h1, h2⟩
          cases q with
          | true =>
            have HEQ : Hid (endB true c = false) := hid (by rw [heq]; rfl)
            clear heq hsy
            cases hcc : ctlB c with
            | true =>
              rw [hcc] at hct
              have HCT := hid hct
              have HMO := hid (more HEQ.out hcc)
              clear hct hcc more goOn
              go_wp2_with fail
              go_quiet (fail)
              go_wp2_with fail
              go_quiet (fail)
              go_wp2_with fail
              refine (HCT.out _).use ?_
              go_wp2_with fail
              refine (throw_any _ _ _ _).mono ?_
              rintro e w2 ⟨rfl, rfl⟩
              exact ⟨rfl, RdP.no (mv_trans GM.out (by repeat (first | exact mv_refl _ _ | assumption | apply mv_drewN | apply mv_drew | apply mv_st | apply mv_alloc))) HMO.out (by have := HKS.out; simp at this; omega)⟩
            | false =>
              rw [hcc] at hct
              have HCT := hid hct
              have HGO := hid (goOn HEQ.out hcc)
              clear hct hcc more goOn
              go_wp2_with fail
              go_quiet (fail)
              go_wp2_with fail
              go_quiet (fail)
              go_wp2_with fail
              refine (HCT.out _).use ?_
              go_wp2_with fail
              go_roundw
              case rel => exact ⟨a ++ [c], b, by rw [HLL.out]; simp, HGO.out, mv_trans GM.out (by repeat (first | exact mv_refl _ _ | assumption | apply mv_drewN | apply mv_drew | apply mv_st | apply mv_alloc)), HR.out.setN _ _ (by rw [HK.out]; simp; omega)⟩
              case measure =>
                rw [World.cell?_setCell_same _ _ _ (show (wr.drewN _).cell? ⟨R, 1, none⟩ = some _ from d1), d1]
                simp [intOf]; omega
          | false =>
            cases y with
            | true =>
              have HEQ : Hid (endB false c = true) := hid (by rw [heq]; rfl)
              have hix0 : 0 ≤ ix := hsy.2 rfl
              clear heq hsy more goOn hct
              go_wp2_with fail
              go_quiet (fail)
              go_wp2_with fail
              go_quiet (fail)
              go_wp2_with fail
              refine (HIX.out _).use ?_
              go_wp2_with fail
              go_meet
              exact ⟨a, c :: b, HLL.out, HA.out, fun x r e => by injection e with e _; subst e; exact HEQ.out, mv_trans GM.out (by repeat (first | exact mv_refl _ _ | assumption | apply mv_drewN | apply mv_drew | apply mv_st | apply mv_alloc)), HR.out⟩
            | false =>
              have HEQ : Hid (endB false c = false) := hid (by rw [heq]; rfl)
              have hix0 : ¬ 0 ≤ ix := fun h => by have := hsy.1 h; cases this
              clear heq hsy
              cases hcc : ctlB c with
              | true =>
                rw [hcc] at hct
                have HCT := hid hct
                have HMO := hid (more HEQ.out hcc)
                clear hct hcc more goOn
                go_wp2_with fail
                go_quiet (fail)
                go_wp2_with fail
                go_quiet (fail)
                go_wp2_with fail
                refine (HIX.out _).use ?_
                go_wp2_with fail
                refine (HCT.out _).use ?_
                go_wp2_with fail
                refine (throw_any _ _ _ _).mono ?_
                rintro e w2 ⟨rfl, rfl⟩
                exact ⟨rfl, RdP.no (mv_trans GM.out (by repeat (first | exact mv_refl _ _ | assumption | apply mv_drewN | apply mv_drew | apply mv_st | apply mv_alloc))) HMO.out (by have := HKS.out; simp at this; omega)⟩
              | false =>
                rw [hcc] at hct
                have HCT := hid hct
                have HGO := hid (goOn HEQ.out hcc)
                clear hct hcc more goOn
                go_wp2_with fail
                go_quiet (fail)
                go_wp2_with fail
                go_quiet (fail)
                go_wp2_with fail
                refine (HIX.out _).use ?_
                go_wp2_with fail
                refine (HCT.out _).use ?_
                go_wp2_with fail
                go_roundw
                case rel => exact ⟨a ++ [c], b, by rw [HLL.out]; simp, HGO.out, mv_trans GM.out (by repeat (first | exact mv_refl _ _ | assumption | apply mv_drewN | apply mv_drew | apply mv_st | apply mv_alloc)), HR.out.setN _ _ (by rw [HK.out]; simp; omega)⟩
                case measure =>
                  rw [World.cell?_setCell_same _ _ _ (show (wr.drewN _).cell? ⟨R, 1, none⟩ = some _ from d1), d1]
                  simp [intOf]; omega
  case rest =>
    obtain ⟨a, b, hl, ha, hb, gm, hr⟩ := hcut
    have d0 := hr.c0
    have d1 := hr.c1
    have d2 := hr.c2
    have z1 := hr.fz 1
    have HR := hid hr
    have GM := hid gm
    have hse : s = p ++ (a ++ b) := by rw [HE.out, hl]
    have hll : l1.length = a.length + b.length := by rw [hl]; simp
    have hsl := HL.out
    have hca := cut_at hse
    obtain ⟨k, hk⟩ : ∃ k, k = p.length + a.length := ⟨_, rfl⟩
    have hks : s.length = k + b.length := by omega
    rw [← hk] at d1 hca
    have hkp : p.length ≤ k := by omega
    have hkl : k ≤ s.length := by omega
    have hal : a.length ≤ 10000 := by omega
    have HK := hid hk
    have HSE := hid hse
    have hvv : valueP cf l = if q = true then (match isB 34 b with | some u => .ok (decV cf a, u) | none => .error (7, b.length)) else .ok (decV cf a, b) := by
      rw [HVP.out, hl, scan_of a b ha hb]; rfl
    have HVV := hid hvv
    have HKS := hid hks
    have hdec := fun W => decode_any a W (by omega)
    clear hr gm hll hsl hse hvv hk hks hl ha hb c0 c1
    have hRd : LRd wc R s cf b := ⟨p ++ a, by rw [HSE.out]; simp, by rw [List.length_append]; exact HR.out⟩
    have HRD := hid hRd
    clear hRd
    cases q with
    | false =>
      cases cf with
      | false =>
        go_wp2_with fail
        go_quiet (fail)
        go_wp2_with fail
        go_ret
        exact RdP.yes (mv_trans GM.out (by repeat (first | exact mv_refl _ _ | assumption | apply mv_drewN | apply mv_drew | apply mv_st | apply mv_alloc))) HVV.out rfl (HRD.out.grow (by repeat (first | exact G.refl _ | assumption | apply G.drew | apply G.drewN | apply G.alloc | refine G.trans ?_ (by assumption))))
      | true =>
        go_wp2_with fail
        go_quiet (fail)
        go_wp2_with fail
        refine (hdec _).use ?_
        intro w3 g3
        go_wp2_with fail
        go_ret
        exact RdP.yes (mv_trans GM.out (mv_g (by repeat (first | exact mv_refl _ _ | assumption | apply mv_drewN | apply mv_drew | apply mv_st | apply mv_alloc)) g3)) HVV.out rfl (HRD.out.grow (by repeat (first | exact G.refl _ | assumption | apply G.drew | apply G.drewN | apply G.alloc | refine G.trans ?_ (by assumption))))
    | true =>
      have his := rdIs_any
      cases hb : isB 34 b with
      | none =>
        have HB := hid hb
        have HVE : Hid (valueP cf l = .error (7, b.length)) := hid (by rw [HVV.out, if_pos rfl, hb])
        clear hb hdec
        go_wp2_with fail
        go_quiet (fail)
        go_wp2_with fail
        refine (rdIs_any _ R s cf b 34 (HRD.out.grow (by repeat (first | exact G.refl _ | assumption | apply G.drew | apply G.drewN | apply G.alloc | refine G.trans ?_ (by assumption)))) (by omega)).mono ?_
        rw [HB.out]
        rintro e w3 ⟨rfl, m3, h3⟩
        obtain ⟨p3, he3, ho3⟩ := h3
        have d31 := ho3.c1
        have M3 := hid m3
        have HPL : Hid (s.length - b.length = p3.length) := hid (by rw [he3]; simp)
        clear he3 ho3 m3
        go_wp2_with fail
        refine (throw_any _ _ _ _).mono ?_
        rintro e w2 ⟨rfl, rfl⟩
        exact ⟨rfl, RdP.no (mv_trans (mv_trans GM.out (by repeat (first | exact mv_refl _ _ | assumption | apply mv_drewN | apply mv_drew | apply mv_st | apply mv_alloc))) M3.out) HVE.out HPL.out⟩
      | some u =>
        have HB := hid hb
        have HVE : Hid (valueP cf l = .ok (decV cf a, u)) := hid (by rw [HVV.out, if_pos rfl, hb])
        clear hb
        cases cf with
        | false =>
          clear hdec
          go_wp2_with fail
          go_quiet (fail)
          go_wp2_with fail
          refine (rdIs_any _ R s false b 34 (HRD.out.grow (by repeat (first | exact G.refl _ | assumption | apply G.drew | apply G.drewN | apply G.alloc | refine G.trans ?_ (by assumption)))) (by omega)).mono ?_
          rw [HB.out]
          rintro e w3 ⟨rfl, m3, h3⟩
          obtain ⟨p3, he3, ho3⟩ := h3
          have d32 := ho3.c2
          have M3 := hid m3
          have H3 : Hid (LRd w3 R s false u) := hid ⟨p3, he3, ho3⟩
          clear he3 ho3 m3
          go_wp2_with fail
          go_ret
          exact RdP.yes (mv_trans (mv_trans GM.out (by repeat (first | exact mv_refl _ _ | assumption | apply mv_drewN | apply mv_drew | apply mv_st | apply mv_alloc))) M3.out) HVE.out rfl (H3.out.grow (by repeat (first | exact G.refl _ | assumption | apply G.drew | apply G.drewN | apply G.alloc | refine G.trans ?_ (by assumption))))
        | true =>
          go_wp2_with fail
          go_quiet (fail)
          go_wp2_with fail
          refine (rdIs_any _ R s true b 34 (HRD.out.grow (by repeat (first | exact G.refl _ | assumption | apply G.drew | apply G.drewN | apply G.alloc | refine G.trans ?_ (by assumption)))) (by omega)).mono ?_
          rw [HB.out]
          rintro e w3 ⟨rfl, m3, h3⟩
          obtain ⟨p3, he3, ho3⟩ := h3
          have d32 := ho3.c2
          have M3 := hid m3
          have H3 : Hid (LRd w3 R s true u) := hid ⟨p3, he3, ho3⟩
          clear he3 ho3 m3
          go_wp2_with fail
          refine (hdec _).use ?_
          intro w4 g4
          go_wp2_with fail
          go_ret
          exact RdP.yes (mv_trans (mv_trans GM.out (by repeat (first | exact mv_refl _ _ | assumption | apply mv_drewN | apply mv_drew | apply mv_st | apply mv_alloc))) (mv_g M3.out g4)) HVE.out rfl (H3.out.grow (by repeat (first | exact G.refl _ | assumption | apply G.drew | apply G.drewN | apply G.alloc | refine G.trans ?_ (by assumption))))

end Go.Proofs.YtccaknanagmmhaaGreat

namespace Go.Proofs.YtccaknanagmmhaaGreat
open Go.RowKit
set_option linter.unusedVariables false
set_option linter.unusedSimpArgs false

theorem mv_own {a b c : World} {R : Nat} {row : Option Nat} (h : a.grownBy b (some R)) (k : b.grownBy c row) (hr : ∀ j, row = some j → j = R ∨ a.heap.size ≤ j) : a.grownBy c (some R) :=
  ⟨k.os.trans h.os, k.tape.trans h.tape, k.output.trans h.output, Nat.le_trans h.size k.size, fun i hi hne => (k.block i (Nat.lt_of_lt_of_le hi h.size) (fun e => by rcases hr i e.symm with h' | h'; (· exact hne (by rw [h'])); omega)).trans (h.block i hi hne)⟩
/-- a slice of strings that a call made -/
def OwnS (w : World) (base : Nat) (v : Value) (l : List L8) : Prop := w.ownsRow base 9 1 v l.length (l.map fun x => .string (S x))
/-- parameters that have been read -/
structure PsSt (w wr : World) (R : Nat) (s : L8) (cf : Bool) (l : L8) (v : Value) (ps : List Pm) (vs : List Value) (t : L8) : Prop where
  mv : w.grownBy wr (some R)
  rd : LRd wr R s cf t
  len : vs.length = ps.length
  own : ∀ (i : Nat) (p : Pm) (u : Value), ps[i]? = some p → vs[i]? = some u → OwnS wr w.heap.size u p.2
  row : wr.ownsRow w.heap.size 41 2 v ps.length (cellsPm ps vs)
  le : ps.length ≤ 20
  eq : paramsP cf 0 l = Rs.next (paramsP cf ps.length t) fun qs u => .ok (ps ++ qs, u)
theorem ownS_nil (w : World) (b : Nat) : OwnS w b (.slice none 0 0) [] := World.ownsRow_nil _ _ _ _
theorem row_slice {w : World} {b : Nat} {e : TypeId} {k n : Nat} {v : Value} {x : List Value} (h : w.ownsRow b e k v n x) : ∃ a c, v = .slice a n c := by
  rcases h.2 with ⟨rfl, rfl⟩ | ⟨g, cap, cur, rfl, _⟩
  · exact ⟨_, _, rfl⟩
  · exact ⟨_, _, rfl⟩
/-- one parameter's values that have been read, in the parameter's box B -/
structure InSt (wr wq : World) (R : Nat) (s : L8) (cf : Bool) (B : Nat) (n r : L8) (us : List L8) (sv : Value) (t : L8) : Prop where
  mv : wr.grownBy wq (some R)
  rd : LRd wq R s cf t
  box : wq.heap[B]? = some (.cells #[.string (S n), sv] 41)
  own : OwnS wq (B + 1) sv us
  cnt : us.length + t.length ≤ s.length
  lt : t.length < r.length
  eq : pmP cf r = Rs.next (moreV cf t) fun vs u => .ok ((n, us ++ vs), u)
theorem InSt.push {wr w4 w4' w5 : World} {R : Nat} {s : L8} {cf : Bool} {B : Nat} {n r : L8} {us : List L8} {sv sv' : Value} {t v : L8} (mv : wr.grownBy w4 (some R)) (rd : LRd w4 R s cf t) (box : w4.heap[B]? = some (.cells #[.string (S n), sv] 41))
    (own : OwnS w4 (B + 1) sv us) (hRB : R < B) (hB : wr.heap.size ≤ B) (g4 : G w4 w4') (hg : w4'.grownBy w5 sv.ownBlock) (hown : w5.ownsRow (B + 1) 9 1 sv' (us.length + 1) ((us.map fun x => .string (S x)) ++ [.string (S v)]))
    (cnt : us.length + 1 + t.length ≤ s.length) (lt : t.length < r.length) (eq : pmP cf r = Rs.next (moreV cf t) fun vs u => .ok ((n, us ++ v :: vs), u)) : InSt wr (w5.setCell ⟨B, 1, none⟩ sv') R s cf B n r (us ++ [v]) sv' t := by
  have hBlt : B < w4.heap.size := (Array.getElem?_eq_some_iff.1 box).1
  have ob : ∀ j, sv.ownBlock = some j → B + 1 ≤ j := fun j hj => (own.lt j hj).1
  have hBX : w5.heap[B]? = some (.cells #[.string (S n), sv] 41) := (hg.block B (by have := g4.size; omega) (fun e => by have := ob B e.symm; omega)).trans ((g4.below.block B hBlt).trans box)
  refine ⟨mv_own (mv_own (mv_g mv g4) hg (fun j hj => .inr (by have := ob j hj; omega))) (mv_set w5 B 1 sv') (fun j hj => by injection hj with hj; subst hj; exact .inr hB), ?_, ?_, ?_, by simpa using cnt, lt, by rw [eq]; simp⟩
  · obtain ⟨p, e, h⟩ := rd
    refine ⟨p, e, ?_⟩
    show (w5.setCell _ _).heap[R]? = _
    rw [Below.heap_setCell _ _ _ _ (by simp; omega), hg.block R (by have := g4.size; omega) (fun e => by have := ob R e.symm; omega), g4.below.block R h.lt]
    exact h
  · simp [World.setCell, Array.getElem?_modify, hBX]
  · have := hown.kept (mv_set w5 B 1 sv') (row_under hown (by omega))
    unfold OwnS
    rw [List.length_append, List.map_append]
    exact this
theorem PsSt.push {w wr w8 w8' w9 : World} {R : Nat} {s : L8} {cf : Bool} {l n : L8} {v v' sv : Value} {ps : List Pm} {vs : List Value} {t t' : L8} {us : List L8} {b : Nat} (h : PsSt w wr R s cf l v ps vs t) (mv : wr.grownBy w8 (some R)) (rd : LRd w8 R s cf t') (own : OwnS w8 b sv us) (hb : w.heap.size ≤ b)
    (hR : R < w.heap.size) (g8 : G w8 w8') (hg : w8'.grownBy w9 v.ownBlock) (hown : w9.ownsRow w.heap.size 41 2 v' (ps.length + 1) (cellsPm ps vs ++ [.string (S n), sv])) (le : ps.length + 1 ≤ 20)
    (eq : paramsP cf 0 l = Rs.next (paramsP cf (ps.length + 1) t') fun qs u => .ok (ps ++ (n, us) :: qs, u)) : PsSt w w9 R s cf l v' (ps ++ [(n, us)]) (vs ++ [sv]) t' := by
  have vb : ∀ j, v.ownBlock = some j → w.heap.size ≤ j := fun j hj => (h.row.lt j hj).1
  have hrow8 : w8'.ownsRow w.heap.size 41 2 v ps.length (cellsPm ps vs) := (h.row.kept mv (row_under h.row hR)).kept (mv_of none g8) (by cases e : v.ownBlock with | none => exact .inl rfl | some _ => exact .inr (by simp))
  have kp : ∀ {u : Value} {x : List L8}, OwnS w8 w.heap.size u x → OwnS w9 w.heap.size u x := fun {u x} hu => by
    have hu' : OwnS w8' w.heap.size u x := hu.kept (mv_of none g8) (by cases e : u.ownBlock with | none => exact .inl rfl | some _ => exact .inr (by simp))
    exact hu'.kept hg (rows_apart hu' hrow8 (by decide))
  refine ⟨mv_own (mv_g (mv_trans h.mv mv) g8) hg (fun j hj => .inr (vb j hj)), ?_, by simp [h.len], ?_, by rw [List.length_append, cellsPm_append _ _ _ _ h.len]; exact hown, by simpa using le, by rw [eq]; simp⟩
  · obtain ⟨p, e, hr⟩ := rd
    refine ⟨p, e, ?_⟩
    show w9.heap[R]? = _
    rw [hg.block R (by have := g8.size; have := hr.lt; omega) (fun e => by have := vb R e.symm; omega), g8.below.block R hr.lt]
    exact hr
  · intro i p x hp hx
    rcases Nat.lt_or_ge i ps.length with hi | hi
    · rw [List.getElem?_append_left hi] at hp
      rw [List.getElem?_append_left (by rw [h.len]; exact hi)] at hx
      have := h.own i p x hp hx
      exact kp (this.kept mv (row_under this hR))
    · have hi2 : i = ps.length := by have := (List.getElem?_eq_some_iff.1 hp).1; simp at this; omega
      subst hi2
      rw [List.getElem?_append_right (Nat.le_refl _)] at hp
      rw [List.getElem?_append_right (by rw [h.len]; exact Nat.le_refl _)] at hx
      simp [h.len] at hp hx
      subst hp; subst hx
      exact kp (World.ownsRow.mono own hb)
/-- parameters that a call made, all that they hold too -/
def OwnPs (w : World) (base : Nat) (v : Value) (ps : List Pm) : Prop := ∃ vs : List Value, vs.length = ps.length ∧ (∀ (i : Nat) (p : Pm) (u : Value), ps[i]? = some p → vs[i]? = some u → OwnS w base u p.2) ∧ w.ownsRow base 41 2 v ps.length (cellsPm ps vs)
theorem OwnPs.params {w : World} {base : Nat} {v : Value} {ps : List Pm} (h : OwnPs w base v ps) : IsParams w v ps := by
  obtain ⟨vs, h1, h2, h3⟩ := h
  exact params_of_row h1 (fun i p u hp hu => strs_of_own (h2 i p u hp hu)) h3
theorem OwnPs.kept {w w' : World} {base : Nat} {v : Value} {ps : List Pm} {k : Nat} (h : OwnPs w base v ps) (g : w.grownBy w' (some k)) (hk : k < base) : OwnPs w' base v ps := by
  obtain ⟨vs, h1, h2, h3⟩ := h
  exact ⟨vs, h1, fun i p u hp hu => (h2 i p u hp hu).kept g (row_under (h2 i p u hp hu) hk), h3.kept g (row_under h3 hk)⟩
theorem OwnPs.grow {w w' : World} {base : Nat} {v : Value} {ps : List Pm} (h : OwnPs w base v ps) (g : G w w') : OwnPs w' base v ps := by
  have e : ∀ v : Value, v.ownBlock = none ∨ v.ownBlock ≠ none := fun v => by cases v.ownBlock with | none => exact .inl rfl | some _ => exact .inr (by simp)
  obtain ⟨vs, h1, h2, h3⟩ := h
  exact ⟨vs, h1, fun i p u hp hu => (h2 i p u hp hu).kept (mv_of none g) (e _), h3.kept (mv_of none g) (e _)⟩
def VP (base : Nat) (ps : List Pm) (v : Value) (w : World) : Prop := OwnPs w base v ps
theorem PsSt.params {w wr : World} {R : Nat} {s : L8} {cf : Bool} {l : L8} {v : Value} {ps : List Pm} {vs : List Value} {t : L8} (h : PsSt w wr R s cf l v ps vs t) : OwnPs wr w.heap.size v ps := ⟨vs, h.len, h.own, h.row⟩
/-- how many bytes are left -/
def leftM (s : L8) (R : Nat) (w : World) : Nat := s.length - (intOf ((w.cell? ⟨R, 1, none⟩).getD .nilIface)).toNat
theorem leftM_eq {w : World} {R : Nat} {s : L8} {cf : Bool} {l : L8} (h : LRd w R s cf l) : leftM s R w = l.length := by
  obtain ⟨p, e, h⟩ := h
  unfold leftM
  rw [h.c1, e]
  simp [intOf]

theorem pm_bad1 {cf : Bool} {r : L8} {e : Er} (h : wordP r = .error e) : pmP cf r = .error e := by unfold pmP; rw [h]; rfl
theorem pm_bad2 {cf : Bool} {r n t : L8} (h : wordP r = .ok (n, t)) (h2 : isB 61 t = none) : pmP cf r = .error (7, t.length) := by unfold pmP; rw [h]; show (match isB 61 t with | none => _ | some r => _) = _; rw [h2]
theorem pm_bad3 {cf : Bool} {r n t u : L8} {e : Er} (h : wordP r = .ok (n, t)) (h2 : isB 61 t = some u) (h3 : valueP cf u = .error e) : pmP cf r = .error e := by
  unfold pmP; rw [h]; show (match isB 61 t with | none => _ | some r => _) = _; rw [h2]; simp only; rw [h3]; rfl
theorem pm_val {cf : Bool} {r n t u v t2 : L8} (h : wordP r = .ok (n, t)) (h2 : isB 61 t = some u) (h3 : valueP cf u = .ok (v, t2)) : pmP cf r = Rs.next (moreV cf t2) fun vs x => .ok ((n, [] ++ v :: vs), x) := by
  unfold pmP; rw [h]; show (match isB 61 t with | none => _ | some r => _) = _; rw [h2]; simp only; rw [h3]; rfl
theorem InSt.end {wr wq : World} {R : Nat} {s : L8} {cf : Bool} {B : Nat} {n r : L8} {us : List L8} {sv : Value} {t : L8} (h : InSt wr wq R s cf B n r us sv t) (hb : isB 44 t = none) : pmP cf r = .ok ((n, us), t) := by
  rw [h.eq, more_none hb, next_pos]; simp
theorem InSt.bad {wr wq : World} {R : Nat} {s : L8} {cf : Bool} {B : Nat} {n r : L8} {us : List L8} {sv : Value} {t u : L8} {e : Er} (h : InSt wr wq R s cf B n r us sv t) (hb : isB 44 t = some u) (hv : valueP cf u = .error e) : pmP cf r = .error e := by
  rw [h.eq, more_some hb, hv]; rfl
theorem InSt.go {wr wq : World} {R : Nat} {s : L8} {cf : Bool} {B : Nat} {n r : L8} {us : List L8} {sv : Value} {t u v t2 : L8} (h : InSt wr wq R s cf B n r us sv t) (hb : isB 44 t = some u) (hv : valueP cf u = .ok (v, t2)) : pmP cf r = Rs.next (moreV cf t2) fun vs x => .ok ((n, us ++ v :: vs), x) := by
  rw [h.eq, more_some hb, hv]
  show Rs.next (Rs.next (moreV cf t2) _) _ = _
  cases moreV cf t2 with
  | error e => rfl
  | ok p => rfl
section
variable {w wr : World} {R : Nat} {s : L8} {cf : Bool} {l : L8} {v : Value} {ps : List Pm} {vs : List Value} {t : L8}
theorem PsSt.end (h : PsSt w wr R s cf l v ps vs t) (hb : isB 59 t = none) : paramsP cf 0 l = .ok (ps, t) := by
  rw [h.eq, params_none hb, next_pos]; simp
theorem PsSt.bad {r : L8} {e : Er} (h : PsSt w wr R s cf l v ps vs t) (hb : isB 59 t = some r) (hp : pmP cf r = .error e) : paramsP cf 0 l = .error e := by
  rw [h.eq, params_some hb, hp]; rfl
theorem PsSt.full {r : L8} {p : Pm} {t2 : L8} (h : PsSt w wr R s cf l v ps vs t) (hb : isB 59 t = some r) (hp : pmP cf r = .ok (p, t2)) (hk : ps.length = 20) : paramsP cf 0 l = .error (4, r.length) := by
  rw [h.eq, params_some hb, hp, next_pos, if_pos hk]; rfl
theorem PsSt.go {r : L8} {p : Pm} {t2 : L8} (h : PsSt w wr R s cf l v ps vs t) (hb : isB 59 t = some r) (hp : pmP cf r = .ok (p, t2)) (hk : ps.length ≠ 20) : paramsP cf 0 l = Rs.next (paramsP cf (ps.length + 1) t2) fun qs u => .ok (ps ++ p :: qs, u) := by
  rw [h.eq, params_some hb, hp, next_pos, if_neg hk]
  show Rs.next (Rs.next (paramsP cf (ps.length + 1) t2) _) _ = _
  cases paramsP cf (ps.length + 1) t2 with
  | error e => rfl
  | ok p => rfl
end

set_option maxRecDepth 100000 in
set_option maxHeartbeats 8000000 in
theorem params_any (w : World) (R : Nat) (s : L8) (cf : Bool) (l : L8) (h : LRd w R s cf l) (hs : s.length ≤ 10000) :
    Calls Tryz.prog 33 #[.pointer (some ⟨R, 0, none⟩)] w (RdP s cf R (VP w.heap.size) (paramsP cf 0 l) w) := by
  have H0 := hid h
  have hlt0 := h.lt
  obtain ⟨i0, hi, hz0, hz1, hz2⟩ := info_parts infoStr
  obtain ⟨j0, hj, hy0, hy1, hy2⟩ := info_parts infoParam
  clear h
  go_enter Tryz.func33, Tryz.ntmps33
  go_wp2_with fail
  go_loopw [3] (fun v wr => ∃ ps vs t, PsSt w wr R s cf l v ps vs t) (fun _ wr => leftM s R wr)
  case atStart => exact ⟨[], [], l, mv_refl _ _, H0.out, rfl, by simp, World.ownsRow_nil _ _ _ _, by simp, by cases paramsP cf 0 l <;> rfl⟩
  case round =>
    obtain ⟨ps, vs, t, hst⟩ := hrel
    have HST := hid hst
    have hMS := leftM_eq hst.rd
    have HMS := hid hMS
    have hsz := hst.mv.size
    obtain ⟨oa, oc, rfl⟩ := row_slice hst.row
    have hps := hst.le
    clear hst hMS
    cases hb : isB 59 t with
    | none =>
      have HB := hid hb
      clear hb
      go_wp2_with fail
      refine (rdIs_any _ R s cf t 59 HST.out.rd (by omega)).mono ?_
      rw [HB.out]
      rintro e w1 ⟨rfl, m1, h1⟩
      have M1 := hid m1
      have H1 := hid h1
      clear m1 h1
      go_wp2_with fail
      go_ret
      exact RdP.yes (mv_trans HST.out.mv M1.out) (HST.out.end HB.out) (HST.out.params.kept M1.out hlt0) H1.out
    | some r =>
      have HB := hid hb
      have htr : t.length = r.length + 1 := by rw [isB_some hb]; rfl
      have hts : t.length ≤ s.length := by obtain ⟨p, e, _⟩ := HST.out.rd; rw [e]; simp
      clear hb
      go_wp2_with fail
      refine (rdIs_any _ R s cf t 59 HST.out.rd (by omega)).mono ?_
      rw [HB.out]
      rintro e w1 ⟨rfl, m1, h1⟩
      have M1 := hid m1
      have H1 := hid h1
      obtain ⟨p1, he1, ho1⟩ := h1
      have d1 := ho1.c1
      have HP1 : Hid (s.length - r.length = p1.length) := hid (by rw [he1]; simp)
      clear m1 he1 ho1
      cases hw : wordP r with
      | error ck =>
        obtain ⟨c, k⟩ := ck
        have HW := hid hw
        clear hw
        go_wp2_with fail
        refine (word_any w1 R s cf r H1.out (by omega)).mono ?_
        rw [HW.out]
        rintro e w2 ⟨m2, rfl⟩
        exact ⟨rfl, RdP.no (mv_trans HST.out.mv (mv_trans M1.out m2)) (HST.out.bad HB.out (pm_bad1 HW.out)) rfl⟩
      | ok nt =>
        obtain ⟨n, t1⟩ := nt
        have HW := hid hw
        have hrt : t1.length ≤ r.length := by rw [(word_ok hw).1]; simp
        clear hw
        go_wp2_with fail
        refine (word_any w1 R s cf r H1.out (by omega)).mono ?_
        rw [HW.out]
        rintro e w2 ⟨m2, v, rfl, hv, h2⟩
        obtain rfl : v = .string (S n) := hv
        have M2 := hid m2
        have H2 := hid h2
        have hR2 := h2.lt
        clear m2 h2 d1
        go_upto_region 5 with fail
        generalize hwb : World.alloc w2 _ = wb
        obtain ⟨B, hB⟩ : ∃ B, B = w2.heap.size := ⟨_, rfl⟩
        rw [← hB]
        have hbox : wb.heap[B]? = some (.cells #[.string (S n), .slice none 0 0] 41) := by rw [← hwb, hB]; exact World.alloc_heap_new w2 _
        have HBX := hid hbox
        have GB := hid (show G w2 wb by rw [← hwb]; exact (G.refl _).alloc _)
        have hBb : wb.heap.size = B + 1 := by rw [← hwb, hB]; simp
        have hRB : R < B := by omega
        have hBR : wr.heap.size ≤ B := by have := M1.out.size; have := M2.out.size; omega
        clear hwb hB hbox
        have MB := hid (mv_g (mv_trans M1.out M2.out) GB.out)
        cases hc : isB 61 t1 with
        | none =>
          have HC := hid hc
          clear hc
          go_wp2_with fail
          refine (rdIs_any _ R s cf t1 61 (H2.out.grow GB.out) (by omega)).mono ?_
          rw [HC.out]
          rintro e w3 ⟨rfl, m3, h3⟩
          have M3 := hid m3
          obtain ⟨p3, he3, ho3⟩ := h3
          have d3 := ho3.c1
          have HP3 : Hid (s.length - t1.length = p3.length) := hid (by rw [he3]; simp)
          clear m3 he3 ho3
          go_wp2_with fail
          refine (throw_any _ _ _ _).mono ?_
          rintro e w4 ⟨rfl, rfl⟩
          exact ⟨rfl, RdP.no (mv_trans HST.out.mv (mv_trans MB.out M3.out)) (HST.out.bad HB.out (pm_bad2 HW.out HC.out)) HP3.out⟩
        | some r2 =>
          have HC := hid hc
          have ht2 : t1.length = r2.length + 1 := by rw [isB_some hc]; rfl
          clear hc
          go_wp2_with fail
          refine (rdIs_any _ R s cf t1 61 (H2.out.grow GB.out) (by omega)).mono ?_
          rw [HC.out]
          rintro e w3 ⟨rfl, m3, h3⟩
          have M3 := hid (mv_trans MB.out m3)
          have H3 := hid h3
          have hbx3 : w3.heap[B]? = some (.cells #[.string (S n), .slice none 0 0] 41) := (m3.block B (by omega) (by simp; omega)).trans HBX.out
          have HB3 := hid hbx3
          have b31 : w3.cell? ⟨B, 1, none⟩ = some (.slice none 0 0) := by rw [cell_of_row w3 B 1 _ _ _ hbx3]; rfl
          have hB3 : B < w3.heap.size := World.block_lt_of_cell? _ _ b31
          have z31 : w3.frozen? ⟨B, 1, none⟩ = false := frozen_of_row w3 B 1 _ _ hbx3
          have VA := hid (fun W (h : LRd W R s cf r2) => value_any W R s cf r2 h hs)
          clear m3 h3 hbx3
          go_upto_region 7 with fail
          go_cut [] (fun wx => ∃ us sv t', InSt wr wx R s cf B n r us sv t')
          case first =>
            cases hv : valueP cf r2 with
            | error ck =>
              obtain ⟨c, k⟩ := ck
              have FIN : Hid (∀ w4, w3.grownBy w4 (some R) → RdP s cf R (VP w.heap.size) (paramsP cf 0 l) w (.panicked [{ v := faultV c (s.length - k : Nat), recovered := false }]) w4) := hid (fun w4 m4 => RdP.no (mv_trans HST.out.mv (mv_trans M3.out m4)) (HST.out.bad HB.out (pm_bad3 HW.out HC.out hv)) rfl)
              have HV := hid hv
              clear hv
              refine wp_region_any (by kernel_rfl) ?_
              change wpAny _ _ _ _ _ _ _ (World.drew _)
              refine wpAny_take (i := 0) (v := ?_) rfl (by kernel_rfl) (by kernel_rfl) (by kernel_rfl) (fun _ _ _ h => h) (Or.inl ⟨by rfl, ?_⟩) ?_
              rotate_left 1
              · intro w; go_simp; try with_reducible rfl
              refine wpAny_take (i := 2) (v := ?_) rfl (by kernel_rfl) (by kernel_rfl) (by kernel_rfl) (fun _ _ _ h => h) (Or.inl ⟨by rfl, ?_⟩) ?_
              rotate_left 1
              · intro w; go_simp; try with_reducible rfl
              refine wpAny_ready (rs := [1, 3]) (by kernel_rfl) (by simp) ?_
              refine AllReady.cons rfl (fun K hK => ?_) (AllReady.cons rfl (fun K hK => ?_) AllReady.nil)
              · go_simp
                refine hK _ _ ?_
                refine wpAny_ready (rs := [3]) (by kernel_rfl) (by simp) ?_
                refine AllReady.cons rfl (fun K hK => ?_) AllReady.nil
                go_simp
                refine (VA.out _ (H3.out.grow ((G.refl _).drew))).mono ?_
                rintro e w4 h4
                rw [HV.out] at h4
                obtain ⟨m4, rfl⟩ := h4
                exact ⟨rfl, FIN.out _ (mv_trans (mv_drew (mv_refl _ _)) m4)⟩
              · go_simp
                refine (VA.out _ (H3.out.grow ((G.refl _).drew))).mono ?_
                rintro e w4 h4
                rw [HV.out] at h4
                obtain ⟨m4, rfl⟩ := h4
                exact ⟨rfl, FIN.out _ (mv_trans (mv_drew (mv_refl _ _)) m4)⟩
            | ok vt =>
              obtain ⟨v0, t2⟩ := vt
              have HV := hid hv
              have hvl := value_len hv
              have h4b : ∀ (W w4 : World), W.grownBy w4 (some R) → W.heap[B]? = some (.cells #[.string (S n), .slice none 0 0] 41) → w4.heap[B]? = some (.cells #[.string (S n), .slice none 0 0] 41) := fun W w4 m h => (m.block B (Array.getElem?_eq_some_iff.1 h).1 (by simp; omega)).trans h
              have H4B := hid h4b
              clear hv h4b
              go_region_law (first
                | (refine step_append_lies _ rfl (.tmp 25) (.tmp 28) 39 rfl (B + 1) 9 i0 _ 1 16 Tryz.underlying39 hi hz0 hz1 hz2 rfl (by decide) (.slice none 0 0) 0 _ (by simp [Act.eval, Act.put]) (World.ownsRow_nil _ _ _ _) ⟨w4.heap.size, 0, none⟩ 1 1 [.string (S v0)] (by simp [Act.eval, Act.put]) rfl (news1 w4 (.string (S v0)) 9) (cell1 _ rfl) Nat.one_pos (by unfold maxLen; omega) (by omega) (by simp; omega) _ rfl ?_; intro g gcap w5 hown hgrow hat hlt5; have bz5 : w5.heap[B]? = some (.cells #[.string (S n), .slice none 0 0] 41) := (hgrow.block B (by simp; omega) (by simp [Value.ownBlock])).trans ((Below.heap_alloc _ _ _ hB4).trans BX4.out); have z51 : w5.frozen? ⟨B, 1, none⟩ = false := frozen_of_row w5 B 1 _ _ bz5; have b51 : w5.cell? ⟨B, 1, none⟩ = some (.slice none 0 0) := (by rw [cell_of_row w5 B 1 _ _ _ bz5]; rfl); have HO5 := hid hown; have HG5 := hid hgrow; clear hown hgrow hat bz5)
                | (go_simp; go_at_call 49; refine (VA.out _ (H3.out.grow ((G.refl _).drew))).mono ?_; rintro e w4 h4; rw [HV.out] at h4; obtain ⟨m4, v, rfl, hv4, h4⟩ := h4; obtain rfl : v = .string (S v0) := hv4; have M4 := hid (show w3.grownBy w4 (some R) from mv_trans (mv_drew (mv_refl _ _)) m4); have H4 := hid h4; have bx4 := H4B.out _ _ M4.out HB3.out; have BX4 := hid bx4; have b41 : w4.cell? ⟨B, 1, none⟩ = some (.slice none 0 0) := (by rw [cell_of_row w4 B 1 _ _ _ bx4]; rfl); have hB4 : B < w4.heap.size := World.block_lt_of_cell? _ _ b41; have z41 : w4.frozen? ⟨B, 1, none⟩ = false := frozen_of_row w4 B 1 _ _ bx4; clear m4 h4 bx4))
              all_goals
                go_wp2_with fail
                go_meet
                refine ⟨_, _, t2, InSt.push (mv_trans M3.out M4.out) H4.out BX4.out (ownS_nil _ _) hRB hBR (by repeat (first | exact G.refl _ | assumption | apply G.drew | apply G.drewN | apply G.alloc | refine G.trans ?_ (by assumption))) HG5.out HO5.out (by simp; omega) (by omega) (pm_val HW.out HC.out HV.out)⟩
          case rest =>
            obtain ⟨us, sv, t', hin⟩ := hcut
            have HIN := hid hin
            clear hin b31 z31 hB3
            go_upto_block 2 with fail
            go_cut [] (fun wx => ∃ us sv t', InSt wr wx R s cf B n r us sv t' ∧ isB 44 t' = none)
            case first =>
              go_wp2_with fail
              go_loopw [] (fun wq => ∃ us sv t', InSt wr wq R s cf B n r us sv t') (fun wq => leftM s R wq)
              case atStart => exact ⟨us, sv, t', HIN.out⟩
              case round =>
                obtain ⟨us, sv, t', hin⟩ := hrel
                obtain ⟨sa, sc, rfl⟩ := row_slice hin.own
                have HIN := hid hin
                have HML := hid (leftM_eq hin.rd)
                have hcnt := hin.cnt
                have hclt := hin.lt
                clear hin
                cases hb : isB 44 t' with
                | none =>
                  have HB4 := hid hb
                  clear hb
                  go_wp2_with fail
                  refine (rdIs_any _ R s cf t' 44 HIN.out.rd (by omega)).mono ?_
                  rw [HB4.out]
                  rintro e w8 ⟨rfl, m8, h8⟩
                  have M8 := hid m8
                  have H8 := hid h8
                  clear m8 h8
                  go_wp2_with fail
                  go_meet
                  exact ⟨us, _, t', ⟨mv_trans HIN.out.mv M8.out, H8.out, (M8.out.block B (Array.getElem?_eq_some_iff.1 HIN.out.box).1 (by simp; omega)).trans HIN.out.box, HIN.out.own.kept M8.out (row_under HIN.out.own (by omega)), HIN.out.cnt, HIN.out.lt, HIN.out.eq⟩, HB4.out⟩
                | some r3 =>
                  have HB4 := hid hb
                  have htr3 : t'.length = r3.length + 1 := by rw [isB_some hb]; rfl
                  clear hb
                  go_wp2_with fail
                  refine (rdIs_any _ R s cf t' 44 HIN.out.rd (by omega)).mono ?_
                  rw [HB4.out]
                  rintro e w8 ⟨rfl, m8, h8⟩
                  have M8 := hid (mv_trans HIN.out.mv m8)
                  have H8 := hid h8
                  have hbx8 : w8.heap[B]? = some (.cells #[.string (S n), .slice sa us.length sc] 41) := (m8.block B (Array.getElem?_eq_some_iff.1 HIN.out.box).1 (by simp; omega)).trans HIN.out.box
                  have OW8 := hid (show OwnS w8 (B + 1) (.slice sa us.length sc) us from HIN.out.own.kept m8 (row_under HIN.out.own (by omega)))
                  have HB8 := hid hbx8
                  have b81 : w8.cell? ⟨B, 1, none⟩ = some (.slice sa us.length sc) := by rw [cell_of_row w8 B 1 _ _ _ hbx8]; rfl
                  have VB := hid (fun W (h : LRd W R s cf r3) => value_any W R s cf r3 h hs)
                  clear m8 h8 hbx8
                  go_wp2_with fail
                  cases hv : valueP cf r3 with
                  | error ck =>
                    obtain ⟨c, k⟩ := ck
                    have FIN : Hid (∀ w4, w8.grownBy w4 (some R) → RdP s cf R (VP w.heap.size) (paramsP cf 0 l) w (.panicked [{ v := faultV c (s.length - k : Nat), recovered := false }]) w4) := hid (fun w4 m4 => RdP.no (mv_trans HST.out.mv (mv_trans M8.out m4)) (HST.out.bad HB.out (HIN.out.bad HB4.out hv)) rfl)
                    have HV := hid hv
                    clear hv
                    refine wp_region_any (by kernel_rfl) ?_
                    change wpAny _ _ _ _ _ _ _ (World.drew _)
                    refine wpAny_take (i := 0) (v := ?_) rfl (by kernel_rfl) (by kernel_rfl) (by kernel_rfl) (fun _ _ _ h => h) (Or.inl ⟨by rfl, ?_⟩) ?_
                    rotate_left 1
                    · intro w; go_simp; try with_reducible rfl
                    refine wpAny_take (i := 2) (v := ?_) rfl (by kernel_rfl) (by kernel_rfl) (by kernel_rfl) (fun _ _ _ h => h) (Or.inl ⟨by rfl, ?_⟩) ?_
                    rotate_left 1
                    · intro w; go_simp; try with_reducible rfl
                    refine wpAny_ready (rs := [1, 3]) (by kernel_rfl) (by simp) ?_
                    refine AllReady.cons rfl (fun K hK => ?_) (AllReady.cons rfl (fun K hK => ?_) AllReady.nil)
                    · go_simp
                      refine hK _ _ ?_
                      refine wpAny_ready (rs := [3]) (by kernel_rfl) (by simp) ?_
                      refine AllReady.cons rfl (fun K hK => ?_) AllReady.nil
                      go_simp
                      refine (VB.out _ (H8.out.grow ((G.refl _).drew))).mono ?_
                      rintro e w4 h4
                      rw [HV.out] at h4
                      obtain ⟨m4, rfl⟩ := h4
                      exact ⟨rfl, FIN.out _ (mv_trans (mv_drew (mv_refl _ _)) m4)⟩
                    · go_simp
                      refine (VB.out _ (H8.out.grow ((G.refl _).drew))).mono ?_
                      rintro e w4 h4
                      rw [HV.out] at h4
                      obtain ⟨m4, rfl⟩ := h4
                      exact ⟨rfl, FIN.out _ (mv_trans (mv_drew (mv_refl _ _)) m4)⟩
                  | ok vt =>
                    obtain ⟨v0, t2⟩ := vt
                    have HV := hid hv
                    have hvl := value_len hv
                    have H4B := hid (fun (W w4 : World) (m : W.grownBy w4 (some R)) (h : W.heap[B]? = some (.cells #[.string (S n), .slice sa us.length sc] 41)) => (m.block B (Array.getElem?_eq_some_iff.1 h).1 (by simp; omega)).trans h)
                    clear hv
                    go_region_law (first
                      | (refine step_append_lies _ rfl (.tmp 34) (.tmp 37) 39 rfl (B + 1) 9 i0 _ 1 16 Tryz.underlying39 hi hz0 hz1 hz2 rfl (by decide) (.slice sa us.length sc) us.length _ (by simp [Act.eval, Act.put]) (OW4.out.alloc (.cells #[.string (S v0)] 9)) ⟨w4.heap.size, 0, none⟩ 1 1 [.string (S v0)] (by simp [Act.eval, Act.put]) rfl (news1 w4 (.string (S v0)) 9) (cell1 _ rfl) Nat.one_pos (by unfold maxLen; omega) (by omega) (by simp; omega) _ rfl ?_; intro g gcap w5 hown hgrow hat hlt5; have bz5 : w5.heap[B]? = some (.cells #[.string (S n), .slice sa us.length sc] 41) := (hgrow.block B (by simp; omega) (fun e => by have := (OW4.out.lt B e.symm).1; omega)).trans ((Below.heap_alloc _ _ _ hB4).trans BX4.out); have z51 : w5.frozen? ⟨B, 1, none⟩ = false := frozen_of_row w5 B 1 _ _ bz5; have b51 : w5.cell? ⟨B, 1, none⟩ = some (.slice sa us.length sc) := (by rw [cell_of_row w5 B 1 _ _ _ bz5]; rfl); have HO5 := hid hown; have HG5 := hid hgrow; clear hown hgrow hat bz5)
                      | (go_simp; go_at_call 49; refine (VB.out _ (H8.out.grow ((G.refl _).drew))).mono ?_; rintro e w4 h4; rw [HV.out] at h4; obtain ⟨m4, v, rfl, hv4, h4⟩ := h4; obtain rfl : v = .string (S v0) := hv4; have M4 := hid (show w8.grownBy w4 (some R) from mv_trans (mv_drew (mv_refl _ _)) m4); have H4 := hid h4; have bx4 := H4B.out _ _ M4.out HB8.out; have BX4 := hid bx4; have OW4 := hid (show OwnS w4 (B + 1) (.slice sa us.length sc) us from OW8.out.kept M4.out (row_under OW8.out (by omega))); have b41 : w4.cell? ⟨B, 1, none⟩ = some (.slice sa us.length sc) := (by rw [cell_of_row w4 B 1 _ _ _ bx4]; rfl); have hB4 : B < w4.heap.size := World.block_lt_of_cell? _ _ b41; have z41 : w4.frozen? ⟨B, 1, none⟩ = false := frozen_of_row w4 B 1 _ _ bx4; clear m4 h4 bx4))
                    all_goals
                      go_wp2_with fail
                      have hnew := InSt.push (mv_trans M8.out M4.out) H4.out BX4.out OW4.out hRB hBR (by repeat (first | exact G.refl _ | assumption | apply G.drew | apply G.drewN | apply G.alloc | refine G.trans ?_ (by assumption))) HG5.out HO5.out (by omega) (by omega) (HIN.out.go HB4.out HV.out)
                      have hmn := leftM_eq hnew.rd
                      have HNEW := hid hnew
                      clear hnew
                      go_roundw
                      case rel => exact ⟨_, _, t2, HNEW.out⟩
                      case measure => rw [hmn, HML.out]; omega
            case rest =>
              clear HIN
              obtain ⟨us, sv, t', hin, hb4⟩ := hcut
              obtain ⟨sa, sc, rfl⟩ := row_slice hin.own
              have HIN := hid hin
              have HB4 := hid hb4
              have hcnt := hin.cnt
              have hclt := hin.lt
              have bx0 : wc.cell? ⟨B, 0, none⟩ = some (.string (S n)) := by rw [cell_of_row wc B 0 _ _ _ hin.box]; rfl
              have bx1 : wc.cell? ⟨B, 1, none⟩ = some (.slice sa us.length sc) := by rw [cell_of_row wc B 1 _ _ _ hin.box]; rfl
              have HPM := hid (hin.end hb4)
              clear hin hb4
              by_cases h20 : ps.length = 20
              · have h20b : ((ps.length : Int) == 20) = true := by rw [h20]; rfl
                have HF := hid (HST.out.full HB.out HPM.out h20)
                clear h20
                go_wp2_with fail
                refine (throw_any _ _ _ _).mono ?_
                rintro e w4 ⟨rfl, rfl⟩
                exact ⟨rfl, RdP.no (mv_trans HST.out.mv HIN.out.mv) HF.out HP1.out⟩
              · have h20b : ((ps.length : Int) == 20) = false := beq_eq_false_iff_ne.2 (by omega)
                have HGO := hid (HST.out.go HB.out HPM.out h20)
                have HROW := hid (HST.out.row.kept HIN.out.mv (row_under HST.out.row hlt0))
                have hwc : w.heap.size ≤ wc.heap.size := Nat.le_trans hsz HIN.out.mv.size
                have h20c : ps.length + 1 ≤ 20 := by omega
                clear h20
                go_wp2_with (at_builtin; refine wpList_append_own _ rfl _ _ 22 rfl w.heap.size 41 j0 _ 2 40 Tryz.underlying22 hj hy0 hy1 hy2 rfl (by decide) (.slice oa ps.length oc) ps.length _ rfl (HROW.out.alloc (.cells #[.string (S n), .slice sa us.length sc] 41)) ⟨wc.heap.size, 0, none⟩ 1 1 [.string (S n), .slice sa us.length sc] rfl rfl (news2 wc _ _ _) (by intro x hx; simp at hx; rcases hx with rfl | rfl <;> rfl) (by unfold maxLen; omega) (by omega) (by simp; omega) ?_; intro v' w9 hown hgrow hnil)
                have hnew := PsSt.push HST.out HIN.out.mv HIN.out.rd HIN.out.own (b := B + 1) (by omega) hlt0 ((G.refl wc).alloc (.cells #[.string (S n), .slice sa us.length sc] 41)) hgrow hown (by omega) HGO.out
                have hmn := leftM_eq hnew.rd
                have HNEW := hid hnew
                clear hnew hgrow hown hnil
                go_roundw
                case rel => exact ⟨_, _, t', HNEW.out⟩
                case measure => rw [hmn, HMS.out]; omega

end Go.Proofs.YtccaknanagmmhaaGreat
