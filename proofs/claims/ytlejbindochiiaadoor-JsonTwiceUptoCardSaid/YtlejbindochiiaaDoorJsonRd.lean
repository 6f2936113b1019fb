/-
  CONTRACTS of json's reader: throw, is, blank, lacks, want, four.
-/
import Derived.Test.YtlejbindochiiaaDoorRdr
import Derived.Test.YtlejbindochiiaaDoorJsonBackL
namespace Go.Proofs.YtlejbindochiiaaDoor
open Go.RowKit
set_option linter.unusedVariables false
set_option linter.unusedSimpArgs false

/-- what is thrown -/
def faultJ (e p : Int) : Value := .iface 54 (.agg #[.int .i64 e, .int .i64 p])
set_option maxRecDepth 100000 in
set_option maxHeartbeats 400000 in
theorem jthrow_any (p : Value) (e a : Int) (w : World) : Calls Tryd.prog 21 #[p, .int .i64 e, .int .i64 a] w fun x w' => x = .panicked [{ v := faultJ e a, recovered := false }] ∧ w' = w := by
  go_enter Tryd.func21, Tryd.ntmps21
  go_wp2_with fail
  exact ⟨rfl, rfl, rfl⟩
/-- json's reader stands ahead of the bytes l -/
abbrev JRd (w : World) (R : Nat) (s l : List UInt8) : Prop := RdL 58 [] w R s l
/-- what a reader's method does: it hands back what x tells, or throws -/
def JRdP {α : Type} (s : List UInt8) (R : Nat) (V : α → Value → World → Prop) (x : JRs α) (w : World) (e : Ending) (w' : World) : Prop :=
  w.grownBy w' (some R) ∧ match x with
    | .ok (a, t) => ∃ v, e = .returned v ∧ V a v w' ∧ JRd w' R s t
    | .error (c, k) => e = .panicked [{ v := faultJ c (s.length - k : Nat), recovered := false }]
theorem JRdP.yes {α : Type} {s : List UInt8} {R : Nat} {V : α → Value → World → Prop} {x : JRs α} {w w' : World} {a : α} {t : List UInt8} {v : Value} (m : w.grownBy w' (some R)) (h : x = .ok (a, t)) (hv : V a v w') (hr : JRd w' R s t) : JRdP s R V x w (.returned v) w' := by
  subst h; exact ⟨m, v, rfl, hv, hr⟩
theorem JRdP.no {α : Type} {s : List UInt8} {R : Nat} {V : α → Value → World → Prop} {x : JRs α} {w w' : World} {c : Int} {k : Nat} {q : Nat} (m : w.grownBy w' (some R)) (h : x = .error (c, k)) (hq : s.length - k = q) : JRdP s R V x w (.panicked [{ v := faultJ c (q : Nat), recovered := false }]) w' := by
  subst h; subst hq; exact ⟨m, rfl⟩
theorem JRdP.ok {α : Type} {s : List UInt8} {R : Nat} {V : α → Value → World → Prop} {w w' : World} {a : α} {t : List UInt8} {e : Ending} (h : JRdP s R V (.ok (a, t)) w e w') : w.grownBy w' (some R) ∧ ∃ v, e = .returned v ∧ V a v w' ∧ JRd w' R s t := h
theorem JRdP.bad {α : Type} {s : List UInt8} {R : Nat} {V : α → Value → World → Prop} {w w' : World} {c : Int} {k : Nat} {e : Ending} (h : JRdP s R V (.error (c, k)) w e w') : w.grownBy w' (some R) ∧ e = .panicked [{ v := faultJ c (s.length - k : Nat), recovered := false }] := h
def VU (_ : Unit) (v : Value) (_ : World) : Prop := v = .tuple #[]
def VN (n : Nat) (v : Value) (_ : World) : Prop := v = .int .i64 (n : Int)
def VSJ (n : List UInt8) (v : Value) (_ : World) : Prop := v = .string (S n)

set_option maxRecDepth 100000 in
set_option maxHeartbeats 1000000 in
theorem jis_any (w : World) (R : Nat) (s l : List UInt8) (c : UInt8) (h : JRd w R s l) (hs : s.length ≤ 1000000) :
    Calls Tryd.prog 31 #[.pointer (some ⟨R, 0, none⟩), .int .u8 (c.toNat : Int)] w fun e w' => e = .returned (.bool (isJ c l).isSome) ∧ w.grownBy w' (some R) ∧ JRd w' R s ((isJ c l).getD l) := by
  obtain ⟨p, he, ho⟩ := h
  have c0 := ho.c0
  have c1 := ho.c1
  have z1 := ho.fz 1
  have HO := hid ho
  have hlen : s.length = p.length + l.length := by rw [he]; simp
  have HE := hid he
  clear ho he
  cases l with
  | nil =>
    have hno : ¬ (p.length : Int) < (s.length : Int) := by simp at hlen; omega
    have hno2 : ¬ p.length < s.length := by simp at hlen; omega
    clear hlen
    go_enter Tryd.func31, Tryd.ntmps31
    go_wp2_with fail
    go_quiet (fail)
    go_wp2_with fail
    go_ret
    exact ⟨rfl, (by repeat (first | exact mv_refl _ _ | assumption | apply mv_drewN | apply mv_drew | apply mv_st | apply mv_alloc)), ⟨p, HE.out, HO.out.drewN _⟩⟩
  | cons d r =>
    have hlt : p.length < s.length := by simp at hlen; omega
    have hlti : (p.length : Int) < (s.length : Int) := by omega
    have hg : s[p.length]'hlt = d := by have := HE.out; subst this; simp
    have hle : p.length + 1 ≤ 1000000 := by omega
    clear hlen
    by_cases hdc : d = c
    · subst hdc
      go_enter Tryd.func31, Tryd.ntmps31
      go_wp2_with fail
      go_quiet (fail)
      go_wp2_with fail
      go_ret
      refine ⟨by rw [isJ_cons]; rfl, (by repeat (first | exact mv_refl _ _ | assumption | apply mv_drewN | apply mv_drew | apply mv_st | apply mv_alloc)), ?_⟩
      rw [isJ_cons]
      exact ⟨p ++ [d], by rw [HE.out]; simp, (HO.out.drewN _).setN _ _ (by simp)⟩
    · have hdn : (d.toNat == c.toNat) = false := beq_eq_false_iff_ne.2 fun e => hdc (UInt8.toNat_inj.1 e)
      have hdi : ((d.toNat : Int) == (c.toNat : Int)) = false := beq_eq_false_iff_ne.2 fun e => hdc (UInt8.toNat_inj.1 (by omega))
      have HDC := hid hdc
      clear hdc
      go_enter Tryd.func31, Tryd.ntmps31
      go_wp2_with fail
      go_quiet (fail)
      go_wp2_with fail
      go_ret
      refine ⟨by rw [isJ_eq, if_neg HDC.out]; rfl, (by repeat (first | exact mv_refl _ _ | assumption | apply mv_drewN | apply mv_drew | apply mv_st | apply mv_alloc)), ?_⟩
      rw [isJ_eq, if_neg HDC.out]
      exact ⟨p, HE.out, HO.out.drewN _⟩

theorem blank_ix {c : UInt8} (h : blankB c = true) : ∃ k : Nat, Lib.indexByte [32, 9, 13, 10] c = (k : Int) := by
  have key := byte_all (fun c => decide (blankB c = true → 0 ≤ Lib.indexByte [32, 9, 13, 10] c)) (by decide +kernel) c
  exact Int.eq_ofNat_of_zero_le (of_decide_eq_true key h)
theorem blank_ix_not {c : UInt8} (h : blankB c = false) : Lib.indexByte [32, 9, 13, 10] c = -1 := by
  have key := byte_all (fun c => decide (blankB c = false → Lib.indexByte [32, 9, 13, 10] c = -1)) (by decide +kernel) c
  exact of_decide_eq_true key h
theorem blankIx_quiet (c : UInt8) (v : Int) (hv : Lib.indexByte [32, 9, 13, 10] c = v) (W : World) (q : Nat) : Calls Tryd.prog 35 #[.string ⟨#[32, 9, 13, 10]⟩, .int .u8 (c.toNat : Int)] (W.drewN q) fun e w'' => e = .returned (.int .i64 v) ∧ ∃ m, w'' = W.drewN m := by
  subst hv; exact (indexByte_any [32, 9, 13, 10] c _).quiet
theorem blank_end {a b : List UInt8} (ha : ∀ c ∈ a, blankB c = true) (hb : ∀ c r, b = c :: r → blankB c = false) : blankJ (a ++ b) = b := by
  unfold blankJ
  rw [List.dropWhile_append_of_pos ha]
  cases b with
  | nil => rfl
  | cons c r => exact blank_not (hb c r rfl)
set_option maxRecDepth 100000 in
set_option maxHeartbeats 2000000 in
theorem jblank_any (w : World) (R : Nat) (s l : List UInt8) (h : JRd w R s l) (hs : s.length ≤ 1000000) :
    Calls Tryd.prog 20 #[.pointer (some ⟨R, 0, none⟩)] w fun e w' => e = .returned (.tuple #[]) ∧ w.grownBy w' (some R) ∧ JRd w' R s (blankJ l) := by
  obtain ⟨p, he, ho⟩ := h
  have HO := hid ho
  have HE := hid he
  have hlen : s.length = p.length + l.length := by rw [he]; simp
  have HL := hid hlen
  clear ho he hlen
  go_enter Tryd.func20, Tryd.ntmps20
  go_wp2_with fail
  go_loopw [] (fun wr => ∃ a b : List UInt8, l = a ++ b ∧ (∀ c ∈ a, blankB c = true) ∧ w.grownBy wr (some R) ∧ RdO 58 [] wr R s (p.length + a.length)) (fun wr => s.length - (intOf ((wr.cell? ⟨R, 1, none⟩).getD .nilIface)).toNat)
  case atStart => exact ⟨[], l, rfl, by simp, mv_refl _ _, by simpa using HO.out⟩
  case round =>
    obtain ⟨a, b, hl, ha, gm, hr⟩ := hrel
    have d0 := hr.c0
    have d1 := hr.c1
    have z1 := hr.fz 1
    have HR := hid hr
    have GM := hid gm
    have HA := hid ha
    have hsl := HL.out
    have hse : s = p ++ (a ++ b) := by rw [HE.out, hl]
    have hll : l.length = a.length + b.length := by rw [hl]; simp
    obtain ⟨k, hk⟩ : ∃ k, k = p.length + a.length := ⟨_, rfl⟩
    have hks : s.length = k + b.length := by omega
    rw [← hk] at d1
    have HLL := hid hl
    have HK := hid hk
    have HSE := hid hse
    clear ha hr gm hl hll hsl hse
    have atEnd : (∀ c r, b = c :: r → blankB c = false) → blankJ l = b := fun hb => by rw [HLL.out]; exact blank_end HA.out hb
    cases b with
    | nil =>
      have HEND := hid (atEnd (by simp))
      have hno : ¬ (k : Int) < (s.length : Int) := by simp at hks; omega
      have hno2 : ¬ k < s.length := by simp at hks; omega
      clear atEnd hks hk
      go_wp2_with fail
      go_quiet (fail)
      go_wp2_with fail
      go_end0
      refine ⟨rfl, mv_trans GM.out (by repeat (first | exact mv_refl _ _ | assumption | apply mv_drewN | apply mv_drew | apply mv_st | apply mv_alloc)), ?_⟩
      rw [HEND.out]
      exact ⟨p ++ a, by rw [HSE.out]; simp, by rw [List.length_append]; exact HR.out⟩
    | cons c b =>
      have hlt : k < s.length := by simp at hks; omega
      have hlti : (k : Int) < (s.length : Int) := by omega
      have hg : s[k]'hlt = c := by
        have h1 : s[k]? = some c := by rw [HSE.out, hk, ← List.append_assoc, ← List.length_append, List.getElem?_append_right (Nat.le_refl _)]; simp
        rw [List.getElem?_eq_getElem hlt] at h1
        exact Option.some.inj h1
      have hk1 : k + 1 ≤ 1000000 := by omega
      clear hk
      cases hc : blankB c with
      | true =>
        have HM := hid hc
        obtain ⟨i, hi⟩ := blank_ix hc
        have HI := hid hi
        clear atEnd hc hks hi
        go_wp2_with fail
        go_quiet ((go_at_call 35; exact blankIx_quiet c i HI.out _ _))
        go_wp2_with fail
        go_roundw
        case rel =>
          refine ⟨a ++ [c], b, by rw [HLL.out]; simp, fun x hx => ?_, mv_trans GM.out (by repeat (first | exact mv_refl _ _ | assumption | apply mv_drewN | apply mv_drew | apply mv_st | apply mv_alloc)), (HR.out.drewN _).setN _ _ (by rw [HK.out]; simp; omega)⟩
          rcases List.mem_append.1 hx with hx | hx
          · exact HA.out x hx
          · simp at hx; rw [hx]; exact HM.out
        case measure =>
          rw [World.cell?_setCell_same _ _ _ (show (wr.drewN _).cell? ⟨R, 1, none⟩ = some _ from d1), d1]
          simp [intOf]; omega
      | false =>
        have HEND := hid (atEnd (fun x r e => by injection e with e _; rw [← e]; exact hc))
        have HI := hid (blank_ix_not hc)
        clear atEnd hc hks
        go_wp2_with fail
        go_quiet ((go_at_call 35; exact blankIx_quiet c (-1) HI.out _ _))
        go_wp2_with fail
        go_end0
        refine ⟨rfl, mv_trans GM.out (by repeat (first | exact mv_refl _ _ | assumption | apply mv_drewN | apply mv_drew | apply mv_st | apply mv_alloc)), ?_⟩
        rw [HEND.out]
        exact ⟨p ++ a, by rw [HSE.out]; simp, by rw [List.length_append]; exact HR.out⟩
set_option maxRecDepth 100000 in
set_option maxHeartbeats 1000000 in
theorem jlacks_any (w : World) (R : Nat) (s l : List UInt8) (h : JRd w R s l) :
    Calls Tryd.prog 34 #[.pointer (some ⟨R, 0, none⟩)] w fun e w' => e = .panicked [{ v := faultJ (lackJ l).1 (s.length - (lackJ l).2 : Nat), recovered := false }] ∧ ∃ m, w' = w.drewN m := by
  obtain ⟨p, he, ho⟩ := h
  have c0 := ho.c0
  have c1 := ho.c1
  have hlen : s.length = p.length + l.length := by rw [he]; simp
  have HL := hid hlen
  clear ho he
  cases l with
  | nil =>
    have hno : ((p.length : Int) == (s.length : Int)) = true := by simp at hlen; simp; omega
    have hno2 : (p.length == s.length) = true := by simp at hlen; simp; omega
    have hq : s.length - (lackJ []).2 = p.length := by simp at hlen; simp [lackJ]; omega
    rw [hq]
    clear hlen hq
    go_enter Tryd.func34, Tryd.ntmps34
    go_wp2_with fail
    go_quiet (fail)
    go_wp2_with fail
    refine (jthrow_any _ _ _ _).mono ?_
    rintro e w2 ⟨rfl, rfl⟩
    exact ⟨rfl, rfl, _, rfl⟩
  | cons c r =>
    have hno : ((p.length : Int) == (s.length : Int)) = false := by simp at hlen; simp; omega
    have hno2 : (p.length == s.length) = false := by simp at hlen; simp; omega
    have hq : s.length - (lackJ (c :: r)).2 = p.length := by simp at hlen; simp [lackJ]; omega
    rw [hq]
    clear hlen hq
    go_enter Tryd.func34, Tryd.ntmps34
    go_wp2_with fail
    go_quiet (fail)
    go_wp2_with fail
    refine (jthrow_any _ _ _ _).mono ?_
    rintro e w2 ⟨rfl, rfl⟩
    exact ⟨rfl, rfl, _, rfl⟩
set_option maxRecDepth 100000 in
set_option maxHeartbeats 1000000 in
theorem jwant_any (w : World) (R : Nat) (s l : List UInt8) (c : UInt8) (h : JRd w R s l) (hs : s.length ≤ 1000000) :
    Calls Tryd.prog 32 #[.pointer (some ⟨R, 0, none⟩), .int .u8 (c.toNat : Int)] w (JRdP s R VU (wantJ c l) w) := by
  have H := hid h
  clear h
  go_enter Tryd.func32, Tryd.ntmps32
  go_wp2_with fail
  refine (jis_any w R s l c H.out hs).mono ?_
  rintro e w1 ⟨rfl, gm, hr⟩
  have GM := hid gm
  have HR := hid hr
  clear gm hr
  cases hi : isJ c l with
  | some t =>
    have HI := hid hi
    clear hi
    go_wp2_with fail
    go_end0
    exact JRdP.yes (mv_trans GM.out (by repeat (first | exact mv_refl _ _ | assumption | apply mv_drewN | apply mv_drew | apply mv_st | apply mv_alloc))) (by unfold wantJ; rw [HI.out]) rfl (by have := HR.out; rw [HI.out] at this; exact this)
  | none =>
    have HI := hid hi
    clear hi
    go_wp2_with fail
    refine (jlacks_any _ R s l (by have := HR.out; rw [HI.out] at this; exact this)).mono ?_
    rintro e w2 ⟨rfl, m, rfl⟩
    exact ⟨rfl, JRdP.no (mv_trans GM.out (by repeat (first | exact mv_refl _ _ | assumption | apply mv_drewN | apply mv_drew | apply mv_st | apply mv_alloc))) (by unfold wantJ; rw [HI.out]) rfl⟩

end Go.Proofs.YtlejbindochiiaaDoor
