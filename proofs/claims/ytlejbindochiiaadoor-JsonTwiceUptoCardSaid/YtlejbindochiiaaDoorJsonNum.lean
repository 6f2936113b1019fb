/-
  CONTRACT of json.number.
-/
import Derived.Test.YtlejbindochiiaaDoorRdr
import Derived.Test.YtlejbindochiiaaDoorJsonStillL
import Derived.Test.YtlejbindochiiaaDoorRowSet
import Derived.Deep.Cut
import Derived.Deep.CutRange
namespace Go.Proofs.YtlejbindochiiaaDoor
open Go.RowKit
set_option linter.unusedVariables false
set_option linter.unusedSimpArgs false

theorem digs_end {a b : List UInt8} (ha : ∀ c ∈ a, dgJ c = true) (hb : ∀ c r, b = c :: r → dgJ c = false) : digsJ (a ++ b) = a.length := by
  unfold digsJ
  rw [List.takeWhile_append_of_pos ha]
  cases b with
  | nil => simp
  | cons c r => rw [List.takeWhile_cons_of_neg (by simp [hb c r rfl])]; simp
/-- one cell that holds a number -/
def NuO (w : World) (B : Nat) (k : Nat) : Prop := w.heap[B]? = some (.cells #[.int .i64 (k : Int)] 3)
theorem NuO.lt {w : World} {B k : Nat} (h : NuO w B k) : B < w.heap.size := (Array.getElem?_eq_some_iff.1 h).1
theorem NuO.c0 {w : World} {B k : Nat} (h : NuO w B k) : w.cell? ⟨B, 0, none⟩ = some (.int .i64 (k : Int)) := by rw [cell_of_row w B 0 _ _ _ h]; rfl
theorem NuO.fz {w : World} {B k : Nat} (h : NuO w B k) : w.frozen? ⟨B, 0, none⟩ = false := frozen_of_row w B 0 _ _ h
theorem NuO.drewN {w : World} {B k : Nat} (h : NuO w B k) (n : Nat) : NuO (w.drewN n) B k := h
theorem NuO.grow {w w' : World} {B k : Nat} (h : NuO w B k) (g : G w w') : NuO w' B k := (g.below.block B h.lt).trans h
theorem NuO.set {w : World} {B k : Nat} (h : NuO w B k) (n : Int) (k' : Nat) (e : n = (k' : Int)) : NuO (w.setCell ⟨B, 0, none⟩ (.int .i64 n)) B k' := by
  subst e
  have h' : w.heap[B]? = _ := h
  show (w.setCell _ _).heap[B]? = _
  simp [World.setCell, Array.getElem?_modify, h']
theorem drop_get {s : List UInt8} {k : Nat} {c : UInt8} {r : List UInt8} (h : s.drop k = c :: r) : ∃ hk : k < s.length, s[k]'hk = c := by
  have hk : k < s.length := by
    have := congrArg List.length h
    simp at this; omega
  refine ⟨hk, ?_⟩
  have := List.drop_eq_getElem_cons hk
  rw [h] at this
  injection this with h1 _
  exact h1.symm
theorem drop_more {s a b : List UInt8} {k : Nat} (h : s.drop k = a ++ b) : s.drop (k + a.length) = b := by
  rw [← List.drop_drop, h]; simp
set_option maxRecDepth 100000 in
set_option maxHeartbeats 2000000 in
theorem numDigs_any (s : List UInt8) (k Bi Bs : Nat) (w : World) (hne : Bi ≠ Bs) (hi : NuO w Bi k) (hs : w.cell? ⟨Bs, 0, none⟩ = some (.string (S s))) (hk : k ≤ s.length) (hl : s.length ≤ 1000000) :
    Calls Tryd.prog 43 #[.pointer (some ⟨Bi, 0, none⟩), .pointer (some ⟨Bs, 0, none⟩)] w fun e w' => e = .returned (.bool (decide (0 < digsJ (s.drop k)))) ∧ w.grownBy w' (some Bi) ∧ NuO w' Bi (k + digsJ (s.drop k)) := by
  have c0 := hi.c0
  have HI := hid hi
  have HS := hid hs
  have hlt0 := hi.lt
  clear hi
  go_enter Tryd.func43, Tryd.ntmps43
  go_wp2_with fail
  go_loopw [] (fun wr => ∃ a b : List UInt8, s.drop k = a ++ b ∧ (∀ c ∈ a, dgJ c = true) ∧ w.grownBy wr (some Bi) ∧ NuO wr Bi (k + a.length)) (fun wr => s.length - (intOf ((wr.cell? ⟨Bi, 0, none⟩).getD .nilIface)).toNat)
  case atStart => exact ⟨[], s.drop k, rfl, by simp, mv_refl _ _, by simpa using HI.out⟩
  case round =>
    obtain ⟨a, b, hd, ha, gm, hr⟩ := hrel
    have d0 := hr.c0
    have z0 := hr.fz
    have ds : wr.cell? ⟨Bs, 0, none⟩ = some (.string (S s)) := gm.cell HS.out (by simpa using fun e => hne e.symm)
    have HR := hid hr
    have GM := hid gm
    have HA := hid ha
    have hm := drop_more hd
    have hll : s.length - k = a.length + b.length := by have := congrArg List.length hd; simpa using this
    obtain ⟨q, hq⟩ : ∃ q, q = k + a.length := ⟨_, rfl⟩
    have HD := hid hd
    rw [← hq] at hm d0
    have HQ := hid hq
    have hsq : s.length = q + b.length := by omega
    have hka : k ≤ q := by omega
    clear ha hr gm hd hll hs c0 hk
    have atEnd : (∀ c r, b = c :: r → dgJ c = false) → digsJ (s.drop k) = a.length := fun hb => by rw [HD.out]; exact digs_end HA.out hb
    cases b with
    | nil =>
      have HE := hid (atEnd (by simp))
      have hno : ¬ (q : Int) < (s.length : Int) := by simp at hsq; omega
      have hno2 : ¬ q < s.length := by simp at hsq; omega
      clear atEnd hsq hm hq
      go_wp2_with fail
      go_ret
      refine ⟨?_, mv_trans GM.out (by repeat (first | exact mv_refl _ _ | assumption | apply mv_drewN | apply mv_drew | apply mv_st | apply mv_alloc)), by rw [HE.out]; exact HR.out⟩
      rw [HE.out, HQ.out]
      congr 2
      simp
    | cons c b =>
      obtain ⟨hlt, hg⟩ := drop_get hm
      have hlti : (q : Int) < (s.length : Int) := by omega
      clear hsq hm hq
      by_cases h1 : 48 ≤ c.toNat
      · have h1i : (48 : Int) ≤ (c.toNat : Int) := by omega
        by_cases h2 : c.toNat ≤ 57
        · have h2i : (c.toNat : Int) ≤ 57 := by omega
          have hq1 : q + 1 ≤ 1000000 := by omega
          have HC := hid (show dgJ c = true by unfold dgJ; simp [h1, h2])
          clear atEnd
          go_wp2_with fail
          go_roundw
          case rel =>
            refine ⟨a ++ [c], b, by rw [HD.out]; simp, fun x hx => ?_, mv_trans GM.out (by repeat (first | exact mv_refl _ _ | assumption | apply mv_drewN | apply mv_drew | apply mv_st | apply mv_alloc)), HR.out.set _ _ (by rw [HQ.out]; simp; omega)⟩
            rcases List.mem_append.1 hx with hx | hx
            · exact HA.out x hx
            · simp at hx; rw [hx]; exact HC.out
          case measure =>
            rw [World.cell?_setCell_same _ _ _ d0, d0]
            simp [intOf]; omega
        · have h2i : ¬ (c.toNat : Int) ≤ 57 := by omega
          have HE := hid (atEnd (fun x r e => by injection e with e _; rw [← e]; unfold dgJ; simp [h2]))
          clear atEnd
          go_wp2_with fail
          go_ret
          refine ⟨?_, mv_trans GM.out (by repeat (first | exact mv_refl _ _ | assumption | apply mv_drewN | apply mv_drew | apply mv_st | apply mv_alloc)), by rw [HE.out]; exact HR.out⟩
          rw [HE.out, HQ.out]
          congr 2
          simp
      · have h1i : ¬ (48 : Int) ≤ (c.toNat : Int) := by omega
        have HE := hid (atEnd (fun x r e => by injection e with e _; rw [← e]; unfold dgJ; simp [h1]))
        clear atEnd
        go_wp2_with fail
        go_ret
        refine ⟨?_, mv_trans GM.out (by repeat (first | exact mv_refl _ _ | assumption | apply mv_drewN | apply mv_drew | apply mv_st | apply mv_alloc)), by rw [HE.out]; exact HR.out⟩
        rw [HE.out, HQ.out]
        congr 2
        simp

/-! ## number -/
def isAt (l : List UInt8) (c : UInt8) : Bool := l.head? == some c
theorem isAt_get {s : List UInt8} {k : Nat} (h : k < s.length) (c : UInt8) : isAt (s.drop k) c = (s[k]'h == c) := by
  unfold isAt; rw [List.head?_drop, List.getElem?_eq_getElem h]; rfl
theorem isAt_cons {l : List UInt8} {c : UInt8} (h : isAt l c = true) : ∃ r, l = c :: r := by
  unfold isAt at h
  cases l with
  | nil => simp at h
  | cons d r => simp at h; exact ⟨r, by rw [h]⟩
theorem isAt_not {l : List UInt8} {c d : UInt8} {r : List UInt8} (h : isAt l c = false) (e : l = d :: r) : d ≠ c := by
  subst e; unfold isAt at h; simpa using h
theorem at_lt {s : List UInt8} {k : Nat} {c : UInt8} (h : isAt (s.drop k) c = true) : k + 1 ≤ s.length := by
  obtain ⟨r, e⟩ := isAt_cons h
  have := congrArg List.length e
  simp at this; omega
theorem at_lt2 {s : List UInt8} {k : Nat} {c d : UInt8} (h : (isAt (s.drop k) c || isAt (s.drop k) d) = true) : k + 1 ≤ s.length := by
  rcases Bool.or_eq_true _ _ ▸ h with h | h <;> exact at_lt h
theorem minus_at {s : List UInt8} (h : isAt (s.drop 0) 45 = true) : minusJ s = 1 := by
  obtain ⟨r, e⟩ := isAt_cons h
  simp at e; subst e; rfl
theorem minus_not {s : List UInt8} (h : isAt (s.drop 0) 45 = false) : minusJ s = 0 := by
  cases s with
  | nil => rfl
  | cons c r => rw [minus_cons, if_neg (isAt_not h rfl)]
theorem minus_len (s : List UInt8) : minusJ s ≤ s.length := by
  cases s with
  | nil => exact Nat.le_refl _
  | cons c r => have := minus_le (c :: r); simp; omega
theorem digs_in {s : List UInt8} {k : Nat} (h : k ≤ s.length) : k + digsJ (s.drop k) ≤ s.length := by
  have := digs_le (s.drop k); simp at this; omega
theorem num_nought {s : List UInt8} (h : isAt (s.drop (minusJ s)) 48 = true) : numJ s = minusJ s + 1 + fracJ (s.drop (minusJ s + 1)) := by
  obtain ⟨r, e⟩ := isAt_cons h
  rw [num_bare, ← List.drop_drop, e]
  unfold bareJ
  simp; omega
theorem num_digs {s : List UInt8} (h : isAt (s.drop (minusJ s)) 48 = false) (hd : 0 < digsJ (s.drop (minusJ s))) : numJ s = minusJ s + digsJ (s.drop (minusJ s)) + fracJ (s.drop (minusJ s + digsJ (s.drop (minusJ s)))) := by
  rw [num_bare, ← List.drop_drop]
  generalize s.drop (minusJ s) = l at *
  cases l with
  | nil => simp [digs_nil] at hd
  | cons c r =>
    have hb : bareJ (c :: r) = digsJ (c :: r) + fracJ ((c :: r).drop (digsJ (c :: r))) := by
      unfold bareJ
      simp only
      rw [if_neg (isAt_not h rfl), if_neg (by omega)]
    rw [hb, if_neg (by omega)]; omega
theorem num_none {s : List UInt8} (h : isAt (s.drop (minusJ s)) 48 = false) (hd : ¬ 0 < digsJ (s.drop (minusJ s))) : numJ s = 0 := by
  rw [num_bare]
  generalize s.drop (minusJ s) = l at *
  cases l with
  | nil => rfl
  | cons c r =>
    have hb : bareJ (c :: r) = 0 := by
      unfold bareJ
      simp only
      rw [if_neg (isAt_not h rfl), if_pos (by omega)]
    rw [hb, if_pos rfl]
theorem frac_not {l : List UInt8} (h : isAt l 46 = false) : fracJ l = expJ l := by
  cases l with
  | nil => rfl
  | cons c r => rw [frac_cons, if_neg (isAt_not h rfl)]
theorem frac_digs {s : List UInt8} {p : Nat} (h : isAt (s.drop p) 46 = true) (hd : 0 < digsJ (s.drop (p + 1))) : fracJ (s.drop p) = 1 + digsJ (s.drop (p + 1)) + expJ (s.drop (p + 1 + digsJ (s.drop (p + 1)))) := by
  obtain ⟨r, e⟩ := isAt_cons h
  have e2 : s.drop (p + 1) = r := by rw [← List.drop_drop, e]; rfl
  have e3 : ∀ n, s.drop (p + 1 + n) = r.drop n := fun n => by rw [← List.drop_drop, e2]
  rw [e3, e2, e, frac_cons, if_pos rfl]
  rw [e2] at hd
  rw [if_neg (by omega)]
theorem frac_none {s : List UInt8} {p : Nat} (h : isAt (s.drop p) 46 = true) (hd : ¬ 0 < digsJ (s.drop (p + 1))) : fracJ (s.drop p) = 0 := by
  obtain ⟨r, e⟩ := isAt_cons h
  have e2 : s.drop (p + 1) = r := by rw [← List.drop_drop, e]; rfl
  rw [e2] at hd
  rw [e, frac_cons, if_pos rfl, if_pos (by omega)]
theorem exp_not {l : List UInt8} (h : (isAt l 101 || isAt l 69) = false) : expJ l = 0 := by
  rw [Bool.or_eq_false_iff] at h
  cases l with
  | nil => rfl
  | cons c r => rw [exp_cons', if_neg (fun e => e.elim (isAt_not h.1 rfl) (isAt_not h.2 rfl))]
theorem exp_at {l : List UInt8} (h : (isAt l 101 || isAt l 69) = true) : ∃ c r, l = c :: r ∧ expJ l = if digsJ (r.drop (signJ r)) = 0 then 0 else 1 + signJ r + digsJ (r.drop (signJ r)) := by
  rw [Bool.or_eq_true] at h
  rcases h with h | h <;> (obtain ⟨r, e⟩ := isAt_cons h; refine ⟨_, r, e, ?_⟩; rw [e, exp_cons', if_pos (by simp)])
theorem exp_digs {s : List UInt8} {p r : Nat} (h : (isAt (s.drop p) 101 || isAt (s.drop p) 69) = true) (hr : p + 1 + signJ (s.drop (p + 1)) = r) (hd : 0 < digsJ (s.drop r)) : p + expJ (s.drop p) = r + digsJ (s.drop r) := by
  obtain ⟨c, t, e, ee⟩ := exp_at h
  have e2 : s.drop (p + 1) = t := by rw [← List.drop_drop, e]; rfl
  rw [e2] at hr
  have e3 : t.drop (signJ t) = s.drop r := by rw [← e2, List.drop_drop, e2, hr]
  rw [ee, e3, if_neg (by omega)]; omega
theorem exp_none {s : List UInt8} {p r : Nat} (h : (isAt (s.drop p) 101 || isAt (s.drop p) 69) = true) (hr : p + 1 + signJ (s.drop (p + 1)) = r) (hd : ¬ 0 < digsJ (s.drop r)) : p + expJ (s.drop p) = p := by
  obtain ⟨c, t, e, ee⟩ := exp_at h
  have e2 : s.drop (p + 1) = t := by rw [← List.drop_drop, e]; rfl
  rw [e2] at hr
  have e3 : t.drop (signJ t) = s.drop r := by rw [← e2, List.drop_drop, e2, hr]
  rw [ee, e3, if_pos (by omega)]; omega
theorem sign_at {l : List UInt8} (h : (isAt l 43 || isAt l 45) = true) : signJ l = 1 := by
  rw [Bool.or_eq_true] at h
  rcases h with h | h <;> (obtain ⟨r, e⟩ := isAt_cons h; rw [e, sign_cons, if_pos (by simp)])
theorem sign_not {l : List UInt8} (h : (isAt l 43 || isAt l 45) = false) : signJ l = 0 := by
  rw [Bool.or_eq_false_iff] at h
  cases l with
  | nil => rfl
  | cons c r => rw [sign_cons, if_neg (fun e => e.elim (isAt_not h.1 rfl) (isAt_not h.2 rfl))]
theorem sign_in {s : List UInt8} {k : Nat} (h : k ≤ s.length) : k + signJ (s.drop k) ≤ s.length := by
  have h1 := sign_le (s.drop k)
  cases hl : s.drop k with
  | nil => simp [signJ]; exact h
  | cons c r => have := congrArg List.length hl; simp at this; rw [hl] at h1; omega
/-- number's own two variables: the text, and how far it is read -/
def NumSt (w wx : World) (s : List UInt8) (k : Nat) : Prop := G w wx ∧ NuO wx (w.heap.size + 1) k ∧ wx.cell? ⟨w.heap.size, 0, none⟩ = some (.string (S s))
theorem NumSt.g {w wx : World} {s : List UInt8} {k : Nat} (h : NumSt w wx s k) : G w wx := h.1
theorem NumSt.mv {w wx wy : World} {s : List UInt8} {k k' : Nat} (h : NumSt w wx s k) (m : wx.grownBy wy (some (w.heap.size + 1))) (hn : NuO wy (w.heap.size + 1) k') : NumSt w wy s k' :=
  ⟨g_of_mv h.1 m (by omega), hn, m.cell h.2.2 (by simp)⟩
theorem NumSt.put {w wx : World} {s : List UInt8} {k k' : Nat} {n : Int} (h : NumSt w wx s k) (e : n = (k' : Int)) : NumSt w (wx.setCell ⟨w.heap.size + 1, 0, none⟩ (.int .i64 n)) s k' :=
  h.mv (mv_set _ _ _ _) (h.2.1.set _ _ e)
theorem NumSt.start (w : World) (s : List UInt8) : NumSt w ((w.alloc (.cells #[.string (S s)] 9)).alloc (.cells #[.int .i64 0] 3)) s 0 := by
  refine ⟨((G.refl w).alloc _).alloc _, ?_, ?_⟩
  · have := (MapKept.heap_alloc (w.alloc (.cells #[.string (S s)] 9)) (.cells #[.int .i64 0] 3)).1
    unfold NuO
    simpa using this
  · rw [cell_alloc_ne _ _ _ _ (by simp; try omega)]
    rw [cell_alloc_at _ _ _ _ _ rfl]; rfl
set_option maxRecDepth 100000 in
set_option maxHeartbeats 4000000 in
theorem number_any (s : List UInt8) (w : World) (hl : s.length ≤ 999999) : Gives 29 #[.string (S s)] w (.int .i64 (numJ s : Int)) := by
  go_enter Tryd.func29, Tryd.ntmps29
  go_upto_region 3 with fail
  have ST : Hid (NumSt w _ s 0) := hid (NumSt.start w s)
  go_cut [17] from 8 to 17 (fun x wx => x = .bool (isAt (s.drop (0)) 45) ∧ NumSt w wx s (0))
  case first =>
    have n0 := ST.out.2.1.c0
    have s0 := ST.out.2.2
    rcases Nat.lt_or_ge (0) s.length with hlt | hge
    · have hlti : ((0 : Nat) : Int) < (s.length : Int) := by omega
      obtain ⟨d, hd⟩ : ∃ d, s[0]'hlt = d := ⟨_, rfl⟩
      have HAT : ∀ c, isAt (s.drop (0)) c = (d == c) := fun c => by rw [isAt_get hlt, hd]
      by_cases h1 : d = 45
      · subst h1
        go_wp2_with fail
        go_meet
        exact ⟨by simp only [HAT]; simp [], ST.out⟩
      · have g1 : (d.toNat == 45) = false := beq_eq_false_iff_ne.2 fun e => h1 (UInt8.toNat_inj.1 e)
        have i1 : ((d.toNat : Int) == 45) = false := beq_eq_false_iff_ne.2 fun e => h1 (UInt8.toNat_inj.1 (by simp; omega))
        have H1 := hid h1
        clear h1
        go_wp2_with fail
        go_meet
        exact ⟨by simp only [HAT]; simp [H1.out], ST.out⟩
    · have hno : ¬ ((0 : Nat) : Int) < (s.length : Int) := by omega
      have hno2 : ¬ (0) < s.length := by omega
      go_wp2_with fail
      go_meet
      exact ⟨by simp [isAt, List.drop_eq_nil_of_le hge], ST.out⟩
  case rest =>
    obtain ⟨rfl, st⟩ := hcut
    obtain ⟨q, hq⟩ : ∃ q, isAt (s.drop 0) 45 = q := ⟨_, rfl⟩
    have HQ := hid hq
    rw [hq]
    have ST := hid st
    clear st hq
    go_upto_if 17 with fail
    go_cut [] from 18 to 19 (fun wx => NumSt w wx s (minusJ s))
    case first =>
      cases q with
      | true =>
        have n0 := ST.out.2.1.c0
        have z0 := ST.out.2.1.fz
        go_wp2_with fail
        go_meet
        rw [show minusJ s = 1 from minus_at HQ.out]
        exact ST.out.put rfl
      | false =>
        go_wp2_with fail
        go_meet
        rw [show minusJ s = 0 from minus_not HQ.out]
        exact ST.out
    case rest =>
      obtain ⟨m, hm⟩ : ∃ m, minusJ s = m := ⟨_, rfl⟩
      have hml : m ≤ s.length := by rw [← hm]; exact minus_len s
      rw [hm] at hcut
      have ST := hid hcut
      have HM := hid hm
      clear hcut hm
      go_upto_region 5 with fail
      go_cut [29] from 20 to 29 (fun x wx => x = .bool (isAt (s.drop (m)) 48) ∧ NumSt w wx s (m))
      case first =>
        have n0 := ST.out.2.1.c0
        have s0 := ST.out.2.2
        rcases Nat.lt_or_ge (m) s.length with hlt | hge
        · have hlti : ((m : Nat) : Int) < (s.length : Int) := by omega
          obtain ⟨d, hd⟩ : ∃ d, s[m]'hlt = d := ⟨_, rfl⟩
          have HAT : ∀ c, isAt (s.drop (m)) c = (d == c) := fun c => by rw [isAt_get hlt, hd]
          by_cases h1 : d = 48
          · subst h1
            go_wp2_with fail
            go_meet
            exact ⟨by simp only [HAT]; simp [], ST.out⟩
          · have g1 : (d.toNat == 48) = false := beq_eq_false_iff_ne.2 fun e => h1 (UInt8.toNat_inj.1 e)
            have i1 : ((d.toNat : Int) == 48) = false := beq_eq_false_iff_ne.2 fun e => h1 (UInt8.toNat_inj.1 (by simp; omega))
            have H1 := hid h1
            clear h1
            go_wp2_with fail
            go_meet
            exact ⟨by simp only [HAT]; simp [H1.out], ST.out⟩
        · have hno : ¬ ((m : Nat) : Int) < (s.length : Int) := by omega
          have hno2 : ¬ (m) < s.length := by omega
          go_wp2_with fail
          go_meet
          exact ⟨by simp [isAt, List.drop_eq_nil_of_le hge], ST.out⟩
      case rest =>
        obtain ⟨rfl, st⟩ := hcut
        obtain ⟨q, hq⟩ : ∃ q, isAt (s.drop m) 48 = q := ⟨_, rfl⟩
        have HQ := hid hq
        rw [hq]
        have ST := hid st
        clear st hq
        go_upto_if 29 with fail
        go_cut [] from 30 to 34 (fun wx => ∃ p, NumSt w wx s p ∧ p ≤ s.length ∧ numJ s = p + fracJ (s.drop p))
        case first =>
          have n0 := ST.out.2.1.c0
          have z0 := ST.out.2.1.fz
          cases q with
          | true =>
            go_wp2_with fail
            go_meet
            exact ⟨m + 1, ST.out.put (by simp), at_lt HQ.out, by rw [← HM.out] at HQ ⊢; exact num_nought HQ.out⟩
          | false =>
            go_wp2_with fail
            refine (numDigs_any s m _ _ _ (by omega) ST.out.2.1 ST.out.2.2 hml (by omega)).mono ?_
            rintro e w2 ⟨rfl, gm, hn2⟩
            have ST2 := hid (ST.out.mv gm hn2)
            have n2 := hn2.c0
            by_cases hd : 0 < digsJ (s.drop m)
            · have hdd : decide (0 < digsJ (s.drop m)) = true := decide_eq_true hd
              rw [hdd]
              go_wp2_with fail
              go_meet
              exact ⟨_, ST2.out, digs_in hml, by rw [← HM.out] at HQ hd ⊢; exact num_digs HQ.out hd⟩
            · have hdd : decide (0 < digsJ (s.drop m)) = false := decide_eq_false hd
              rw [hdd]
              go_wp2_with fail
              go_ret
              exact ⟨by rw [num_none (by rw [← HM.out] at HQ; exact HQ.out) (by rw [← HM.out] at hd; exact hd)]; rfl, ST2.out.g⟩
        case rest =>
          obtain ⟨p, st, hp, hnum⟩ := hcut
          have ST := hid st
          have HN := hid hnum
          have p0 := st.2.1.c0
          clear st hnum
          go_upto_region 10 with fail
          go_cut [45] from 36 to 45 (fun x wx => x = .bool (isAt (s.drop (p)) 46) ∧ NumSt w wx s (p))
          case first =>
            have n0 := ST.out.2.1.c0
            have s0 := ST.out.2.2
            rcases Nat.lt_or_ge (p) s.length with hlt | hge
            · have hlti : ((p : Nat) : Int) < (s.length : Int) := by omega
              obtain ⟨d, hd⟩ : ∃ d, s[p]'hlt = d := ⟨_, rfl⟩
              have HAT : ∀ c, isAt (s.drop (p)) c = (d == c) := fun c => by rw [isAt_get hlt, hd]
              by_cases h1 : d = 46
              · subst h1
                go_wp2_with fail
                go_meet
                exact ⟨by simp only [HAT]; simp [], ST.out⟩
              · have g1 : (d.toNat == 46) = false := beq_eq_false_iff_ne.2 fun e => h1 (UInt8.toNat_inj.1 e)
                have i1 : ((d.toNat : Int) == 46) = false := beq_eq_false_iff_ne.2 fun e => h1 (UInt8.toNat_inj.1 (by simp; omega))
                have H1 := hid h1
                clear h1
                go_wp2_with fail
                go_meet
                exact ⟨by simp only [HAT]; simp [H1.out], ST.out⟩
            · have hno : ¬ ((p : Nat) : Int) < (s.length : Int) := by omega
              have hno2 : ¬ (p) < s.length := by omega
              go_wp2_with fail
              go_meet
              exact ⟨by simp [isAt, List.drop_eq_nil_of_le hge], ST.out⟩
          case rest =>
            obtain ⟨rfl, st⟩ := hcut
            obtain ⟨q, hq⟩ : ∃ q, isAt (s.drop p) 46 = q := ⟨_, rfl⟩
            have HQ := hid hq
            rw [hq]
            have ST := hid st
            clear st hq p0
            go_upto_if 45 with fail
            go_cut [] from 46 to 51 (fun wx => ∃ p, NumSt w wx s p ∧ p ≤ s.length ∧ numJ s = p + expJ (s.drop p))
            case first =>
              have n0 := ST.out.2.1.c0
              have z0 := ST.out.2.1.fz
              cases q with
              | false =>
                go_wp2_with fail
                go_meet
                exact ⟨p, ST.out, hp, by rw [HN.out, frac_not HQ.out]⟩
              | true =>
                have hp1 := at_lt HQ.out
                have ST1 : Hid (∀ wx, NumSt w wx s p → NumSt w (wx.setCell ⟨w.heap.size + 1, 0, none⟩ (.int .i64 ((p : Int) + 1))) s (p + 1)) := hid fun wx h => h.put (by simp)
                go_wp2_with fail
                refine (numDigs_any s (p + 1) _ _ _ (by omega) (ST1.out _ ST.out).2.1 (ST1.out _ ST.out).2.2 hp1 (by omega)).mono ?_
                rintro e w2 ⟨rfl, gm, hn2⟩
                have ST2 := hid ((ST1.out _ ST.out).mv gm hn2)
                have n2 := hn2.c0
                by_cases hd : 0 < digsJ (s.drop (p + 1))
                · have hdd : decide (0 < digsJ (s.drop (p + 1))) = true := decide_eq_true hd
                  rw [hdd]
                  go_wp2_with fail
                  go_meet
                  exact ⟨_, ST2.out, digs_in hp1, by rw [HN.out, frac_digs HQ.out hd]; omega⟩
                · have hdd : decide (0 < digsJ (s.drop (p + 1))) = false := decide_eq_false hd
                  rw [hdd]
                  go_wp2_with fail
                  go_ret
                  exact ⟨by rw [HN.out, frac_none HQ.out hd]; rfl, ST2.out.g⟩
            case rest =>
              clear HN ST HQ hp
              obtain ⟨p, st, hp, hnum⟩ := hcut
              have ST := hid st
              have HN := hid hnum
              have p0 := st.2.1.c0
              clear st hnum
              go_upto_region 15 with fail
              go_cut [68] from 53 to 68 (fun x wx => x = .bool ((isAt (s.drop (p)) 101 || isAt (s.drop (p)) 69)) ∧ NumSt w wx s (p))
              case first =>
                have n0 := ST.out.2.1.c0
                have s0 := ST.out.2.2
                rcases Nat.lt_or_ge (p) s.length with hlt | hge
                · have hlti : ((p : Nat) : Int) < (s.length : Int) := by omega
                  obtain ⟨d, hd⟩ : ∃ d, s[p]'hlt = d := ⟨_, rfl⟩
                  have HAT : ∀ c, isAt (s.drop (p)) c = (d == c) := fun c => by rw [isAt_get hlt, hd]
                  by_cases h1 : d = 101
                  · subst h1
                    go_wp2_with fail
                    go_meet
                    exact ⟨by simp only [HAT]; simp [], ST.out⟩
                  · have g1 : (d.toNat == 101) = false := beq_eq_false_iff_ne.2 fun e => h1 (UInt8.toNat_inj.1 e)
                    have i1 : ((d.toNat : Int) == 101) = false := beq_eq_false_iff_ne.2 fun e => h1 (UInt8.toNat_inj.1 (by simp; omega))
                    have H1 := hid h1
                    clear h1
                    by_cases h2 : d = 69
                    · subst h2
                      go_wp2_with fail
                      go_meet
                      exact ⟨by simp only [HAT]; simp [], ST.out⟩
                    · have g2 : (d.toNat == 69) = false := beq_eq_false_iff_ne.2 fun e => h2 (UInt8.toNat_inj.1 e)
                      have i2 : ((d.toNat : Int) == 69) = false := beq_eq_false_iff_ne.2 fun e => h2 (UInt8.toNat_inj.1 (by simp; omega))
                      have H2 := hid h2
                      clear h2
                      go_wp2_with fail
                      go_meet
                      exact ⟨by simp only [HAT]; simp [H1.out, H2.out], ST.out⟩
                · have hno : ¬ ((p : Nat) : Int) < (s.length : Int) := by omega
                  have hno2 : ¬ (p) < s.length := by omega
                  go_wp2_with fail
                  go_meet
                  exact ⟨by simp [isAt, List.drop_eq_nil_of_le hge], ST.out⟩
              case rest =>
                obtain ⟨rfl, st⟩ := hcut
                obtain ⟨q, hq⟩ : ∃ q, (isAt (s.drop p) 101 || isAt (s.drop p) 69) = q := ⟨_, rfl⟩
                have HQ := hid hq
                rw [hq]
                have ST := hid st
                have n0 := ST.out.2.1.c0
                have z0 := ST.out.2.1.fz
                clear st hq p0
                cases q with
                | false =>
                  go_wp2_with fail
                  go_ret
                  exact ⟨by rw [HN.out, exp_not HQ.out]; rfl, ST.out.g⟩
                | true =>
                  have hp1 := at_lt2 HQ.out
                  have st1 := ST.out.put (n := (p : Int) + 1) (k' := p + 1) (by simp)
                  have hpi : p + 1 ≤ 1000000 := by omega
                  have STn := hid st1
                  clear st1
                  go_upto_region 17 with fail
                  clear ST
                  have ST := STn
                  clear STn n0
                  go_cut [86] from 71 to 86 (fun x wx => x = .bool ((isAt (s.drop (p + 1)) 43 || isAt (s.drop (p + 1)) 45)) ∧ NumSt w wx s (p + 1))
                  case first =>
                    have n0 := ST.out.2.1.c0
                    have s0 := ST.out.2.2
                    rcases Nat.lt_or_ge (p + 1) s.length with hlt | hge
                    · have hlti : ((p + 1 : Nat) : Int) < (s.length : Int) := by omega
                      obtain ⟨d, hd⟩ : ∃ d, s[p + 1]'hlt = d := ⟨_, rfl⟩
                      have HAT : ∀ c, isAt (s.drop (p + 1)) c = (d == c) := fun c => by rw [isAt_get hlt, hd]
                      by_cases h1 : d = 43
                      · subst h1
                        go_wp2_with fail
                        go_meet
                        exact ⟨by simp only [HAT]; simp [], ST.out⟩
                      · have g1 : (d.toNat == 43) = false := beq_eq_false_iff_ne.2 fun e => h1 (UInt8.toNat_inj.1 e)
                        have i1 : ((d.toNat : Int) == 43) = false := beq_eq_false_iff_ne.2 fun e => h1 (UInt8.toNat_inj.1 (by simp; omega))
                        have H1 := hid h1
                        clear h1
                        by_cases h2 : d = 45
                        · subst h2
                          go_wp2_with fail
                          go_meet
                          exact ⟨by simp only [HAT]; simp [], ST.out⟩
                        · have g2 : (d.toNat == 45) = false := beq_eq_false_iff_ne.2 fun e => h2 (UInt8.toNat_inj.1 e)
                          have i2 : ((d.toNat : Int) == 45) = false := beq_eq_false_iff_ne.2 fun e => h2 (UInt8.toNat_inj.1 (by simp; omega))
                          have H2 := hid h2
                          clear h2
                          go_wp2_with fail
                          go_meet
                          exact ⟨by simp only [HAT]; simp [H1.out, H2.out], ST.out⟩
                    · have hno : ¬ ((p + 1 : Nat) : Int) < (s.length : Int) := by omega
                      have hno2 : ¬ (p + 1) < s.length := by omega
                      go_wp2_with fail
                      go_meet
                      exact ⟨by simp [isAt, List.drop_eq_nil_of_le hge], ST.out⟩
                  case rest =>
                    obtain ⟨rfl, st⟩ := hcut
                    obtain ⟨b, hb⟩ : ∃ b, (isAt (s.drop (p + 1)) 43 || isAt (s.drop (p + 1)) 45) = b := ⟨_, rfl⟩
                    have HB := hid hb
                    rw [hb]
                    have ST := hid st
                    have n0 := ST.out.2.1.c0
                    have z0 := ST.out.2.1.fz
                    clear st hb
                    go_upto_if 86 with fail
                    go_cut [] from 87 to 88 (fun wx => NumSt w wx s (p + 1 + signJ (s.drop (p + 1))))
                    case first =>
                      cases b with
                      | true =>
                        go_wp2_with fail
                        go_meet
                        rw [show signJ (s.drop (p + 1)) = 1 from sign_at HB.out]
                        exact ST.out.put (by simp)
                      | false =>
                        go_wp2_with fail
                        go_meet
                        rw [show signJ (s.drop (p + 1)) = 0 from sign_not HB.out]
                        exact ST.out
                    case rest =>
                      clear ST n0 z0
                      have ST := hid hcut
                      have hq1 := sign_in hp1
                      obtain ⟨r, hr⟩ : ∃ r, p + 1 + signJ (s.drop (p + 1)) = r := ⟨_, rfl⟩
                      rw [hr] at ST hq1
                      have HR := hid hr
                      clear hcut hr
                      go_wp2_with fail
                      refine (numDigs_any s r _ _ _ (by omega) ST.out.2.1 ST.out.2.2 hq1 (by omega)).mono ?_
                      rintro e w2 ⟨rfl, gm, hn2⟩
                      have ST2 := hid (ST.out.mv gm hn2)
                      have n2 := hn2.c0
                      by_cases hd : 0 < digsJ (s.drop r)
                      · have hdd : decide (0 < digsJ (s.drop r)) = true := decide_eq_true hd
                        rw [hdd]
                        go_wp2_with fail
                        go_ret
                        exact ⟨by rw [HN.out, exp_digs HQ.out HR.out hd]; rfl, ST2.out.g⟩
                      · have hdd : decide (0 < digsJ (s.drop r)) = false := decide_eq_false hd
                        rw [hdd]
                        go_wp2_with fail
                        go_ret
                        exact ⟨by rw [HN.out, exp_none HQ.out HR.out hd]; rfl, ST2.out.g⟩

end Go.Proofs.YtlejbindochiiaaDoor
