/-
  CONTRACT of json's reader: text.
-/
import Derived.Test.YtlejbindochiiaaDoorJsonEsc
import Derived.Test.YtlejbindochiiaaDoorBuildMv
import Derived.StillTailTactics
namespace Go.Proofs.YtlejbindochiiaaDoor
open Go.RowKit
set_option linter.unusedVariables false
set_option linter.unusedSimpArgs false

theorem esc_len {m : Nat} {l a t : List UInt8} (h : escJ m l = .ok (a, t)) : a.length ≤ 4 ∧ t.length < l.length := by
  cases l with
  | nil => cases h
  | cons c r =>
    rw [escJ_cons] at h
    by_cases hc : c = 117
    · rw [if_pos hc] at h
      obtain ⟨n, u, hf, h⟩ := jnext_ok.1 h
      obtain ⟨p, hp, hpl, _, _⟩ := four_ok hf
      have hu : u.length + 4 = r.length := by rw [hp]; simp; omega
      split at h
      · obtain ⟨low, u2, hf2, h⟩ := jnext_ok.1 h
        obtain ⟨p2, hp2, hpl2, _, _⟩ := four_ok hf2
        have hu2 : u2.length + 4 = (u.drop 2).length := by rw [hp2]; simp; omega
        split at h
        · obtain ⟨_, e, e2⟩ := point_ok h
          subst e2
          rw [e]
          have := (pointL_len ((65536 + (n - 55296) * 1024 + (low - 56320) : Nat) : Int)).2
          refine ⟨this, ?_⟩
          simp at hu2 ⊢; omega
        · cases h
      · obtain ⟨_, e, e2⟩ := point_ok h
        subst e2
        rw [e]
        have := (pointL_len ((n : Nat) : Int)).2
        exact ⟨this, by simp; omega⟩
    · rw [if_neg hc] at h
      cases hl : longJ c with
      | none => rw [hl] at h; cases h
      | some d =>
        rw [hl] at h
        injection h with h
        injection h with h1 h2
        subst h1; subst h2
        exact ⟨by simp, by simp⟩
theorem textJ_nil (f : Nat) : textJ (f + 1) [] = .error (7, 0) := rfl
theorem next_next {α β γ : Type} {x : JRs α} {f : α → List UInt8 → JRs β} {g : β → List UInt8 → Except JEr γ} : JRs.next (JRs.next x f) g = JRs.next x fun a t => JRs.next (f a t) g := by
  cases x with
  | ok p => obtain ⟨a, t⟩ := p; rfl
  | error e => rfl
theorem byteOf_nat (c : UInt8) : byteOf (c.toNat : Int) = c := by unfold byteOf; simp
set_option maxRecDepth 100000 in
set_option maxHeartbeats 8000000 in
theorem jtext_any (w : World) (R : Nat) (s l : List UInt8) (h : JRd w R s l) (hs : s.length ≤ 1000000) :
    Calls Tryd.prog 30 #[.pointer (some ⟨R, 0, none⟩)] w (JRdP s R VSJ (strJ l) w) := by
  have H := hid h
  clear h
  go_enter Tryd.func30, Tryd.ntmps30
  go_wp2_with fail
  refine (jwant_any w R s l 34 H.out hs).mono ?_
  intro e w1 hp
  cases hw : wantJ 34 l with
  | error q =>
    obtain ⟨ec, ek⟩ := q
    rw [hw] at hp
    obtain ⟨gm, rfl⟩ := hp.bad
    exact ⟨rfl, JRdP.no gm (by unfold strJ; rw [hw]; rfl) rfl⟩
  | ok q =>
    obtain ⟨_, r0⟩ := q
    rw [hw] at hp
    obtain ⟨gm, v, rfl, rfl, hr⟩ := hp.ok
    have M1 := hid gm
    have H1 := hid hr
    have HSTR : Hid (strJ l = textJ (r0.length + 1) r0) := hid (by unfold strJ; rw [hw]; rfl)
    have hR1 := hr.lt
    have hls : r0.length ≤ s.length := by obtain ⟨p, he, _⟩ := hr; rw [he]; simp
    clear hw hp gm hr
    go_wp2_with fail
    obtain ⟨B, hB⟩ : ∃ B, w1.heap.size = B := ⟨_, rfl⟩
    rw [hB]
    have HB := hid hB
    have hRB : R < B := by omega
    have ISB := hid (IsB.new (G.refl w1))
    rw [hB] at ISB
    clear hB hR1
    go_loopw [4] (fun fv wr => ∃ (n : Nat) (out t : List UInt8), textJ (r0.length + 1) r0 = JRs.next (textJ n t) (fun b u => .ok (out ++ b, u)) ∧ t.length < n ∧ out.length + 4 * t.length ≤ 4 * r0.length ∧ w1.grownBy wr (some R) ∧ IsB w1 wr B out ∧ JRd wr R s t) (fun _ wr => s.length - (intOf ((wr.cell? ⟨R, 1, none⟩).getD .nilIface)).toNat)
    case atStart =>
      refine ⟨r0.length + 1, [], r0, ?_, by omega, by simp, (by repeat (first | exact mv_refl _ _ | assumption | apply mv_drewN | apply mv_drew | apply mv_st | apply mv_alloc)), ISB.out, H1.out.grow (by repeat (first | exact G.refl _ | assumption | apply G.drew | apply G.drewN | apply G.alloc | refine G.trans ?_ (by assumption)))⟩
      cases textJ (r0.length + 1) r0 with
      | ok p => obtain ⟨a, t⟩ := p; rfl
      | error e => rfl
    case round =>
      obtain ⟨n, out, t, htx, htn, hol, gm, hb, hr⟩ := hrel
      obtain ⟨p, he, ho⟩ := hr
      have c0 := ho.c0
      have c1 := ho.c1
      have z1 := ho.fz 1
      have HR : Hid (JRd wr R s t) := hid ⟨p, he, ho⟩
      have HO := hid ho
      have HE := hid he
      have HX := hid htx
      have GM := hid gm
      have HBO := hid hb
      have hlen : s.length = p.length + t.length := by rw [he]; simp
      have HL := hid hlen
      have HTN := hid htn
      have HOL := hid hol
      have hsz : w1.heap.size ≤ wr.heap.size := gm.size
      have HSZ := hid hsz
      have hRw : R < w1.heap.size := by rw [HB.out]; exact hRB
      have HRW := hid hRw
      clear ho he htx gm hb htn hol hsz hRw
      obtain ⟨n, rfl⟩ : ∃ m, n = m + 1 := ⟨n - 1, by have := HTN.out; omega⟩
      cases t with
      | nil =>
        have hno : ((p.length : Int) == (s.length : Int)) = true := by simp at hlen; simp; omega
        have hno2 : (p.length == s.length) = true := by simp at hlen; simp; omega
        have hq : s.length - 0 = p.length := by simp at hlen; omega
        have HQ := hid hq
        clear hlen hq
        go_wp2_with fail
        go_quiet (fail)
        go_wp2_with fail
        refine (jthrow_any _ _ _ _).mono ?_
        rintro e w2 ⟨rfl, rfl⟩
        exact ⟨rfl, JRdP.no (mv_trans M1.out (mv_trans GM.out (by repeat (first | exact mv_refl _ _ | assumption | apply mv_drewN | apply mv_drew | apply mv_st | apply mv_alloc)))) (by rw [HSTR.out, HX.out, textJ_nil]; rfl) HQ.out⟩
      | cons c r =>
        have hlt : p.length < s.length := by simp at hlen; omega
        have hno : ((p.length : Int) == (s.length : Int)) = false := by simp; omega
        have hno2 : (p.length == s.length) = false := by simp; omega
        have hg : s[p.length]'hlt = c := by have := HE.out; subst this; simp
        have hle : p.length + 1 ≤ 1000000 := by omega
        have hq : s.length - (r.length + 1) = p.length := by simp at hlen; omega
        have HQ := hid hq
        clear hlen hq
        go_wp2_with fail
        go_quiet (fail)
        go_wp2_with fail
        refine (jis_any _ R s (c :: r) 34 (HR.out.grow (by repeat (first | exact G.refl _ | assumption | apply G.drew | apply G.drewN | apply G.alloc | refine G.trans ?_ (by assumption)))) hs).mono ?_
        rintro e w2 ⟨rfl, gm2, hr2⟩
        have M2 := hid (mv_trans GM.out (mv_trans (by repeat (first | exact mv_refl _ _ | assumption | apply mv_drewN | apply mv_drew | apply mv_st | apply mv_alloc)) gm2))
        have HB2 := hid ((HBO.out.grow (show G wr _ from (by repeat (first | exact G.refl _ | assumption | apply G.drew | apply G.drewN | apply G.alloc | refine G.trans ?_ (by assumption))))).mv gm2 HRW.out)
        by_cases h34 : c = 34
        · subst h34
          rw [isJ_cons] at hr2 ⊢
          have HR2 : Hid (JRd w2 R s r) := hid hr2
          have hsz2 : w1.heap.size ≤ w2.heap.size := M2.out.size
          have HSZ2 := hid hsz2
          clear gm2 hr2 hsz2
          go_wp2_with fail
          refine (string_mv HB2.out HSZ2.out).mono ?_
          rintro e w3 ⟨rfl, g3⟩
          have G3 := hid g3
          clear g3
          go_wp2_with fail
          go_ret
          obtain ⟨p2, he2, ho2⟩ := HR2.out
          exact JRdP.yes (mv_trans M1.out (mv_cut M2.out G3.out)) (by rw [HSTR.out, HX.out, textJ_step, if_pos rfl]; simp [JRs.next]) rfl ⟨p2, he2, ho2.cut HSZ2.out HRW.out G3.out⟩
        · have HN34 := hid h34
          have hi34 : isJ 34 (c :: r) = none := by rw [isJ_eq, if_neg h34]
          rw [hi34] at hr2 ⊢
          have HR2 : Hid (JRd w2 R s (c :: r)) := hid hr2
          clear gm2 hr2 h34 hi34
          go_wp2_with fail
          refine (jis_any _ R s (c :: r) 92 HR2.out hs).mono ?_
          rintro e w3 ⟨rfl, gm3, hr3⟩
          have M3 := hid (mv_trans M2.out gm3)
          have HB3 := hid (HB2.out.mv gm3 HRW.out)
          by_cases h92 : c = 92
          · subst h92
            rw [isJ_cons] at hr3 ⊢
            have HR3 : Hid (JRd w3 R s r) := hid hr3
            clear gm3 hr3
            go_wp2_with fail
            refine (jescape_any _ R s r (r.length + 1) p.length HR3.out hs HQ.out).mono ?_
            intro e w4 hp4
            cases hes : escJ (r.length + 1) r with
            | error q =>
              obtain ⟨ec, ek⟩ := q
              rw [hes] at hp4
              obtain ⟨gm4, rfl⟩ := hp4.bad
              exact ⟨rfl, JRdP.no (mv_trans M1.out (mv_trans M3.out gm4)) (by rw [HSTR.out, HX.out, textJ_step, if_neg (by decide), if_pos rfl, hes]; rfl) rfl⟩
            | ok q =>
              obtain ⟨a, t2⟩ := q
              rw [hes] at hp4
              obtain ⟨gm4, v, rfl, rfl, hr4⟩ := hp4.ok
              have M4 := hid (mv_trans M3.out gm4)
              have HB4 := hid (HB3.out.mv gm4 HRW.out)
              have HR4 := hid hr4
              have HSZ4 : Hid (w1.heap.size ≤ w4.heap.size) := hid M4.out.size
              have hal := esc_len hes
              have HES := hid hes
              have HAL := hid hal
              clear gm4 hr4 hp4 hes hal
              go_wp2_with fail
              refine (writeString_mv HB4.out HSZ4.out a (by have := HAL.out; have := HOL.out; simp at this; omega)).mono ?_
              rintro e w5 ⟨rfl, hb5, g5⟩
              have G5 := hid g5
              have HB5 := hid hb5
              clear g5 hb5
              obtain ⟨p4, he4, ho4⟩ := HR4.out
              have ho5 := ho4.cut HSZ4.out HRW.out G5.out
              have d1 := ho5.c1
              have HR5 : Hid (JRd w5 R s t2) := hid ⟨p4, he4, ho5⟩
              have hl4 : s.length = p4.length + t2.length := by rw [he4]; simp
              have HL4 := hid hl4
              clear he4 ho4 ho5 hl4
              go_wp2_with fail
              go_roundw
              case rel =>
                refine ⟨n, out ++ a, t2, ?_, by have := HAL.out.2; have := HTN.out; simp at this; omega, by have := HAL.out; have := HOL.out; simp at this ⊢; omega, mv_cut M4.out G5.out, HB5.out, HR5.out⟩
                rw [HX.out, textJ_step, if_neg (by decide), if_pos rfl, HES.out, jnext_pos]
                cases textJ n t2 with
                | ok q => obtain ⟨b, u⟩ := q; simp [JRs.next]
                | error e => rfl
              case measure =>
                rw [d1, c1]
                have := HL4.out; have := HL.out; have := HAL.out.2
                simp [intOf] at *; omega
          · have HN92 := hid h92
            have hi92 : isJ 92 (c :: r) = none := by rw [isJ_eq, if_neg h92]
            rw [hi92] at hr3 ⊢
            have HR3 : Hid (JRd w3 R s (c :: r)) := hid hr3
            obtain ⟨p3, he3, ho3⟩ := hr3
            obtain rfl : p3 = p := by
              have := HE.out
              rw [he3] at this
              exact (List.append_cancel_right_eq _ _ _).mp this
            have d0 := ho3.c0
            have d1 := ho3.c1
            have y1 := ho3.fz 1
            have HO3 := hid ho3
            clear gm3 h92 hi92 he3 ho3
            by_cases h32 : c.toNat < 32
            · have h32i : (c.toNat : Int) < 32 := by omega
              go_wp2_with fail
              go_quiet (fail)
              go_wp2_with fail
              refine (jthrow_any _ _ _ _).mono ?_
              rintro e w4 ⟨rfl, rfl⟩
              exact ⟨rfl, JRdP.no (mv_trans M1.out (mv_trans M3.out (by repeat (first | exact mv_refl _ _ | assumption | apply mv_drewN | apply mv_drew | apply mv_st | apply mv_alloc)))) (by rw [HSTR.out, HX.out, textJ_step, if_neg HN34.out, if_neg HN92.out, if_pos h32]; rfl) HQ.out⟩
            · have h32i : ¬ (c.toNat : Int) < 32 := by omega
              have h32d : decide ((c.toNat : Int) < 32) = false := decide_eq_false h32i
              go_wp2_with fail
              go_quiet (fail)
              go_wp2_with fail
              have HB4 : Hid (IsB w1 (w3.drewN nq) B out) := hid (HB3.out.grow (by repeat (first | exact G.refl _ | assumption | apply G.drew | apply G.drewN | apply G.alloc | refine G.trans ?_ (by assumption))))
              have HO4 : Hid (RdO 58 [] (w3.drewN nq) R s p3.length) := hid (HO3.out.drewN _)
              have M4 : Hid (w1.grownBy (w3.drewN nq) (some R)) := hid (mv_trans M3.out (by repeat (first | exact mv_refl _ _ | assumption | apply mv_drewN | apply mv_drew | apply mv_st | apply mv_alloc)))
              clear d0 d1 y1
              generalize w3.drewN nq = w4 at HB4 HO4 M4 ⊢
              have d0 := HO4.out.c0
              have d1 := HO4.out.c1
              go_still_tail 9, (by kernel_rfl)
              change wpList _ _ _ _ _ w4.drew
              go_wp2_with fail
              refine (writeByte_mv (w := w4.drew) (HB4.out.grow ((G.refl w4).drew)) (show w1.heap.size ≤ w4.drew.heap.size from M4.out.size) (c.toNat : Int) (by omega) (by have := c.toNat_lt; omega) (by have := HOL.out; simp at this; omega)).mono ?_
              rintro e w5 ⟨rfl, hb5, g5⟩
              rw [byteOf_nat] at hb5
              have ho5 := (show RdO 58 [] w4.drew R s p3.length from HO4.out).cut (show w1.heap.size ≤ w4.heap.size from M4.out.size) HRW.out g5
              have M5 := hid (mv_cut (show w1.grownBy w4.drew (some R) from mv_drew M4.out) g5)
              have HB5 := hid hb5
              have e1 := ho5.c1
              have x1 := ho5.fz 1
              have HO5 := hid ho5
              clear hb5 g5 ho5 d0 d1
              go_wp2_with fail
              go_roundw
              case rel =>
                refine ⟨n, out ++ [c], r, ?_, by have := HTN.out; simp at this; omega, by have := HOL.out; simp at this ⊢; omega, mv_st M5.out, HB5.out.mv (mv_set _ _ _ _) HRW.out, ⟨p3 ++ [c], by rw [HE.out]; simp, HO5.out.setN _ _ (by simp)⟩⟩
                rw [HX.out, textJ_step, if_neg HN34.out, if_neg HN92.out, if_neg h32]
                cases textJ n r with
                | ok q => obtain ⟨b, u⟩ := q; simp [JRs.next]
                | error e => rfl
              case measure =>
                rw [World.cell?_setCell_same _ _ _ e1, c1]
                simp [intOf]; omega

end Go.Proofs.YtlejbindochiiaaDoor
