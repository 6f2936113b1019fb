/-
  CONTRACTS of json's reader: four, escape, text.
-/
import Derived.Test.YtlejbindochiiaaDoorJsonRd
import Derived.Test.YtlejbindochiiaaDoorJsonStillL
namespace Go.Proofs.YtlejbindochiiaaDoor
open Go.RowKit
set_option linter.unusedVariables false
set_option linter.unusedSimpArgs false

def hexB : List UInt8 := [48, 49, 50, 51, 52, 53, 54, 55, 56, 57, 97, 98, 99, 100, 101, 102]
def lowJ (c : UInt8) : UInt8 := if 65 ≤ c.toNat ∧ c.toNat ≤ 70 then c + 32 else c
theorem hex_ix (c : UInt8) : Lib.indexByte hexB (lowJ c) = match digitJ c with | some d => (d : Int) | none => -1 := by
  have key := byte_all (fun c => decide (Lib.indexByte hexB (lowJ c) = match digitJ c with | some d => (d : Int) | none => -1)) (by decide +kernel) c
  exact of_decide_eq_true key
theorem hexIx_any (v : Int) (c : UInt8) (k : Int) (hv : v = (c.toNat : Int)) (hk : Lib.indexByte hexB c = k) (w : World) : Pure 35 #[.string ⟨#[48, 49, 50, 51, 52, 53, 54, 55, 56, 57, 97, 98, 99, 100, 101, 102]⟩, .int .u8 v] w (.int .i64 k) := by
  subst hv; subst hk; exact indexByte_any hexB c w
theorem or_hex (n d : Nat) (hn : n < 65536) (hd : d < 16) : bits .or .i64 ((n : Int) * 16) (d : Int) = ((n * 16 + d : Nat) : Int) := by
  have e : ((n : Int) * 16) = ((n * 16 : Nat) : Int) := by omega
  rw [e]
  show IntKind.i64.wrap ((BitVec.ofInt 64 ((n * 16 : Nat) : Int) ||| BitVec.ofInt 64 (d : Int)).toNat : Int) = _
  rw [BitVec.ofInt_natCast, BitVec.ofInt_natCast, BitVec.toNat_or, BitVec.toNat_ofNat, BitVec.toNat_ofNat, Nat.mod_eq_of_lt (by omega), Nat.mod_eq_of_lt (by omega)]
  have h := Nat.two_pow_add_eq_or_of_lt (i := 4) (b := d) (by omega) n
  rw [show n * 16 = 2 ^ 4 * n by omega, ← h]
  have hw : ∀ x : Nat, x < 9223372036854775808 → IntKind.i64.wrap (x : Int) = (x : Int) := fun x hx => by
    simp [IntKind.wrap, IntKind.bits, IntKind.signed]; omega
  exact hw _ (by omega)
theorem dig_none {c : UInt8} (h : digitJ c = none) : ¬ (65 ≤ c.toNat ∧ c.toNat ≤ 70) := by
  have key := byte_all (fun c => decide (digitJ c = none → ¬ (65 ≤ c.toNat ∧ c.toNat ≤ 70))) (by decide +kernel) c
  exact of_decide_eq_true key h
theorem fourJ_step (k n : Nat) (c : UInt8) (r : List UInt8) : fourJ (k + 1) n (c :: r) = match digitJ c with | none => .error (3, r.length + 1) | some d => fourJ k (n * 16 + d) r := rfl
theorem fourJ_nil (k n : Nat) : fourJ (k + 1) n [] = .error (7, 0) := rfl
set_option maxRecDepth 100000 in
set_option maxHeartbeats 4000000 in
theorem jfour_any (w : World) (R : Nat) (s l : List UInt8) (h : JRd w R s l) (hs : s.length ≤ 1000000) :
    Calls Tryd.prog 50 #[.pointer (some ⟨R, 0, none⟩)] w (JRdP s R VN (fourJ 4 0 l) w) := by
  have H := hid h
  clear h
  go_enter Tryd.func50, Tryd.ntmps50
  go_wp2_with fail
  go_loopw [3, 4, 5, 6] (fun nv cv kv iv wr => ∃ (i n : Nat) (t : List UInt8), i ≤ 4 ∧ iv = .int .i64 i ∧ nv = .int .i64 n ∧ n < 16 ^ i ∧ fourJ 4 0 l = fourJ (4 - i) n t ∧ w.grownBy wr (some R) ∧ JRd wr R s t) (fun _ _ _ i _ => 4 - (intOf i).toNat)
  case atStart => exact ⟨0, 0, l, by omega, rfl, rfl, by simp, rfl, mv_refl _ _, H.out⟩
  case round =>
    obtain ⟨i, n, t, hi, rfl, rfl, hn, hf, gm, hr⟩ := hrel
    have GM := hid gm
    have HF := hid hf
    have hp : 16 ^ i ≤ 65536 := by have := Nat.pow_le_pow_right (n := 16) (by omega) hi; simpa using this
    have hn6 : n < 65536 := by omega
    have HN := hid hn
    clear gm hf hn hp
    by_cases hi4 : i < 4
    · obtain ⟨p, he, ho⟩ := hr
      have c0 := ho.c0
      have c1 := ho.c1
      have z1 := ho.fz 1
      have HO := hid ho
      have HE := hid he
      have hlen : s.length = p.length + t.length := by rw [he]; simp
      have hi4i : (i : Int) < 4 := by omega
      have e4 : 4 - i = (3 - i) + 1 := by omega
      have HF2 : Hid (fourJ 4 0 l = fourJ ((3 - i) + 1) n t) := hid (by rw [HF.out, e4])
      clear ho he e4
      cases t with
      | nil =>
        have hno : ((p.length : Int) == (s.length : Int)) = true := by simp at hlen; simp; omega
        have hno2 : (p.length == s.length) = true := by simp at hlen; simp; omega
        have hq : s.length - 0 = p.length := by simp at hlen; omega
        have HQ := hid hq
        clear hlen hq
        go_wp2_with fail
        go_quiet (fail)
        go_wp2_with fail
        refine (jthrow_any _ _ _ _).mono ?_
        rintro e w2 ⟨rfl, rfl⟩
        exact ⟨rfl, JRdP.no (mv_trans GM.out (by repeat (first | exact mv_refl _ _ | assumption | apply mv_drewN | apply mv_drew | apply mv_st | apply mv_alloc))) (by rw [HF2.out, fourJ_nil]) HQ.out⟩
      | cons c r =>
        have hlt : p.length < s.length := by simp at hlen; omega
        have hno : ((p.length : Int) == (s.length : Int)) = false := by simp; omega
        have hno2 : (p.length == s.length) = false := by simp; omega
        have hg : s[p.length]'hlt = c := by have := HE.out; subst this; simp
        have hle : p.length + 1 ≤ 1000000 := by omega
        have hq : s.length - (r.length + 1) = p.length := by simp at hlen; omega
        have HQ := hid hq
        have HX := hid (hex_ix c)
        have HF3 : Hid (fourJ 4 0 l = _) := hid (HF2.out.trans (fourJ_step (3 - i) n c r))
        have hcb := c.toNat_lt
        clear hlen hq HF2
        cases hd : digitJ c with
        | none =>
          rw [hd] at HX HF3
          have hnu : ¬ (65 ≤ c.toNat ∧ c.toNat ≤ 70) := dig_none hd
          have HL : Hid (lowJ c = c) := hid (by unfold lowJ; rw [if_neg hnu])
          rw [HL.out] at HX
          clear hd
          by_cases h1 : 65 ≤ c.toNat
          · have h1i : (65 : Int) ≤ (c.toNat : Int) := by omega
            have h2 : ¬ c.toNat ≤ 70 := by omega
            have h2i : ¬ (c.toNat : Int) ≤ 70 := by omega
            clear hnu
            go_wp2_with fail
            go_quiet (fail)
            go_wp2_with fail
            go_quiet (fail)
            go_wp2_with fail
            refine (hexIx_any _ _ _ rfl HX.out _).use ?_
            go_wp2_with fail
            refine (jthrow_any _ _ _ _).mono ?_
            rintro e w2 ⟨rfl, rfl⟩
            exact ⟨rfl, JRdP.no (mv_trans GM.out (by repeat (first | exact mv_refl _ _ | assumption | apply mv_drewN | apply mv_drew | apply mv_st | apply mv_alloc))) (by rw [HF3.out]) HQ.out⟩
          · have h1i : ¬ (65 : Int) ≤ (c.toNat : Int) := by omega
            clear hnu
            go_wp2_with fail
            go_quiet (fail)
            go_wp2_with fail
            go_quiet (fail)
            go_wp2_with fail
            refine (hexIx_any _ _ _ rfl HX.out _).use ?_
            go_wp2_with fail
            refine (jthrow_any _ _ _ _).mono ?_
            rintro e w2 ⟨rfl, rfl⟩
            exact ⟨rfl, JRdP.no (mv_trans GM.out (by repeat (first | exact mv_refl _ _ | assumption | apply mv_drewN | apply mv_drew | apply mv_st | apply mv_alloc))) (by rw [HF3.out]) HQ.out⟩
        | some d =>
          rw [hd] at HX HF3
          have hd16 := (digit_small hd).2
          have hor := or_hex n d hn6 hd16
          clear hd
          by_cases h1 : 65 ≤ c.toNat
          · have h1i : (65 : Int) ≤ (c.toNat : Int) := by omega
            by_cases h2 : c.toNat ≤ 70
            · have h2i : (c.toNat : Int) ≤ 70 := by omega
              have HL : Hid (lowJ c = c + 32) := hid (by unfold lowJ; rw [if_pos ⟨h1, h2⟩])
              rw [HL.out] at HX
              go_wp2_with fail
              go_quiet (fail)
              go_wp2_with fail
              go_quiet (fail)
              go_wp2_with fail
              refine (hexIx_any _ _ _ (by rw [UInt8.toNat_add]; simp; try omega) HX.out _).use ?_
              go_wp2_with fail
              go_roundw
              case rel =>
                exact ⟨i + 1, n * 16 + d, r, by omega, by simp, by simp, by rw [Nat.pow_succ]; have := HN.out; omega, by rw [HF3.out, show 4 - (i + 1) = 3 - i by omega], mv_trans GM.out (by repeat (first | exact mv_refl _ _ | assumption | apply mv_drewN | apply mv_drew | apply mv_st | apply mv_alloc)), ⟨p ++ [c], by rw [HE.out]; simp, (HO.out.drewN _).setN _ _ (by simp)⟩⟩
              case measure => simp [intOf]; omega
            · have h2i : ¬ (c.toNat : Int) ≤ 70 := by omega
              have HL : Hid (lowJ c = c) := hid (by unfold lowJ; rw [if_neg (by omega)])
              rw [HL.out] at HX
              go_wp2_with fail
              go_quiet (fail)
              go_wp2_with fail
              go_quiet (fail)
              go_wp2_with fail
              refine (hexIx_any _ _ _ rfl HX.out _).use ?_
              go_wp2_with fail
              go_roundw
              case rel =>
                exact ⟨i + 1, n * 16 + d, r, by omega, by simp, by simp, by rw [Nat.pow_succ]; have := HN.out; omega, by rw [HF3.out, show 4 - (i + 1) = 3 - i by omega], mv_trans GM.out (by repeat (first | exact mv_refl _ _ | assumption | apply mv_drewN | apply mv_drew | apply mv_st | apply mv_alloc)), ⟨p ++ [c], by rw [HE.out]; simp, (HO.out.drewN _).setN _ _ (by simp)⟩⟩
              case measure => simp [intOf]; omega
          · have h1i : ¬ (65 : Int) ≤ (c.toNat : Int) := by omega
            have HL : Hid (lowJ c = c) := hid (by unfold lowJ; rw [if_neg (by omega)])
            rw [HL.out] at HX
            go_wp2_with fail
            go_quiet (fail)
            go_wp2_with fail
            go_quiet (fail)
            go_wp2_with fail
            refine (hexIx_any _ _ _ rfl HX.out _).use ?_
            go_wp2_with fail
            go_roundw
            case rel =>
              exact ⟨i + 1, n * 16 + d, r, by omega, by simp, by simp, by rw [Nat.pow_succ]; have := HN.out; omega, by rw [HF3.out, show 4 - (i + 1) = 3 - i by omega], mv_trans GM.out (by repeat (first | exact mv_refl _ _ | assumption | apply mv_drewN | apply mv_drew | apply mv_st | apply mv_alloc)), ⟨p ++ [c], by rw [HE.out]; simp, (HO.out.drewN _).setN _ _ (by simp)⟩⟩
            case measure => simp [intOf]; omega
    · have hi4i : ¬ (i : Int) < 4 := by omega
      have HF2 : Hid (fourJ 4 0 l = .ok (n, t)) := hid (by rw [HF.out, show 4 - i = 0 by omega]; rfl)
      have HR := hid hr
      clear hr
      go_wp2_with fail
      go_ret
      exact JRdP.yes (mv_trans GM.out (by repeat (first | exact mv_refl _ _ | assumption | apply mv_drewN | apply mv_drew | apply mv_st | apply mv_alloc))) HF2.out rfl HR.out

end Go.Proofs.YtlejbindochiiaaDoor
