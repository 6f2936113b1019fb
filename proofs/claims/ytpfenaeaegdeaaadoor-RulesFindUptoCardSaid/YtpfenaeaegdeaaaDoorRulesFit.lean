/-
  CONTRACTS of rules.Kind, counts, Fits.
-/
import Derived.Test.YtpfenaeaegdeaaaDoorLangR
import Derived.Test.YtpfenaeaegdeaaaDoorAtoi
import Derived.Test.YtpfenaeaegdeaaaDoorHasM
import Derived.Test.YtpfenaeaegdeaaaDoorParams
namespace Go.Proofs.YtpfenaeaegdeaaaDoor
open Go.RowKit
set_option linter.unusedVariables false
set_option linter.unusedSimpArgs false

def kindN (k : Int) : List UInt8 := if k < 1 ∨ 9 ≤ k then [] else if k < 4 then [116, 101, 120, 116] else if k = 4 then [117, 114, 105] else if k = 5 then [100, 97, 116, 101, 45, 97, 110, 100, 45, 111, 114, 45, 116, 105, 109, 101] else if k = 6 then [117, 116, 99, 45, 111, 102, 102, 115, 101, 116] else if k = 7 then [108, 97, 110, 103, 117, 97, 103, 101, 45, 116, 97, 103] else [117, 110, 107, 110, 111, 119, 110]
set_option maxRecDepth 100000 in
set_option maxHeartbeats 1000000 in
theorem kind_any (k : Int) (w : World) : Pure 12 #[.int .i64 k] w (.string (S (kindN k))) := by
  by_cases h : k < 1 ∨ 9 ≤ k
  · have hk : kindN k = [] := by unfold kindN; rw [if_pos h]
    rw [hk]
    rcases h with h | h
    · go_enter Tryd.func12, Tryd.ntmps12
      go_wp2
      go_ret
      exact ⟨by rfl, rfl⟩
    · go_enter Tryd.func12, Tryd.ntmps12
      go_wp2
      go_ret
      exact ⟨by rfl, rfl⟩
  · have h1 : k = 1 ∨ k = 2 ∨ k = 3 ∨ k = 4 ∨ k = 5 ∨ k = 6 ∨ k = 7 ∨ k = 8 := by omega
    have i1 : ∀ w, (Instr.index 63 (.agg #[.string { data := #[] }, .string { data := #[116, 101, 120, 116] }, .string { data := #[116, 101, 120, 116] }, .string { data := #[116, 101, 120, 116] }, .string { data := #[117, 114, 105] }, .string { data := #[100, 97, 116, 101, 45, 97, 110, 100, 45, 111, 114, 45, 116, 105, 109, 101] }, .string { data := #[117, 116, 99, 45, 111, 102, 102, 115, 101, 116] }, .string { data := #[108, 97, 110, 103, 117, 97, 103, 101, 45, 116, 97, 103] }, .string { data := #[117, 110, 107, 110, 111, 119, 110] }]) (.int .i64 1)).run Tryd.prog w = .ok (.string { data := #[116, 101, 120, 116] }) w := fun _ => by kernel_rfl
    have i2 : ∀ w, (Instr.index 63 (.agg #[.string { data := #[] }, .string { data := #[116, 101, 120, 116] }, .string { data := #[116, 101, 120, 116] }, .string { data := #[116, 101, 120, 116] }, .string { data := #[117, 114, 105] }, .string { data := #[100, 97, 116, 101, 45, 97, 110, 100, 45, 111, 114, 45, 116, 105, 109, 101] }, .string { data := #[117, 116, 99, 45, 111, 102, 102, 115, 101, 116] }, .string { data := #[108, 97, 110, 103, 117, 97, 103, 101, 45, 116, 97, 103] }, .string { data := #[117, 110, 107, 110, 111, 119, 110] }]) (.int .i64 2)).run Tryd.prog w = .ok (.string { data := #[116, 101, 120, 116] }) w := fun _ => by kernel_rfl
    have i3 : ∀ w, (Instr.index 63 (.agg #[.string { data := #[] }, .string { data := #[116, 101, 120, 116] }, .string { data := #[116, 101, 120, 116] }, .string { data := #[116, 101, 120, 116] }, .string { data := #[117, 114, 105] }, .string { data := #[100, 97, 116, 101, 45, 97, 110, 100, 45, 111, 114, 45, 116, 105, 109, 101] }, .string { data := #[117, 116, 99, 45, 111, 102, 102, 115, 101, 116] }, .string { data := #[108, 97, 110, 103, 117, 97, 103, 101, 45, 116, 97, 103] }, .string { data := #[117, 110, 107, 110, 111, 119, 110] }]) (.int .i64 3)).run Tryd.prog w = .ok (.string { data := #[116, 101, 120, 116] }) w := fun _ => by kernel_rfl
    have i4 : ∀ w, (Instr.index 63 (.agg #[.string { data := #[] }, .string { data := #[116, 101, 120, 116] }, .string { data := #[116, 101, 120, 116] }, .string { data := #[116, 101, 120, 116] }, .string { data := #[117, 114, 105] }, .string { data := #[100, 97, 116, 101, 45, 97, 110, 100, 45, 111, 114, 45, 116, 105, 109, 101] }, .string { data := #[117, 116, 99, 45, 111, 102, 102, 115, 101, 116] }, .string { data := #[108, 97, 110, 103, 117, 97, 103, 101, 45, 116, 97, 103] }, .string { data := #[117, 110, 107, 110, 111, 119, 110] }]) (.int .i64 4)).run Tryd.prog w = .ok (.string { data := #[117, 114, 105] }) w := fun _ => by kernel_rfl
    have i5 : ∀ w, (Instr.index 63 (.agg #[.string { data := #[] }, .string { data := #[116, 101, 120, 116] }, .string { data := #[116, 101, 120, 116] }, .string { data := #[116, 101, 120, 116] }, .string { data := #[117, 114, 105] }, .string { data := #[100, 97, 116, 101, 45, 97, 110, 100, 45, 111, 114, 45, 116, 105, 109, 101] }, .string { data := #[117, 116, 99, 45, 111, 102, 102, 115, 101, 116] }, .string { data := #[108, 97, 110, 103, 117, 97, 103, 101, 45, 116, 97, 103] }, .string { data := #[117, 110, 107, 110, 111, 119, 110] }]) (.int .i64 5)).run Tryd.prog w = .ok (.string { data := #[100, 97, 116, 101, 45, 97, 110, 100, 45, 111, 114, 45, 116, 105, 109, 101] }) w := fun _ => by kernel_rfl
    have i6 : ∀ w, (Instr.index 63 (.agg #[.string { data := #[] }, .string { data := #[116, 101, 120, 116] }, .string { data := #[116, 101, 120, 116] }, .string { data := #[116, 101, 120, 116] }, .string { data := #[117, 114, 105] }, .string { data := #[100, 97, 116, 101, 45, 97, 110, 100, 45, 111, 114, 45, 116, 105, 109, 101] }, .string { data := #[117, 116, 99, 45, 111, 102, 102, 115, 101, 116] }, .string { data := #[108, 97, 110, 103, 117, 97, 103, 101, 45, 116, 97, 103] }, .string { data := #[117, 110, 107, 110, 111, 119, 110] }]) (.int .i64 6)).run Tryd.prog w = .ok (.string { data := #[117, 116, 99, 45, 111, 102, 102, 115, 101, 116] }) w := fun _ => by kernel_rfl
    have i7 : ∀ w, (Instr.index 63 (.agg #[.string { data := #[] }, .string { data := #[116, 101, 120, 116] }, .string { data := #[116, 101, 120, 116] }, .string { data := #[116, 101, 120, 116] }, .string { data := #[117, 114, 105] }, .string { data := #[100, 97, 116, 101, 45, 97, 110, 100, 45, 111, 114, 45, 116, 105, 109, 101] }, .string { data := #[117, 116, 99, 45, 111, 102, 102, 115, 101, 116] }, .string { data := #[108, 97, 110, 103, 117, 97, 103, 101, 45, 116, 97, 103] }, .string { data := #[117, 110, 107, 110, 111, 119, 110] }]) (.int .i64 7)).run Tryd.prog w = .ok (.string { data := #[108, 97, 110, 103, 117, 97, 103, 101, 45, 116, 97, 103] }) w := fun _ => by kernel_rfl
    have i8 : ∀ w, (Instr.index 63 (.agg #[.string { data := #[] }, .string { data := #[116, 101, 120, 116] }, .string { data := #[116, 101, 120, 116] }, .string { data := #[116, 101, 120, 116] }, .string { data := #[117, 114, 105] }, .string { data := #[100, 97, 116, 101, 45, 97, 110, 100, 45, 111, 114, 45, 116, 105, 109, 101] }, .string { data := #[117, 116, 99, 45, 111, 102, 102, 115, 101, 116] }, .string { data := #[108, 97, 110, 103, 117, 97, 103, 101, 45, 116, 97, 103] }, .string { data := #[117, 110, 107, 110, 111, 119, 110] }]) (.int .i64 8)).run Tryd.prog w = .ok (.string { data := #[117, 110, 107, 110, 111, 119, 110] }) w := fun _ => by kernel_rfl
    rcases h1 with rfl | rfl | rfl | rfl | rfl | rfl | rfl | rfl
    all_goals
      go_enter Tryd.func12, Tryd.ntmps12
      go_wp2
      go_ret
      exact ⟨by rfl, rfl⟩

/-- a text counts: a number from 1 to most, as it is written -/
def countsL (s : List UInt8) (most : Int) : Bool := match Lib.atoiAll s with | .ok n => decide (1 ≤ n) && (decide (n ≤ most) && (Lib.itoa n == s)) | _ => false

set_option maxRecDepth 100000 in
set_option maxHeartbeats 1000000 in
theorem counts_any (s : List UInt8) (most : Int) (w : World) (hs : s.length ≤ 1000000) (hE : HasErr w) (htab : Lib.TabIs Tryd.prog w "internal/strconv.uint64pow10" .u64 Lib.pow10Tab) : Gives 37 #[.string (S s), .int .i64 most] w (.bool (countsL s most)) := by
  have hat := fun n => atoi_ok s n w hs
  have hno := fun h => atoi_no s w hs h hE
  have hto := fun (n : Int) h0 h1 W h => itoa_any n W h0 h1 h
  rcases hc : Lib.atoiAll s with n | _ | _
  case ok =>
    obtain ⟨b0, b1⟩ := Lib.atoiAll_bounds hc
    have hL : countsL s most = (decide (1 ≤ n) && (decide (n ≤ most) && (Lib.itoa n == s))) := by unfold countsL; rw [hc]
    rw [hL]
    clear hL hno
    have HA := hid (hat n hc)
    have HT := hid htab
    have HI := hid hto
    clear hat hto htab hc
    obtain ⟨z, hz⟩ : ∃ z, z = Lib.itoa n := ⟨_, rfl⟩
    rw [← hz]
    have HZ := hid hz
    clear hz
    go_enter Tryd.func37, Tryd.ntmps37
    go_wp2_with fail
    refine HA.out.use ?_
    intro w1 g1
    have T1 := hid (Lib.tabBelow_of_tabIs HT.out w1 g1.below)
    clear HA
    by_cases h1 : 1 ≤ n
    · by_cases h2 : n ≤ most
      · go_wp2_with fail
        refine (HI.out n b0 b1 w1 T1.out).use ?_
        rw [← HZ.out]
        intro w2 g2
        go_wp2_with fail
        go_ret
        exact ⟨ret_bool (by simp [h1, h2]), g1.trans g2⟩
      · go_wp2_with fail
        go_ret
        exact ⟨ret_bool (by rw [decide_eq_false (show ¬ n ≤ most by omega)]; simp), g1⟩
    · go_wp2_with fail
      go_ret
      exact ⟨ret_bool (by rw [decide_eq_false (show ¬ 1 ≤ n by omega)]; simp), g1⟩
  all_goals
    have hL : countsL s most = false := by unfold countsL; rw [hc]
    rw [hL]
    have HA := hid (hno fun n h => by rw [hc] at h; cases h)
    clear hat hno hto htab hL
    go_enter Tryd.func37, Tryd.ntmps37
    go_wp2_with fail
    refine HA.out.use ?_
    rintro v w1 ⟨n, N, rfl⟩ g1
    go_wp2_with fail
    go_ret
    exact ⟨ret_bool rfl, g1⟩

def isOneName (u : List UInt8) : Prop := u = [86, 65, 76, 85, 69] ∨ u = [65, 76, 84, 73, 68] ∨ u = [77, 69, 68, 73, 65, 84, 89, 80, 69] ∨ u = [69, 78, 67, 79, 68, 73, 78, 71]
instance (u : List UInt8) : Decidable (isOneName u) := by unfold isOneName; infer_instance
def pidL (s : List UInt8) : Bool := countsL (Lib.cut s [46]).1 999 && (!(Lib.cut s [46]).2.2 || countsL (Lib.cut s [46]).2.1 999)
/-- the one value of a list, or none -/
def oneL (f : List UInt8 → Bool) (vs : List (List UInt8)) : Bool := match vs with | [x] => f x | _ => false
/-- a parameter fits: u: its name in great letters -/
def fitsU (u : List UInt8) (vs : List (List UInt8)) : Bool :=
  if isOneName u then decide (vs.length = 1)
  else if u = [76, 65, 78, 71, 85, 65, 71, 69] then oneL langB vs
  else if u = [80, 82, 69, 70] then oneL (fun x => countsL x 100) vs
  else if u = [84, 89, 80, 69] then vs.all isNameL && !vs.isEmpty
  else if u = [80, 73, 68] then vs.all pidL && !vs.isEmpty
  else !vs.isEmpty

/-- what the walks of package rules ask of memory -/
structure RMem (w : World) : Prop where
  asp : Lib.TabIs Tryd.prog w "strings.asciiSpace" .u8 Lib.asciiSpaceTab
  p10 : Lib.TabIs Tryd.prog w "internal/strconv.uint64pow10" .u64 Lib.pow10Tab
  er : HasErr w
  hm : HasM w
theorem RMem.grow {w w' : World} (h : RMem w) (g : G w w') : RMem w' := ⟨Lib.tabBelow_of_tabIs h.asp w' g.below, Lib.tabBelow_of_tabIs h.p10 w' g.below, h.er.grow g, h.hm.grow g⟩

end Go.Proofs.YtpfenaeaegdeaaaDoor
