/-
  CONTRACTS of text.Escape and caret.Encode.
-/
import Derived.Test.YthbjabjchfmmoaaRepl
namespace Go.Proofs.Ythbjabjchfmmoaa
open Go.RowKit
set_option linter.unusedVariables false
set_option linter.unusedSimpArgs false

def escP : List (UInt8 × List UInt8) := [(92, [92, 92]), (44, [92, 44]), (59, [92, 59]), (10, [92, 110])]
def caretP : List (UInt8 × List UInt8) := [(94, [94, 94]), (10, [94, 110]), (34, [94, 39])]
theorem escP_look : lookP escP = escF := by
  funext c
  exact of_decide_eq_true (byte_all (fun c => decide (lookP escP c = escF c)) (by decide +kernel) c)
theorem caretP_look : lookP caretP = caretF := by
  funext c
  exact of_decide_eq_true (byte_all (fun c => decide (lookP caretP c = caretF c)) (by decide +kernel) c)
theorem escP_pairs : Pairs escP := ⟨by decide, by decide, by decide, fun m h => by
  match m, h with
  | 0, _ => rfl
  | 1, _ => rfl
  | 2, _ => rfl
  | 3, _ => rfl
  | n + 4, h => simp [escP] at h; omega⟩
theorem caretP_pairs : Pairs caretP := ⟨by decide, by decide, by decide, fun m h => by
  match m, h with
  | 0, _ => rfl
  | 1, _ => rfl
  | 2, _ => rfl
  | n + 3, h => simp [caretP] at h; omega⟩
theorem two_keyed {f : UInt8 → Option (List UInt8)} {keys : List UInt8} (h : Two f) (hn : keys.Nodup) (hi : ∀ c, f c = none ↔ c ∉ keys) : Keyed1 f keys :=
  ⟨hn, hi, fun c l hl => by rw [h c l hl]; decide, fun c l hl => by rw [h c l hl]; decide⟩
theorem escP_keyed : Keyed1 (lookP escP) (escP.reverse.map (·.1)) := two_keyed (lookP_two _ escP_pairs.two) (by decide) fun c =>
  of_decide_eq_true (byte_all (fun c => decide (lookP escP c = none ↔ c ∉ escP.reverse.map (·.1))) (by decide +kernel) c)
theorem caretP_keyed : Keyed1 (lookP caretP) (caretP.reverse.map (·.1)) := two_keyed (lookP_two _ caretP_pairs.two) (by decide) fun c =>
  of_decide_eq_true (byte_all (fun c => decide (lookP caretP c = none ↔ c ∉ caretP.reverse.map (·.1))) (by decide +kernel) c)
theorem pairsAt_row {w : World} {cs : Array Value} {t : TypeId} {ps : List (UInt8 × List UInt8)} (h : ∀ j (h : j < ps.length), cs[2 * j]? = some (.string (S [ps[j].1])) ∧ cs[2 * j + 1]? = some (.string (S ps[j].2))) : PairsAt (w.alloc (.cells cs t)) w.heap.size ps :=
  ⟨by simp, fun j hj => by rw [World.cell?_alloc_new, World.cell?_alloc_new]; exact h j hj⟩


set_option maxRecDepth 100000 in
set_option maxHeartbeats 4000000 in
theorem encode_any (s : List UInt8) (w : World) (hs : s.length ≤ 100000) : Gives 6 #[.string (S s)] w (.string (S (replL caretF s))) := by
  have hpa := pairsAt_row (w := w) (t := 9) (ps := caretP) (cs := #[.string ⟨#[94]⟩, .string ⟨#[94, 94]⟩, .string ⟨#[10]⟩, .string ⟨#[94, 110]⟩, .string ⟨#[34]⟩, .string ⟨#[94, 39]⟩]) (fun j h => by
    match j, h with
    | 0, _ => exact ⟨rfl, rfl⟩
    | 1, _ => exact ⟨rfl, rfl⟩
    | 2, _ => exact ⟨rfl, rfl⟩
    | n + 3, h => simp [caretP] at h; omega)
  have HPA := hid hpa
  clear hpa
  go_enter Try.func6, Try.ntmps6
  go_wp2_with fail
  refine (newReplacer_any w.heap.size 6 6 caretP _ rfl HPA.out (by decide) (by decide)).use ?_
  rintro v w1 ⟨B, o', cap', rfl, hr⟩ g1
  have HR := hid hr
  have g0 : G w _ := (G.refl w).alloc (.cells #[.string ⟨#[94]⟩, .string ⟨#[94, 94]⟩, .string ⟨#[10]⟩, .string ⟨#[94, 110]⟩, .string ⟨#[34]⟩, .string ⟨#[94, 39]⟩] 9)
  have HG0 := hid g0
  clear hr g0 g1
  go_wp2_with fail
  refine Calls.mono (replace_any _ w1 B o' 6 cap' caretP s rfl caretP_pairs HR.out caretP_keyed hs) ?_
  rintro e w2 ⟨rfl, g2⟩
  rw [caretP_look]
  have G2 := hid (HG0.out.trans g2)
  clear g2
  go_wp2_with fail
  go_ret
  exact ⟨rfl, G2.out⟩

end Go.Proofs.Ythbjabjchfmmoaa
