/-
  CONTRACT of pick.Best.
-/
import Derived.Test.YtniidkkldoijcaaDoorPickAll
namespace Go.Proofs.YtniidkkldoijcaaDoor
open Go.RowKit Stab
set_option linter.unusedVariables false
set_option linter.unusedSimpArgs false

/-- the first one, or none -/
def bestL (l : List Int) : Int := l.headD (-1)
/-- what pick.Best hands back -/
def BestP (xs : List It) (s : List UInt8) (v : Value) : Prop := ∃ l, Sorted (keyL xs) (idxL (ofName s) xs) l ∧ v = .int .i64 (bestL l)
set_option maxRecDepth 100000 in
set_option maxHeartbeats 2000000 in
theorem best_any (ver : Int) (iv : Value) (xs : List It) (s : List UInt8) (w : World) (h : IsItems w iv xs) (hF : Fine xs) (hs : s.length ≤ 100000) (hM : RMem w) :
    Makes 16 #[cardV ver iv, .string (S s)] w (fun v w' => BestP xs s v) := by
  have HALL := hid (fun W (g : G w W) => all_any ver iv xs s W (h.grow g) hF hs (hM.grow g))
  obtain ⟨ia, ic, rfl, hcap⟩ := h.len
  clear h hF hM
  unfold cardV at HALL ⊢
  go_enter Tryd.func16, Tryd.ntmps16
  go_wp2_with fail
  refine (HALL.out _ ((G.refl w).alloc _)).use ?_
  rintro v w' ⟨l, hl, ho⟩ hg
  have GG := hid (((G.refl w).alloc _).trans hg)
  have HL := hid hl
  rcases ho.form with ⟨rfl, rfl⟩ | ⟨g, cap, rfl, _, _, _⟩
  · clear ho hg hl
    go_wp2_with fail
    go_ret
    exact ⟨_, rfl, ⟨_, HL.out, rfl⟩, GG.out⟩
  · obtain ⟨b, c, e, _, hc⟩ := ho.nums
    cases l with
    | nil =>
      clear ho hg hl hc
      go_wp2_with fail
      go_ret
      exact ⟨_, rfl, ⟨_, HL.out, rfl⟩, GG.out⟩
    | cons i l =>
      obtain ⟨b', off, e2, hb, hc2⟩ := hc (by simp)
      subst e2
      cases e
      have c0 := hc2 0 i rfl
      clear ho hg hl hc hc2
      go_wp2_with fail
      go_ret
      exact ⟨_, rfl, ⟨_, HL.out, rfl⟩, GG.out⟩

end Go.Proofs.YtniidkkldoijcaaDoor
