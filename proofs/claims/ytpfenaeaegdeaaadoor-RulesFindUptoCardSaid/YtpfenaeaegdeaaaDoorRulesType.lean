/-
  CONTRACTS of rules.Of, rules.Type.
-/
import Derived.Test.YtpfenaeaegdeaaaDoorRulesOf3
import Derived.Test.YtpfenaeaegdeaaaDoorRulesOf4
import Derived.Test.YtpfenaeaegdeaaaDoorRulesFit
import Derived.Test.YtpfenaeaegdeaaaDoorParams
namespace Go.Proofs.YtpfenaeaegdeaaaDoor
open Go.RowKit
set_option linter.unusedVariables false
set_option linter.unusedSimpArgs false

/-- what a version knows of a property: its cells -/
def ruleA (r : Int × Int × Int × Int) : Value := .agg #[.int .i64 r.1, .int .i64 r.2.1, .int .i64 r.2.2.1, .int .i64 r.2.2.2]
theorem of_any (s : List UInt8) (v : Int) (w : World) (hv : v = 3 ∨ v = 4) (hs : s.length ≤ 1000000) (hM : RMem w) : Gives 10 #[.string (S s), .int .i64 v] w (.tuple #[.agg #[.int .i64 (ruleOf (tabT v) (upperL s)).1, .int .i64 (ruleOf (tabT v) (upperL s)).2.1, .int .i64 (ruleOf (tabT v) (upperL s)).2.2.1, .int .i64 (ruleOf (tabT v) (upperL s)).2.2.2], .nilIface]) := by
  rcases hv with rfl | rfl
  · exact (callsIn_wide (n := 6)).1 (of_in3 s w hs hM.asp)
  · exact (callsIn_wide (n := 6)).1 (of_in4 s w hs hM.asp)
set_option maxRecDepth 100000 in
set_option maxHeartbeats 1000000 in
theorem of_no (s : List UInt8) (v : Int) (w : World) (h3 : v ≠ 3) (h4 : v ≠ 4) : Gives 10 #[.string (S s), .int .i64 v] w (.tuple #[.agg #[.int .i64 0, .int .i64 0, .int .i64 0, .int .i64 0], eno 1]) := by
  have b3 : (v != 3) = true := by simpa using h3
  have b4 : (v != 4) = true := by simpa using h4
  go_enter Tryd.func10, Tryd.ntmps10
  clear h3 h4
  go_wp2_with fail
  refine bodyPost_ret (v := .tuple #[.agg #[.int .i64 0, .int .i64 0, .int .i64 0, .int .i64 0], eno 1]) ?_ rfl ⟨rfl, ?_⟩
  · simp [results, Tryd.f10, go_sem]
  · exact (by repeat (first | exact G.refl _ | assumption | apply G.drew | apply G.alloc | refine G.trans ?_ (by assumption)))
def wText : List UInt8 := [116, 101, 120, 116]
/-- the type that a word tells; t: that of the rule -/
def wordT (t : Int) (l : List UInt8) : Int :=
  if l = [116, 101, 120, 116] then (if t = 2 ∨ t = 3 then t else 1)
  else if l = [117, 114, 105] then 4
  else if l = [100, 97, 116, 101, 45, 97, 110, 100, 45, 111, 114, 45, 116, 105, 109, 101] ∨ l = [100, 97, 116, 101] ∨ l = [100, 97, 116, 101, 45, 116, 105, 109, 101] ∨ l = [116, 105, 109, 101, 115, 116, 97, 109, 112] then 5
  else if l = [117, 116, 99, 45, 111, 102, 102, 115, 101, 116] then 6
  else if l = [108, 97, 110, 103, 117, 97, 103, 101, 45, 116, 97, 103] then 7 else 8
/-- the type that parameters tell; t: that of the rule -/
def typeOf (t : Int) (ps : List Pm) : Int := match findL ps [86, 65, 76, 85, 69] with
  | none => t
  | some k => match ps[k]? with
    | some (_, x :: _) => wordT t (lowerL x)
    | _ => t

theorem typeOf_none {t : Int} {ps : List Pm} (h : findL ps [86, 65, 76, 85, 69] = none) : typeOf t ps = t := by unfold typeOf; rw [h]
theorem typeOf_some {t : Int} {ps : List Pm} {k : Nat} {nm x : List UInt8} {xs : List (List UInt8)} (h : findL ps [86, 65, 76, 85, 69] = some k) (hk : ps[k]? = some (nm, x :: xs)) : typeOf t ps = wordT t (lowerL x) := by unfold typeOf; rw [h]; simp only [hk]
theorem typeOf_empty {t : Int} {ps : List Pm} {k : Nat} {nm : List UInt8} (h : findL ps [86, 65, 76, 85, 69] = some k) (hk : ps[k]? = some (nm, [])) : typeOf t ps = t := by unfold typeOf; rw [h]; simp only [hk]
theorem find_lt {ps : List Pm} {s : List UInt8} {k : Nat} (h : findL ps s = some k) : k < ps.length := by
  unfold findL at h
  exact (List.findIdx?_eq_some_iff_getElem.1 h).1
set_option maxRecDepth 100000 in
set_option maxHeartbeats 4000000 in
theorem type_any (s : List UInt8) (pv : Value) (ps : List Pm) (v : Int) (w : World) (hv : v = 3 ∨ v = 4) (hs : s.length ≤ 1000000) (hP : IsParams w pv ps) (hl : ps.length ≤ 1000000) (hp : ∀ p ∈ ps, p.1.length ≤ 1000000) (hq : ∀ p ∈ ps, ∀ x ∈ p.2, x.length ≤ 1000000) (hM : RMem w) :
    Gives 11 #[.string (S s), pv, .int .i64 v] w (.tuple #[.int .i64 (typeOf (ruleOf (tabT v) (upperL s)).1 ps), .nilIface]) := by
  obtain ⟨r, hr⟩ : ∃ r, r = ruleOf (tabT v) (upperL s) := ⟨_, rfl⟩
  have ho := of_any s v w hv hs hM
  rw [← hr] at ho ⊢
  have HO := hid ho
  have H := hid hP
  obtain ⟨a, cap, rfl, _, _⟩ := hP
  obtain ⟨t, ht⟩ : ∃ t, t = typeOf r.1 ps := ⟨_, rfl⟩
  rw [← ht]
  obtain ⟨r0, r1, r2, r3⟩ := r
  clear ho hr hM
  go_enter Tryd.func11, Tryd.ntmps11
  go_wp2_with fail
  refine HO.out.use ?_
  intro w1 g1
  go_wp2_with fail
  have g1' : G w (w1.alloc (.cells #[.int .i64 r0, .int .i64 r1, .int .i64 r2, .int .i64 r3] 25)) := g1.alloc _
  refine (find_any _ ps [86, 65, 76, 85, 69] _ (H.out.grow g1') hl hp (by simp)).use ?_
  intro w2 g2
  have hb : w1.heap.size < w2.heap.size := Nat.lt_of_lt_of_le (by simp) g2.size
  have c0 : w2.cell? ⟨w1.heap.size, 0, none⟩ = some (.int .i64 r0) := (G.cell g2 (p := ⟨w1.heap.size, 0, none⟩) (by simp)).trans (by simp [go_sem])
  have G2 := hid (g1'.trans g2)
  clear g1 g2 g1'
  cases hf : findL ps [86, 65, 76, 85, 69] with
  | none =>
    rw [typeOf_none hf] at ht
    have HT := hid ht
    clear ht
    simp only [findV]
    clear hf
    go_wp2_with fail
    go_ret2
    exact ⟨by rw [HT.out]; rfl, G2.out⟩
  | some k =>
    have hk := find_lt hf
    obtain ⟨a2, cap2, e1, _, hc⟩ := H.out.grow G2.out
    obtain ⟨b, off, e2, hb2, hcc⟩ := hc (by rintro rfl; simp at hk)
    clear hc
    simp only [Value.slice.injEq, true_and] at e1
    obtain ⟨rfl, rfl⟩ := e1
    subst e2
    obtain ⟨sv, c1, c2, c3⟩ := hcc k _ (List.getElem?_eq_getElem hk)
    have hqk := hq _ (List.getElem_mem hk)
    have hke : ps[k]? = some ps[k] := List.getElem?_eq_getElem hk
    obtain ⟨p, hpe⟩ : ∃ p, ps[k] = p := ⟨_, rfl⟩
    rw [hpe] at c1 c3 hqk hke
    obtain ⟨nm, xs⟩ := p
    cases xs with
    | nil =>
      rw [typeOf_empty hf hke] at ht
      have HT := hid ht
      clear ht
      obtain ⟨sa, sc, rfl, _⟩ := c3.len
      clear hcc c3 hpe hke hqk
      simp only [findV, List.length_nil] at c2 ⊢
      have z0 : decide ((k : Int) < 0) = false := decide_eq_false (by omega)
      go_wp2_with fail
      go_ret2
      exact ⟨by rw [HT.out]; rfl, G2.out⟩
    | cons x xs =>
      rw [typeOf_some hf hke] at ht
      obtain ⟨b3, off3, cap3, e3, hc3, hb3, hcell⟩ := c3.at_ (by simp)
      have cx := hcell 0 x rfl
      simp only [Nat.add_zero] at cx
      subst e3
      have hx := hqk x (by simp)
      have lo := lower_any x w2 (by omega)
      obtain ⟨y, hy⟩ : ∃ y, y = lowerL x := ⟨_, rfl⟩
      rw [← hy] at lo ht
      have LO := hid lo
      clear lo hcc c3 hpe hke hqk hcell hy
      simp only [findV, List.length_cons] at c2 ⊢
      have z0 : decide ((k : Int) < 0) = false := decide_eq_false (by omega)
      have z1 : ((xs.length : Int) + 1 == 0) = false := beq_eq_false_iff_ne.2 (by omega)
      go_wp2_with fail
      refine LO.out.use ?_
      intro w3 g3
      have c4 : w3.cell? ⟨w1.heap.size, 0, none⟩ = some (.int .i64 r0) := (g3.cell hb).trans c0
      have G3 := hid (G2.out.trans g3)
      clear g3 c0 c1 c2 cx LO
      have HT' := ht
      clear ht
      by_cases y1 : y = [116, 101, 120, 116]
      · subst y1
        by_cases t2 : r0 = 2
        · subst t2
          have HT' : t = 2 := HT'
          have HT := hid HT'
          clear HT'
          go_wp2_with fail
          go_ret2
          exact ⟨by rw [HT.out]; rfl, G3.out⟩
        · by_cases t3 : r0 = 3
          · subst t3
            have HT' : t = 3 := HT'
            have HT := hid HT'
            clear HT'
            go_wp2_with fail
            go_ret2
            exact ⟨by rw [HT.out]; rfl, G3.out⟩
          · have hw : wordT r0 [116, 101, 120, 116] = 1 := by unfold wordT; rw [if_pos rfl, if_neg (by omega)]
            rw [hw] at HT'
            have HT := hid HT'
            clear HT'
            have u2 : (r0 == 2) = false := by simpa using t2
            have u3 : (r0 == 3) = false := by simpa using t3
            clear t2 t3 hw
            go_wp2_with fail
            go_ret2
            exact ⟨by rw [HT.out]; rfl, G3.out⟩
      by_cases y2 : y = [117, 114, 105]
      · subst y2
        have HT' : t = 4 := HT'
        have HT := hid HT'
        clear HT'
        go_wp2_with fail
        go_ret2
        exact ⟨by rw [HT.out]; rfl, G3.out⟩
      by_cases y3 : y = [100, 97, 116, 101, 45, 97, 110, 100, 45, 111, 114, 45, 116, 105, 109, 101] ∨ y = [100, 97, 116, 101] ∨ y = [100, 97, 116, 101, 45, 116, 105, 109, 101] ∨ y = [116, 105, 109, 101, 115, 116, 97, 109, 112]
      · rcases y3 with rfl | rfl | rfl | rfl
        all_goals
          have HT' : t = 5 := HT'
          have HT := hid HT'
          clear HT'
          go_wp2_with fail
          go_ret2
          exact ⟨by rw [HT.out]; rfl, G3.out⟩
      by_cases y4 : y = [117, 116, 99, 45, 111, 102, 102, 115, 101, 116]
      · subst y4
        have HT' : t = 6 := HT'
        have HT := hid HT'
        clear HT'
        go_wp2_with fail
        go_ret2
        exact ⟨by rw [HT.out]; rfl, G3.out⟩
      by_cases y5 : y = [108, 97, 110, 103, 117, 97, 103, 101, 45, 116, 97, 103]
      · subst y5
        have HT' : t = 7 := HT'
        have HT := hid HT'
        clear HT'
        go_wp2_with fail
        go_ret2
        exact ⟨by rw [HT.out]; rfl, G3.out⟩
      have hw : wordT r0 y = 8 := by unfold wordT; rw [if_neg y1, if_neg y2, if_neg y3, if_neg y4, if_neg y5]
      rw [hw] at HT'
      have HT := hid HT'
      clear HT'
      have q1 := beq_eq_false_iff_ne.2 y1
      have q2 := beq_eq_false_iff_ne.2 y2
      have q3 := beq_eq_false_iff_ne.2 (fun h => y3 (.inl h) : y ≠ _)
      have q4 := beq_eq_false_iff_ne.2 (fun h => y3 (.inr (.inl h)) : y ≠ _)
      have q5 := beq_eq_false_iff_ne.2 (fun h => y3 (.inr (.inr (.inl h))) : y ≠ _)
      have q6 := beq_eq_false_iff_ne.2 (fun h => y3 (.inr (.inr (.inr h))) : y ≠ _)
      have q7 := beq_eq_false_iff_ne.2 y4
      have q8 := beq_eq_false_iff_ne.2 y5
      clear y1 y2 y3 y4 y5 hw
      go_wp2_with fail
      go_ret2
      exact ⟨by rw [HT.out]; rfl, G3.out⟩
set_option maxRecDepth 100000 in
set_option maxHeartbeats 1000000 in
theorem type_no (s : List UInt8) (pv : Value) (v : Int) (w : World) (h3 : v ≠ 3) (h4 : v ≠ 4) : Gives 11 #[.string (S s), pv, .int .i64 v] w (.tuple #[.int .i64 0, eno 1]) := by
  have HO := hid (of_no s v w h3 h4)
  clear h3 h4
  go_enter Tryd.func11, Tryd.ntmps11
  go_wp2_with fail
  refine HO.out.use ?_
  intro w1 g1
  go_wp2_with fail
  go_ret2
  exact ⟨rfl, (by repeat (first | exact G.refl _ | assumption | apply G.drew | apply G.alloc | refine G.trans ?_ (by assumption)))⟩

end Go.Proofs.YtpfenaeaegdeaaaDoor
