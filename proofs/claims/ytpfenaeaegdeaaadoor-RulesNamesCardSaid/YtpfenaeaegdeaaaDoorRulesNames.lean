/-
  The law RulesNames walked.
-/
import Derived.Test.YtpfenaeaegdeaaaDoorRulesNames3
import Derived.Test.YtpfenaeaegdeaaaDoorRulesNames4
import Derived.Test.YtpfenaeaegdeaaaDoorRuled
namespace Go.Proofs.YtpfenaeaegdeaaaDoor
open Go.RowKit
set_option linter.unusedVariables false
set_option linter.unusedSimpArgs false

theorem names_any (v : Int) (w : World) (hv : v = 3 ∨ v = 4) (hM : RMem w) :
    Calls Tryd.prog 20 #[.int .i64 v] w fun e w' => ∃ u, e = .returned (.tuple #[u, .nilIface]) ∧ w'.ownsRow w.heap.size 9 1 u (tabT v).length ((tabT v).map fun e => .string (S e.name)) ∧ Below w.heap.size w w' := by
  rcases hv with rfl | rfl
  · exact (callsIn_wide (n := 6)).1 (names_in3 w hM.hm)
  · exact (callsIn_wide (n := 6)).1 (names_in4 w hM.hm)
/-- an entry as the law wants it -/
def entOk (e : Ent) : Bool := isNameL e.name && (upperL e.name == e.name && (decide (1 ≤ e.ty ∧ e.ty < 9 ∧ (0 < e.most → e.least ≤ e.most) ∧ (0 < e.parts → e.ty = 3) ∧ e.name.length ≤ 100)))
theorem tab_ok (v : Int) : (∀ e ∈ tabT v, entOk e = true) ∧ 25 < (tabT v).length := by
  unfold tabT
  split
  · decide +kernel
  · decide +kernel
theorem not_before (v : Int) (k : Nat) (hk : k < (tabT v).length) : Lib.containsS (((tabT v).map fun e => S e.name).take k) (S (tabT v)[k].name) = false := by
  rw [Bool.eq_false_iff]
  intro h
  rw [Lib.containsS_iff, List.mem_take_iff_getElem] at h
  obtain ⟨i, hi, e⟩ := h
  simp only [List.length_map] at hi
  rw [List.getElem_map] at e
  have hn := names_once v
  have e' : (tabT v)[i].name = (tabT v)[k].name := by
    have := congrArg (fun b : ByteArray => b.data.toList) e
    simpa [S] using this
  have h1 : ((tabT v).map Ent.name)[i]'(by simp; omega) = ((tabT v).map Ent.name)[k]'(by simpa using hk) := by simpa using e'
  exact (List.pairwise_iff_getElem.1 hn) i k (by simp; omega) (by simpa using hk) (by omega) h1

set_option maxRecDepth 100000 in
set_option maxHeartbeats 4000000 in
theorem rulesNames_at (old : Bool) (v : Int) (hv : v = if old then 3 else 4) (w : World) (hM : RMem w) : Gives 5 #[.bool old] w (.bool true) := by
  have hv2 : v = 3 ∨ v = 4 := by cases old <;> simp_all
  have RU := hid (fun W h => ruled_any W h)
  have HM := hid hM
  have NA := hid (fun W h => names_any v W hv2 h)
  obtain ⟨hok, hlen⟩ := tab_ok v
  have hlen2 := tab_len v
  have OF := hid (fun (s : List UInt8) W (hs : s.length ≤ 1000000) h => of_any s v W hv2 hs h)
  have NB := hid (fun k hk => not_before v k hk)
  have RA := hid (fun (e : Ent) (he : e ∈ tabT v) => rule_at he rfl)
  have HOK := hid hok
  obtain ⟨T, hT⟩ : ∃ T, T = tabT v := ⟨_, rfl⟩
  rw [← hT] at NA OF NB RA HOK hlen hlen2
  have HV := hid hv
  clear hok hT hM hv
  have hvo : (old = false ∧ v = 4) ∨ (old = true ∧ v = 3) := by
    have h := HV.out
    cases old
    · exact .inl ⟨rfl, h⟩
    · exact .inr ⟨rfl, h⟩
  clear HV
  rcases hvo with ⟨rfl, rfl⟩ | ⟨rfl, rfl⟩
  all_goals
    go_enter Tryd.func5, Tryd.ntmps5
    go_wp2_with fail
    refine (RU.out w HM.out).use ?_
    intro w1 g1
    go_wp2_with fail
    refine (NA.out w1 (HM.out.grow g1)).mono ?_
    rintro e w2 ⟨u, rfl, hrow, hB⟩
    obtain ⟨g, cap, hu⟩ : ∃ g cap, u = .slice (some ⟨g, 0, none⟩) T.length cap := by
      obtain ⟨n, hn⟩ : ∃ n, T.length = n + 1 := ⟨T.length - 1, by omega⟩
      rw [hn] at hrow ⊢
      exact ownsRow_succ hrow
    subst hu
    have hcell : ∀ j, (hj : j < T.length) → w2.cell? ⟨g, j, none⟩ = some (.string (S (T[j]).name)) := fun j hj => by
      have := hrow.cells (g := g) rfl j (.string (S (T[j]).name)) (by simp [hj])
      have ea : (⟨g, 0, none⟩ : Addr).add j = ⟨g, j, none⟩ := by unfold Addr.add; split <;> simp_all
      rw [ea] at this
      exact this
    have hcap : T.length ≤ cap := by
      rcases hrow.2 with ⟨h, _⟩ | ⟨g', cap', cur, h, _, _, hc, _⟩
      · cases h
      · simp only [Value.slice.injEq] at h
        omega
    have hgl : g < w2.heap.size := World.block_lt_of_cell? _ _ (hcell 0 (by omega))
    have HC := hid hcell
    have GW := hid (g1.trans (show G w1 w2 from hB))
    clear hcell hrow hB g1
    go_wp2_with fail
    go_loopw [20] (fun i wr => ∃ k : Nat, k ≤ T.length ∧ i = .int .i64 k ∧ G w2 wr) (fun i _ => T.length - (intOf i).toNat)
    case atStart => exact ⟨0, Nat.zero_le _, rfl, G.refl _⟩
    case round =>
      obtain ⟨k, hk, rfl, gr⟩ := hrel
      have GR := hid gr
      have HW := hid (GW.out.trans gr)
      by_cases hlt : k < T.length
      · have hcr : ∀ j, (hj : j < T.length) → wr.cell? ⟨g, j, none⟩ = some (.string (S (T[j]).name)) := fun j hj => (GR.out.cell (p := ⟨g, j, none⟩) hgl).trans (HC.out j hj)
        have c0 := hcr k hlt
        have hem := List.getElem_mem hlt
        have hnb := NB.out k hlt
        have HCR := hid hcr
        obtain ⟨e, he⟩ : ∃ e, T[k] = e := ⟨_, rfl⟩
        rw [he] at c0 hem hnb
        have hra := RA.out e hem
        have hoe := HOK.out e hem
        simp only [entOk, Bool.and_eq_true, decide_eq_true_eq, beq_iff_eq] at hoe
        obtain ⟨o1, o2, o3, o4, o5, o6, o7⟩ := hoe
        have of1 := fun W h => OF.out e.name W (by omega) h
        rw [o2, hra] at of1
        simp only at of1
        have ui := fun W => is_any e.name W (by omega)
        rw [o1] at ui
        have uu := fun W => upper_any e.name W (by omega)
        rw [o2] at uu
        have OF1 := hid of1
        have UI := hid ui
        have UU := hid uu
        have HNB := hid hnb
        have hgr : g < wr.heap.size := World.block_lt_of_cell? _ _ c0
        obtain ⟨nm, hnm⟩ : ∃ nm, nm = e.name := ⟨_, rfl⟩
        rw [← hnm] at c0 OF1 UI UU HNB
        have b1 : decide ((e.ty : Int) < 1) = false := decide_eq_false (by omega)
        have b2 : decide ((9 : Int) ≤ e.ty) = false := decide_eq_false (by omega)
        clear hcr of1 ui uu o1 o2 hra hem hnb he hnm gr
        go_wp2_with fail
        refine (OF1.out wr (HM.out.grow HW.out)).use ?_
        intro w3 g3
        go_wp2_with fail
        generalize hwa : World.alloc w3 _ = wa
        have a0 : wa.cell? ⟨w3.heap.size, 0, none⟩ = some (.int .i64 e.ty) := by rw [← hwa]; simp [go_sem]
        have a1 : wa.cell? ⟨w3.heap.size, 1, none⟩ = some (.int .i64 e.least) := by rw [← hwa]; simp [go_sem]
        have a2 : wa.cell? ⟨w3.heap.size, 2, none⟩ = some (.int .i64 e.most) := by rw [← hwa]; simp [go_sem]
        have a3 : wa.cell? ⟨w3.heap.size, 3, none⟩ = some (.int .i64 e.parts) := by rw [← hwa]; simp [go_sem]
        have ha : w3.heap.size < wa.heap.size := World.block_lt_of_cell? _ _ a0
        have GA := hid (show G wr wa by rw [← hwa]; exact g3.alloc _)
        clear hwa g3 c0
        refine (UI.out wa).use ?_
        go_wp2_with fail
        refine (UU.out wa).use ?_
        intro w4 g4
        have e0 := (g4.cell (p := ⟨w3.heap.size, 0, none⟩) ha).trans a0
        have e1 := (g4.cell (p := ⟨w3.heap.size, 1, none⟩) ha).trans a1
        have e2 := (g4.cell (p := ⟨w3.heap.size, 2, none⟩) ha).trans a2
        have e3 := (g4.cell (p := ⟨w3.heap.size, 3, none⟩) ha).trans a3
        have G4 := hid (GA.out.trans g4)
        have hct : Calls Tryd.prog 23 #[.slice (some ⟨g, 0, none⟩) k cap, .string (S nm)] w4 fun e w' => e = .returned (.bool false) ∧ w' = w4 := by
          have := Tryd.slices_Contains_string g 0 k cap (T.map fun e => S e.name) (S nm) w4 (by simp; omega) (by omega) (fun j hj => by
            have hj' : j < T.length := by simpa using hj
            rw [Nat.zero_add, (G4.out.cell (p := ⟨g, j, none⟩) hgr), HCR.out j hj']
            simp [List.getD, hj'])
          rwa [HNB.out] at this
        have HCT := hid hct
        clear a0 a1 a2 a3 g4 hct
        go_wp2_with (go_at_call 23; refine HCT.out.mono ?_; rintro e' w' ⟨rfl, rfl⟩)
        all_goals first
          | exact ⟨⟨k + 1, by omega, by go_num, GR.out.trans G4.out⟩, by simp [intOf]; omega⟩
          | (exfalso; omega)
          | (exfalso; simp_all; omega)
      · obtain rfl : k = T.length := by omega
        have b25 : decide ((25 : Int) < T.length) = true := decide_eq_true (by omega)
        go_wp2_with fail
        go_ret
        exact ⟨rfl, HW.out⟩
theorem rulesNames_walk (old : Bool) (w : World) (hM : RMem w) : Gives 5 #[.bool old] w (.bool true) := rulesNames_at old _ rfl w hM

end Go.Proofs.YtpfenaeaegdeaaaDoor
