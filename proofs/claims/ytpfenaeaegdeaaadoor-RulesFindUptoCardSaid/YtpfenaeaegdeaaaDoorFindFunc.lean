/-
  CONTRACTS of slices.IndexFunc, ContainsFunc at []api.Param with the law RulesFind's own closure.
-/
import Derived.Test.YtpfenaeaegdeaaaDoorParams
import Derived.Test.YtpfenaeaegdeaaaDoorParamsRow
namespace Go.Proofs.YtpfenaeaegdeaaaDoor
open Go.RowKit
set_option linter.unusedVariables false
set_option linter.unusedSimpArgs false

set_option maxRecDepth 100000 in
set_option maxHeartbeats 1000000 in
theorem clo_any (qn nm : List UInt8) (sv : Value) (bx : Nat) (w : World) (h1 : sv.oneCell' = true) (hq : qn.length ≤ 1000000) (hn : nm.length ≤ 1000000) (hb : w.cell? ⟨bx, 0, none⟩ = some (.string (S nm))) : Gives 18 #[.agg #[.string (S qn), sv], .pointer (some ⟨bx, 0, none⟩)] w (.bool (sameL qn nm)) := by
  have hlt := World.block_lt_of_cell? _ _ hb
  go_enter Tryd.func18, Tryd.ntmps18
  go_wp2_with fail
  refine (same_any qn nm _ (by omega) (by omega)).use ?_
  intro w1 g1
  go_wp2_with fail
  go_ret
  exact ⟨rfl, (by repeat (first | exact G.refl _ | assumption | apply G.drew | apply G.alloc | refine G.trans ?_ (by assumption)))⟩
set_option maxRecDepth 100000 in
set_option maxHeartbeats 2000000 in
theorem indexFn_any (v : Value) (ps : List Pm) (nm : List UInt8) (bx : Nat) (w : World) (h : IsParams w v ps) (hl : ps.length ≤ 1000000) (hp : ∀ p ∈ ps, p.1.length ≤ 1000000) (hn : nm.length ≤ 1000000) (hb : w.cell? ⟨bx, 0, none⟩ = some (.string (S nm))) :
    Gives 31 #[v, .func (.func 18) #[] #[.pointer (some ⟨bx, 0, none⟩)]] w (.int .i64 (findV (findL ps nm))) := by
  have H := hid h
  obtain ⟨a, cap, rfl, _, _⟩ := h
  have HP := hid hp
  have HB := hid hb
  have hlt := World.block_lt_of_cell? _ _ hb
  clear hp hb
  go_enter Tryd.func31, Tryd.ntmps31
  go_wp2_with fail
  go_loopw [8] (fun i wr => ∃ k : Nat, k ≤ ps.length ∧ i = .int .i64 k ∧ (∀ j (h : j < ps.length), j < k → sameL (ps[j]).1 nm = false) ∧ G w wr) (fun i _ => ps.length - (intOf i).toNat)
  case atStart => exact ⟨0, Nat.zero_le _, rfl, fun j _ h => by omega, G.refl _⟩
  case round =>
    obtain ⟨k, hk, rfl, hnn, gr⟩ := hrel
    have HN := hid hnn
    have GR := hid gr
    clear hnn gr
    by_cases hlt' : k < ps.length
    · obtain ⟨a2, cap2, e1, _, hc⟩ := (H.out.grow GR.out)
      obtain ⟨b, off, e2, hbl, hcc⟩ := hc (by rintro rfl; simp at hlt')
      clear hc
      simp only [Value.slice.injEq, true_and] at e1
      obtain ⟨rfl, rfl⟩ := e1
      subst e2
      obtain ⟨sv, c1, c2, c3⟩ := hcc k _ (List.getElem?_eq_getElem hlt')
      have hpl := HP.out _ (List.getElem_mem hlt')
      obtain ⟨p, hpe⟩ : ∃ p, ps[k] = p := ⟨_, rfl⟩
      have HPE := hid hpe
      rw [hpe] at c1 c3 hpl
      obtain ⟨sa, sc, rfl, _⟩ := c3.len
      have hbr : wr.cell? ⟨bx, 0, none⟩ = some (.string (S nm)) := (GR.out.cell hlt).trans HB.out
      have CL := hid (clo_any p.1 nm (.slice sa p.2.length sc) bx wr rfl hpl hn hbr)
      clear hcc c3 hpe hbr
      go_wp2_with (go_at_call 18; refine CL.out.use ?_)
      intro w2 g2
      have G2 : Hid (G w w2) := hid (GR.out.trans g2)
      clear g2
      cases hsm : sameL p.1 nm with
      | true =>
        have HF : Hid (findL ps nm = some k) := hid (find_at hlt' (by rw [HPE.out]; exact hsm) fun j hj => HN.out j (by omega) hj)
        go_wp2_with fail
        go_ret
        exact ⟨ret_int (by rw [HF.out]; rfl), G2.out⟩
      | false =>
        have HF : Hid (∀ j (h : j < ps.length), j < k + 1 → sameL (ps[j]).1 nm = false) := hid (fun j h hj => by
          rcases Nat.lt_or_ge j k with h1 | h1
          · exact HN.out j h h1
          · obtain rfl : j = k := by omega
            rw [HPE.out]; exact hsm)
        clear hsm
        go_wp2_with fail
        go_roundw
        case rel => exact ⟨k + 1, by omega, by go_num, HF.out, G2.out⟩
        case measure => simp [intOf]; omega
    · obtain rfl : k = ps.length := by omega
      have HF : Hid (findL ps nm = none) := hid (find_none fun j h => HN.out j h h)
      go_wp2_with fail
      go_ret
      exact ⟨ret_int (by rw [HF.out]; rfl), GR.out⟩
set_option maxRecDepth 100000 in
set_option maxHeartbeats 1000000 in
theorem containsFn_no (v : Value) (ps : List Pm) (nm : List UInt8) (bx : Nat) (w : World) (h : IsParams w v ps) (hl : ps.length ≤ 1000000) (hp : ∀ p ∈ ps, p.1.length ≤ 1000000) (hn : nm.length ≤ 1000000) (hb : w.cell? ⟨bx, 0, none⟩ = some (.string (S nm))) (hf : findL ps nm = none) :
    Gives 17 #[v, .func (.func 18) #[] #[.pointer (some ⟨bx, 0, none⟩)]] w (.bool false) := by
  have hix := indexFn_any v ps nm bx w h hl hp hn hb
  rw [hf] at hix
  have HIX := hid hix
  clear h hp hb hf hix
  go_enter Tryd.func17, Tryd.ntmps17
  go_wp2_with fail
  refine HIX.out.use ?_
  intro w1 g1
  simp only [findV]
  go_wp2_with fail
  go_ret
  exact ⟨rfl, g1⟩

end Go.Proofs.YtpfenaeaegdeaaaDoor
