/-
  The walk of the law FoldWidth: over all texts of at most 2 to the 47 bytes, and all numbers, it returns true.
-/
import Derived.Test.YtnllmdognnfnhaaDoorFoldF
import Derived.Test.YtnllmdognnfnhaaDoorFoldPieces
import Derived.Test.YtnllmdognnfnhaaDoorSplit
import Derived.Shelf.LaysM
namespace Go.Proofs.YtnllmdognnfnhaaDoor
open Go.RowKit
set_option linter.unusedVariables false
set_option linter.unusedSimpArgs false

theorem joinF_joinS (x : UInt8) (ps : List (List UInt8)) : ∀ p, joinF x p ps = joinS [13, 10] p (ps.map (x :: ·) ++ [[]]) := by
  induction ps with
  | nil => intro p; simp [joinF, joinS]
  | cons q ps ih =>
    intro p
    have e : joinF x (x :: q) ps = x :: joinF x q ps := by cases ps <;> rfl
    show p ++ 13 :: 10 :: x :: joinF x q ps = _
    rw [← e, ih (x :: q)]
    simp [joinS]
/-- what holds of the pieces of a folded line -/
theorem fold_split {s : List UInt8} (hs : goodF s) (width : Nat) (hw : 10 ≤ width) :
    ∃ p ps, foldOut s width width = joinS [13, 10] p (ps ++ [[]]) ∧ (joinS [13, 10] p (ps ++ [[]])).length ≤ 10000 ∧ ps.length ≤ 1500 ∧
      (∀ q ∈ p :: ps, q.length ≤ width ∧ badL q = none ∧ ∀ c ∈ q, nlB c = false) ∧ ∀ q ∈ ps, ∃ t, q = 32 :: t := by
  obtain ⟨g1, g2, g3⟩ := hs
  obtain ⟨p, ps, h1, h2, h3, h4, h5, h6, h7⟩ := fold_pieces width (by omega) s.length s width (Nat.le_refl _) g1 (by omega)
  have hc := nlB_clean g2
  have hle : (p ++ ps.flatten).length = s.length := by rw [h2]
  have hle2 := hle
  rw [List.length_append] at hle2
  have hp := pieces_le ps fun q hq => (h4 q hq).2.1
  refine ⟨p, ps.map (32 :: ·), by rw [h1, joinF_joinS], ?_, by simp; omega, ?_, ?_⟩
  · rw [← joinF_joinS, joinF_length, hle]; omega
  · intro q hq
    rcases List.mem_cons.1 hq with rfl | hq
    · exact ⟨h3, h5, fun c hc' => hc c (by rw [← h2]; exact List.mem_append_left _ hc')⟩
    · obtain ⟨q', hq', rfl⟩ := List.mem_map.1 hq
      obtain ⟨l1, l2, l3⟩ := h4 q' hq'
      refine ⟨by simp; omega, ?_, ?_⟩
      · rw [badL_step (by rw [step_ascii 32 q' (by decide)]; decide), step_ascii 32 q' (by decide)]
        show (badL q').map _ = _
        rw [l3]; rfl
      · intro c hc'
        rcases List.mem_cons.1 hc' with rfl | hc'
        · rfl
        · exact hc c (by rw [← h2]; exact List.mem_append_right _ (List.mem_flatten.2 ⟨q', hq', hc'⟩))
  · intro q hq
    obtain ⟨q', _, rfl⟩ := List.mem_map.1 hq
    exact ⟨q', rfl⟩
theorem no13 {q : List UInt8} (h : ∀ c ∈ q, nlB c = false) : (13 : UInt8) ∉ q := fun hm => by have := h 13 hm; cases this
theorem noAnyNl {q : List UInt8} (h : ∀ c ∈ q, nlB c = false) : Lib.containsAny q [13, 10] = false := by
  unfold Lib.containsAny
  rw [indexAny_neg (fun c hc => by
    have := h c hc
    have hcc : ([13, 10] : List UInt8).contains c = nlB c := of_decide_eq_true (byte_all (fun c => decide (([13, 10] : List UInt8).contains c = nlB c)) (by decide +kernel) c)
    rw [hcc]; exact this)]
  rfl

set_option maxRecDepth 100000 in
set_option maxHeartbeats 4000000 in
theorem foldWidth_walk (s : List UInt8) (n : Int) (w : World) (hsh : w.ShapedOpen Tryd.prog) (zs : s.length ≤ 140737488351232) (zn : -9223372036854775808 ≤ n ∧ n ≤ 9223372036854775807) :
    Gives 8 #[.string (S s), .int .i64 n] w (.bool true) := by
  obtain ⟨mx, hmx⟩ : ∃ m, w.cell? ⟨1, 0, none⟩ = some (.int .i64 m) := Tryd.laysM146.s1_3 w hsh
  have hml : 1 < w.heap.size := World.block_lt_of_cell? w _ hmx
  have HMX := hid hmx
  clear hmx hsh
  by_cases hlen : 1500 < s.length
  · go_enter Tryd.func8, Tryd.ntmps8
    go_wp2_with fail
    refine (folded_any _).use ?_; intro w1 g1
    go_wp2_with fail
    go_ret
    exact ⟨rfl, g1⟩
  have wn := width_le n
  obtain ⟨A, hA⟩ : ∃ A, 10 + pickV n 66 = A := ⟨_, rfl⟩
  have hA1 : 10 ≤ A := by omega
  rw [hA] at wn
  have WA : Hid (∀ w, Pure 26 #[.int .i64 n] w (.int .i64 (A : Nat))) := hid (fun w => by have := width_any n w; rw [hA] at this; exact this)
  clear hA
  by_cases hg : goodF s
  case neg =>
    have HG := hid hg
    clear hg
    go_enter Tryd.func8, Tryd.ntmps8
    go_wp2_with fail
    refine (folded_any _).use ?_; intro w1 g1
    go_wp2_with fail
    refine (WA.out _).use ?_
    go_wp2_with fail
    refine (fold_no s A _ (by omega) (by omega) (by omega) HG.out).use ?_
    rintro v w2 ⟨e, rfl, he⟩ g2
    rcases he with ⟨p, rfl⟩ | ⟨p, rfl⟩
    all_goals
      go_wp2_with fail
      go_ret
      exact ⟨rfl, (by repeat (first | exact G.refl _ | assumption | apply G.drew | apply G.alloc | refine G.trans ?_ (by assumption)))⟩
  case pos =>
    obtain ⟨p, ps, hT, hTl, hpl, hP, hQ⟩ := fold_split hg A hA1
    have HG := hid hg
    have HT := hid hT
    have HP := hid hP
    have HQ := hid hQ
    have hq13 : Hid ((13 : UInt8) ∉ p ∧ ∀ q ∈ ps ++ [[]], (13 : UInt8) ∉ q) := hid ⟨no13 (hP p List.mem_cons_self).2.2, fun q hq => by
      rcases List.mem_append.1 hq with hq | hq
      · exact no13 (hP q (List.mem_cons_of_mem _ hq)).2.2
      · have : q = [] := List.mem_singleton.1 hq
        subst this; simp⟩
    have b15 : decide (1500 < (s.length : Int)) = false := decide_eq_false (by omega)
    clear hg hT hP hQ
    go_enter Tryd.func8, Tryd.ntmps8
    go_wp2_with fail
    refine (folded_any _).use ?_; intro w1 g1
    go_wp2_with fail
    refine (WA.out _).use ?_
    go_wp2_with fail
    refine (fold_to s A _ _ (by omega) (by omega) HG.out HT.out).use ?_; intro w2 g2
    have hm2 : w2.cell? ⟨1, 0, none⟩ = some (.int .i64 mx) := by rw [(g1.trans g2).cell hml]; exact HMX.out
    go_wp2_with fail
    refine (splitS_any 13 [10] p (ps ++ [[]]) mx _ hq13.out.1 hq13.out.2 (by omega) hm2).use ?_
    intro v w3 hv g3
    obtain ⟨b, off, cap, rfl, hcap, hb, hc⟩ := hv.at_ (by simp)
    obtain ⟨k, hk⟩ : ∃ k, ps.length + 1 = k := ⟨_, rfl⟩
    have hl : (p :: (ps ++ [[]])).length = k + 1 := by simp; omega
    rw [hl] at hcap ⊢
    have cl := hc k [] (by rw [← hk]; simp)
    have hk2 : k ≤ 1501 := by omega
    have HK := hid hk
    have HC := hid hc
    have HV := hid hv
    clear hc hl hm2 hv hk
    go_wp2_with fail
    go_loopw [41] (fun iv wr => ∃ i : Nat, iv = .int .i64 i ∧ i ≤ k ∧ G w3 wr) (fun iv _ => k - (intOf iv).toNat)
    case atStart => exact ⟨0, rfl, Nat.zero_le _, G.refl _⟩
    case round =>
      obtain ⟨i, rfl, hi, hgr⟩ := hrel
      have HGR := hid hgr
      by_cases hlt : i < k
      · have hlt2 : i < ps.length + 1 := by have := HK.out; omega
        obtain ⟨x, hx⟩ : ∃ x, (p :: ps)[i]? = some x := ⟨_, List.getElem?_eq_getElem (by simpa using hlt2)⟩
        have hxm := List.mem_of_getElem? hx
        obtain ⟨x1, x2, x3⟩ := HP.out x hxm
        have hcell : w3.cell? ⟨b, off + i, none⟩ = some (.string (S x)) := HC.out i x (by
          have : p :: (ps ++ [[]]) = (p :: ps) ++ [[]] := rfl
          rw [this, List.getElem?_append_left (by simpa using hlt2)]; exact hx)
        have hcw := (hgr.cell (p := ⟨b, off + i, none⟩) hb).trans hcell
        have hcase : i = 0 ∨ 0 < i ∧ ∃ t, x = 32 :: t := by
          cases i with
          | zero => exact .inl rfl
          | succ i =>
            right
            refine ⟨by omega, HQ.out x ?_⟩
            rw [List.getElem?_cons_succ] at hx
            exact List.mem_of_getElem? hx
        have hca := noAnyNl x3
        have CA : Hid (∀ w, Gives 29 #[.string (S x), .string (S [13, 10])] w (.bool false)) := hid (fun w => by
          have := containsAny_any x [13, 10] w (by omega) (by simp) (by simp) ascii_crlf
          rw [hca] at this; exact this)
        have CB : Hid (∀ w, Pure 28 #[.string (S x)] w (.int .i64 (-1))) := hid (fun w => bad_to x none w (by omega) x2)
        clear hca x2 x3 hxm hx hcell hgr hlt2
        rcases hcase with rfl | ⟨hi0, t, rfl⟩
        · rw [Nat.add_zero] at hcw
          go_wp2_with fail
          refine (WA.out _).use ?_
          go_wp2_with fail
          refine (CB.out _).use ?_
          go_wp2_with fail
          refine (CA.out _).use ?_; intro w5 g5
          go_wp2_with fail
          go_roundw
          case rel => exact ⟨1, by go_num, by omega, HGR.out.trans g5⟩
          case measure => simp [intOf]; omega
        · have x1' : t.length + 1 ≤ A := by simpa using x1
          clear x1
          go_wp2_with fail
          refine (WA.out _).use ?_
          go_wp2_with fail
          refine (CB.out _).use ?_
          go_wp2_with fail
          refine (CA.out _).use ?_; intro w5 g5
          go_wp2_with fail
          go_roundw
          case rel => exact ⟨i + 1, by go_num, by omega, HGR.out.trans g5⟩
          case measure => simp [intOf]; omega
      · clear hgr
        go_wp2_with fail
        go_ret
        exact ⟨rfl, ((g1.trans g2).trans g3).trans HGR.out⟩

end Go.Proofs.YtnllmdognnfnhaaDoor
