/-
  The walk of the law FoldTabs: over all texts of at most 2 to the 47 bytes, and all numbers, it returns true.
-/
import Derived.Test.YtnllmdognnfnhaaDoorFoldF
import Derived.Test.YtnllmdognnfnhaaDoorFoldPieces
import Derived.Test.YtnllmdognnfnhaaDoorSplit
import Derived.Shelf.LaysM
import Derived.Lib.Replace
namespace Go.Proofs.YtnllmdognnfnhaaDoor
open Go.RowKit
set_option linter.unusedVariables false
set_option linter.unusedSimpArgs false

theorem index_joinF_last (p : List UInt8) (x : UInt8) (hp : (13 : UInt8) ∉ p) : Lib.index (p ++ [13, 10]) [13, 10, x] = -1 := by
  refine Lib.index_past (i := p.length) (by simp) ?_ (by simp)
  intro j hj
  unfold Lib.occAt
  rw [List.drop_append_of_le_length (by omega), List.drop_eq_getElem_cons hj, List.cons_append]
  have h13 : ((13 : UInt8) == p[j]) = false := beq_eq_false_iff_ne.2 (fun e => hp (e ▸ List.getElem_mem hj))
  simp [List.isPrefixOf, h13]
theorem joinF_cons (x : UInt8) (p q : List UInt8) (ps : List (List UInt8)) : joinF x p (q :: ps) = p ++ ([13, 10, x] ++ joinF x q ps) := rfl
theorem replace_pieces (x y : UInt8) (ps : List (List UInt8)) : ∀ p : List UInt8, (13 : UInt8) ∉ p → (∀ q ∈ ps, (13 : UInt8) ∉ q) →
    Lib.count (joinF x p ps) [13, 10, x] = ps.length ∧ Lib.replaceK [13, 10, x] [13, 10, y] ps.length (joinF x p ps) = joinF y p ps := by
  induction ps with
  | nil => intro p hp _; exact ⟨Lib.count_miss (index_joinF_last p x hp), rfl⟩
  | cons q ps ih =>
    intro p hp hq
    obtain ⟨i1, i2⟩ := ih q (hq q List.mem_cons_self) fun q' hq' => hq q' (List.mem_cons_of_mem _ hq')
    have hi := index_piece 13 [10, x] p (joinF x q ps) hp
    have hd : (p ++ ([13, 10, x] ++ joinF x q ps)).drop (p.length + ([13, 10, x] : List UInt8).length) = joinF x q ps := by
      rw [← List.append_assoc, ← List.length_append, List.drop_left]
    rw [joinF_cons]
    constructor
    · rw [Lib.count_hit (by simp) hi, hd, i1]; simp; omega
    · show Lib.replaceK _ _ (ps.length + 1) _ = _
      rw [Lib.replaceK_hit _ _ _ _ _ hi, hd, i2, List.take_left]
      rw [joinF_cons]; simp
theorem replaceAll_pieces (x y : UInt8) (hxy : x ≠ y) (p : List UInt8) (ps : List (List UInt8)) (hp : (13 : UInt8) ∉ p) (hq : ∀ q ∈ ps, (13 : UInt8) ∉ q) : Lib.replaceAll (joinF x p ps) [13, 10, x] [13, 10, y] = joinF y p ps := by
  obtain ⟨h1, h2⟩ := replace_pieces x y ps p hp hq
  unfold Lib.replaceAll Lib.replace
  rw [if_neg (by simp [hxy])]
  unfold Lib.replaceNum
  rw [if_pos (by left; omega), h1, h2]
/-- folded by blanks, and by tabs -/
theorem fold_tabs {s : List UInt8} (hs : goodF s) (hb : blankB s = false) (width : Nat) (hw : 10 ≤ width) :
    ∃ T U fs, foldOut s width width = T ∧ Lib.replaceAll T [13, 10, 32] [13, 10, 9] = U ∧ linesGo T 0 [] = .good [⟨s, 0, fs⟩] ∧ linesGo U 0 [] = .good [⟨s, 0, fs⟩] ∧ T.length ≤ 10000 ∧ U.length ≤ 10000 ∧ fs.length ≤ 1500 ∧ Lib.count T [13, 10, 32] ≤ 1500 := by
  obtain ⟨g1, g2, g3⟩ := hs
  obtain ⟨p, ps, h1, h2, h3, h4, h5, h6, h7⟩ := fold_pieces width (by omega) s.length s width (Nat.le_refl _) g1 (by omega)
  have hc := nlB_clean g2
  have hle : (p ++ ps.flatten).length = s.length := by rw [h2]
  have hle2 := hle
  rw [List.length_append] at hle2
  have hpl := pieces_le ps fun q hq => (h4 q hq).2.1
  have hn13 : ∀ q : List UInt8, (∀ c ∈ q, nlB c = false) → (13 : UInt8) ∉ q := fun q h hm => by have := h 13 hm; cases this
  have hp13 := hn13 p fun c hc' => hc c (by rw [← h2]; exact List.mem_append_left _ hc')
  have hq13 : ∀ q ∈ ps, (13 : UInt8) ∉ q := fun q hq => hn13 q fun c hc' => hc c (by rw [← h2]; exact List.mem_append_right _ (List.mem_flatten.2 ⟨q, hq, hc'⟩))
  refine ⟨joinF 32 p ps, joinF 9 p ps, _, h1, replaceAll_pieces 32 9 (by decide) p ps hp13 hq13, lines_foldX rfl rfl h2 hc g3 hb h6, lines_foldX rfl rfl h2 hc g3 hb h6, ?_, ?_, by simp; omega, ?_⟩
  · rw [joinF_length, hle]; omega
  · rw [joinF_length, hle]; omega
  · rw [(replace_pieces 32 9 ps p hp13 hq13).1]; omega
theorem replaceAll_to (s old new t : List UInt8) (m : Int) (w : World) (hs : s.length ≤ 1000000) (hm : w.cell? ⟨1, 0, none⟩ = some (.int .i64 m)) (h1 : 1 ≤ old.length) (hn : new.length ≤ 1000) (hc : Lib.count s old ≤ 1000000) (h : Lib.replaceAll s old new = t) :
    Gives 31 #[.string (S s), .string (S old), .string (S new)] w (.string (S t)) := by
  subst h
  refine (Tryd.strings_ReplaceAll (S s) (S old) (S new) m w (by simp; omega) hm (by simpa using h1) ?_).mono fun e w' ⟨h1, h2⟩ => ⟨h1, h2⟩
  show (S s).size + Lib.count s old * (S new).size ≤ _
  rw [S_size, S_size]
  have := Nat.mul_le_mul hc hn
  omega

set_option maxRecDepth 100000 in
set_option maxHeartbeats 4000000 in
theorem foldTabs_walk (s : List UInt8) (n : Int) (w : World) (hsh : w.ShapedOpen Tryd.prog) (zs : s.length ≤ 140737488351232) (zn : -9223372036854775808 ≤ n ∧ n ≤ 9223372036854775807) :
    Gives 9 #[.string (S s), .int .i64 n] w (.bool true) := by
  obtain ⟨mx, hmx⟩ : ∃ m, w.cell? ⟨1, 0, none⟩ = some (.int .i64 m) := Tryd.laysM146.s1_3 w hsh
  have hml : 1 < w.heap.size := World.block_lt_of_cell? w _ hmx
  have HMX := hid hmx
  clear hmx hsh
  by_cases hlen : 1000 < s.length
  · go_enter Tryd.func9, Tryd.ntmps9
    go_wp2_with fail
    refine (folded_any _).use ?_; intro w1 g1
    go_wp2_with fail
    go_ret
    exact ⟨rfl, g1⟩
  rcases s with _ | ⟨c, t⟩
  · go_enter Tryd.func9, Tryd.ntmps9
    go_wp2_with fail
    refine (folded_any _).use ?_; intro w1 g1
    go_wp2_with fail
    go_ret
    exact ⟨rfl, g1⟩
  have ht : t.length + 1 ≤ 1000 := by simp at hlen; omega
  clear hlen zs
  by_cases h32 : c = 32
  · subst h32
    go_enter Tryd.func9, Tryd.ntmps9
    go_wp2_with fail
    refine (folded_any _).use ?_; intro w1 g1
    go_wp2_with fail
    go_ret
    exact ⟨rfl, g1⟩
  by_cases h9 : c = 9
  · subst h9
    go_enter Tryd.func9, Tryd.ntmps9
    go_wp2_with fail
    refine (folded_any _).use ?_; intro w1 g1
    go_wp2_with fail
    go_ret
    exact ⟨rfl, g1⟩
  have q1 : ((c.toNat : Int) == 32) = false := beq_eq_false_iff_ne.2 (fun e => h32 (UInt8.toNat_inj.1 (by show c.toNat = 32; omega)))
  have q2 : ((c.toNat : Int) == 9) = false := beq_eq_false_iff_ne.2 (fun e => h9 (UInt8.toNat_inj.1 (by show c.toNat = 9; omega)))
  have hbl : blankB (c :: t) = false := by simp [blankB, h32, h9]
  have wn := width_le n
  obtain ⟨A, hA⟩ : ∃ A, 10 + pickV n 66 = A := ⟨_, rfl⟩
  have hA1 : 10 ≤ A := by omega
  rw [hA] at wn
  have WA : Hid (∀ w, Pure 26 #[.int .i64 n] w (.int .i64 (A : Nat))) := hid (fun w => by have := width_any n w; rw [hA] at this; exact this)
  clear hA h32 h9
  by_cases hg : goodF (c :: t)
  case neg =>
    have HG := hid hg
    clear hg hbl
    go_enter Tryd.func9, Tryd.ntmps9
    go_wp2_with fail
    refine (folded_any _).use ?_; intro w1 g1
    go_wp2_with fail
    refine (WA.out _).use ?_
    go_wp2_with fail
    refine (fold_no (c :: t) A _ (by omega) (by omega) (by simp; omega) HG.out).use ?_
    rintro v w2 ⟨e, rfl, he⟩ g2
    rcases he with ⟨p, rfl⟩ | ⟨p, rfl⟩
    all_goals
      go_wp2_with fail
      go_ret
      exact ⟨rfl, (by repeat (first | exact G.refl _ | assumption | apply G.drew | apply G.alloc | refine G.trans ?_ (by assumption)))⟩
  case pos =>
    obtain ⟨T, U, fs, hT, hU, hLT, hLU, hTl, hUl, hfs, hcn⟩ := fold_tabs hg hbl A hA1
    have HG := hid hg
    have HT := hid hT
    have HU := hid hU
    have HLT := hid hLT
    have HLU := hid hLU
    clear hg hT hU hLT hLU hbl
    go_enter Tryd.func9, Tryd.ntmps9
    go_wp2_with fail
    refine (folded_any _).use ?_; intro w1 g1
    go_wp2_with fail
    refine (WA.out _).use ?_
    go_wp2_with fail
    refine (fold_to (c :: t) A T _ (by omega) (by omega) HG.out HT.out).use ?_; intro w2 g2
    go_wp2_with fail
    refine (lines_good T _ _ (by omega) HLT.out).use ?_
    rintro v w3 ⟨x, rfl, hx⟩ g3
    have HX := hid hx
    clear hx
    obtain ⟨xa, xc, rfl⟩ := HX.out.len
    have hm3 : w3.cell? ⟨1, 0, none⟩ = some (.int .i64 mx) := by rw [((g1.trans g2).trans g3).cell hml]; exact HMX.out
    have HM3 := hid hm3
    clear hm3
    go_wp2_with fail
    refine (replaceAll_to T [13, 10, 32] [13, 10, 9] U mx _ (by omega) HM3.out (by simp) (by simp) (by omega) HU.out).use ?_; intro w4 g4
    go_wp2_with fail
    refine (lines_good U _ _ (by omega) HLU.out).use ?_
    rintro v w5 ⟨y, rfl, hy⟩ g5
    obtain ⟨bx, cx, ex, _, hcx⟩ := (HX.out.grow (g4.trans g5)).at_ (by simp)
    obtain ⟨by_, cy, rfl, _, hcy⟩ := hy.at_ (by simp)
    obtain ⟨x0, -, xf, x2, hxf⟩ := hcx 0 _ rfl
    obtain ⟨y0, -, yf, y2, hyf⟩ := hcy 0 _ rfl
    simp only [Value.slice.injEq] at ex
    obtain ⟨rfl, -, rfl⟩ := ex
    simp only [Nat.mul_zero, Nat.zero_add] at x0 y0 x2 y2
    have HXF := hid hxf
    have HYF := hid hyf
    obtain ⟨fa, fc, rfl⟩ := hxf.len
    obtain ⟨ga, gc, rfl⟩ := hyf.len
    have hfn : Hid ((natsV fs).length ≤ 1500) := hid (by simp [natsV]; omega)
    clear hcx hcy hy HX hxf hyf
    go_wp2_with fail
    go_quiet ((go_at_call 32; exact intsEqual_quiet _ HXF.out HYF.out (by have := hfn.out; omega) (by have := hfn.out; omega) (beq_self_eq_true _)))
    go_wp2_with fail
    go_ret
    exact ⟨ret_bool (by simp), ((((g1.trans g2).trans g3).trans g4).trans g5).drewN _⟩

end Go.Proofs.YtnllmdognnfnhaaDoor
