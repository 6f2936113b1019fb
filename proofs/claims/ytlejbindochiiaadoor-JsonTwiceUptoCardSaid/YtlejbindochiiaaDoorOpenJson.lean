/-
  An api.Json as an argument, opened. Plain.
-/
import Derived.Test.YtlejbindochiiaaDoorOpen
import Derived.Test.YtlejbindochiiaaDoorJsonRight
import Derived.ChangeArms
import Derived.ChangeSame
import Derived.WideShapes
import Derived.Carry
namespace Go.Proofs.YtlejbindochiiaaDoor
open Go.RowKit Go.ChangeShapes Go.WideShapes
set_option linter.unusedVariables false
set_option linter.unusedSimpArgs false

theorem SzJ.wide {a b a' b' : Nat} (ha : a ≤ a') (hb : b ≤ b') : ∀ {d : Nat} {x : Jt}, SzJ a b d x → SzJ a' b' d x
  | 0, _, _ => trivial
  | d + 1, x, h => ⟨Nat.le_trans h.1 ha, Nat.le_trans h.2.1 ha, Nat.le_trans h.2.2.1 ha, fun k hk => Nat.le_trans (h.2.2.2.1 k hk) hb, fun y hy => SzJ.wide ha hb (h.2.2.2.2 y hy)⟩
theorem SzJ.wider {N : Nat} {x : Jt} (h : ∀ d, SzJ N N d x) (d : Nat) : SzJ (N + 1) (N + 1) d x := SzJ.wide (Nat.le_succ _) (Nat.le_succ _) (h d)
instance : Inhabited Jt := ⟨.mk 0 [] [] []⟩
theorem sum_memN {f : Nat → Nat} {l : List Nat} {x : Nat} (h : x ∈ l) : f x ≤ (l.map f).sum := by
  induction l with
  | nil => cases h
  | cons y l ih =>
    rcases List.mem_cons.1 h with rfl | h
    · simp
    · have := ih h; simp; omega
theorem inI_ofJ {n : Int} (h : (Lit.int .i64 n).wf = true) : -9223372036854775808 ≤ n ∧ n ≤ 9223372036854775807 := by
  simpa [Lit.wf, IntKind.min, IntKind.max, IntKind.signed, IntKind.bits] using h
theorem lens_each (ls : List (List UInt8)) : ls.length ≤ lensL ls ∧ ∀ k ∈ ls, k.length ≤ lensL ls := by
  unfold lensL
  induction ls with
  | nil => simp
  | cons a ls ih =>
    refine ⟨by simp only [List.length_cons, List.map_cons, List.sum_cons]; omega, fun k hk => ?_⟩
    simp only [List.map_cons, List.sum_cons]
    rcases List.mem_cons.1 hk with rfl | hk
    · omega
    · have := ih.2 k hk; omega
section
variable {H : Type} {enc : TypeId × Value → H} {w : World}
theorem slice_form {t e : TypeId} {fuel : Nat} {cs : List Value} {x : DataW H × List MemPlace} (ht : Tryd.prog.underlying t = some (.slice e)) (h : DataW.trod enc Tryd.prog w 0 (fun _ => true) true fuel t cs = some x) : ∃ v, cs = [v] ∧ v.oneCell' = true := by
  rcases Deep.open_slice ht h with ⟨rfl, _⟩ | ⟨a, len, cap, m, n, D, Pl, rfl, _⟩
  · exact ⟨_, rfl, rfl⟩
  · exact ⟨_, rfl, rfl⟩
set_option maxRecDepth 100000 in
set_option maxHeartbeats 1000000 in
theorem json_one {fuel : Nat} {cs : List Value} {x : DataW H × List MemPlace} (h : DataW.trod enc Tryd.prog w 0 (fun _ => true) true fuel 25 cs = some x) :
    ∃ (k : Int) (l : List UInt8) (sv lv : Value) (ls : List (List UInt8)) (n : Nat) (x3 : DataW H × List MemPlace), cs = [.int .i64 k, .string (S l), sv, lv] ∧ IsStrs w sv ls ∧ lv.oneCell' = true ∧ DataW.trod enc Tryd.prog w 0 (fun _ => true) true n 23 [lv] = some x3 ∧
      l.length + 1 + (lensL ls + 1) + Rows.uptoBulk x3.1 ≤ Rows.uptoBulk x.1 := by
  obtain ⟨xs, n, _, hx, hl, hlen, hfs⟩ := DataW.trod_struct Tryd.underlying25 h
  have hxl : xs.length = 4 := hlen
  have h4 : cs.length = 4 := hl.trans (by kernel_rfl)
  match cs, h4 with
  | [c0, c1, c2, c3], _ =>
  match xs, hxl with
  | [x0, x1, x2, x3], _ =>
  have k0 := hfs 0 _ rfl
  have k1 := hfs 1 _ rfl
  have k2 := hfs 2 _ rfl
  have k3 := hfs 3 _ rfl
  obtain ⟨a0, e0, f0, _⟩ := DataW.trod_int Tryd.underlying3 k0
  obtain ⟨l, e1, z1⟩ := open_str Tryd.underlying9 k1
  obtain ⟨sv, ls, e2, hL, z2⟩ := open_strs Tryd.underlying22 Tryd.underlying9 (by kernel_rfl) k2
  obtain ⟨lv, e3, h3⟩ := slice_form Tryd.underlying23 k3
  have g0 : c0 = .int .i64 a0 := (List.cons.inj e0).1
  have g1 : c1 = .string (S l) := (List.cons.inj e1).1
  have g2 : c2 = sv := (List.cons.inj e2).1
  have g3 : c3 = lv := (List.cons.inj e3).1
  subst g0 g1 g2 g3
  refine ⟨a0, l, c2, c3, ls, n, x3, rfl, hL, h3, k3, ?_⟩
  have hd : x.1 = .agg [x0.1, x1.1, x2.1, x3.1] := (Prod.mk.injEq _ _ _ _ ▸ hx).1
  rw [hd]
  simp only [Rows.uptoBulk, Rows.uptoBulkAll]
  omega
theorem open_json : ∀ (N fuel : Nat) (cs : List Value) (x : DataW H × List MemPlace), DataW.trod enc Tryd.prog w 0 (fun _ => true) true fuel 25 cs = some x → Rows.uptoBulk x.1 ≤ N →
    ∃ j : Jt, JAt (N + 1) (fun _ => True) w (.agg cs.toArray) j ∧ cs.length = 4 ∧ ∀ d, SzJ N N d j := by
  intro N
  induction N with
  | zero =>
    intro fuel cs x h hN
    obtain ⟨k, l, sv, lv, ls, n, x3, _, _, _, _, hb⟩ := json_one h
    omega
  | succ N ih =>
    intro fuel cs x h hN
    obtain ⟨k, l, sv, lv, ls, n, x3, rfl, hL, h1, h3, hb⟩ := json_one h
    obtain ⟨v, m, m', CS, D, ev, hrow, hcap, hel, hbl⟩ := open_rows (k := 4) Tryd.underlying23 (by kernel_rfl) (by omega) (fun m cs y hy u hu => by
      obtain ⟨k, l, sv, lv, ls, n, x3, rfl, hs, h1, _, _⟩ := json_one hy
      obtain ⟨a, c, e, _⟩ := hs.len
      simp only [List.mem_cons, List.mem_nil_iff, or_false] at hu
      rcases hu with rfl | rfl | rfl | rfl
      · rfl
      · rfl
      · rw [e]; rfl
      · exact h1) h3
    obtain rfl : lv = v := (List.cons.inj ev).1
    have hD : ∀ i, i < m → Rows.uptoBulk (D i) ≤ N := fun i hi => by
      have h9 := sum_memN (f := fun i => Rows.uptoBulk (D i)) (List.mem_range.2 hi)
      omega
    obtain ⟨L, hLL⟩ := Deep.choose_lt (α := Jt) (p := fun i j => JAt (N + 1) (fun _ => True) w (.agg (CS i).toArray) j ∧ (CS i).length = 4 ∧ ∀ d, SzJ N N d j) (fun i hi => by
      obtain ⟨_, Pl, hp⟩ := hel i hi
      exact ih m' (CS i) (D i, Pl) hp (hD i hi))
    have hm : m ≤ N := by
      have h8 : m ≤ ((List.range m).map fun i => Rows.uptoBulk (D i)).sum := by
        have key : ∀ q : List Nat, (∀ i ∈ q, i < m) → q.length ≤ (q.map fun i => Rows.uptoBulk (D i)).sum := by
          intro q
          induction q with
          | nil => simp
          | cons i q ihq =>
            intro hq
            obtain ⟨_, Pl, hp⟩ := hel i (hq i List.mem_cons_self)
            obtain ⟨_, _, _, _, _, _, _, _, _, _, _, hb1⟩ := json_one hp
            have := ihq fun i hi => hq i (List.mem_cons_of_mem _ hi)
            simp only [List.length_cons, List.map_cons, List.sum_cons]
            simp only at hb1
            omega
        have := key (List.range m) (fun i hi => List.mem_range.1 hi)
        simpa using this
      omega
    have hls := lens_each ls
    have hcells : cellsJ ((List.range m).map fun i => .agg (CS i).toArray) = (List.range m).flatMap CS := by
      unfold cellsJ
      rw [List.flatMap_map]
      rfl
    refine ⟨.mk k l ls ((List.range m).map L), ⟨sv, lv, (List.range m).map fun i => .agg (CS i).toArray, rfl, hL, fun _ _ _ => trivial, ?_, hcap, fun _ _ _ => trivial, by simp [Jt.list], ?_⟩, rfl, ?_⟩
    · rw [hcells]
      show IsRow 4 w lv ((List.range m).map L).length _
      rw [List.length_map, List.length_range]
      exact hrow
    · intro i y u hy hu
      obtain ⟨hi, rfl⟩ := range_map_get L m i y hy
      obtain ⟨_, rfl⟩ := range_map_get (fun i => Value.agg (CS i).toArray) m i u hu
      exact (hLL i hi).1
    · intro d
      cases d with
      | zero => trivial
      | succ d =>
        refine ⟨by show l.length ≤ _; omega, by show ls.length ≤ _; omega, by show ((List.range m).map L).length ≤ _; rw [List.length_map, List.length_range]; omega, fun q hq => by have := hls.2 q hq; omega, fun y hy => ?_⟩
        obtain ⟨i, hi, rfl⟩ := List.mem_map.1 hy
        exact SzJ.wider (hLL i (List.mem_range.1 hi)).2.2 d
set_option maxRecDepth 100000 in
set_option maxHeartbeats 400000 in
theorem open_jsonV {r : Reach} {b0 : Nat} {v : Value} {d : DataW H} {ps : List MemPlace} (hval : Value.okWide Tryd.prog w r b0 25 v) (hd : DataW.Trod enc Tryd.prog w 0 (fun _ => true) true 25 v d ps) :
    ∃ (j : Jt), JAt (Rows.uptoBulk d + 1) (fun _ => True) w v j ∧ ∀ e, SzJ (Rows.uptoBulk d) (Rows.uptoBulk d) e j := by
  obtain ⟨cs, rfl, hcs⟩ := okWide_struct Tryd.underlying25 hval
  obtain ⟨fuel, hf⟩ := hd
  obtain ⟨j, h1, _, h3⟩ := open_json (Rows.uptoBulk d) fuel cs.toList (d, ps) hf (Nat.le_refl _)
  exact ⟨j, by simpa using h1, h3⟩
end

end Go.Proofs.YtlejbindochiiaaDoor
