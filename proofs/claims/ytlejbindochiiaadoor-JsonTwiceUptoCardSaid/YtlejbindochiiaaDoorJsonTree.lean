/-
  CONTRACT of json's reader: tree (one step: from trees less deep, and objects).
-/
import Derived.Test.YtlejbindochiiaaDoorJsonStr
import Derived.Test.YtlejbindochiiaaDoorJsonNum
import Derived.Test.YtlejbindochiiaaDoorJsonBox
import Derived.Test.YtlejbindochiiaaDoorJsonLoc
import Derived.Test.YtlejbindochiiaaDoorRowSet
import Derived.Deep.RegionLaw
import Derived.Deep.Onto
namespace Go.Proofs.YtlejbindochiiaaDoor
open Go.RowKit
set_option linter.unusedVariables false
set_option linter.unusedSimpArgs false

def VJ (lo n : Nat) (x : Jt) (v : Value) (w : World) : Prop := JAt n (fun b => lo ≤ b) w v x
/-- what tree does at a depth that leaves room for d -/
def TreeC (d : Nat) : Prop := ∀ (w : World) (R : Nat) (s l : List UInt8), JRd w R s l → s.length ≤ 999999 →
  Calls Tryd.prog 19 #[.pointer (some ⟨R, 0, none⟩), .int .i64 ((13 - d : Nat) : Int)] w (JRdP s R (VJ w.heap.size d) (treeJ d l) w)
/-- an object behind its brace -/
def objJ (d : Nat) (l : List UInt8) : JRs Jt := JRs.next (membJ (treeJ d) (l.length + 1) [] (blankJ l)) fun p t => .ok (.mk 7 [] p.1 p.2, t)
def ObjC (d : Nat) : Prop := ∀ (w : World) (R : Nat) (s l : List UInt8), JRd w R s l → s.length ≤ 999999 →
  Calls Tryd.prog 33 #[.pointer (some ⟨R, 0, none⟩), .int .i64 ((12 - d : Nat) : Int)] w (JRdP s R (VJ w.heap.size (d + 1)) (objJ d l) w)
theorem jblank_from {w W : World} {R : Nat} {s l : List UInt8} (h : w.grownBy W (some R) ∧ JRd W R s l) (hs : s.length ≤ 1000000) :
    Calls Tryd.prog 20 #[.pointer (some ⟨R, 0, none⟩)] W fun e w' => e = .returned (.tuple #[]) ∧ w.grownBy w' (some R) ∧ JRd w' R s (blankJ l) :=
  (jblank_any W R s l h.2 hs).mono fun e w' ⟨h1, h2, h3⟩ => ⟨h1, mv_trans h.1 h2, h3⟩
set_option maxRecDepth 100000 in
set_option maxHeartbeats 4000000 in
theorem tree_zero : TreeC 0 := by
  intro w R s l h hs
  have H := hid h
  have hR := h.lt
  clear h
  go_enter Tryd.func19, Tryd.ntmps19
  go_wp2_with fail
  refine (jblank_from (w := w) ⟨(by repeat (first | exact mv_refl _ _ | assumption | apply mv_drewN | apply mv_drew | apply mv_st | apply mv_alloc)), H.out.grow (by repeat (first | exact G.refl _ | assumption | apply G.drew | apply G.drewN | apply G.alloc | refine G.trans ?_ (by assumption)))⟩ (by omega)).mono ?_
  rintro e w1 ⟨rfl, gm, hr⟩
  obtain ⟨p, he, ho⟩ := hr
  have c1 := ho.c1
  have GM := hid gm
  have hq : s.length - (blankJ l).length = p.length := by rw [he]; simp
  have HQ := hid hq
  clear he ho gm hq
  go_wp2_with fail
  refine (jthrow_any _ _ _ _).mono ?_
  rintro e w2 ⟨rfl, rfl⟩
  exact ⟨rfl, JRdP.no GM.out rfl HQ.out⟩

theorem prefW_any (l p : List UInt8) (b : Bool) (v : Value) (hv : v = .string (S p)) (hb : hasP l p = b) (w : World) : Pure 15 #[.string (S l), v] w (.bool b) := by
  subst hv; subst hb; exact hasPrefix_any l p w
theorem hasP_take {l p : List UInt8} (h : hasP l p = true) : l.take p.length = p := by unfold hasP at h; simpa using h
theorem hasP_not {l p : List UInt8} (h : hasP l p = false) : ¬ l.take p.length = p := by unfold hasP at h; simpa using h
/-- a tree that is neither a word nor a number -/
def restJ (d : Nat) : List UInt8 → JRs Jt
  | [] => .error (7, 0)
  | c :: r =>
    if c = 34 then JRs.next (strJ (c :: r)) fun s t => .ok (.mk 5 s [] [], t)
    else if c = 91 then JRs.next (elemsJ (treeJ d) (r.length + 1) false (blankJ r)) fun xs t => .ok (.mk 6 [] [] xs, t)
    else if c = 123 then objJ d r
    else .error (3, r.length + 1)
theorem treeJ_step (d : Nat) (l l1 : List UInt8) (h : blankJ l = l1) : treeJ (d + 1) l =
    if l1.take 4 = nullJ then .ok (.mk 1 [] [] [], l1.drop 4)
    else if l1.take 5 = falseJ then .ok (.mk 2 [] [] [], l1.drop 5)
    else if l1.take 4 = trueJ then .ok (.mk 3 [] [] [], l1.drop 4)
    else if 0 < numJ l1 then .ok (.mk 4 (l1.take (numJ l1)) [] [], l1.drop (numJ l1))
    else restJ d l1 := by
  subst h
  conv => lhs; unfold treeJ
  congr 4
/-- how many bytes are left -/
theorem leftJ_eq {w : World} {R : Nat} {s l : List UInt8} (h : JRd w R s l) : s.length - (intOf ((w.cell? ⟨R, 1, none⟩).getD .nilIface)).toNat = l.length := by
  obtain ⟨p, e, h⟩ := h
  rw [h.c1, e]
  simp [intOf]
theorem tree_len {d : Nat} {l u : List UInt8} {x : Jt} (h : treeJ d l = .ok (x, u)) : u.length < l.length := by
  obtain ⟨a, c, e, _⟩ := tree_loc d l x u h
  rw [e]; simp; omega
theorem wantIf_len {b : Bool} {t t1 : List UInt8} {v : Unit} (h : (if b = true then wantJ 44 t else .ok ((), t)) = .ok (v, t1)) : t1.length ≤ t.length := by
  split at h
  · rw [want_ok h]; simp
  · injection h with h; injection h with _ h; rw [h]; exact Nat.le_refl _
def wordsJ : Array Value := #[.string ⟨#[110, 117, 108, 108]⟩, .string ⟨#[102, 97, 108, 115, 101]⟩, .string ⟨#[116, 114, 117, 101]⟩]
theorem idx_words (w : World) (i : Nat) (j : Int) (v : Value) (hj : j = (i : Int)) (hi : i < 3) (hv : wordsJ[i]? = some v) : Sem.run Tryd.prog (Instr.index 70 (.agg #[.string ⟨#[110, 117, 108, 108]⟩, .string ⟨#[102, 97, 108, 115, 101]⟩, .string ⟨#[116, 114, 117, 101]⟩]) (.int .i64 j)) w = .ok v w := by
  subst hj
  have hu : Tryd.prog.underlying 70 = some (.array 3 9) := Tryd.underlying70
  obtain ⟨z, hz⟩ : ∃ z, Tryd.prog.info? 9 = some z := Option.isSome_iff_exists.1 (by kernel_rfl)
  have hr : 0 ≤ (i : Int) ∧ (i : Int) < ((3 : Nat) : Int) := by omega
  have hp := run_part_plain (P := Tryd.prog) w (e := 9) (by kernel_rfl) (xs := wordsJ) (off := i) hv
  unfold Instr.index
  simp only [asIntOf, Sem.run_bind, Sem.run_pure, run_underlying hu, Result.andThen_ok, if_pos hr, run_sizeOf w hz, Int.toNat_natCast]
  rw [show i * Tryd.prog.cellsOf 9 = i from by rw [show Tryd.prog.cellsOf 9 = 1 from by kernel_rfl]; omega]
  exact hp
theorem slice_own {w : World} {b : Nat} {e : TypeId} {k n : Nat} {v : Value} {x : List Value} (h : w.ownsRow b e k v n x) : ∃ a c, v = .slice a n c := by
  rcases h.2 with ⟨rfl, rfl⟩ | ⟨g, cap, cur, rfl, _⟩
  · exact ⟨_, _, rfl⟩
  · exact ⟨_, _, rfl⟩
theorem strs_nil (w : World) : IsStrs w (.slice none 0 0) [] := ⟨⟨rfl, by simp, .inl ⟨rfl, .inl rfl⟩⟩, Nat.le_refl _⟩
/-- an array's elements that have been read (J: the array's box) -/
structure ArSt (d : Nat) (w wr : World) (R : Nat) (s : List UInt8) (X J : Nat) (l0 : List UInt8) (n0 : Nat) (xs : List Jt) (lv : Value) (vs : List Value) (t : List UInt8) (n : Nat) : Prop where
  mv : w.grownBy wr (some R)
  rd : JRd wr R s t
  boxX : wr.heap[X]? = some (.cells #[.int .i64 0, .string (S []), .slice none 0 0, .slice none 0 0] 25)
  boxJ : wr.heap[J]? = some (.cells #[.int .i64 6, .string (S []), .slice none 0 0, lv] 25)
  st : ElSt wr J d xs lv vs
  eq : elemsJ (treeJ d) n0 false l0 = JRs.next (elemsJ (treeJ d) n (decide (xs ≠ [])) t) fun ys u => .ok (xs ++ ys, u)
  lt : t.length < n
  cnt : xs.length + t.length ≤ s.length
theorem ArSt.start {d : Nat} {w wr : World} {R : Nat} {s : List UInt8} {X J : Nat} {l0 : List UInt8} {n0 : Nat} (mv : w.grownBy wr (some R)) (rd : JRd wr R s l0) (hx : wr.heap[X]? = some (.cells #[.int .i64 0, .string (S []), .slice none 0 0, .slice none 0 0] 25)) (hj : wr.heap[J]? = some (.cells #[.int .i64 6, .string (S []), .slice none 0 0, .slice none 0 0] 25)) (hlt : l0.length < n0) :
    ArSt d w wr R s X J l0 n0 [] (.slice none 0 0) [] l0 n0 :=
  ⟨mv, rd, hx, hj, ElSt.nil _ _ _, by simp only [ne_eq, not_true_eq_false, decide_false]; cases elemsJ (treeJ d) n0 false l0 with | ok p => obtain ⟨a, t⟩ := p; rfl | error e => rfl, hlt, by obtain ⟨p, e, _⟩ := rd; rw [e]; simp⟩
section
variable {d : Nat} {w wr : World} {R : Nat} {s : List UInt8} {X J : Nat} {l0 : List UInt8} {n0 : Nat} {xs : List Jt} {lv : Value} {vs : List Value} {t : List UInt8} {n : Nat}
theorem ArSt.end (h : ArSt d w wr R s X J l0 n0 xs lv vs t (n + 1)) {r : List UInt8} (hb : isJ 93 t = some r) : elemsJ (treeJ d) n0 false l0 = .ok (xs, r) := by
  rw [h.eq, elemsJ_step, hb]; simp [JRs.next]
theorem ArSt.badW (h : ArSt d w wr R s X J l0 n0 xs lv vs t (n + 1)) {e : JEr} (hb : isJ 93 t = none) (hw : (if decide (xs ≠ []) = true then wantJ 44 t else .ok ((), t)) = .error e) : elemsJ (treeJ d) n0 false l0 = .error e := by
  rw [h.eq, elemsJ_step, hb]; simp only; rw [hw]; rfl
theorem ArSt.badT (h : ArSt d w wr R s X J l0 n0 xs lv vs t (n + 1)) {e : JEr} {v : Unit} {t1 : List UInt8} (hb : isJ 93 t = none) (hw : (if decide (xs ≠ []) = true then wantJ 44 t else .ok ((), t)) = .ok (v, t1)) (ht : treeJ d t1 = .error e) : elemsJ (treeJ d) n0 false l0 = .error e := by
  rw [h.eq, elemsJ_step, hb]; simp only; rw [hw, jnext_pos, ht]; rfl
theorem ArSt.go (h : ArSt d w wr R s X J l0 n0 xs lv vs t (n + 1)) {v : Unit} {t1 u : List UInt8} {x : Jt} (hb : isJ 93 t = none) (hw : (if decide (xs ≠ []) = true then wantJ 44 t else .ok ((), t)) = .ok (v, t1)) (ht : treeJ d t1 = .ok (x, u)) :
    elemsJ (treeJ d) n0 false l0 = JRs.next (elemsJ (treeJ d) n (decide (xs ++ [x] ≠ [])) (blankJ u)) fun ys z => .ok ((xs ++ [x]) ++ ys, z) := by
  rw [h.eq, elemsJ_step, hb]; simp only; rw [hw, jnext_pos, ht, jnext_pos]
  rw [show decide (xs ++ [x] ≠ []) = true by simp]
  cases elemsJ (treeJ d) n true (blankJ u) with
  | ok p => obtain ⟨a, t⟩ := p; simp [JRs.next]
  | error e => rfl
end
set_option maxRecDepth 100000 in
set_option maxHeartbeats 16000000 in
theorem tree_succ (d : Nat) (hd : d + 1 ≤ 12) (ht : TreeC d) (hob : ObjC d) : TreeC (d + 1) := by
  intro w R s l h hs
  obtain ⟨k, hk⟩ : ∃ k, 13 - (d + 1) = k := ⟨_, rfl⟩
  have TC : Hid (∀ (W : World) (l : List UInt8), JRd W R s l → Calls Tryd.prog 19 #[.pointer (some ⟨R, 0, none⟩), .int .i64 ((k : Int) + 1)] W (JRdP s R (VJ W.heap.size d) (treeJ d l) W)) := hid (fun W l h => by have := ht W R s l h hs; rwa [show ((13 - d : Nat) : Int) = (k : Int) + 1 by omega] at this)
  have OC : Hid (∀ (W : World) (l : List UInt8), JRd W R s l → Calls Tryd.prog 33 #[.pointer (some ⟨R, 0, none⟩), .int .i64 (k : Int)] W (JRdP s R (VJ W.heap.size (d + 1)) (objJ d l) W)) := hid (fun W l h => by have := hob W R s l h hs; rwa [show 12 - d = k by omega] at this)
  rw [hk]
  have hk12 : ¬ (12 : Int) < (k : Int) := by omega
  have hk12n : ¬ 12 < k := by omega
  have hk12d : decide ((12 : Int) < (k : Int)) = false := decide_eq_false hk12
  have H := hid h
  have hR := h.lt
  have HRW := hid hR
  obtain ⟨i0, hi0, hz0, hz1, hz2⟩ := info_parts infoJson
  clear h ht hob hk
  go_enter Tryd.func19, Tryd.ntmps19
  go_upto_region 1 with fail
  generalize hwb : World.alloc w _ = wb
  obtain ⟨X, hX⟩ : ∃ X, w.heap.size = X := ⟨_, rfl⟩
  rw [hX]
  have hbox : wb.heap[X]? = some (.cells #[.int .i64 0, .string (S []), .slice none 0 0, .slice none 0 0] 25) := by rw [← hwb, ← hX]; exact (MapKept.heap_alloc w _).1
  have GB := hid (show G w wb by rw [← hwb]; exact (G.refl _).alloc _)
  have hBb : wb.heap.size = X + 1 := by rw [← hwb, ← hX]; simp
  have HBX := hid hbox
  have HX := hid hX
  have hRX : R < X := by omega
  have HSB := hid hBb
  clear hwb hbox hX hR hBb
  go_wp2_with fail
  refine (jblank_any wb R s l (H.out.grow GB.out) (by omega)).mono ?_
  rintro e w1 ⟨rfl, gm, hr⟩
  obtain ⟨l1, hl1⟩ : ∃ l1, blankJ l = l1 := ⟨_, rfl⟩
  rw [hl1] at hr
  have HT := hid (treeJ_step d l l1 hl1)
  obtain ⟨p, he, ho⟩ := hr
  have c0 := ho.c0
  have c1 := ho.c1
  have HO := hid ho
  have HE := hid he
  have M1 := hid (show w.grownBy w1 (some R) from mv_trans (mv_of _ GB.out) gm)
  have bx1 : w1.heap[X]? = some (.cells #[.int .i64 0, .string (S []), .slice none 0 0, .slice none 0 0] 25) := (gm.block X (by rw [HSB.out]; omega) (by simp; omega)).trans HBX.out
  have BX1 := hid bx1
  have hdr : s.drop p.length = l1 := by rw [he]; simp
  have hle : p.length ≤ s.length := by rw [he]; simp
  have HLS : Hid (s.length = p.length + l1.length) := hid (by rw [he]; simp)
  clear gm ho he bx1 hl1
  go_wp2_with fail
  go_quiet (fail)
  have HO2 : Hid (RdO 58 [] (w1.drewN nq) R s p.length) := hid (HO.out.drewN _)
  have M2 : Hid (w.grownBy (w1.drewN nq) (some R)) := hid (mv_drewN M1.out _)
  have BX2 : Hid ((w1.drewN nq).heap[X]? = some (.cells #[.int .i64 0, .string (S []), .slice none 0 0, .slice none 0 0] 25)) := hid BX1.out
  clear c0 c1 HO M1 BX1
  generalize w1.drewN nq = w2 at HO2 M2 BX2 ⊢
  go_wp2_with fail
  go_loopw [7, 8, 32] (fun iv sv kv wr => ∃ i : Nat, i ≤ 3 ∧ kv = .int .i64 i ∧ (0 < i → hasP l1 nullJ = false) ∧ (1 < i → hasP l1 falseJ = false) ∧ (2 < i → hasP l1 trueJ = false) ∧ wr = w2) (fun _ _ i _ => 3 - (intOf i).toNat)
  case atStart => exact ⟨0, by omega, rfl, by omega, by omega, by omega, rfl⟩
  case round =>
    obtain ⟨i, hi, rfl, h1, h2, h3, rfl⟩ := hrel
    have d0 := HO2.out.c0
    have d1 := HO2.out.c1
    have y1 := HO2.out.fz 1
    have bx := BX2.out
    have x0 : wr.cell? ⟨X, 0, none⟩ = some (.int .i64 0) := by rw [cell_of_row wr X 0 _ _ _ bx]; rfl
    have x1 : wr.cell? ⟨X, 1, none⟩ = some (.string (S [])) := by rw [cell_of_row wr X 1 _ _ _ bx]; rfl
    have x2 : wr.cell? ⟨X, 2, none⟩ = some (.slice none 0 0) := by rw [cell_of_row wr X 2 _ _ _ bx]; rfl
    have x3 : wr.cell? ⟨X, 3, none⟩ = some (.slice none 0 0) := by rw [cell_of_row wr X 3 _ _ _ bx]; rfl
    have f0 : wr.frozen? ⟨X, 0, none⟩ = false := frozen_of_row wr X 0 _ _ bx
    have f1 : wr.frozen? ⟨X, 1, none⟩ = false := frozen_of_row wr X 1 _ _ bx
    have f2 : wr.frozen? ⟨X, 2, none⟩ = false := frozen_of_row wr X 2 _ _ bx
    have f3 : wr.frozen? ⟨X, 3, none⟩ = false := frozen_of_row wr X 3 _ _ bx
    have hXR : ¬ X = R := by omega
    have hRX2 : ¬ R = X := by omega
    clear bx
    have N1 := hid h1
    have N2 := hid h2
    have N3 := hid h3
    clear h1 h2 h3
    obtain hi : i = 0 ∨ i = 1 ∨ i = 2 ∨ i = 3 := by omega
    rcases hi with rfl | rfl | rfl | rfl
    · cases hw : hasP l1 nullJ with
      | true =>
        have HW := hid hw
        clear hw
        go_wp2_with fail
        first | rw [idx_words wr 0 0 (.string ⟨#[110, 117, 108, 108]⟩) rfl (by decide) rfl] | rw [idx_words wr 0 ((0 : Nat) : Int) (.string ⟨#[110, 117, 108, 108]⟩) rfl (by decide) rfl]
        go_wp2_with fail
        refine (prefW_any l1 nullJ true _ rfl HW.out _).use ?_
        go_wp2_with fail
        refine box_ret (X := X) rfl rfl rfl (box_put (Array.getElem?_eq_some_iff.1 (show (wr.setCell ⟨R, 1, none⟩ _).heap[X]? = some _ from (Below.heap_setCell _ _ _ _ hXR).trans BX2.out) |> fun ⟨_, e⟩ => Array.getElem?_eq_some_iff.2 ⟨_, e⟩)) rfl ?_
        refine JRdP.yes (t := l1.drop 4) (mv_putX (mv_st M2.out) (by rw [HX.out]; omega)) (by rw [HT.out]; rw [if_pos (show l1.take 4 = nullJ from hasP_take HW.out)]) (JAt.leaf 1 []) ⟨s.take (p.length + 4), ?_, ?_⟩
        · rw [← hdr, List.drop_drop, List.take_append_drop]
        · have hn : 4 ≤ l1.length := hasP_le HW.out
          have := HLS.out
          rw [List.length_take, Nat.min_eq_left (by omega)]
          exact (HO2.out.setN _ _ (by simp)).putX (by omega)
      | false =>
        have HW := hid hw
        clear hw
        go_wp2_with fail
        first | rw [idx_words wr 0 0 (.string ⟨#[110, 117, 108, 108]⟩) rfl (by decide) rfl] | rw [idx_words wr 0 ((0 : Nat) : Int) (.string ⟨#[110, 117, 108, 108]⟩) rfl (by decide) rfl]
        go_wp2_with fail
        refine (prefW_any l1 nullJ false _ rfl HW.out _).use ?_
        go_wp2_with fail
        go_roundw
        case rel => exact ⟨1, by first | omega | trivial, by first | rfl | trivial, by first | exact fun _ => HW.out | trivial, by first | omega | trivial, by first | omega | trivial, by first | rfl | trivial⟩
        case measure => simp [intOf]
    · cases hw : hasP l1 falseJ with
      | true =>
        have HW := hid hw
        clear hw
        go_wp2_with fail
        first | rw [idx_words wr 1 1 (.string ⟨#[102, 97, 108, 115, 101]⟩) rfl (by decide) rfl] | rw [idx_words wr 1 ((1 : Nat) : Int) (.string ⟨#[102, 97, 108, 115, 101]⟩) rfl (by decide) rfl]
        go_wp2_with fail
        refine (prefW_any l1 falseJ true _ rfl HW.out _).use ?_
        go_wp2_with fail
        refine box_ret (X := X) rfl rfl rfl (box_put (Array.getElem?_eq_some_iff.1 (show (wr.setCell ⟨R, 1, none⟩ _).heap[X]? = some _ from (Below.heap_setCell _ _ _ _ hXR).trans BX2.out) |> fun ⟨_, e⟩ => Array.getElem?_eq_some_iff.2 ⟨_, e⟩)) rfl ?_
        refine JRdP.yes (t := l1.drop 5) (mv_putX (mv_st M2.out) (by rw [HX.out]; omega)) (by rw [HT.out]; rw [if_neg (show ¬ l1.take 4 = nullJ from hasP_not (N1.out (by omega)))]; rw [if_pos (show l1.take 5 = falseJ from hasP_take HW.out)]) (JAt.leaf 2 []) ⟨s.take (p.length + 5), ?_, ?_⟩
        · rw [← hdr, List.drop_drop, List.take_append_drop]
        · have hn : 5 ≤ l1.length := hasP_le HW.out
          have := HLS.out
          rw [List.length_take, Nat.min_eq_left (by omega)]
          exact (HO2.out.setN _ _ (by simp)).putX (by omega)
      | false =>
        have HW := hid hw
        clear hw
        go_wp2_with fail
        first | rw [idx_words wr 1 1 (.string ⟨#[102, 97, 108, 115, 101]⟩) rfl (by decide) rfl] | rw [idx_words wr 1 ((1 : Nat) : Int) (.string ⟨#[102, 97, 108, 115, 101]⟩) rfl (by decide) rfl]
        go_wp2_with fail
        refine (prefW_any l1 falseJ false _ rfl HW.out _).use ?_
        go_wp2_with fail
        go_roundw
        case rel => exact ⟨2, by first | omega | trivial, by first | rfl | trivial, by first | exact fun _ => N1.out (by omega) | trivial, by first | exact fun _ => HW.out | trivial, by first | omega | trivial, by first | rfl | trivial⟩
        case measure => simp [intOf]
    · cases hw : hasP l1 trueJ with
      | true =>
        have HW := hid hw
        clear hw
        go_wp2_with fail
        first | rw [idx_words wr 2 2 (.string ⟨#[116, 114, 117, 101]⟩) rfl (by decide) rfl] | rw [idx_words wr 2 ((2 : Nat) : Int) (.string ⟨#[116, 114, 117, 101]⟩) rfl (by decide) rfl]
        go_wp2_with fail
        refine (prefW_any l1 trueJ true _ rfl HW.out _).use ?_
        go_wp2_with fail
        refine box_ret (X := X) rfl rfl rfl (box_put (Array.getElem?_eq_some_iff.1 (show (wr.setCell ⟨R, 1, none⟩ _).heap[X]? = some _ from (Below.heap_setCell _ _ _ _ hXR).trans BX2.out) |> fun ⟨_, e⟩ => Array.getElem?_eq_some_iff.2 ⟨_, e⟩)) rfl ?_
        refine JRdP.yes (t := l1.drop 4) (mv_putX (mv_st M2.out) (by rw [HX.out]; omega)) (by rw [HT.out]; rw [if_neg (show ¬ l1.take 4 = nullJ from hasP_not (N1.out (by omega)))]; rw [if_neg (show ¬ l1.take 5 = falseJ from hasP_not (N2.out (by omega)))]; rw [if_pos (show l1.take 4 = trueJ from hasP_take HW.out)]) (JAt.leaf 3 []) ⟨s.take (p.length + 4), ?_, ?_⟩
        · rw [← hdr, List.drop_drop, List.take_append_drop]
        · have hn : 4 ≤ l1.length := hasP_le HW.out
          have := HLS.out
          rw [List.length_take, Nat.min_eq_left (by omega)]
          exact (HO2.out.setN _ _ (by simp)).putX (by omega)
      | false =>
        have HW := hid hw
        clear hw
        go_wp2_with fail
        first | rw [idx_words wr 2 2 (.string ⟨#[116, 114, 117, 101]⟩) rfl (by decide) rfl] | rw [idx_words wr 2 ((2 : Nat) : Int) (.string ⟨#[116, 114, 117, 101]⟩) rfl (by decide) rfl]
        go_wp2_with fail
        refine (prefW_any l1 trueJ false _ rfl HW.out _).use ?_
        go_wp2_with fail
        go_roundw
        case rel => exact ⟨3, by first | omega | trivial, by first | rfl | trivial, by first | exact fun _ => N1.out (by omega) | trivial, by first | exact fun _ => N2.out (by omega) | trivial, by first | exact fun _ => HW.out | trivial, by first | rfl | trivial⟩
        case measure => simp [intOf]
    · have T3 : Hid (treeJ (d + 1) l = if 0 < numJ l1 then .ok (.mk 4 (l1.take (numJ l1)) [] [], l1.drop (numJ l1)) else restJ d l1) := hid (by
        rw [HT.out, if_neg (show ¬ l1.take 4 = nullJ from hasP_not (N1.out (by omega))), if_neg (show ¬ l1.take 5 = falseJ from hasP_not (N2.out (by omega))), if_neg (show ¬ l1.take 4 = trueJ from hasP_not (N3.out (by omega)))])
      have hll : l1.length ≤ 999999 := by have := HLS.out; omega
      have hn1 := num_le l1
      obtain ⟨n, hn⟩ : ∃ n, numJ l1 = n := ⟨_, rfl⟩
      have NA := hid (number_any l1 wr hll)
      rw [hn] at T3 NA hn1
      have HN := hid hn
      clear hn x0 x1 x2 x3 f0 f1 f2 f3 d0 d1 y1 HT
      go_wp2_with fail
      refine NA.out.use ?_
      intro w3 g3
      have HO3 := hid (HO2.out.grow g3)
      have M3 := hid (mv_g M2.out g3)
      have bx3 : w3.heap[X]? = some (.cells #[.int .i64 0, .string (S []), .slice none 0 0, .slice none 0 0] 25) := (g3.below.block X (lt_of_row BX2.out)).trans BX2.out
      have BX3 := hid bx3
      have d0 := HO3.out.c0
      have d1 := HO3.out.c1
      have y1 := HO3.out.fz 1
      have HSZ := hid (show ∀ (W : World), w3.grownBy W (some R) → W.heap[X]? = some (.cells #[.int .i64 0, .string (S []), .slice none 0 0, .slice none 0 0] 25) from fun W g => (g.block X (lt_of_row bx3) (by simp; omega)).trans bx3)
      clear g3 bx3
      by_cases h0 : 0 < n
      · have h0i : (0 : Int) < (n : Int) := by omega
        have bx := BX3.out
        have x0 : w3.cell? ⟨X, 0, none⟩ = some (.int .i64 0) := by rw [cell_of_row w3 X 0 _ _ _ bx]; rfl
        have x1 : w3.cell? ⟨X, 1, none⟩ = some (.string (S [])) := by rw [cell_of_row w3 X 1 _ _ _ bx]; rfl
        have x2 : w3.cell? ⟨X, 2, none⟩ = some (.slice none 0 0) := by rw [cell_of_row w3 X 2 _ _ _ bx]; rfl
        have x3 : w3.cell? ⟨X, 3, none⟩ = some (.slice none 0 0) := by rw [cell_of_row w3 X 3 _ _ _ bx]; rfl
        have f0 : w3.frozen? ⟨X, 0, none⟩ = false := frozen_of_row w3 X 0 _ _ bx
        have f1 : w3.frozen? ⟨X, 1, none⟩ = false := frozen_of_row w3 X 1 _ _ bx
        have f2 : w3.frozen? ⟨X, 2, none⟩ = false := frozen_of_row w3 X 2 _ _ bx
        have f3 : w3.frozen? ⟨X, 3, none⟩ = false := frozen_of_row w3 X 3 _ _ bx
        have hpn : p.length + n ≤ 1000000 := by have := HLS.out; omega
        clear bx
        go_wp2_with fail
        refine box_ret (X := X) rfl rfl rfl (box_put (show (w3.setCell ⟨R, 1, none⟩ _).heap[X]? = some _ from (Below.heap_setCell _ _ _ _ hXR).trans BX3.out)) rfl ?_
        refine JRdP.yes (t := l1.drop n) (mv_putX (mv_st M3.out) (by rw [HX.out]; omega)) (by rw [T3.out, if_pos h0]) (JAt.leaf 4 (l1.take n)) ⟨s.take (p.length + n), ?_, ?_⟩
        · rw [← hdr, List.drop_drop, List.take_append_drop]
        · have := HLS.out
          rw [List.length_take, Nat.min_eq_left (by omega)]
          exact (HO3.out.setN _ _ (by simp)).putX (by omega)
      · have h0i : ¬ (0 : Int) < (n : Int) := by omega
        have T4 : Hid (treeJ (d + 1) l = restJ d l1) := hid (by rw [T3.out, if_neg h0])
        have RD3 : Hid (JRd w3 R s l1) := hid ⟨p, HE.out, HO3.out⟩
        clear T3 d0 d1 y1
        cases l1 with
        | nil =>
          have HP := hid (show hasP ([] : List UInt8) [34] = false by decide)
          go_wp2_with fail
          refine (prefW_any [] [34] false _ rfl HP.out _).use ?_
          go_wp2_with fail
          refine (jis_any w3 R s [] 91 RD3.out (by omega)).mono ?_
          rw [show isJ 91 [] = none from rfl]
          rintro e w4 ⟨rfl, m4, h4⟩
          have M4 := hid (mv_trans M3.out m4)
          have H4 := hid (show JRd w4 R s [] from h4)
          clear m4 h4
          go_wp2_with fail
          refine (jis_any w4 R s [] 123 H4.out (by omega)).mono ?_
          rw [show isJ 123 [] = none from rfl]
          rintro e w5 ⟨rfl, m5, h5⟩
          have M5 := hid (mv_trans M4.out m5)
          have H5 := hid (show JRd w5 R s [] from h5)
          clear m5 h5
          go_wp2_with fail
          refine (jlacks_any w5 R s [] H5.out).mono ?_
          rintro e w6 ⟨rfl, m, rfl⟩
          exact ⟨rfl, JRdP.no (mv_drewN M5.out m) (by rw [T4.out]; rfl) rfl⟩
        | cons c r =>
          by_cases h34 : c = 34
          · subst h34
            have HP := hid (show hasP (34 :: r) [34] = true by simp [hasP])
            go_wp2_with fail
            refine (prefW_any (34 :: r) [34] true _ rfl HP.out _).use ?_
            go_wp2_with fail
            refine (jtext_any w3 R s (34 :: r) RD3.out (by omega)).mono ?_
            intro e w4 hp4
            have T5 : Hid (treeJ (d + 1) l = JRs.next (strJ (34 :: r)) fun s t => .ok (.mk 5 s [] [], t)) := hid (by rw [T4.out]; rfl)
            cases hst : strJ (34 :: r) with
            | error q =>
              obtain ⟨ec, ek⟩ := q
              rw [hst] at hp4
              obtain ⟨gm4, rfl⟩ := hp4.bad
              exact ⟨rfl, JRdP.no (mv_trans M3.out gm4) (by rw [T5.out, hst]; rfl) rfl⟩
            | ok q =>
              obtain ⟨a, t⟩ := q
              rw [hst] at hp4
              obtain ⟨gm4, v, rfl, rfl, hr4⟩ := hp4.ok
              have M4 := hid (mv_trans M3.out gm4)
              have HST := hid hst
              have bx := HSZ.out w4 gm4
              have BX4 := hid bx
              have HR4 := hid hr4
              clear hp4 gm4 hr4 hst
              have x0 : w4.cell? ⟨X, 0, none⟩ = some (.int .i64 0) := by rw [cell_of_row w4 X 0 _ _ _ bx]; rfl
              have x1 : w4.cell? ⟨X, 1, none⟩ = some (.string (S [])) := by rw [cell_of_row w4 X 1 _ _ _ bx]; rfl
              have x2 : w4.cell? ⟨X, 2, none⟩ = some (.slice none 0 0) := by rw [cell_of_row w4 X 2 _ _ _ bx]; rfl
              have x3 : w4.cell? ⟨X, 3, none⟩ = some (.slice none 0 0) := by rw [cell_of_row w4 X 3 _ _ _ bx]; rfl
              have f0 : w4.frozen? ⟨X, 0, none⟩ = false := frozen_of_row w4 X 0 _ _ bx
              have f1 : w4.frozen? ⟨X, 1, none⟩ = false := frozen_of_row w4 X 1 _ _ bx
              have f2 : w4.frozen? ⟨X, 2, none⟩ = false := frozen_of_row w4 X 2 _ _ bx
              have f3 : w4.frozen? ⟨X, 3, none⟩ = false := frozen_of_row w4 X 3 _ _ bx
              clear bx
              go_wp2_with fail
              refine box_ret (X := X) rfl rfl rfl (box_put BX4.out) rfl ?_
              obtain ⟨p4, he4, ho4⟩ := HR4.out
              exact JRdP.yes (t := t) (mv_putX M4.out (by rw [HX.out]; omega)) (by rw [T5.out, HST.out]; rfl) (JAt.leaf 5 a) ⟨p4, he4, ho4.putX (by omega)⟩
          · have HP := hid (show hasP (c :: r) [34] = false by simp [hasP, h34])
            have H34 := hid h34
            clear h34
            by_cases h91 : c = 91
            · subst h91
              have T5 : Hid (treeJ (d + 1) l = JRs.next (elemsJ (treeJ d) (r.length + 1) false (blankJ r)) fun xs t => .ok (.mk 6 [] [] xs, t)) := hid (by rw [T4.out]; rfl)
              go_wp2_with fail
              refine (prefW_any (91 :: r) [34] false _ rfl HP.out _).use ?_
              go_wp2_with fail
              refine (jis_any w3 R s (91 :: r) 91 RD3.out (by omega)).mono ?_
              rw [isJ_cons]
              rintro e w4 ⟨rfl, m4, h4⟩
              have M4 := hid (mv_trans M3.out m4)
              have H4 := hid (show JRd w4 R s r from h4)
              have bx4 := HSZ.out w4 m4
              have BX4 := hid bx4
              have hX4 := lt_of_row bx4
              clear m4 h4 bx4
              go_upto_region 21 with fail
              generalize hwc : World.alloc w4 _ = wc
              obtain ⟨J, hJ⟩ : ∃ J, w4.heap.size = J := ⟨_, rfl⟩
              rw [hJ]
              have hboj : wc.heap[J]? = some (.cells #[.int .i64 6, .string (S []), .slice none 0 0, .slice none 0 0] 25) := by rw [← hwc, ← hJ]; exact (MapKept.heap_alloc w4 _).1
              have GC := hid (show G w4 wc by rw [← hwc]; exact (G.refl _).alloc _)
              have hCs : wc.heap.size = J + 1 := by rw [← hwc, ← hJ]; simp
              have HBJ := hid hboj
              have HJ := hid hJ
              have HCS := hid hCs
              have hRJ : R < J := by omega
              have hXJ : X < J := by omega
              have hwJ : w.heap.size ≤ J := by have := M4.out.size; omega
              clear hwc hboj hJ hCs hX4
              go_wp2_with fail
              refine (jblank_any wc R s r (H4.out.grow GC.out) (by omega)).mono ?_
              rintro e w5 ⟨rfl, m5, h5⟩
              have AS := hid (ArSt.start (d := d) (w := w) (J := J) (n0 := r.length + 1) (mv_trans (mv_g M4.out GC.out) m5) h5 ((m5.block X (by rw [HCS.out]; omega) (by simp; omega)).trans ((GC.out.below.block X (lt_of_row BX4.out)).trans BX4.out)) ((m5.block J (by rw [HCS.out]; omega) (by simp; omega)).trans HBJ.out) (by have := blank_len r; omega))
              clear m5 h5
              go_wp2_with fail
              go_loopw [] (fun wr => ∃ xs lv vs t n, ArSt d w wr R s X J (blankJ r) (r.length + 1) xs lv vs t n) (fun wr => s.length - (intOf ((wr.cell? ⟨R, 1, none⟩).getD .nilIface)).toNat)
              case atStart => exact ⟨[], _, [], _, _, AS.out⟩
              case round =>
                obtain ⟨xs, lv, vs, t, n, hst⟩ := hrel
                obtain ⟨la, lc, rfl⟩ := slice_own hst.st.row
                obtain ⟨n, rfl⟩ : ∃ m, n = m + 1 := ⟨n - 1, by have := hst.lt; omega⟩
                have AR := hid hst
                have hJr := lt_of_row hst.boxJ
                clear hst
                cases hb : isJ 93 t with
                | some r1 =>
                  have HB := hid hb
                  clear hb
                  go_wp2_with fail
                  refine (jis_any wr R s t 93 AR.out.rd (by omega)).mono ?_
                  rw [HB.out]
                  rintro e w7 ⟨rfl, m7, h7⟩
                  have M7 := hid m7
                  have H7 := hid (show JRd w7 R s r1 from h7)
                  have bx : w7.heap[X]? = _ := (m7.block X (by omega) (by simp; omega)).trans AR.out.boxX
                  have bj : w7.heap[J]? = _ := (m7.block J hJr (by simp; omega)).trans AR.out.boxJ
                  have BX7 := hid bx
                  have BJ7 := hid bj
                  have x0 : w7.cell? ⟨X, 0, none⟩ = some (.int .i64 0) := by rw [cell_of_row w7 X 0 _ _ _ bx]; rfl
                  have x1 : w7.cell? ⟨X, 1, none⟩ = some (.string (S [])) := by rw [cell_of_row w7 X 1 _ _ _ bx]; rfl
                  have x2 : w7.cell? ⟨X, 2, none⟩ = some (.slice none 0 0) := by rw [cell_of_row w7 X 2 _ _ _ bx]; rfl
                  have x3 : w7.cell? ⟨X, 3, none⟩ = some (.slice none 0 0) := by rw [cell_of_row w7 X 3 _ _ _ bx]; rfl
                  have fx0 : w7.frozen? ⟨X, 0, none⟩ = false := frozen_of_row w7 X 0 _ _ bx
                  have fx1 : w7.frozen? ⟨X, 1, none⟩ = false := frozen_of_row w7 X 1 _ _ bx
                  have fx2 : w7.frozen? ⟨X, 2, none⟩ = false := frozen_of_row w7 X 2 _ _ bx
                  have fx3 : w7.frozen? ⟨X, 3, none⟩ = false := frozen_of_row w7 X 3 _ _ bx
                  have j0 : w7.cell? ⟨J, 0, none⟩ = some (.int .i64 6) := by rw [cell_of_row w7 J 0 _ _ _ bj]; rfl
                  have j1 : w7.cell? ⟨J, 1, none⟩ = some (.string (S [])) := by rw [cell_of_row w7 J 1 _ _ _ bj]; rfl
                  have j2 : w7.cell? ⟨J, 2, none⟩ = some (.slice none 0 0) := by rw [cell_of_row w7 J 2 _ _ _ bj]; rfl
                  have j3 : w7.cell? ⟨J, 3, none⟩ = some (.slice la xs.length lc) := by rw [cell_of_row w7 J 3 _ _ _ bj]; rfl
                  clear m7 h7 bx bj
                  go_wp2_with fail
                  refine box_ret (X := X) rfl rfl rfl (box_put BX7.out) rfl ?_
                  obtain ⟨p7, he7, ho7⟩ := H7.out
                  refine JRdP.yes (t := r1) (mv_putX (mv_trans AR.out.mv M7.out) (by rw [HX.out]; omega)) (by rw [T5.out, AR.out.end HB.out]; rfl) ?_ ⟨p7, he7, ho7.putX (by omega)⟩
                  have tr := (AR.out.st.mv M7.out (by omega)).tree (lo := J) (k := 6) (t := []) (kv := .slice none 0 0) (strs_nil w7) (fun h => absurd h (by simp)) (by omega)
                  refine (tr.kept (by simp) fun b hb hlt => ?_).mono fun b hb _ => by omega
                  rw [Below.heap_setCell _ _ _ _ (by simp; omega), Below.heap_setCell _ _ _ _ (by simp; omega), Below.heap_setCell _ _ _ _ (by simp; omega), Below.heap_setCell _ _ _ _ (by simp; omega)]
                | none =>
                  have HB := hid hb
                  clear hb
                  go_wp2_with fail
                  refine (jis_any wr R s t 93 AR.out.rd (by omega)).mono ?_
                  rw [HB.out]
                  rintro e w7 ⟨rfl, m7, h7⟩
                  have M7 := hid m7
                  have H7 := hid (show JRd w7 R s t from h7)
                  have bx : w7.heap[X]? = _ := (m7.block X (by omega) (by simp; omega)).trans AR.out.boxX
                  have bj : w7.heap[J]? = _ := (m7.block J hJr (by simp; omega)).trans AR.out.boxJ
                  have BX7 := hid bx
                  have BJ7 := hid bj
                  have j3 : w7.cell? ⟨J, 3, none⟩ = some (.slice la xs.length lc) := by rw [cell_of_row w7 J 3 _ _ _ bj]; rfl
                  have HE7 := hid (AR.out.st.mv m7 (by omega))
                  clear m7 h7 bx bj
                  go_upto_if 86 with fail
                  obtain ⟨q, hq⟩ : ∃ q, decide (0 < xs.length) = q := ⟨_, rfl⟩
                  rw [hq]
                  have HQ1 := hid hq
                  clear hq
                  go_cut [] from 80 to 99 (fun wx => ∃ (v : Unit) (t1 : List UInt8), (if decide (xs ≠ []) = true then wantJ 44 t else .ok ((), t)) = .ok (v, t1) ∧ w7.grownBy wx (some R) ∧ JRd wx R s t1)
                  case first =>
                    cases q with
                    | false =>
                      have hxs : xs = [] := List.eq_nil_of_length_eq_zero (by have := of_decide_eq_false HQ1.out; omega)
                      go_wp2_with fail
                      go_meet
                      exact ⟨(), t, by rw [hxs]; rfl, mv_refl _ _, H7.out⟩
                    | true =>
                      have hxs : decide (xs ≠ []) = true := decide_eq_true (by rintro rfl; have := of_decide_eq_true HQ1.out; simp at this)
                      have HXS := hid hxs
                      clear hxs
                      go_wp2_with fail
                      refine (jwant_any w7 R s t 44 H7.out (by omega)).mono ?_
                      intro e w8 hp8
                      cases hw : wantJ 44 t with
                      | error q =>
                        obtain ⟨ec, ek⟩ := q
                        rw [hw] at hp8
                        obtain ⟨gm8, rfl⟩ := hp8.bad
                        exact ⟨rfl, JRdP.no (mv_trans AR.out.mv (mv_trans M7.out gm8)) (by rw [T5.out, AR.out.badW HB.out (by rw [if_pos HXS.out]; exact hw)]; rfl) rfl⟩
                      | ok q =>
                        obtain ⟨v, t1⟩ := q
                        rw [hw] at hp8
                        obtain ⟨gm8, v', rfl, rfl, hr8⟩ := hp8.ok
                        go_wp2_with fail
                        go_meet
                        exact ⟨v, t1, by rw [if_pos HXS.out]; exact hw, gm8, hr8⟩
                  case rest =>
                    obtain ⟨v1, t1, hw, gm8, hr8⟩ := hcut
                    have HW := hid hw
                    have M8 := hid (mv_trans AR.out.mv (mv_trans M7.out gm8))
                    have H8 := hid hr8
                    have bx8 : wc.heap[X]? = _ := (gm8.block X (by have := lt_of_row BX7.out; omega) (by simp; omega)).trans BX7.out
                    have bj8 : wc.heap[J]? = _ := (gm8.block J (by have := lt_of_row BJ7.out; omega) (by simp; omega)).trans BJ7.out
                    have HE8 := hid (HE7.out.mv gm8 (by omega))
                    have BX8 := hid bx8
                    have BJ8 := hid bj8
                    have j83 : wc.cell? ⟨J, 3, none⟩ = some (.slice la xs.length lc) := by rw [cell_of_row wc J 3 _ _ _ bj8]; rfl
                    have hxJ8 := lt_of_row bj8
                    clear hw gm8 hr8 bx8 bj8 j3
                    go_upto_region 25 with fail
                    have hkb : k + 1 ≤ 1000000 := by omega
                    have hwk : IntKind.i64.wrap ((k : Int) + 1) = (k : Int) + 1 := IntWalk.i64_in _ (by omega)
                    cases hv : treeJ d t1 with
                    | error ck =>
                      obtain ⟨c, kk⟩ := ck
                      have FIN : Hid (∀ w9, wc.grownBy w9 (some R) → JRdP s R (VJ w.heap.size (d + 1)) (treeJ (d + 1) l) w (.panicked [{ v := faultJ c (s.length - kk : Nat), recovered := false }]) w9) := hid (fun w9 m9 => JRdP.no (mv_trans M8.out m9) (by rw [T5.out, AR.out.badT HB.out HW.out hv]; rfl) rfl)
                      have HV := hid hv
                      clear hv
                      refine wp_region_any (by kernel_rfl) ?_
                      change wpAny _ _ _ _ _ _ _ (World.drew _)
                      refine wpAny_take (i := 0) (v := ?_) rfl (by kernel_rfl) (by kernel_rfl) (by kernel_rfl) (fun _ _ _ h => h) (Or.inl ⟨by rfl, ?_⟩) ?_
                      rotate_left 1
                      · intro w; go_simp; try with_reducible rfl
                      refine wpAny_take (i := 2) (v := ?_) rfl (by kernel_rfl) (by kernel_rfl) (by kernel_rfl) (fun _ _ _ h => h) (Or.inl ⟨by rfl, ?_⟩) ?_
                      rotate_left 1
                      · intro w; go_simp; try with_reducible rfl
                      refine wpAny_take (i := 3) (v := ?_) rfl (by kernel_rfl) (by kernel_rfl) (by kernel_rfl) (fun _ _ _ h => h) (Or.inl ⟨by rfl, ?_⟩) ?_
                      rotate_left 1
                      · intro w; go_simp; try with_reducible rfl
                      refine wpAny_take (i := 4) (v := ?_) rfl (by kernel_rfl) (by kernel_rfl) (by kernel_rfl) (fun _ _ _ h => h) (Or.inl ⟨by rfl, ?_⟩) ?_
                      rotate_left 1
                      · intro w; go_simp; try with_reducible rfl
                      refine wpAny_ready (rs := [1, 5]) (by kernel_rfl) (by simp) ?_
                      refine AllReady.cons rfl ?_ ?_
                      · intro K hK
                        go_simp
                        refine hK _ _ ?_
                        clear hK K
                        refine wpAny_ready (rs := [5]) (by kernel_rfl) (by simp) ?_
                        refine AllReady.cons rfl ?_ AllReady.nil
                        intro K hK
                        go_simp
                        refine (TC.out _ t1 (H8.out.grow ((G.refl _).drew))).mono ?_
                        rintro e w9 h9
                        rw [HV.out] at h9
                        obtain ⟨m9, rfl⟩ := h9
                        exact ⟨rfl, FIN.out _ (mv_trans (mv_drew (mv_refl _ _)) m9)⟩
                      · refine AllReady.cons rfl ?_ AllReady.nil
                        intro K hK
                        go_simp
                        refine (TC.out _ t1 (H8.out.grow ((G.refl _).drew))).mono ?_
                        rintro e w9 h9
                        rw [HV.out] at h9
                        obtain ⟨m9, rfl⟩ := h9
                        exact ⟨rfl, FIN.out _ (mv_trans (mv_drew (mv_refl _ _)) m9)⟩
                    | ok vt =>
                      obtain ⟨y0, u⟩ := vt
                      have HV := hid hv
                      have htl := tree_len hv
                      have hwl := wantIf_len HW.out
                      have hcnt := AR.out.cnt
                      have hlt := AR.out.lt
                      clear hv
                      go_region_law (first
                        | (refine step_append_lies _ rfl (.tmp 90) (.tmp 95) 23 rfl (J + 1) 25 i0 _ 4 72 Tryd.underlying23 hi0 hz0 hz1 hz2 rfl (by decide) (.slice la xs.length lc) xs.length _ (by simp [Act.eval, Act.put]) (HE9.out.row.alloc (.cells #[.int .i64 y0.kind, .string (S y0.text), .slice ka y0.keys.length kc, .slice ya y0.list.length yc] 25)) ⟨w9.heap.size, 0, none⟩ 1 1 [.int .i64 y0.kind, .string (S y0.text), .slice ka y0.keys.length kc, .slice ya y0.list.length yc] (by simp [Act.eval, Act.put]) rfl (news4 w9 _ _ _ _ _) (by intro x hx; simp at hx; rcases hx with rfl | rfl | rfl | rfl <;> rfl) Nat.one_pos (by unfold maxLen; omega) (by omega) (by simp; omega) _ rfl ?_; intro g gcap w5 hown hgrow hat hlt5; have bz5 : w5.heap[J]? = some (.cells #[.int .i64 6, .string (S []), .slice none 0 0, .slice la xs.length lc] 25) := (hgrow.block J (by simp; omega) (fun e => by have := (HE9.out.row.lt J e.symm).1; omega)).trans ((Below.heap_alloc _ _ _ hJ9).trans BJ9.out); have z53 : w5.frozen? ⟨J, 3, none⟩ = false := frozen_of_row w5 J 3 _ _ bz5; have b53 : w5.cell? ⟨J, 3, none⟩ = some (.slice la xs.length lc) := (by rw [cell_of_row w5 J 3 _ _ _ bz5]; rfl); have HO5 := hid hown; have HG5 := hid hgrow; have HAT := hid hat; clear hown hgrow hat bz5)
                        | (go_simp; go_at_call 19; refine (TC.out _ t1 (H8.out.grow ((G.refl _).drew))).mono ?_; rintro e w9 h9; rw [HV.out] at h9; obtain ⟨m9, v, rfl, hv9, h9⟩ := h9; obtain ⟨ka, kc, ya, yc, rfl⟩ := JAt.shape4 hv9; have M9 := hid (show wc.grownBy w9 (some R) from mv_trans (mv_drew (mv_refl _ _)) m9); have H9 := hid h9; have HV9 := hid (show JAt d (fun b => wc.heap.size ≤ b) w9 _ y0 from hv9); have bj9 : w9.heap[J]? = some (.cells #[.int .i64 6, .string (S []), .slice none 0 0, .slice la xs.length lc] 25) := (M9.out.block J hxJ8 (by simp; omega)).trans BJ8.out; have BJ9 := hid bj9; have HE9 := hid (HE8.out.mv M9.out (by omega)); have b93 : w9.cell? ⟨J, 3, none⟩ = some (.slice la xs.length lc) := (by rw [cell_of_row w9 J 3 _ _ _ bj9]; rfl); have hJ9 := lt_of_row bj9; clear m9 h9 hv9 bj9))
                      all_goals
                        have hnew := ElQ.box M8.out HRW.out (by have := HX.out; omega) hXJ HE8.out (Nat.le_refl _) hxJ8 (fun _ _ => trivial) BJ8.out BX8.out M9.out H9.out HV9.out HG5.out HO5.out HAT.out
                        have HNEW := hid hnew
                        clear hnew
                        go_wp2_with fail
                        refine (jblank_any _ R s u HNEW.out.2.1 (by omega)).mono ?_
                        rintro e w10 ⟨rfl, m10, h10⟩
                        obtain ⟨n1, n2, n3, n4, n5⟩ := HNEW.out
                        have hbl := blank_len u
                        have hm1 := leftJ_eq h10
                        have hm2 := leftJ_eq AR.out.rd
                        have NEW := hid (ArSt.mk (l0 := blankJ r) (n0 := r.length + 1) (n := n) (mv_trans n1 m10) h10 ((m10.block X (lt_of_row n3) (by simp; omega)).trans n3) ((m10.block J (lt_of_row n4) (by simp; omega)).trans n4) (n5.mv m10 (by omega)) (AR.out.go HB.out HW.out HV.out) (by omega) (by simp; omega))
                        clear n1 n2 n3 n4 n5 m10 h10
                        go_wp2_with fail
                        go_roundw
                        case rel => exact ⟨_, _, _, _, _, NEW.out⟩
                        case measure => rw [hm1, hm2]; omega
            · have H91 := hid h91
              have I91 := hid (show isJ 91 (c :: r) = none by rw [isJ_eq, if_neg h91])
              clear h91
              by_cases h123 : c = 123
              · subst h123
                go_wp2_with fail
                refine (prefW_any (123 :: r) [34] false _ rfl HP.out _).use ?_
                go_wp2_with fail
                refine (jis_any w3 R s (123 :: r) 91 RD3.out (by omega)).mono ?_
                rw [I91.out]
                rintro e w4 ⟨rfl, m4, h4⟩
                have M4 := hid m4
                have H4 := hid (show JRd w4 R s (123 :: r) from h4)
                clear m4 h4
                go_wp2_with fail
                refine (jis_any w4 R s (123 :: r) 123 H4.out (by omega)).mono ?_
                rw [isJ_cons]
                rintro e w5 ⟨rfl, m5, h5⟩
                have M5 := hid (mv_trans M4.out m5)
                have H5 := hid (show JRd w5 R s r from h5)
                clear m5 h5
                go_wp2_with fail
                refine (OC.out w5 r H5.out).mono ?_
                intro e w6 hp6
                have T5 : Hid (treeJ (d + 1) l = objJ d r) := hid (by rw [T4.out]; rfl)
                cases hoj : objJ d r with
                | error q =>
                  obtain ⟨ec, ek⟩ := q
                  rw [hoj] at hp6
                  obtain ⟨gm6, rfl⟩ := hp6.bad
                  exact ⟨rfl, JRdP.no (mv_trans M3.out (mv_trans M5.out gm6)) (by rw [T5.out, hoj]) rfl⟩
                | ok q =>
                  obtain ⟨a, t⟩ := q
                  rw [hoj] at hp6
                  obtain ⟨gm6, v, rfl, hv, hr6⟩ := hp6.ok
                  have M6 := hid (mv_trans M5.out gm6)
                  have HOJ := hid hoj
                  have bx := HSZ.out w6 (mv_trans M5.out gm6)
                  have BX6 := hid bx
                  have HR6 := hid hr6
                  have HV : Hid (JAt (d + 1) (fun b => w5.heap.size ≤ b) w6 v a) := hid hv
                  have hsz5 : X < w5.heap.size := by have := lt_of_row BX3.out; have := M5.out.size; omega
                  obtain ⟨ka, kc, la, lc, rfl⟩ := JAt.shape4 hv
                  clear hp6 gm6 hr6 hoj hv
                  have x0 : w6.cell? ⟨X, 0, none⟩ = some (.int .i64 0) := by rw [cell_of_row w6 X 0 _ _ _ bx]; rfl
                  have x1 : w6.cell? ⟨X, 1, none⟩ = some (.string (S [])) := by rw [cell_of_row w6 X 1 _ _ _ bx]; rfl
                  have x2 : w6.cell? ⟨X, 2, none⟩ = some (.slice none 0 0) := by rw [cell_of_row w6 X 2 _ _ _ bx]; rfl
                  have x3 : w6.cell? ⟨X, 3, none⟩ = some (.slice none 0 0) := by rw [cell_of_row w6 X 3 _ _ _ bx]; rfl
                  have f0 : w6.frozen? ⟨X, 0, none⟩ = false := frozen_of_row w6 X 0 _ _ bx
                  have f1 : w6.frozen? ⟨X, 1, none⟩ = false := frozen_of_row w6 X 1 _ _ bx
                  have f2 : w6.frozen? ⟨X, 2, none⟩ = false := frozen_of_row w6 X 2 _ _ bx
                  have f3 : w6.frozen? ⟨X, 3, none⟩ = false := frozen_of_row w6 X 3 _ _ bx
                  clear bx
                  go_wp2_with fail
                  refine box_ret (X := X) rfl rfl rfl (box_put BX6.out) rfl ?_
                  obtain ⟨p6, he6, ho6⟩ := HR6.out
                  refine JRdP.yes (t := t) (mv_putX (mv_trans M3.out M6.out) (by rw [HX.out]; omega)) (by rw [T5.out, HOJ.out]) ?_ ⟨p6, he6, ho6.putX (by omega)⟩
                  refine (HV.out.kept (by simp) fun b hb hlt => ?_).mono fun b hb _ => ?_
                  · rw [Below.heap_setCell _ _ _ _ (by simp; omega), Below.heap_setCell _ _ _ _ (by simp; omega), Below.heap_setCell _ _ _ _ (by simp; omega), Below.heap_setCell _ _ _ _ (by simp; omega)]
                  · have := M3.out.size; have := M5.out.size; omega
              · have H123 := hid h123
                have I123 := hid (show isJ 123 (c :: r) = none by rw [isJ_eq, if_neg h123])
                clear h123
                go_wp2_with fail
                refine (prefW_any (c :: r) [34] false _ rfl HP.out _).use ?_
                go_wp2_with fail
                refine (jis_any w3 R s (c :: r) 91 RD3.out (by omega)).mono ?_
                rw [I91.out]
                rintro e w4 ⟨rfl, m4, h4⟩
                have M4 := hid (mv_trans M3.out m4)
                have H4 := hid (show JRd w4 R s (c :: r) from h4)
                clear m4 h4
                go_wp2_with fail
                refine (jis_any w4 R s (c :: r) 123 H4.out (by omega)).mono ?_
                rw [I123.out]
                rintro e w5 ⟨rfl, m5, h5⟩
                have M5 := hid (mv_trans M4.out m5)
                have H5 := hid (show JRd w5 R s (c :: r) from h5)
                clear m5 h5
                go_wp2_with fail
                refine (jlacks_any w5 R s (c :: r) H5.out).mono ?_
                rintro e w6 ⟨rfl, m, rfl⟩
                exact ⟨rfl, JRdP.no (mv_drewN M5.out m) (by rw [T4.out]; simp only [restJ]; rw [if_neg H34.out, if_neg H91.out, if_neg H123.out]; simp [lackJ]) rfl⟩

end Go.Proofs.YtlejbindochiiaaDoor
