/-
  CONTRACT of json.write and json.Write.
-/
import Derived.Test.YtlejbindochiiaaDoorJsonQuote
import Derived.Test.YtlejbindochiiaaDoorJsonRight
import Derived.Test.YtlejbindochiiaaDoorRowSet
namespace Go.Proofs.YtlejbindochiiaaDoor
open Go.RowKit
set_option linter.unusedVariables false
set_option linter.unusedSimpArgs false

/-- blocks that hold an api.Json stay -/
def KeptJ (w w' : World) : Prop := ∀ (C : Nat) (cs : Array Value), w.heap[C]? = some (.cells cs 25) → w'.heap[C]? = some (.cells cs 25)
theorem KeptJ.refl (w : World) : KeptJ w w := fun _ _ h => h
theorem KeptJ.trans {a b c : World} (h : KeptJ a b) (k : KeptJ b c) : KeptJ a c := fun C cs e => k C cs (h C cs e)
theorem KeptJ.of {w w' : World} (g : G w w') : KeptJ w w' := fun C cs h => (g.below.block C (lt_of_row h)).trans h
theorem kept_json {w0 w w' : World} {b : Nat} {l : List UInt8} (hB : IsB w0 w b l) (k : KeptB w w' b) : KeptJ w w' := by
  intro C cs hc
  have key : ∀ p, Lib.BuilderAt 46 5 w0.heap.size b p (Lib.byteCells l) w → w'.heap[C]? = some (.cells cs 25) := by
    intro p h
    obtain ⟨hB, v, hbk, hown, hne⟩ := h
    refine (k C (lt_of_row hc) ?_ ?_).trans hc
    · rintro rfl
      rw [hbk] at hc
      injection hc with hc; injection hc with _ hc
      exact absurd hc (by decide)
    · rw [bufOf_at hbk]
      intro e
      rcases hown.2 with ⟨h1, h2⟩ | ⟨q, cap, cur, hv, hbq, hq, r⟩
      · rw [h1] at e; cases e
      · rw [hv] at e
        injection e with e
        subst e
        rw [hq] at hc
        injection hc with hc; injection hc with _ hc
        exact absurd hc (by decide)
  rcases hB with h | h
  · exact key _ h
  · exact key _ h
theorem items_app {f : Jt → List UInt8} {obj : Bool} {y : List Jt} : ∀ {l : List Jt} {first : Bool} {ks : List (List UInt8)}, itemsJ f obj first ks (l ++ y) = itemsJ f obj first ks l ++ itemsJ f obj (first && l.isEmpty) (ks.drop l.length) y
  | [], first, ks => by simp [itemsJ]
  | x :: l, first, ks => by
    rw [List.cons_append]
    simp only [itemsJ]
    rw [items_app]
    simp
theorem items_take (f : Jt → List UInt8) (obj first : Bool) (ks : List (List UInt8)) (l : List Jt) (j : Nat) : (itemsJ f obj first ks (l.take j)).length ≤ (itemsJ f obj first ks l).length := by
  conv => rhs; rw [← List.take_append_drop j l, items_app]
  simp
theorem items_next {f : Jt → List UInt8} {obj : Bool} {l : List Jt} {ks : List (List UInt8)} {j : Nat} {x : Jt} {k : List UInt8} (hj : j < l.length) (hx : l[j] = x) (hk : obj = true → ks[j]? = some k) :
    itemsJ f obj true ks (l.take (j + 1)) = itemsJ f obj true ks (l.take j) ++ ((if j = 0 then [] else [44]) ++ ((if obj then quoteJ k ++ [58] else []) ++ f x)) := by
  rw [List.take_add_one, List.getElem?_eq_getElem hj, hx]
  show itemsJ f obj true ks (l.take j ++ [x]) = _
  rw [items_app, List.length_take, Nat.min_eq_left (by omega)]
  have e1 : (l.take j).isEmpty = decide (j = 0) := by
    cases j with
    | zero => rfl
    | succ j => cases l with
      | nil => simp at hj
      | cons y l => rfl
  rw [e1]
  have e2 : (ks.drop j).headD [] = k ∨ obj = false := by
    cases obj with
    | false => exact .inr rfl
    | true => exact .inl (by rw [List.headD_eq_head?_getD, List.head?_drop, hk rfl]; rfl)
  simp only [itemsJ, Bool.true_and, decide_eq_true_eq, List.append_nil]
  rcases e2 with e2 | e2
  · rw [e2]; simp
  · rw [e2]; simp
def WriteC (d : Nat) : Prop := ∀ (a b n : Nat) (p : Nat → Prop) (w0 w : World) (B : Nat) (pre : List UInt8) (v : Value) (x : Jt), a ≤ 999999 → b ≤ 100000000 → JAt n p w0 v x → SzJ a b d x → rightJ d x = none → IsB w0 w B pre → G w0 w → pre.length + (writeJ d x).length ≤ 100000000000000 →
  Calls Tryd.prog 16 #[.pointer (some ⟨B, 0, none⟩), v] w fun e w' => e = .returned (.tuple #[]) ∧ IsB w0 w' B (pre ++ writeJ d x) ∧ G w0 w' ∧ KeptJ w w'
set_option maxRecDepth 100000 in
set_option maxHeartbeats 8000000 in
theorem write_succ (d : Nat) (ih : WriteC d) : WriteC (d + 1) := by
  intro a b n p w0 w B pre v x ha hb hv hsz hr hB hg hlen
  obtain ⟨ka, kc, la, lc, rfl⟩ := hv.shape4
  obtain ⟨k, t, ks, l⟩ := x
  obtain ⟨h1, ⟨_, _, h7, _⟩, _, _, _, h6⟩ := right_parts_J hr
  have IH := hid ih
  have HV := hid hv
  have HSZ := hid hsz
  have HR6 := hid h6
  have HK7 := hid h7
  simp only [Jt.kind, Jt.text, Jt.keys, Jt.list]
  have hsb := hB.lt
  obtain ⟨C, hC⟩ : ∃ C, w.heap.size = C := ⟨_, rfl⟩
  have hBC : B < C := by omega
  have IB0 := hid hB
  have G0 := hid hg
  obtain ⟨KA, LA, _⟩ := parts_of (k := k) (t := t) (ks := ks) (l := l) HV.out
  have HKA := hid KA
  have HLA := hid LA
  have hll : l.length ≤ 999999 := by have := HSZ.out.2.2.1; simp only [Jt.list] at this; omega
  clear ih hv hsz hr hB hg h6 h7 hsb KA LA
  have htl : t.length ≤ 999999 := by have := HSZ.out.1; simp only [Jt.text] at this; omega
  have HTL := hid htl
  clear htl
  go_enter Tryd.func16, Tryd.ntmps16
  go_upto_region 1 with fail
  generalize hwb : World.alloc w _ = wb
  have hbox : wb.heap[C]? = some (.cells #[.int .i64 k, .string (S t), .slice ka ks.length kc, .slice la l.length lc] 25) := by rw [← hwb, ← hC]; exact (MapKept.heap_alloc w _).1
  have KJ := hid (show KeptJ w wb by rw [← hwb]; exact KeptJ.of ((G.refl _).alloc _))
  have IB := hid (show IsB w0 wb B pre by rw [← hwb]; exact IB0.out.grow ((G.refl _).alloc _))
  have GB := hid (show G w0 wb by rw [← hwb]; exact G0.out.alloc _)
  have HBX := hid hbox
  have c0 : wb.cell? ⟨C, 0, none⟩ = some (.int .i64 k) := by rw [cell_of_row wb C 0 _ _ _ hbox]; rfl
  have c1 : wb.cell? ⟨C, 1, none⟩ = some (.string (S t)) := by rw [cell_of_row wb C 1 _ _ _ hbox]; rfl
  clear hwb hbox hC IB0 G0
  by_cases h45 : k = 6 ∨ k = 7
  · have HL0 := hid hlen
    clear hlen h1
    rcases h45 with rfl | rfl
    · have HLEN : Hid (pre.length + (2 + (itemsJ (writeJ d) false true ks l).length) ≤ 100000000000000) := hid (by have := HL0.out; have e : (writeJ (d + 1) (.mk 6 t ks l)).length = (91 :: (itemsJ (writeJ d) false true ks l ++ [93])).length := rfl; rw [e] at this; simp only [List.length_cons, List.length_append, List.length_nil] at this; omega)
      clear c1
      go_wp2_with fail
      refine (writeString_any IB.out GB.out [91] (by have := HLEN.out; simp only [List.length_cons, List.length_nil]; omega)).mono ?_
      rintro e w2 ⟨rfl, hb2, g2, k2⟩
      have HB2 := hid (kept_json IB.out k2 C _ HBX.out)
      have IB2 := hid hb2
      have G2 := hid g2
      have KJ2 := hid (KJ.out.trans (kept_json IB.out k2))
      clear hb2 g2 k2
      have c3 : w2.cell? ⟨C, 3, none⟩ = some (.slice la l.length lc) := by rw [cell_of_row w2 C 3 _ _ _ HB2.out]; rfl
      clear c0
      go_wp2_with fail
      clear c3
      go_loopw [6, 7, 19] (fun _ _ i wr => ∃ j : Nat, i = .int .i64 (j : Int) ∧ j ≤ l.length ∧ IsB w0 wr B (pre ++ ([91] ++ itemsJ (writeJ d) false true ks (l.take j))) ∧ G w0 wr ∧ KeptJ w2 wr) (fun _ _ i _ => l.length - (intOf i).toNat)
      case atStart => exact ⟨0, rfl, by omega, by simpa [itemsJ] using IB2.out, G2.out, KeptJ.refl _⟩
      case round =>
        obtain ⟨j, rfl, hj, hb', hg', hk'⟩ := hrel
        have IBR := hid hb'
        have GR := hid hg'
        have KJR := hid hk'
        clear hb' hg' hk'
        by_cases hlt : j < l.length
        · obtain ⟨bl, ol, u, n', rfl, hbl, hu, hc0⟩ := HLA.out j hlt
          have HSY := hid (HSZ.out.2.2.2.2 l[j] (List.getElem_mem hlt))
          have HRY := hid (HR6.out l[j] (List.getElem_mem hlt))
          obtain ⟨y, hy⟩ : ∃ y, l[j] = y := ⟨_, rfl⟩
          rw [hy] at hu HSY HRY
          obtain ⟨ya, yc, za, zc, rfl⟩ := hu.shape4
          have HU := hid hu
          have hlti : (j : Int) < (l.length : Int) := by omega
          have hj1 : j + 1 ≤ 1000000 := by omega
          have hcell : ∀ i (v : Value), i < 4 → #[Value.int .i64 y.kind, .string (S y.text), .slice ya y.keys.length yc, .slice za y.list.length zc][i]? = some v → wr.cell? ⟨bl, ol + (j * 4 + i), none⟩ = some v := fun i v hi hv => by
            rw [G.cell GR.out (p := ⟨bl, ol + (j * 4 + i), none⟩) hbl]; exact hc0 i v hi (by simpa [cellsU] using hv)
          have x0 : wr.cell? ⟨bl, ol + j * 4, none⟩ = some (.int .i64 y.kind) := hcell 0 _ (by decide) rfl
          have x1 : wr.cell? ⟨bl, ol + j * 4 + 1, none⟩ = some (.string (S y.text)) := hcell 1 _ (by decide) rfl
          have x2 : wr.cell? ⟨bl, ol + j * 4 + 2, none⟩ = some (.slice ya y.keys.length yc) := hcell 2 _ (by decide) rfl
          have x3 : wr.cell? ⟨bl, ol + j * 4 + 3, none⟩ = some (.slice za y.list.length zc) := hcell 3 _ (by decide) rfl
          have HNX := hid (items_next (f := writeJ d) (obj := false) (ks := ks) (k := []) hlt hy (fun h => by cases h))
          have HLE := hid (show pre.length + (2 + (itemsJ (writeJ d) false true ks (l.take (j + 1))).length) ≤ 100000000000000 from by have := items_take (writeJ d) false true ks l (j + 1); have := HLEN.out; omega)
          clear hc0 hcell hy hu
          go_upto_region 9 with fail
          clear x0 x1 x2 x3
          obtain ⟨X1, hX1⟩ : ∃ X1, wr.heap.size = X1 := ⟨_, rfl⟩
          generalize hw3 : World.alloc wr _ = w3
          rw [hX1]
          have HX1 := hid (show w3.heap[X1]? = some (.cells #[.int .i64 y.kind, .string (S y.text), .slice ya y.keys.length yc, .slice za y.list.length zc] 25) by rw [← hw3, ← hX1]; exact (MapKept.heap_alloc wr _).1)
          have IB3 := hid (show IsB w0 w3 B _ by rw [← hw3]; exact IBR.out.grow ((G.refl _).alloc _))
          have G3 := hid (show G w0 w3 by rw [← hw3]; exact GR.out.alloc _)
          have KJ3 := hid (show KeptJ w2 w3 by rw [← hw3]; exact KJR.out.trans (KeptJ.of ((G.refl _).alloc _)))
          clear hw3 hX1
          by_cases hj0 : j = 0
          · have hjp : ¬ (0 : Int) < (j : Int) := by omega
            have hjn : ¬ 0 < j := by omega
            simp only [if_pos hj0, if_true, List.nil_append, Bool.false_eq_true, if_false] at HNX
            clear hj0
            have KX3 := hid (KeptJ.refl w3)
            have cc0 : w3.cell? ⟨C, 0, none⟩ = some (.int .i64 6) := by rw [cell_of_row w3 C 0 _ _ _ (KJ3.out C _ HB2.out)]; rfl
            have xb := KX3.out X1 _ HX1.out
            have z0 : w3.cell? ⟨X1, 0, none⟩ = some (.int .i64 y.kind) := by rw [cell_of_row w3 X1 0 _ _ _ xb]; rfl
            have z1 : w3.cell? ⟨X1, 1, none⟩ = some (.string (S y.text)) := by rw [cell_of_row w3 X1 1 _ _ _ xb]; rfl
            have z2 : w3.cell? ⟨X1, 2, none⟩ = some (.slice ya y.keys.length yc) := by rw [cell_of_row w3 X1 2 _ _ _ xb]; rfl
            have z3 : w3.cell? ⟨X1, 3, none⟩ = some (.slice za y.list.length zc) := by rw [cell_of_row w3 X1 3 _ _ _ xb]; rfl
            clear xb
            go_wp2_with fail
            refine (IH.out a b n' p w0 w3 B _ _ y ha hb HU.out HSY.out HRY.out IB3.out G3.out (by have h8 := HLE.out; have h9 := congrArg List.length HNX.out; simp only [List.length_append, List.length_cons, List.length_nil] at h9 ⊢; omega)).mono ?_
            rintro e w8 ⟨rfl, hb8, g8, k8⟩
            have IB8 := hid (show IsB w0 w8 B (pre ++ ([91] ++ itemsJ (writeJ d) false true ks (l.take (j + 1)))) by rw [HNX.out]; simpa using hb8)
            have G8 := hid g8
            have KJ8 := hid (KJ3.out.trans k8)
            clear hb8 g8 k8
            go_wp2_with fail
            go_roundw
            case rel => exact ⟨j + 1, by simp, by omega, IB8.out, G8.out, KJ8.out⟩
            case measure => simp [intOf]; omega
          · have hjp : (0 : Int) < (j : Int) := by omega
            have hjn : 0 < j := by omega
            simp only [if_neg hj0, if_true, List.nil_append, Bool.false_eq_true, if_false] at HNX
            clear hj0
            have KX3 := hid (KeptJ.refl w3)
            go_wp2_with fail
            refine (writeString_any IB3.out G3.out [44] (by have h8 := HLE.out; have h9 := congrArg List.length HNX.out; simp only [List.length_append, List.length_cons, List.length_nil] at h9 ⊢; omega)).mono ?_
            rintro e w4 ⟨rfl, hb4, g4, k4⟩
            have IB4 := hid hb4
            have G4 := hid g4
            have KJ4 := hid (KJ3.out.trans (kept_json IB3.out k4))
            have KX4 := hid (KX3.out.trans (kept_json IB3.out k4))
            clear hb4 g4 k4
            have cc0 : w4.cell? ⟨C, 0, none⟩ = some (.int .i64 6) := by rw [cell_of_row w4 C 0 _ _ _ (KJ4.out C _ HB2.out)]; rfl
            have xb := KX4.out X1 _ HX1.out
            have z0 : w4.cell? ⟨X1, 0, none⟩ = some (.int .i64 y.kind) := by rw [cell_of_row w4 X1 0 _ _ _ xb]; rfl
            have z1 : w4.cell? ⟨X1, 1, none⟩ = some (.string (S y.text)) := by rw [cell_of_row w4 X1 1 _ _ _ xb]; rfl
            have z2 : w4.cell? ⟨X1, 2, none⟩ = some (.slice ya y.keys.length yc) := by rw [cell_of_row w4 X1 2 _ _ _ xb]; rfl
            have z3 : w4.cell? ⟨X1, 3, none⟩ = some (.slice za y.list.length zc) := by rw [cell_of_row w4 X1 3 _ _ _ xb]; rfl
            clear xb
            go_wp2_with fail
            refine (IH.out a b n' p w0 w4 B _ _ y ha hb HU.out HSY.out HRY.out IB4.out G4.out (by have h8 := HLE.out; have h9 := congrArg List.length HNX.out; simp only [List.length_append, List.length_cons, List.length_nil] at h9 ⊢; omega)).mono ?_
            rintro e w8 ⟨rfl, hb8, g8, k8⟩
            have IB8 := hid (show IsB w0 w8 B (pre ++ ([91] ++ itemsJ (writeJ d) false true ks (l.take (j + 1)))) by rw [HNX.out]; simpa using hb8)
            have G8 := hid g8
            have KJ8 := hid (KJ4.out.trans k8)
            clear hb8 g8 k8
            go_wp2_with fail
            go_roundw
            case rel => exact ⟨j + 1, by simp, by omega, IB8.out, G8.out, KJ8.out⟩
            case measure => simp [intOf]; omega
        · obtain rfl : j = l.length := by omega
          have hno : ¬ (l.length : Int) < (l.length : Int) := by omega
          have IBE := hid (show IsB w0 wr B (pre ++ ([91] ++ itemsJ (writeJ d) false true ks l)) by have := IBR.out; rwa [List.take_length] at this)
          clear hlt hj IBR
          go_wp2_with fail
          refine (writeString_any IBE.out GR.out [93] (by have := HLEN.out; simp only [List.length_append, List.length_cons, List.length_nil]; omega)).mono ?_
          rintro e w9 ⟨rfl, hb9, g9, k9⟩
          have IB9 := hid (show IsB w0 w9 B (pre ++ writeJ (d + 1) (.mk 6 t ks l)) by rw [show writeJ (d + 1) (.mk 6 t ks l) = 91 :: (itemsJ (writeJ d) false true ks l ++ [93]) from rfl]; simpa using hb9)
          have G9 := hid g9
          have KJ9 := hid (KJ2.out.trans (KJR.out.trans (kept_json IBE.out k9)))
          clear hb9 g9 k9
          go_wp2_with fail
          go_end0
          exact ⟨rfl, IB9.out, G9.out, KJ9.out⟩
    · have HLEN : Hid (pre.length + (2 + (itemsJ (writeJ d) true true ks l).length) ≤ 100000000000000) := hid (by have := HL0.out; have e : (writeJ (d + 1) (.mk 7 t ks l)).length = (123 :: (itemsJ (writeJ d) true true ks l ++ [125])).length := rfl; rw [e] at this; simp only [List.length_cons, List.length_append, List.length_nil] at this; omega)
      clear c1
      go_wp2_with fail
      refine (writeString_any IB.out GB.out [123] (by have := HLEN.out; simp only [List.length_cons, List.length_nil]; omega)).mono ?_
      rintro e w2 ⟨rfl, hb2, g2, k2⟩
      have HB2 := hid (kept_json IB.out k2 C _ HBX.out)
      have IB2 := hid hb2
      have G2 := hid g2
      have KJ2 := hid (KJ.out.trans (kept_json IB.out k2))
      clear hb2 g2 k2
      have c3 : w2.cell? ⟨C, 3, none⟩ = some (.slice la l.length lc) := by rw [cell_of_row w2 C 3 _ _ _ HB2.out]; rfl
      clear c0
      go_wp2_with fail
      clear c3
      go_loopw [6, 7, 19] (fun _ _ i wr => ∃ j : Nat, i = .int .i64 (j : Int) ∧ j ≤ l.length ∧ IsB w0 wr B (pre ++ ([123] ++ itemsJ (writeJ d) true true ks (l.take j))) ∧ G w0 wr ∧ KeptJ w2 wr) (fun _ _ i _ => l.length - (intOf i).toNat)
      case atStart => exact ⟨0, rfl, by omega, by simpa [itemsJ] using IB2.out, G2.out, KeptJ.refl _⟩
      case round =>
        obtain ⟨j, rfl, hj, hb', hg', hk'⟩ := hrel
        have IBR := hid hb'
        have GR := hid hg'
        have KJR := hid hk'
        clear hb' hg' hk'
        by_cases hlt : j < l.length
        · obtain ⟨bl, ol, u, n', rfl, hbl, hu, hc0⟩ := HLA.out j hlt
          have HSY := hid (HSZ.out.2.2.2.2 l[j] (List.getElem_mem hlt))
          have HRY := hid (HR6.out l[j] (List.getElem_mem hlt))
          obtain ⟨y, hy⟩ : ∃ y, l[j] = y := ⟨_, rfl⟩
          rw [hy] at hu HSY HRY
          obtain ⟨ya, yc, za, zc, rfl⟩ := hu.shape4
          have HU := hid hu
          have hlti : (j : Int) < (l.length : Int) := by omega
          have hj1 : j + 1 ≤ 1000000 := by omega
          have hcell : ∀ i (v : Value), i < 4 → #[Value.int .i64 y.kind, .string (S y.text), .slice ya y.keys.length yc, .slice za y.list.length zc][i]? = some v → wr.cell? ⟨bl, ol + (j * 4 + i), none⟩ = some v := fun i v hi hv => by
            rw [G.cell GR.out (p := ⟨bl, ol + (j * 4 + i), none⟩) hbl]; exact hc0 i v hi (by simpa [cellsU] using hv)
          have x0 : wr.cell? ⟨bl, ol + j * 4, none⟩ = some (.int .i64 y.kind) := hcell 0 _ (by decide) rfl
          have x1 : wr.cell? ⟨bl, ol + j * 4 + 1, none⟩ = some (.string (S y.text)) := hcell 1 _ (by decide) rfl
          have x2 : wr.cell? ⟨bl, ol + j * 4 + 2, none⟩ = some (.slice ya y.keys.length yc) := hcell 2 _ (by decide) rfl
          have x3 : wr.cell? ⟨bl, ol + j * 4 + 3, none⟩ = some (.slice za y.list.length zc) := hcell 3 _ (by decide) rfl
          have HKL7 : Hid (ks.length = l.length) := hid (by simpa using HK7.out)
          obtain ⟨bk, ok, rfl, hbk, hck⟩ := HKA.out j (by have := HKL7.out; omega)
          obtain ⟨kk, hkk⟩ : ∃ kk, ks[j]'(by have := HKL7.out; omega) = kk := ⟨_, rfl⟩
          rw [hkk] at hck
          have HCK := hid hck
          have HKL := hid (show kk.length ≤ 1000000000 by have := HSZ.out.2.2.2.1 kk (by rw [← hkk]; exact List.getElem_mem _); omega)
          have HNX := hid (items_next (f := writeJ d) (obj := true) (ks := ks) (k := kk) hlt hy (fun _ => by rw [← hkk]; exact List.getElem?_eq_getElem _))
          have hjk : j < ks.length := by have := HKL7.out; omega
          have hjki : (j : Int) < (ks.length : Int) := by omega
          clear hck hkk
          have HLE := hid (show pre.length + (2 + (itemsJ (writeJ d) true true ks (l.take (j + 1))).length) ≤ 100000000000000 from by have := items_take (writeJ d) true true ks l (j + 1); have := HLEN.out; omega)
          clear hc0 hcell hy hu
          go_upto_region 9 with fail
          clear x0 x1 x2 x3
          obtain ⟨X1, hX1⟩ : ∃ X1, wr.heap.size = X1 := ⟨_, rfl⟩
          generalize hw3 : World.alloc wr _ = w3
          rw [hX1]
          have HX1 := hid (show w3.heap[X1]? = some (.cells #[.int .i64 y.kind, .string (S y.text), .slice ya y.keys.length yc, .slice za y.list.length zc] 25) by rw [← hw3, ← hX1]; exact (MapKept.heap_alloc wr _).1)
          have IB3 := hid (show IsB w0 w3 B _ by rw [← hw3]; exact IBR.out.grow ((G.refl _).alloc _))
          have G3 := hid (show G w0 w3 by rw [← hw3]; exact GR.out.alloc _)
          have KJ3 := hid (show KeptJ w2 w3 by rw [← hw3]; exact KJR.out.trans (KeptJ.of ((G.refl _).alloc _)))
          clear hw3 hX1
          by_cases hj0 : j = 0
          · have hjp : ¬ (0 : Int) < (j : Int) := by omega
            have hjn : ¬ 0 < j := by omega
            simp only [if_pos hj0, if_true, List.nil_append, Bool.false_eq_true, if_false] at HNX
            clear hj0
            have KX3 := hid (KeptJ.refl w3)
            have ck : w3.cell? ⟨bk, ok + j, none⟩ = some (.string (S kk)) := by rw [G.cell G3.out (p := ⟨bk, ok + j, none⟩) hbk]; exact HCK.out
            have cc0 : w3.cell? ⟨C, 0, none⟩ = some (.int .i64 7) := by rw [cell_of_row w3 C 0 _ _ _ (KJ3.out C _ HB2.out)]; rfl
            have cc2 : w3.cell? ⟨C, 2, none⟩ = some (.slice (some ⟨bk, ok, none⟩) ks.length kc) := by rw [cell_of_row w3 C 2 _ _ _ (KJ3.out C _ HB2.out)]; rfl
            go_wp2_with fail
            refine (quoted_any kk w3 HKL.out).mono ?_
            rintro e w5 ⟨rfl, g5⟩
            have IB5 := hid (IB3.out.grow g5)
            have G5 := hid (G3.out.trans g5)
            have KJ5 := hid (KJ3.out.trans (KeptJ.of g5))
            have KX5 := hid (KX3.out.trans (KeptJ.of g5))
            clear g5 ck cc0 cc2
            have hql : (quoteJ kk).length ≤ 7000000000 := by have h8 := flat_six kk; have h9 := HKL.out; unfold quoteJ; simp only [List.length_cons, List.length_append, List.length_nil]; omega
            go_wp2_with fail
            refine (writeString_any IB5.out G5.out (quoteJ kk ++ [58]) (by have h8 := HLE.out; have h9 := congrArg List.length HNX.out; simp only [List.length_append, List.length_cons, List.length_nil] at h9 ⊢; omega)).mono ?_
            rintro e w6 ⟨rfl, hb6, g6, k6⟩
            have IB6 := hid hb6
            have G6 := hid g6
            have KJ6 := hid (KJ5.out.trans (kept_json IB5.out k6))
            have KX6 := hid (KX5.out.trans (kept_json IB5.out k6))
            clear hb6 g6 k6
            have xb := KX6.out X1 _ HX1.out
            have z0 : w6.cell? ⟨X1, 0, none⟩ = some (.int .i64 y.kind) := by rw [cell_of_row w6 X1 0 _ _ _ xb]; rfl
            have z1 : w6.cell? ⟨X1, 1, none⟩ = some (.string (S y.text)) := by rw [cell_of_row w6 X1 1 _ _ _ xb]; rfl
            have z2 : w6.cell? ⟨X1, 2, none⟩ = some (.slice ya y.keys.length yc) := by rw [cell_of_row w6 X1 2 _ _ _ xb]; rfl
            have z3 : w6.cell? ⟨X1, 3, none⟩ = some (.slice za y.list.length zc) := by rw [cell_of_row w6 X1 3 _ _ _ xb]; rfl
            clear xb
            go_wp2_with fail
            refine (IH.out a b n' p w0 w6 B _ _ y ha hb HU.out HSY.out HRY.out IB6.out G6.out (by have h8 := HLE.out; have h9 := congrArg List.length HNX.out; simp only [List.length_append, List.length_cons, List.length_nil] at h9 ⊢; omega)).mono ?_
            rintro e w8 ⟨rfl, hb8, g8, k8⟩
            have IB8 := hid (show IsB w0 w8 B (pre ++ ([123] ++ itemsJ (writeJ d) true true ks (l.take (j + 1)))) by rw [HNX.out]; simpa using hb8)
            have G8 := hid g8
            have KJ8 := hid (KJ6.out.trans k8)
            clear hb8 g8 k8
            go_wp2_with fail
            go_roundw
            case rel => exact ⟨j + 1, by simp, by omega, IB8.out, G8.out, KJ8.out⟩
            case measure => simp [intOf]; omega
          · have hjp : (0 : Int) < (j : Int) := by omega
            have hjn : 0 < j := by omega
            simp only [if_neg hj0, if_true, List.nil_append, Bool.false_eq_true, if_false] at HNX
            clear hj0
            have KX3 := hid (KeptJ.refl w3)
            go_wp2_with fail
            refine (writeString_any IB3.out G3.out [44] (by have h8 := HLE.out; have h9 := congrArg List.length HNX.out; simp only [List.length_append, List.length_cons, List.length_nil] at h9 ⊢; omega)).mono ?_
            rintro e w4 ⟨rfl, hb4, g4, k4⟩
            have IB4 := hid hb4
            have G4 := hid g4
            have KJ4 := hid (KJ3.out.trans (kept_json IB3.out k4))
            have KX4 := hid (KX3.out.trans (kept_json IB3.out k4))
            clear hb4 g4 k4
            have ck : w4.cell? ⟨bk, ok + j, none⟩ = some (.string (S kk)) := by rw [G.cell G4.out (p := ⟨bk, ok + j, none⟩) hbk]; exact HCK.out
            have cc0 : w4.cell? ⟨C, 0, none⟩ = some (.int .i64 7) := by rw [cell_of_row w4 C 0 _ _ _ (KJ4.out C _ HB2.out)]; rfl
            have cc2 : w4.cell? ⟨C, 2, none⟩ = some (.slice (some ⟨bk, ok, none⟩) ks.length kc) := by rw [cell_of_row w4 C 2 _ _ _ (KJ4.out C _ HB2.out)]; rfl
            go_wp2_with fail
            refine (quoted_any kk w4 HKL.out).mono ?_
            rintro e w5 ⟨rfl, g5⟩
            have IB5 := hid (IB4.out.grow g5)
            have G5 := hid (G4.out.trans g5)
            have KJ5 := hid (KJ4.out.trans (KeptJ.of g5))
            have KX5 := hid (KX4.out.trans (KeptJ.of g5))
            clear g5 ck cc0 cc2
            have hql : (quoteJ kk).length ≤ 7000000000 := by have h8 := flat_six kk; have h9 := HKL.out; unfold quoteJ; simp only [List.length_cons, List.length_append, List.length_nil]; omega
            go_wp2_with fail
            refine (writeString_any IB5.out G5.out (quoteJ kk ++ [58]) (by have h8 := HLE.out; have h9 := congrArg List.length HNX.out; simp only [List.length_append, List.length_cons, List.length_nil] at h9 ⊢; omega)).mono ?_
            rintro e w6 ⟨rfl, hb6, g6, k6⟩
            have IB6 := hid hb6
            have G6 := hid g6
            have KJ6 := hid (KJ5.out.trans (kept_json IB5.out k6))
            have KX6 := hid (KX5.out.trans (kept_json IB5.out k6))
            clear hb6 g6 k6
            have xb := KX6.out X1 _ HX1.out
            have z0 : w6.cell? ⟨X1, 0, none⟩ = some (.int .i64 y.kind) := by rw [cell_of_row w6 X1 0 _ _ _ xb]; rfl
            have z1 : w6.cell? ⟨X1, 1, none⟩ = some (.string (S y.text)) := by rw [cell_of_row w6 X1 1 _ _ _ xb]; rfl
            have z2 : w6.cell? ⟨X1, 2, none⟩ = some (.slice ya y.keys.length yc) := by rw [cell_of_row w6 X1 2 _ _ _ xb]; rfl
            have z3 : w6.cell? ⟨X1, 3, none⟩ = some (.slice za y.list.length zc) := by rw [cell_of_row w6 X1 3 _ _ _ xb]; rfl
            clear xb
            go_wp2_with fail
            refine (IH.out a b n' p w0 w6 B _ _ y ha hb HU.out HSY.out HRY.out IB6.out G6.out (by have h8 := HLE.out; have h9 := congrArg List.length HNX.out; simp only [List.length_append, List.length_cons, List.length_nil] at h9 ⊢; omega)).mono ?_
            rintro e w8 ⟨rfl, hb8, g8, k8⟩
            have IB8 := hid (show IsB w0 w8 B (pre ++ ([123] ++ itemsJ (writeJ d) true true ks (l.take (j + 1)))) by rw [HNX.out]; simpa using hb8)
            have G8 := hid g8
            have KJ8 := hid (KJ6.out.trans k8)
            clear hb8 g8 k8
            go_wp2_with fail
            go_roundw
            case rel => exact ⟨j + 1, by simp, by omega, IB8.out, G8.out, KJ8.out⟩
            case measure => simp [intOf]; omega
        · obtain rfl : j = l.length := by omega
          have hno : ¬ (l.length : Int) < (l.length : Int) := by omega
          have IBE := hid (show IsB w0 wr B (pre ++ ([123] ++ itemsJ (writeJ d) true true ks l)) by have := IBR.out; rwa [List.take_length] at this)
          clear hlt hj IBR
          go_wp2_with fail
          refine (writeString_any IBE.out GR.out [125] (by have := HLEN.out; simp only [List.length_append, List.length_cons, List.length_nil]; omega)).mono ?_
          rintro e w9 ⟨rfl, hb9, g9, k9⟩
          have IB9 := hid (show IsB w0 w9 B (pre ++ writeJ (d + 1) (.mk 7 t ks l)) by rw [show writeJ (d + 1) (.mk 7 t ks l) = 123 :: (itemsJ (writeJ d) true true ks l ++ [125]) from rfl]; simpa using hb9)
          have G9 := hid g9
          have KJ9 := hid (KJ2.out.trans (KJR.out.trans (kept_json IBE.out k9)))
          clear hb9 g9 k9
          go_wp2_with fail
          go_end0
          exact ⟨rfl, IB9.out, G9.out, KJ9.out⟩
  · obtain hk : k = 1 ∨ k = 2 ∨ k = 3 ∨ k = 4 ∨ k = 5 := by omega
    clear h45 h1
    rcases hk with rfl | rfl | rfl | rfl | rfl
    · go_wp2_with fail
      refine (writeString_any IB.out GB.out nullJ (by simp [nullJ]; omega)).mono ?_
      rintro e w2 ⟨rfl, hb2, g2, k2⟩
      have HH := hid (⟨hb2, g2, KJ.out.trans (kept_json IB.out k2)⟩ : _ ∧ _ ∧ _)
      clear hb2 g2 k2
      go_wp2_with fail
      go_end0
      exact ⟨rfl, HH.out⟩
    · go_wp2_with fail
      refine (writeString_any IB.out GB.out falseJ (by simp [falseJ]; omega)).mono ?_
      rintro e w2 ⟨rfl, hb2, g2, k2⟩
      have HH := hid (⟨hb2, g2, KJ.out.trans (kept_json IB.out k2)⟩ : _ ∧ _ ∧ _)
      clear hb2 g2 k2
      go_wp2_with fail
      go_end0
      exact ⟨rfl, HH.out⟩
    · go_wp2_with fail
      refine (writeString_any IB.out GB.out trueJ (by simp [trueJ]; omega)).mono ?_
      rintro e w2 ⟨rfl, hb2, g2, k2⟩
      have HH := hid (⟨hb2, g2, KJ.out.trans (kept_json IB.out k2)⟩ : _ ∧ _ ∧ _)
      clear hb2 g2 k2
      go_wp2_with fail
      go_end0
      exact ⟨rfl, HH.out⟩
    · go_wp2_with fail
      refine (writeString_any IB.out GB.out t (by have := HTL.out; omega)).mono ?_
      rintro e w2 ⟨rfl, hb2, g2, k2⟩
      have HH := hid (⟨hb2, g2, KJ.out.trans (kept_json IB.out k2)⟩ : _ ∧ _ ∧ _)
      clear hb2 g2 k2
      go_wp2_with fail
      go_end0
      exact ⟨rfl, HH.out⟩
    · go_wp2_with fail
      refine (quoted_any t wb (by have := HTL.out; omega)).mono ?_
      rintro e w2 ⟨rfl, g2⟩
      have IB2 := hid (IB.out.grow g2)
      have G2 := hid (GB.out.trans g2)
      have KJ2 := hid (KJ.out.trans (KeptJ.of g2))
      clear g2
      go_wp2_with fail
      refine (writeString_any IB2.out G2.out (quoteJ t) (by have : (writeJ (d + 1) (.mk 5 t ks l)).length = (quoteJ t).length := rfl; omega)).mono ?_
      rintro e w3 ⟨rfl, hb2, g2, k2⟩
      have HH := hid (⟨hb2, g2, KJ2.out.trans (kept_json IB2.out k2)⟩ : _ ∧ _ ∧ _)
      clear hb2 g2 k2
      go_wp2_with fail
      go_end0
      exact ⟨rfl, HH.out⟩

theorem write_all : ∀ d, WriteC d
  | 0 => fun a b n p w0 w B pre v x _ _ _ _ hr => by cases x; cases hr
  | d + 1 => write_succ d (write_all d)
/-- what Write hands back -/
def wrJ (x : Jt) : Value := .tuple #[.string (S (if rightJ 12 x = none then writeJ 12 x else [])), errJ (rightJ 12 x)]
set_option maxRecDepth 100000 in
set_option maxHeartbeats 2000000 in
/-- json.Write -/
theorem jwrite_any (a b n : Nat) (p : Nat → Prop) (w : World) (v : Value) (x : Jt) (ha : a ≤ 999999) (hb : b ≤ 100000000) (hv : JAt n p w v x) (hs : SzJ a b 12 x) (hl : rightJ 12 x = none → (writeJ 12 x).length ≤ 10000000000000) : Gives 8 #[v] w (wrJ x) := by
  have RT : Hid (∀ W, G w W → Gives 13 #[v] W (errJ (rightJ 12 x))) := hid (fun W gW => jright_any a b n p W v x ha hb (hv.grow gW) hs)
  have WT : Hid (rightJ 12 x = none → ∀ (W : World) (B : Nat), IsB w W B [] → G w W → Calls Tryd.prog 16 #[.pointer (some ⟨B, 0, none⟩), v] W fun e w' => e = .returned (.tuple #[]) ∧ IsB w w' B (writeJ 12 x) ∧ G w w' ∧ KeptJ W w') := hid (fun hr W B hB hg => (write_all 12 a b n p w W B [] v x ha hb hv hs hr hB hg (by simp only [List.length_nil]; have := hl hr; omega)).mono fun e w' h => h)
  obtain ⟨ka, kc, la, lc, rfl⟩ := hv.shape4
  clear hv hs hl
  cases hr : rightJ 12 x with
  | some c =>
    rw [hr] at RT
    have HR := hid hr
    clear hr
    go_enter Tryd.func8, Tryd.ntmps8
    go_wp2_with fail
    refine (RT.out _ ((G.refl w).alloc _)).mono ?_
    rintro e w2 ⟨rfl, g2⟩
    simp only [errJ]
    have G2 := hid (((G.refl w).alloc _).trans g2)
    clear g2
    go_wp2_with fail
    go_ret2
    exact ⟨by unfold wrJ; rw [HR.out]; rfl, G2.out⟩
  | none =>
    rw [hr] at RT
    have HR := hid hr
    clear hr
    go_enter Tryd.func8, Tryd.ntmps8
    go_upto_region 1 with fail
    generalize hwb : World.alloc w _ = wb
    obtain ⟨C, hC⟩ : ∃ C, w.heap.size = C := ⟨_, rfl⟩
    rw [hC]
    have hbox : wb.heap[C]? = some (.cells #[.int .i64 x.kind, .string (S x.text), .slice ka x.keys.length kc, .slice la x.list.length lc] 25) := by rw [← hwb, ← hC]; exact (MapKept.heap_alloc w _).1
    have GB := hid (show G w wb by rw [← hwb]; exact (G.refl _).alloc _)
    have HBX := hid hbox
    have c0 : wb.cell? ⟨C, 0, none⟩ = some (.int .i64 x.kind) := by rw [cell_of_row wb C 0 _ _ _ hbox]; rfl
    have c1 : wb.cell? ⟨C, 1, none⟩ = some (.string (S x.text)) := by rw [cell_of_row wb C 1 _ _ _ hbox]; rfl
    have c2 : wb.cell? ⟨C, 2, none⟩ = some (.slice ka x.keys.length kc) := by rw [cell_of_row wb C 2 _ _ _ hbox]; rfl
    have c3 : wb.cell? ⟨C, 3, none⟩ = some (.slice la x.list.length lc) := by rw [cell_of_row wb C 3 _ _ _ hbox]; rfl
    clear hwb hbox hC
    go_wp2_with fail
    refine (RT.out _ GB.out).mono ?_
    rintro e w2 ⟨rfl, g2⟩
    simp only [errJ]
    have hb2 := KeptJ.of g2 C _ HBX.out
    have G2 := hid (GB.out.trans g2)
    clear g2 c0 c1 c2 c3
    have HB2 := hid hb2
    clear hb2
    go_upto_region 5 with fail
    obtain ⟨B, hB⟩ : ∃ B, w2.heap.size = B := ⟨_, rfl⟩
    have IB := hid (IsB.new G2.out)
    generalize hw3 : World.alloc w2 _ = w3
    have hb3 : w3.heap[C]? = some (.cells #[.int .i64 x.kind, .string (S x.text), .slice ka x.keys.length kc, .slice la x.list.length lc] 25) := by rw [← hw3]; exact row_alloc HB2.out (lt_of_row HB2.out)
    have G3 := hid (show G w w3 by rw [← hw3]; exact G2.out.alloc _)
    have IB3 := hid (show IsB w w3 B [] by rw [← hw3, ← hB]; exact IB.out)
    have d0 : w3.cell? ⟨C, 0, none⟩ = some (.int .i64 x.kind) := by rw [cell_of_row w3 C 0 _ _ _ hb3]; rfl
    have d1 : w3.cell? ⟨C, 1, none⟩ = some (.string (S x.text)) := by rw [cell_of_row w3 C 1 _ _ _ hb3]; rfl
    have d2 : w3.cell? ⟨C, 2, none⟩ = some (.slice ka x.keys.length kc) := by rw [cell_of_row w3 C 2 _ _ _ hb3]; rfl
    have d3 : w3.cell? ⟨C, 3, none⟩ = some (.slice la x.list.length lc) := by rw [cell_of_row w3 C 3 _ _ _ hb3]; rfl
    rw [hB]
    clear hw3 hB hb3 IB
    go_wp2_with fail
    refine (WT.out HR.out w3 B IB3.out G3.out).mono ?_
    rintro e w4 ⟨rfl, hb4, g4, _⟩
    have IB4 := hid hb4
    have G4 := hid g4
    clear hb4 g4 d0 d1 d2 d3
    go_wp2_with fail
    refine (string_any IB4.out G4.out).mono ?_
    rintro e w5 ⟨rfl, g5, _⟩
    have G5 := hid g5
    clear g5
    go_wp2_with fail
    go_ret2
    exact ⟨by unfold wrJ; rw [if_pos HR.out, HR.out]; rfl, G5.out⟩

end Go.Proofs.YtlejbindochiiaaDoor
