/-
  Texts merged into one: Edit, CardPlain, ConvPlain, Ann, Joined.
-/
import Derived.Test.YtfadckackdmbnaaGreatDoorMFn
import Derived.Test.YtfadckackdmbnaaGreatDoorMA58
import Derived.Test.YtfadckackdmbnaaGreatDoorMA62
import Derived.Test.YtfadckackdmbnaaGreatDoorLinePrint
import Derived.Test.YtfadckackdmbnaaGreatDoorMA59
import Derived.Test.YtfadckackdmbnaaGreatDoorMRules
import Derived.Test.YtfadckackdmbnaaGreatDoorMA49
import Derived.Test.YtfadckackdmbnaaGreatDoorMVeil
import Derived.JoinedCond
namespace Go.Proofs.YtfadckackdmbnaaGreatDoor
open Go.RowKit
set_option linter.unusedVariables false
set_option linter.unusedSimpArgs false
set_option maxRecDepth 100000 in
set_option maxHeartbeats 1000000 in
theorem clone_pm (v : Value) (n : Nat) (cs : List Value) (w : World) (hP : IsRow 2 w v n cs) (hl : n ≤ 100000) (W : World) (gW : G w W) :
    Calls Tryz.prog 145 #[v] W fun e w' => ∃ u, e = .returned u ∧ w'.ownsRow W.heap.size 48 2 u n cs ∧ G W w' := by
  obtain ⟨i0, hi, hz0, hz1, hz2⟩ := info_parts infoParam
  have heq := fun W a n c => Lib.run_eql_slice_nil (P := Tryz.prog) W 35 48 a n c 0 0 Tryz.underlying35
  obtain ⟨hnl, hone, ⟨rfl, rfl | ⟨a, c, rfl⟩⟩ | ⟨b, off, cap, rfl, hb, h0, hc⟩⟩ := hP
  · obtain rfl : cs = [] := List.eq_nil_of_length_eq_zero (by simpa using hnl)
    clear gW
    go_enter Tryz.func145, Tryz.ntmps145
    go_wp2_with fail
    go_ret
    exact ⟨_, rfl, World.ownsRow_nil _ _ _ _, (by repeat (first | exact G.refl _ | assumption | apply G.drew | apply G.drewN | apply G.alloc | refine G.trans ?_ (by assumption)))⟩
  · obtain rfl : cs = [] := List.eq_nil_of_length_eq_zero (by simpa using hnl)
    clear gW
    go_enter Tryz.func145, Tryz.ntmps145
    go_wp2_with fail
    go_ret
    exact ⟨_, rfl, World.ownsRow_made W #[] 0 (Nat.le_refl _) (by unfold maxLen; omega) rfl, (by repeat (first | exact G.refl _ | assumption | apply G.drew | apply G.drewN | apply G.alloc | refine G.trans ?_ (by assumption)))⟩
  · have hadd : ∀ j, (⟨b, off, none⟩ : Addr).add j = ⟨b, off + j, none⟩ := fun j => by unfold Addr.add; split <;> simp_all
    have hcc : ∀ (j : Nat) (u : Value), cs[j]? = some u → (W.alloc (.cells #[] 48)).cell? ((⟨b, off, none⟩ : Addr).add j) = some u := fun j u hu => by
      obtain ⟨hj, rfl⟩ := List.getElem?_eq_some_iff.1 hu
      rw [hadd, (gW.alloc _).cell (p := ⟨b, off + j, none⟩) hb]; exact hc j hj
    have HCC := hid hcc
    have HN := hid hnl
    have HONE := hid hone
    have hown0 : (W.alloc (.cells #[] 48)).ownsRow W.heap.size 48 2 (.slice (some ⟨W.heap.size, 0, none⟩) 0 0) 0 [] := World.ownsRow_made W #[] 0 (Nat.le_refl _) (by unfold maxLen; omega) rfl
    have HOWN := hid hown0
    clear hcc hc hnl hone hown0 hadd gW hb
    go_enter Tryz.func145, Tryz.ntmps145
    go_wp2_with (at_builtin; refine wpList_append_own _ rfl _ _ 35 rfl W.heap.size 48 i0 _ 2 40 Tryz.underlying35 hi hz0 hz1 hz2 rfl (by decide) _ _ _ rfl HOWN.out ⟨b, off, none⟩ n cap cs rfl HN.out HCC.out HONE.out (by unfold maxLen; omega) (by omega) (by simp) ?_; intro v' w1 hown' hgrow _)
    go_ret
    have hgrow' : (W.alloc (.cells #[] 48)).grownBy w1 (some W.heap.size) := hgrow
    have hG : G W w1 := Below.grown ((Below.refl W.heap.size W).alloc (Nat.le_refl _) (.cells #[] 48)) hgrow' (by simp) (fun j hj => by cases hj; exact Nat.le_refl _)
    exact ⟨_, rfl, by simpa using hown', hG⟩
theorem own_wo {w : World} {D base : Nat} {t : TypeId} {k n : Nat} {v : Value} {cs : List Value} (h : w.ownsRow base t k v n cs) (hD : D < base) : (Wo D w).ownsRow base t k v n cs := by
  refine ⟨h.1, ?_⟩
  rcases h.2 with e | ⟨g, cap, cur, e, hb, hg, r⟩
  · exact .inl e
  · exact .inr ⟨g, cap, cur, e, hb, by rw [Wo.other D w g (by omega)]; exact hg, r⟩
theorem params_more {w w' : World} {base : Nat} {u sv : Value} {xs : List PmC} {nm : List UInt8} {vs : List (List UInt8)} {t : TypeId} (hs : ∀ x ∈ xs, IsStrs w (slP x) x.1.2) (hsv : IsStrs w sv vs) (hg : G w w') (hr : w'.ownsRow base t 2 u (xs.length + 1) (xs.flatMap cellsP ++ [.string (S nm), sv])) : IsParams w' u (xs.map (·.1) ++ [(nm, vs)]) := by
  rw [cells_pm] at hr
  refine params_snoc (ps := xs.map (·.1)) (vs0 := xs.map slP) (by simp) (fun i p x hp hx => ?_) hsv hg (by simpa using hr)
  rw [List.getElem?_map] at hp hx
  cases hi : xs[i]? with
  | none => rw [hi] at hp; cases hp
  | some y =>
    rw [hi] at hp hx
    cases hp; cases hx
    exact hs y (List.mem_of_getElem? hi)
theorem params_rows {w w' : World} {base : Nat} {u : Value} {xs : List PmC} {t : TypeId} (hs : ∀ x ∈ xs, IsStrs w' (slP x) x.1.2) (hr : w'.ownsRow base t 2 u xs.length (xs.flatMap cellsP)) : IsParams w' u (xs.map (·.1)) := by
  rw [cells_pm] at hr
  refine params_of_row (ps := xs.map (·.1)) (vs := xs.map slP) (by simp) (fun i p x hp hx => ?_) (by simpa using hr)
  rw [List.getElem?_map] at hp hx
  cases hi : xs[i]? with
  | none => rw [hi] at hp; cases hp
  | some y =>
    rw [hi] at hp hx
    cases hp; cases hx
    exact hs y (List.mem_of_getElem? hi)
theorem ItRow.setPs {w : World} : ∀ {xs : List It} {cs : List Value}, ItRow w xs cs → ∀ {i : Nat} {x : It}, xs[i]? = some x → ∃ pv lv, ItOk w x pv lv ∧ (∀ (j : Nat) (u : Value), (x.cells pv lv)[j]? = some u → cs[i * 15 + j]? = some u) ∧
    ∀ (ps' : List Pm) (pv' : Value), ItOk w { x with ps := ps' } pv' lv → ItRow w (xs.set i { x with ps := ps' }) (cs.set (i * 15 + 2) pv')
  | [], _, _, i, x, h => by simp at h
  | y :: xs, cs, ⟨pv, lv, ds, e, h1, h2⟩, 0, x, h => by
    simp at h
    subst h
    refine ⟨pv, lv, h1, fun j u hu => ?_, fun ps' pv' hok => ?_⟩
    · rw [e, Nat.zero_mul, Nat.zero_add, List.getElem?_append_left (List.getElem?_eq_some_iff.1 hu).1]; exact hu
    · exact ⟨pv', lv, ds, by rw [e]; rfl, hok, h2⟩
  | y :: xs, cs, ⟨pv, lv, ds, e, h1, h2⟩, i + 1, x, h => by
    obtain ⟨pv2, lv2, k1, k2, k3⟩ := ItRow.setPs h2 (i := i) (x := x) (by simpa using h)
    have hl : (y.cells pv lv).length = 15 := rfl
    refine ⟨pv2, lv2, k1, fun j u hu => ?_, fun ps' pv' hok => ?_⟩
    · rw [e, List.getElem?_append_right (by rw [hl]; omega), hl, show (i + 1) * 15 + j - 15 = i * 15 + j by omega]
      exact k2 j u hu
    · refine ⟨pv, lv, ds.set (i * 15 + 2) pv', ?_, h1, k3 ps' pv' hok⟩
      rw [e, List.set_append_right _ _ (by rw [hl]; omega), hl, show (i + 1) * 15 + 2 - 15 = i * 15 + 2 by omega]
def ED (w0 : World) (D cap : Nat) (xs : List It) (W : World) : Prop :=
  ∃ cur, BR w0 D 37 cur W ∧ cur.length = cap * 15 ∧ xs.length ≤ cap ∧ ItRow (Wo D W) xs (cur.take (xs.length * 15))
section
variable {w0 W W' : World} {D cap : Nat} {xs : List It}
theorem ED.mv (h : ED w0 D cap xs W) : w0.grownBy W (some D) := by obtain ⟨cur, h1, _⟩ := h; exact h1.mv
theorem ED.lt (h : ED w0 D cap xs W) : D < W.heap.size := by obtain ⟨cur, h1, _⟩ := h; exact h1.lt
theorem ED.grow (h : ED w0 D cap xs W) (g : G W W') : ED w0 D cap xs W' := by
  obtain ⟨cur, h1, h2, h3, h4⟩ := h
  exact ⟨cur, h1.grow g, h2, h3, h4.grow (Wo.g g)⟩
theorem ED.start {v0 : World} {base n : Nat} {cs : List Value} (h : OwnR base W (.slice (some ⟨D, 0, none⟩) n cap) n cs) (hr : ItRow v0 xs cs) (hn : xs.length = n) (g : G v0 W) (hD : v0.heap.size ≤ D) : ED W D cap xs W := by
  rcases h.2 with ⟨e, _⟩ | ⟨b, c, cur, e, hb, hg, h1, h2, h3, h4⟩
  · cases e
  · cases e
    refine ⟨cur.toList, ⟨mv_refl _ _, by simpa using hg⟩, by rw [Array.length_toList]; exact h3, by omega, ?_⟩
    rw [hn, h4]
    exact hr.grow (Wo.of g hD)
theorem ED.at_ (h : ED w0 D cap xs W) {i : Nat} {x : It} (hx : xs[i]? = some x) : ∃ pv lv, ItOk (Wo D W) x pv lv ∧ (∀ (j : Nat) (u : Value), (x.cells pv lv)[j]? = some u → W.cell? ⟨D, i * 15 + j, none⟩ = some u) ∧ (∀ j, W.frozen? ⟨D, j, none⟩ = false) ∧
    ∀ (W' : World) (ps' : List Pm) (pv' : Value), G W W' → ItOk (Wo D W') { x with ps := ps' } pv' lv → ED w0 D cap (xs.set i { x with ps := ps' }) (W'.setCell ⟨D, i * 15 + 2, none⟩ pv') := by
  obtain ⟨cur, h1, h2, h3, h4⟩ := h
  obtain ⟨pv, lv, k1, k2, _⟩ := h4.setPs hx
  have hi := (List.getElem?_eq_some_iff.1 hx).1
  refine ⟨pv, lv, k1, fun j u hu => ?_, fun j => h1.fz j, fun W' ps' pv' g hok => ?_⟩
  · have := k2 j u hu
    rw [List.getElem?_take] at this
    split at this
    · exact h1.cell this
    · cases this
  · obtain ⟨pv3, lv3, m1, m2, m3⟩ := (h4.grow (Wo.g g)).setPs hx
    have e3 : lv3 = lv := by
      have a1 := k2 5 lv rfl
      have a2 := m2 5 lv3 rfl
      rw [a1] at a2
      exact (Option.some.inj a2).symm
    subst e3
    refine ⟨cur.set (i * 15 + 2) pv', (h1.grow g).set _ _, by simpa using h2, by simpa using h3, ?_⟩
    rw [Wo.set, List.length_set, List.take_set]
    exact m3 ps' pv' hok
theorem ED.items (h : ED w0 D cap xs W) : IsItems W (.slice (some ⟨D, 0, none⟩) xs.length cap) xs := by
  obtain ⟨cur, h1, h2, h3, h4⟩ := h
  refine items_of_cells (h4.sub (Wo.sub D W)) h1.lt (fun j u hu => ?_) h3
  rw [List.getElem?_take] at hu
  split at hu
  · rw [Nat.zero_add]; exact h1.cell hu
  · cases hu
end
end Go.Proofs.YtfadckackdmbnaaGreatDoor

namespace Go.Proofs.YtfadckackdmbnaaGreatDoor
open Go.RowKit
set_option linter.unusedVariables false
set_option linter.unusedSimpArgs false
def nBEGIN : List UInt8 := [66, 69, 71, 73, 78]
def nEND : List UInt8 := [69, 78, 68]
def nVERSION : List UInt8 := [86, 69, 82, 83, 73, 79, 78]
def nTYPE : List UInt8 := [84, 89, 80, 69]
def framesB (n : List UInt8) : Bool := upperL n == nBEGIN || upperL n == nEND || upperL n == nVERSION
def parE (ps : List Pm) (i : Nat) : Int :=
  let p := ps.getD i ([], [])
  if fitsU (upperL p.1) p.2 = false then 3 else if sameL p.1 nTYPE = false ∧ findV (findL ps p.1) < i then 9 else 0
def parsB (ps : List Pm) : Bool := (List.range ps.length).all fun i => parE ps i == 0
def ruleX (v : Int) (n : List UInt8) : Int × Int × Int × Int := ruleOf (tabT v) (upperL n)
def lnX (x : It) (t : List UInt8) : Ln := ⟨⟨x.g, x.n, x.ps⟩, t⟩
def lineX (v : Int) (x : It) : List UInt8 := if rightE (v == 4) (lnX x x.v.text) = none then printW (v == 4) (lnX x x.v.text) else []
def frontB (v : Int) (x : It) : Bool := (rightE (v == 4) (lnX x [])).isNone && !framesB x.n && parsB x.ps && typeOf (ruleX v x.n).1 x.ps == x.v.ty
def rearB (v : Int) (x : It) : Bool := !(decide (x.v.ty = 3 ∧ 0 < (ruleX v x.n).2.2.2 ∧ (x.v.ps.length : Int) ≠ (ruleX v x.n).2.2.2)) && decide ((lineX v x).length ≤ 1500)
def oneB (v : Int) (x : It) : Bool := frontB v x && x.v.ok && rearB v x
def cntN (n : List UInt8) (ns : List (List UInt8)) : Nat := (ns.filter fun x => upperL x == n).length
def mostAt (v : Int) (ns : List (List UInt8)) (i : Nat) : Bool := match ns[i]? with
  | some n => !(decide (0 < (ruleX v n).2.2.1 ∧ (ruleX v n).2.2.1 < (cntN (upperL n) (ns.take (i + 1)) : Int)))
  | none => true
def mostN (v : Int) (ns : List (List UInt8)) : Bool := (List.range ns.length).all fun i => mostAt v ns i
def leastN (v : Int) (ns : List (List UInt8)) : Bool := (tabT v).all fun e => !(decide ((cntN e.name ns : Int) < (ruleX v e.name).2.1))
def rightC (v : Int) (xs : List It) : Bool := decide (v = 3 ∨ v = 4) && decide (xs.length ≤ 60) && xs.all (oneB v) && mostN v (xs.map It.n) && leastN v (xs.map It.n)
theorem stamp_len (t : St) : t.text.length ≤ 40 := by
  have hd : t.date.length ≤ 10 := by unfold St.date; split <;> split <;> split <;> simp [digL_length]
  have hc : t.clock.length ≤ 9 := by
    unfold St.clock
    simp only [List.length_append]
    have h1 : (if t.h = -1 then [45] else digL t.h 2).length ≤ 2 := by split <;> simp [digL_length]
    have h2 : (if t.n = -1 then (if t.h = -1 then [45] else []) else digL t.n 2).length ≤ 2 := by split <;> (try split) <;> simp [digL_length]
    have h3 : (if t.s = -1 then (if t.h = -1 ∧ t.n = -1 then [45] else []) else digL t.s 2).length ≤ 2 := by split <;> (try split) <;> simp [digL_length]
    omega
  have hz : (if t.zd then printZ t.zn else []).length ≤ 5 := by
    split
    · unfold printZ; split <;> (try split) <;> simp [twoL]
    · simp
  unfold St.text
  split
  · omega
  · simp only [List.length_append, List.length_cons]; omega
structure Sml (x : It) : Prop where
  h : x.g.length + x.n.length + wideN x.ps ≤ 10000
  t : x.v.tx.length ≤ 4900
  p : sumP x.v.ps ≤ 4900
theorem text_sml {x : It} (h : Sml x) : x.v.text.length ≤ 10000 := by
  have h1 := escL_le x.v.tx
  have h2 := joinP_le x.v.ps
  have h3 := stamp_len x.v.st
  have hz : (printZ x.v.n).length ≤ 5 := by unfold printZ; split <;> (try split) <;> simp [twoL]
  have h4 := h.t
  have h5 := h.p
  unfold Vl.text
  split
  · omega
  split
  · omega
  split
  · omega
  split
  · omega
  · omega
theorem Sml.bounds {x : It} (h : Sml x) : x.g.length ≤ 10000 ∧ x.n.length ≤ 10000 ∧ wideN x.ps ≤ 10000 ∧ x.v.tx.length ≤ 100000 ∧ sumP x.v.ps ≤ 100000 ∧ x.v.text.length ≤ 10000 := by
  have h1 := h.h
  have h2 := h.t
  have h3 := h.p
  exact ⟨by omega, by omega, by omega, by omega, by omega, text_sml h⟩
theorem parE_lt {ps : List Pm} {i : Nat} (h : i < ps.length) : parE ps i = if fitsU (upperL ps[i].1) ps[i].2 = false then 3 else if sameL ps[i].1 nTYPE = false ∧ findV (findL ps ps[i].1) < i then 9 else 0 := by
  unfold parE
  simp only [List.getD_eq_getElem?_getD, List.getElem?_eq_getElem h, Option.getD_some]
theorem parsB_all {ps : List Pm} (h : ∀ i, i < ps.length → parE ps i = 0) : parsB ps = true := by
  unfold parsB
  rw [List.all_eq_true]
  intro i hi
  rw [h i (List.mem_range.1 hi)]; rfl
theorem parsB_no {ps : List Pm} {i : Nat} (h : i < ps.length) (hi : parE ps i ≠ 0) : parsB ps = false := by
  unfold parsB
  rw [List.all_eq_false]
  exact ⟨i, List.mem_range.2 h, by simpa using hi⟩
end Go.Proofs.YtfadckackdmbnaaGreatDoor

namespace Go.Proofs.YtfadckackdmbnaaGreatDoor
open Go.RowKit
set_option linter.unusedVariables false
set_option linter.unusedSimpArgs false
def nVALUE : List UInt8 := [86, 65, 76, 85, 69]
def nPREF : List UInt8 := [80, 82, 69, 70]
def nENC : List UInt8 := [69, 78, 67, 79, 68, 73, 78, 71]
def nLABEL : List UInt8 := [76, 65, 66, 69, 76]
def nADR : List UInt8 := [65, 68, 82]
def wPref : List UInt8 := [112, 114, 101, 102]
def withoutL (l : List Pm) (n : List UInt8) : List Pm := l.filter fun p => !sameL p.1 n
def keptV (vs : List (List UInt8)) : List (List UInt8) := vs.filter fun v => !sameL v wPref
def prefStep (p : Pm) : List Pm := if sameL p.1 nTYPE = true then (if keptV p.2 = [] then [] else [(p.1, keptV p.2)]) else [p]
def prefOf (p : Pm) : Bool := sameL p.1 nTYPE && p.2.any (fun v => sameL v wPref)
def prefersL (l : List Pm) : List Pm :=
  if (l.any prefOf && (findL (l.flatMap prefStep) nPREF).isNone) = true then l.flatMap prefStep ++ [(nPREF, [[49]])] else l.flatMap prefStep
def nPHOTO : List UInt8 := [80, 72, 79, 84, 79]
def nLOGO : List UInt8 := [76, 79, 71, 79]
def nSOUND : List UInt8 := [83, 79, 85, 78, 68]
def nKEY : List UInt8 := [75, 69, 89]
def kindM (n : List UInt8) : List UInt8 := if n = nPHOTO ∨ n = nLOGO then [105, 109, 97, 103, 101, 47] else if n = nSOUND then [97, 117, 100, 105, 111, 47] else [97, 112, 112, 108, 105, 99, 97, 116, 105, 111, 110, 47]
def octets : List UInt8 := [97, 112, 112, 108, 105, 99, 97, 116, 105, 111, 110, 47, 111, 99, 116, 101, 116, 45, 115, 116, 114, 101, 97, 109]
def val0 (l : List Pm) (i : Nat) : List UInt8 := (l.getD i ([], [])).2.getD 0 []
def mediaL (n : List UInt8) (l : List Pm) : List UInt8 := match findL l nTYPE with
  | none => octets
  | some i => kindM n ++ lowerL (val0 l i)
def bigX (n : List UInt8) (x : It) : It × Bool := match findL x.ps nENC with
  | none => if x.v.ty = 4 then (⟨x.g, x.n, withoutL x.ps nVALUE, x.v⟩, true) else (x, false)
  | some i =>
    if sameL (val0 x.ps i) [98] = true ∧ x.v.ty = 8 then
      (if x.v.tx.length % 4 ≠ 0 then (x, false) else match b64D x.v.tx with
        | .error _ => (x, false)
        | .ok bs => (⟨x.g, x.n, withoutL (withoutL (withoutL x.ps nENC) nTYPE) nVALUE, tV 4 (if mediaB (mediaL n x.ps) = true then dataU (mediaL n x.ps) bs else [])⟩, mediaB (mediaL n x.ps)))
    else (x, false)
def otherX (n : List UInt8) (x : It) : It := ⟨x.g, 88 :: 45 :: n, withoutL x.ps nVALUE, tV 8 (if x.v.ty = 1 then escL x.v.tx else x.v.tx)⟩
def geoP : List UInt8 := [103, 101, 111, 58]
def placeX (x : It) : It × Bool :=
  if x.v.ty = 3 then (match x.v.ps with
    | [[a], [b]] => (⟨x.g, x.n, withoutL x.ps nVALUE, tV 4 (geoP ++ a ++ [44] ++ b)⟩, uriB (geoP ++ a ++ [44] ++ b))
    | _ => (x, false))
  else (x, false)
def kindX (x : It) : It := ⟨x.g, x.n, withoutL x.ps nVALUE ++ [(nVALUE, [kindN x.v.ty])], x.v⟩
def bigN (n : List UInt8) : Bool := n == nPHOTO || n == nLOGO || n == nSOUND || n == nKEY
def nAGENT : List UInt8 := [65, 71, 69, 78, 84]
def nCLASS : List UInt8 := [67, 76, 65, 83, 83]
def nMAILER : List UInt8 := [77, 65, 73, 76, 69, 82]
def nNAME : List UInt8 := [78, 65, 77, 69]
def nSORT : List UInt8 := [83, 79, 82, 84, 45, 83, 84, 82, 73, 78, 71]
def nGEO : List UInt8 := [71, 69, 79]
def nTZ : List UInt8 := [84, 90]
def nUID : List UInt8 := [85, 73, 68]
def otherN (n : List UInt8) : Bool := n == nAGENT || n == nCLASS || n == nMAILER || n == nNAME || n == nSORT || n == nLABEL
def oneX (y : It) : It × Bool :=
  let n := upperL y.n
  let x : It := ⟨y.g, y.n, prefersL y.ps, y.v⟩
  if bigN n = true then bigX n x
  else if otherN n = true then (otherX n x, decide (x.v.ty = 1 ∨ x.v.ty = 8))
  else if n = nGEO then placeX x
  else if n = nTZ then (kindX x, true)
  else if n = nUID then (if x.v.ty = 1 ∧ uriB x.v.tx = true then (⟨x.g, x.n, withoutL x.ps nVALUE, ⟨4, x.v.tx, x.v.ps, x.v.st, x.v.n⟩⟩, true) else (kindX x, true))
  else (x, true)
def lastN (n : List UInt8) (l : List It) : Option Nat := (List.range l.length).reverse.find? fun i => match l[i]? with | some x => sameL x.n n | none => false
def labelS (out : List It) (x : It) : List It :=
  if sameL x.n nLABEL = true ∧ x.v.ty = 1 then (match lastN nADR out with
    | some k => (match out[k]? with
      | some y => if (findL y.ps nLABEL).isNone = true then out.set k ⟨y.g, y.n, y.ps ++ [(nLABEL, [x.v.tx])], y.v⟩ else out ++ [x]
      | none => out ++ [x])
    | none => out ++ [x])
  else out ++ [x]
def labelsX (l : List It) : List It := l.foldl labelS []
def upX (xs : List It) : Option (List It) :=
  if rightC 3 xs = true then
    (if (labelsX xs).all (fun x => (oneX x).2) = true then (if rightC 4 ((labelsX xs).map fun x => (oneX x).1) = true then some ((labelsX xs).map fun x => (oneX x).1) else none) else none)
  else none
end Go.Proofs.YtfadckackdmbnaaGreatDoor

namespace Go.Proofs.YtfadckackdmbnaaGreatDoor
open Go.RowKit
set_option linter.unusedVariables false
set_option linter.unusedSimpArgs false
theorem new_at (w : World) (o : Obj) (n : Nat) (h : n = w.heap.size) : (w.alloc o).heap[n]? = some o := by subst h; exact heap_alloc_new w o
theorem news8 (w : World) (o0 o1 o2 o3 o4 o5 o6 o7 : Obj) (W : World) (hW : ((((((((w.alloc o0).alloc o1).alloc o2).alloc o3).alloc o4).alloc o5).alloc o6).alloc o7) = W) :
    W.heap[w.heap.size + 1]? = some o1 ∧ W.heap[w.heap.size + 2]? = some o2 ∧ W.heap[w.heap.size + 3]? = some o3 ∧ W.heap[w.heap.size + 4]? = some o4 ∧ W.heap[w.heap.size + 5]? = some o5 ∧ W.heap[w.heap.size + 6]? = some o6 ∧ W.heap[w.heap.size + 7]? = some o7 := by
  subst hW
  refine ⟨?_, ?_, ?_, ?_, ?_, ?_, ?_⟩ <;> repeat (first | exact new_at _ _ _ (by simp) | rw [Lib.alloc_old _ _ _ (by simp)] | rw [Lib.alloc_old _ _ _ (by simp; omega)])
def annFN : It := ⟨[], [70, 78], [], ⟨1, [65, 110, 110], [], St0, 0⟩⟩
def annN : It := ⟨[], [78], [], ⟨3, [], [[[65]], [[65, 110, 110]], [[]], [[]], [[]]], St0, 0⟩⟩
def annXs : List It := [annFN, annN]
def OneS (W : World) (v : Value) (s : List UInt8) : Prop := ∃ b, v = .slice (some ⟨b, 0, none⟩) 1 1 ∧ W.heap[b]? = some (.cells #[.string (S s)] 9 (0, 0))
theorem OneS.grow {W W' : World} {v : Value} {s : List UInt8} (h : OneS W v s) (g : G W W') : OneS W' v s := by
  obtain ⟨b, e, h⟩ := h
  exact ⟨b, e, (g.below.block b (Array.getElem?_eq_some_iff.1 h).1).trans h⟩
theorem OneS.strs {W : World} {v : Value} {s : List UInt8} (h : OneS W v s) : IsStrs W v [s] := by
  obtain ⟨b, rfl, h⟩ := h
  refine ⟨⟨rfl, by simp [Value.oneCell'], .inr ⟨b, 0, 1, rfl, (Array.getElem?_eq_some_iff.1 h).1, Nat.le_refl _, fun j hj => ?_⟩⟩, Nat.le_refl _⟩
  have hj0 : j = 0 := by simp at hj; omega
  subst hj0
  rw [cell_of_row W b _ _ _ _ h]; rfl
theorem ok_fn (W : World) : ItOk W annFN (.slice none 0 0) (.slice none 0 0) :=
  ⟨⟨_, _, rfl, Nat.le_refl _, fun h => absurd rfl h⟩, ⟨[], ⟨rfl, by simp, .inl ⟨rfl, .inl rfl⟩⟩, Nat.le_refl _, by simp [annFN]⟩, .inl rfl, by decide, by decide⟩
theorem ok_n {W : World} {a : Option Addr} (h : IsLists W (.slice a 5 5) annN.v.ps) : ItOk W annN (.slice none 0 0) (.slice a 5 5) :=
  ⟨⟨_, _, rfl, Nat.le_refl _, fun h => absurd rfl h⟩, h, .inl rfl, by decide, by decide⟩
set_option maxRecDepth 100000 in
set_option maxHeartbeats 4000000 in
theorem ann_any (ver : Int) (w : World) : Makes 16 #[.int .i64 ver] w (fun v w' => ∃ u, v = cardV ver u ∧ IsItems w' u annXs ∧ ∃ b c, u = .slice (some b) 2 c) := by
  go_enter Tryz.func16, Tryz.ntmps16
  go_wp2_with fail
  refine bodyPost_ret (v := cardV ver (.slice (some ⟨w.heap.size + 7, 0, none⟩) 2 2)) ?_ rfl ⟨_, rfl, ⟨_, rfl, ?_, _, _, rfl⟩, ?_⟩
  · unfold cardV
    simp only [results, Tryz.f16]
    go_simp
  · generalize hW : ((((((((w.alloc _).alloc _).alloc _).alloc _).alloc _).alloc _).alloc _).alloc _) = W
    obtain ⟨e1, e2, e3, e4, e5, e6, e7⟩ := news8 _ _ _ _ _ _ _ _ _ _ hW
    clear hW
    have s1 : IsStrs W (.slice (some ⟨w.heap.size + 1, 0, none⟩) 1 1) [[65]] := OneS.strs ⟨_, rfl, e1⟩
    have s2 : IsStrs W (.slice (some ⟨w.heap.size + 2, 0, none⟩) 1 1) [[65, 110, 110]] := OneS.strs ⟨_, rfl, e2⟩
    have s3 : IsStrs W (.slice (some ⟨w.heap.size + 3, 0, none⟩) 1 1) [[]] := OneS.strs ⟨_, rfl, e3⟩
    have s4 : IsStrs W (.slice (some ⟨w.heap.size + 4, 0, none⟩) 1 1) [[]] := OneS.strs ⟨_, rfl, e4⟩
    have s5 : IsStrs W (.slice (some ⟨w.heap.size + 5, 0, none⟩) 1 1) [[]] := OneS.strs ⟨_, rfl, e5⟩
    have hl : IsLists W (.slice (some ⟨w.heap.size + 6, 0, none⟩) 5 5) annN.v.ps := by
      refine ⟨[.slice (some ⟨w.heap.size + 1, 0, none⟩) 1 1, .slice (some ⟨w.heap.size + 2, 0, none⟩) 1 1, .slice (some ⟨w.heap.size + 3, 0, none⟩) 1 1, .slice (some ⟨w.heap.size + 4, 0, none⟩) 1 1, .slice (some ⟨w.heap.size + 5, 0, none⟩) 1 1], ⟨rfl, by simp [Value.oneCell'], .inr ⟨w.heap.size + 6, 0, 5, rfl, (Array.getElem?_eq_some_iff.1 e6).1, by simp [annN], fun j hj => ?_⟩⟩, Nat.le_refl _, fun i l hi => ?_⟩
      · rw [cell_of_row W _ _ _ _ _ e6, Nat.zero_add]; simp
      · match i, hi with
        | 0, hi => cases hi; exact ⟨_, rfl, s1⟩
        | 1, hi => cases hi; exact ⟨_, rfl, s2⟩
        | 2, hi => cases hi; exact ⟨_, rfl, s3⟩
        | 3, hi => cases hi; exact ⟨_, rfl, s4⟩
        | 4, hi => cases hi; exact ⟨_, rfl, s5⟩
        | n + 5, hi => simp [annN] at hi
    exact items_of_cells (xs := annXs) (cap := 2) ⟨_, _, _, rfl, ok_fn W, _, _, _, rfl, ok_n hl, rfl⟩ (Array.getElem?_eq_some_iff.1 e7).1 (fun j u hu => by
      rw [cell_of_row W _ _ _ _ _ e7, Nat.zero_add]
      rw [List.getElem?_toArray]
      exact hu) (Nat.le_refl _)
  · repeat (first | exact G.refl _ | refine G.alloc ?_ _)
end Go.Proofs.YtfadckackdmbnaaGreatDoor

namespace Go.Proofs.YtfadckackdmbnaaGreatDoor
set_option linter.unusedVariables false
theorem and_of {a b : Bool} (h : a = true) (k : b = true) : (a && b) = true := by rw [h, k]; rfl
def jf0 (P : Program) (f : FuncId) (fn : Func) (s : ChangeSpec) (c : OpenClaim) : Bool := c.wf (OpenSpec.ofChange s)
def jf1 (P : Program) (f : FuncId) (fn : Func) (s : ChangeSpec) (c : OpenClaim) : Bool := laidOutB P
def jf2 (P : Program) (f : FuncId) (fn : Func) (s : ChangeSpec) (c : OpenClaim) : Bool := mapsRowed P
def jf3 (P : Program) (f : FuncId) (fn : Func) (s : ChangeSpec) (c : OpenClaim) : Bool := fn.params.all (P.readableRec ·)
def jf4 (P : Program) (f : FuncId) (fn : Func) (s : ChangeSpec) (c : OpenClaim) : Bool := namedTie P c.named s.vars
def jf5 (P : Program) (f : FuncId) (fn : Func) (s : ChangeSpec) (c : OpenClaim) : Bool := (c.stops == [])
def jf6 (P : Program) (f : FuncId) (fn : Func) (s : ChangeSpec) (c : OpenClaim) : Bool := (P.stops == [])
def jf7 (P : Program) (f : FuncId) (fn : Func) (s : ChangeSpec) (c : OpenClaim) : Bool := (c.knobs == [])
def jf8 (P : Program) (f : FuncId) (fn : Func) (s : ChangeSpec) (c : OpenClaim) : Bool := (P.stopKnobs == [])
def jf9 (P : Program) (f : FuncId) (fn : Func) (s : ChangeSpec) (c : OpenClaim) : Bool := (c.inPlace == P.inPlace f)
def jf10 (P : Program) (f : FuncId) (fn : Func) (s : ChangeSpec) (c : OpenClaim) : Bool := (c.unfollowed == P.unfollowed f)
def jf11 (P : Program) (f : FuncId) (fn : Func) (s : ChangeSpec) (c : OpenClaim) : Bool := (c.recurses == P.recurses f)
def jf12 (P : Program) (f : FuncId) (fn : Func) (s : ChangeSpec) (c : OpenClaim) : Bool := (c.named == P.varsNamed f)
def jf13 (P : Program) (f : FuncId) (fn : Func) (s : ChangeSpec) (c : OpenClaim) : Bool := (c.maps == (fn.params.toList ++ s.plain.varTypes P).any (P.mapsRec ·))
def jf14 (P : Program) (f : FuncId) (fn : Func) (s : ChangeSpec) (c : OpenClaim) : Bool := (c.ifaces == (fn.params.toList ++ s.plain.varTypes P).any (P.ifacesRec ·))
def jf15 (P : Program) (f : FuncId) (fn : Func) (s : ChangeSpec) (c : OpenClaim) : Bool := (c.mapsOut == P.mapsAmong fn.resultTypes.toList)
def jf16 (P : Program) (f : FuncId) (fn : Func) (s : ChangeSpec) (c : OpenClaim) : Bool := (c.loops == (fn.params.toList ++ s.plain.varTypes P).any (P.loopsFrom ·))
def jf17 (P : Program) (f : FuncId) (fn : Func) (s : ChangeSpec) (c : OpenClaim) : Bool := (c.wideKeys == (fn.params.toList ++ s.plain.varTypes P ++ fn.resultTypes.toList).any (P.wideKeysFrom ·))
def jf18 (P : Program) (f : FuncId) (fn : Func) (s : ChangeSpec) (c : OpenClaim) : Bool := s.vars.all (P.varReadable ·)
def jf19 (P : Program) (f : FuncId) (fn : Func) (s : ChangeSpec) (c : OpenClaim) : Bool := fn.resultTypes.all (fun t => P.readableRec t && decide (t < P.types.size))
def jf20 (P : Program) (f : FuncId) (fn : Func) (s : ChangeSpec) (c : OpenClaim) : Bool := (c.ifacesOut == fn.resultTypes.toList.any (P.ifacesRec ·))
def jf21 (P : Program) (f : FuncId) (fn : Func) (s : ChangeSpec) (c : OpenClaim) : Bool := (c.loopsOut == fn.resultTypes.toList.any (P.loopsFrom ·))
def jf22 (P : Program) (f : FuncId) (fn : Func) (s : ChangeSpec) (c : OpenClaim) : Bool := (c.plainKeys == P.plainKeys)
def jf23 (P : Program) (f : FuncId) (fn : Func) (s : ChangeSpec) (c : OpenClaim) : Bool := c.shortTexts.isNone
def jf24 (P : Program) (f : FuncId) (fn : Func) (s : ChangeSpec) (c : OpenClaim) : Bool := P.stopsHeard
def jf25 (P : Program) (f : FuncId) (fn : Func) (s : ChangeSpec) (c : OpenClaim) : Bool := P.mayEnter
def jf26 (P : Program) (f : FuncId) (fn : Func) (s : ChangeSpec) (c : OpenClaim) : Bool := (c.lifted == P.liftsFinal)
def jf27 (P : Program) (f : FuncId) (fn : Func) (s : ChangeSpec) (c : OpenClaim) : Bool := (P.make == some c.make)
def jf28 (P : Program) (f : FuncId) (fn : Func) (s : ChangeSpec) (c : OpenClaim) : Bool := (c.kinds == (if c.domain.isEmpty then [] else fn.params.toList.map fun t => match P.underlying t with | some (.int k) => some k | _ => none))
def jf29 (P : Program) (f : FuncId) (fn : Func) (s : ChangeSpec) (c : OpenClaim) : Bool := (c.pinned == c.pinnedBy)
def jf30 (P : Program) (f : FuncId) (fn : Func) (s : ChangeSpec) (c : OpenClaim) : Bool := (c.veiled == (fn.params.toList ++ s.plain.varTypes P ++ fn.resultTypes.toList).any (P.veiledRec ·))
def jf31 (P : Program) (f : FuncId) (fn : Func) (s : ChangeSpec) (c : OpenClaim) : Bool := c.veiledFits P fn.params.toList (fn.params.toList ++ s.plain.varTypes P ++ fn.resultTypes.toList)
theorem joined_of {P : Program} {f : FuncId} {fn : Func} {s : ChangeSpec} {c : OpenClaim} (h0 : jf0 P f fn s c = true) (h1 : jf1 P f fn s c = true) (h2 : jf2 P f fn s c = true) (h3 : jf3 P f fn s c = true) (h4 : jf4 P f fn s c = true) (h5 : jf5 P f fn s c = true) (h6 : jf6 P f fn s c = true) (h7 : jf7 P f fn s c = true) (h8 : jf8 P f fn s c = true) (h9 : jf9 P f fn s c = true) (h10 : jf10 P f fn s c = true) (h11 : jf11 P f fn s c = true) (h12 : jf12 P f fn s c = true) (h13 : jf13 P f fn s c = true) (h14 : jf14 P f fn s c = true) (h15 : jf15 P f fn s c = true) (h16 : jf16 P f fn s c = true) (h17 : jf17 P f fn s c = true) (h18 : jf18 P f fn s c = true) (h19 : jf19 P f fn s c = true) (h20 : jf20 P f fn s c = true) (h21 : jf21 P f fn s c = true) (h22 : jf22 P f fn s c = true) (h23 : jf23 P f fn s c = true) (h24 : jf24 P f fn s c = true) (h25 : jf25 P f fn s c = true) (h26 : jf26 P f fn s c = true) (h27 : jf27 P f fn s c = true) (h28 : jf28 P f fn s c = true) (h29 : jf29 P f fn s c = true) (h30 : jf30 P f fn s c = true) (h31 : jf31 P f fn s c = true) : joinedFacts P f fn s c = true := by
  exact and_of (and_of (and_of (and_of (and_of (and_of (and_of (and_of (and_of (and_of (and_of (and_of (and_of (and_of (and_of (and_of (and_of (and_of (and_of (and_of (and_of (and_of (and_of (and_of (and_of (and_of (and_of (and_of (and_of (and_of (and_of h0 h1) h2) h3) h4) h5) h6) h7) h8) h9) h10) h11) h12) h13) h14) h15) h16) h17) h18) h19) h20) h21) h22) h23) h24) h25) h26) h27) h28) h29) h30) h31
end Go.Proofs.YtfadckackdmbnaaGreatDoor
