/-
  Texts merged into one: CardPlain, ConvPlain, Value, B64Laws, NamesPlain.
-/
import Derived.Test.YtdmbhoagjjkogaaGreatDoorMA36
import Derived.Test.YtdmbhoagjjkogaaGreatDoorLinePrint
import Derived.Test.YtdmbhoagjjkogaaGreatDoorMVal
import Derived.Test.YtdmbhoagjjkogaaGreatDoorMA51
import Derived.Test.YtdmbhoagjjkogaaGreatDoorMRules
import Derived.Test.YtdmbhoagjjkogaaGreatDoorMA45
import Derived.Test.YtdmbhoagjjkogaaGreatDoorB64Dec2
import Derived.Test.YtdmbhoagjjkogaaGreatDoorMTell
import Derived.RangeFuncBox
namespace Go.Proofs.YtdmbhoagjjkogaaGreatDoor
open Go.RowKit
set_option linter.unusedVariables false
set_option linter.unusedSimpArgs false
def nBEGIN : List UInt8 := [66, 69, 71, 73, 78]
def nEND : List UInt8 := [69, 78, 68]
def nVERSION : List UInt8 := [86, 69, 82, 83, 73, 79, 78]
def nTYPE : List UInt8 := [84, 89, 80, 69]
def framesB (n : List UInt8) : Bool := upperL n == nBEGIN || upperL n == nEND || upperL n == nVERSION
def parE (ps : List Pm) (i : Nat) : Int :=
  let p := ps.getD i ([], [])
  if fitsU (upperL p.1) p.2 = false then 3 else if sameL p.1 nTYPE = false ∧ findV (findL ps p.1) < i then 9 else 0
def parsB (ps : List Pm) : Bool := (List.range ps.length).all fun i => parE ps i == 0
def ruleX (v : Int) (n : List UInt8) : Int × Int × Int × Int := ruleOf (tabT v) (upperL n)
def lnX (x : It) (t : List UInt8) : Ln := ⟨⟨x.g, x.n, x.ps⟩, t⟩
def lineX (v : Int) (x : It) : List UInt8 := if rightE (v == 4) (lnX x x.v.text) = none then printW (v == 4) (lnX x x.v.text) else []
def frontB (v : Int) (x : It) : Bool := (rightE (v == 4) (lnX x [])).isNone && !framesB x.n && parsB x.ps && typeOf (ruleX v x.n).1 x.ps == x.v.ty
def rearB (v : Int) (x : It) : Bool := !(decide (x.v.ty = 3 ∧ 0 < (ruleX v x.n).2.2.2 ∧ (x.v.ps.length : Int) ≠ (ruleX v x.n).2.2.2)) && decide ((lineX v x).length ≤ 1500)
def oneB (v : Int) (x : It) : Bool := frontB v x && x.v.ok && rearB v x
def cntN (n : List UInt8) (ns : List (List UInt8)) : Nat := (ns.filter fun x => upperL x == n).length
def mostAt (v : Int) (ns : List (List UInt8)) (i : Nat) : Bool := match ns[i]? with
  | some n => !(decide (0 < (ruleX v n).2.2.1 ∧ (ruleX v n).2.2.1 < (cntN (upperL n) (ns.take (i + 1)) : Int)))
  | none => true
def mostN (v : Int) (ns : List (List UInt8)) : Bool := (List.range ns.length).all fun i => mostAt v ns i
def leastN (v : Int) (ns : List (List UInt8)) : Bool := (tabT v).all fun e => !(decide ((cntN e.name ns : Int) < (ruleX v e.name).2.1))
def rightC (v : Int) (xs : List It) : Bool := decide (v = 3 ∨ v = 4) && decide (xs.length ≤ 60) && xs.all (oneB v) && mostN v (xs.map It.n) && leastN v (xs.map It.n)
/-! ## how long a value's text is -/
theorem stamp_len (t : St) : t.text.length ≤ 40 := by
  have hd : t.date.length ≤ 10 := by unfold St.date; split <;> split <;> split <;> simp [digL_length]
  have hc : t.clock.length ≤ 9 := by
    unfold St.clock
    simp only [List.length_append]
    have h1 : (if t.h = -1 then [45] else digL t.h 2).length ≤ 2 := by split <;> simp [digL_length]
    have h2 : (if t.n = -1 then (if t.h = -1 then [45] else []) else digL t.n 2).length ≤ 2 := by split <;> (try split) <;> simp [digL_length]
    have h3 : (if t.s = -1 then (if t.h = -1 ∧ t.n = -1 then [45] else []) else digL t.s 2).length ≤ 2 := by split <;> (try split) <;> simp [digL_length]
    omega
  have hz : (if t.zd then printZ t.zn else []).length ≤ 5 := by
    split
    · unfold printZ; split <;> (try split) <;> simp [twoL]
    · simp
  unfold St.text
  split
  · omega
  · simp only [List.length_append, List.length_cons]; omega
structure Sml (x : It) : Prop where
  h : x.g.length + x.n.length + wideN x.ps ≤ 10000
  t : x.v.tx.length ≤ 4900
  p : sumP x.v.ps ≤ 4900
theorem text_sml {x : It} (h : Sml x) : x.v.text.length ≤ 10000 := by
  have h1 := escL_le x.v.tx
  have h2 := joinP_le x.v.ps
  have h3 := stamp_len x.v.st
  have hz : (printZ x.v.n).length ≤ 5 := by unfold printZ; split <;> (try split) <;> simp [twoL]
  have h4 := h.t
  have h5 := h.p
  unfold Vl.text
  split
  · omega
  split
  · omega
  split
  · omega
  split
  · omega
  · omega
theorem Sml.bounds {x : It} (h : Sml x) : x.g.length ≤ 10000 ∧ x.n.length ≤ 10000 ∧ wideN x.ps ≤ 10000 ∧ x.v.tx.length ≤ 100000 ∧ sumP x.v.ps ≤ 100000 ∧ x.v.text.length ≤ 10000 := by
  have h1 := h.h
  have h2 := h.t
  have h3 := h.p
  exact ⟨by omega, by omega, by omega, by omega, by omega, text_sml h⟩
/-! ## plain steps -/
theorem parE_lt {ps : List Pm} {i : Nat} (h : i < ps.length) : parE ps i = if fitsU (upperL ps[i].1) ps[i].2 = false then 3 else if sameL ps[i].1 nTYPE = false ∧ findV (findL ps ps[i].1) < i then 9 else 0 := by
  unfold parE
  simp only [List.getD_eq_getElem?_getD, List.getElem?_eq_getElem h, Option.getD_some]
theorem parsB_all {ps : List Pm} (h : ∀ i, i < ps.length → parE ps i = 0) : parsB ps = true := by
  unfold parsB
  rw [List.all_eq_true]
  intro i hi
  rw [h i (List.mem_range.1 hi)]; rfl
theorem parsB_no {ps : List Pm} {i : Nat} (h : i < ps.length) (hi : parE ps i ≠ 0) : parsB ps = false := by
  unfold parsB
  rw [List.all_eq_false]
  exact ⟨i, List.mem_range.2 h, by simpa using hi⟩
end Go.Proofs.YtdmbhoagjjkogaaGreatDoor

namespace Go.Proofs.YtdmbhoagjjkogaaGreatDoor
open Go.RowKit
set_option linter.unusedVariables false
set_option linter.unusedSimpArgs false
def nVALUE : List UInt8 := [86, 65, 76, 85, 69]
def nPREF : List UInt8 := [80, 82, 69, 70]
def nENC : List UInt8 := [69, 78, 67, 79, 68, 73, 78, 71]
def nLABEL : List UInt8 := [76, 65, 66, 69, 76]
def nADR : List UInt8 := [65, 68, 82]
def wPref : List UInt8 := [112, 114, 101, 102]
def withoutL (l : List Pm) (n : List UInt8) : List Pm := l.filter fun p => !sameL p.1 n
def keptV (vs : List (List UInt8)) : List (List UInt8) := vs.filter fun v => !sameL v wPref
def prefStep (p : Pm) : List Pm := if sameL p.1 nTYPE = true then (if keptV p.2 = [] then [] else [(p.1, keptV p.2)]) else [p]
def prefOf (p : Pm) : Bool := sameL p.1 nTYPE && p.2.any (fun v => sameL v wPref)
def prefersL (l : List Pm) : List Pm :=
  if (l.any prefOf && (findL (l.flatMap prefStep) nPREF).isNone) = true then l.flatMap prefStep ++ [(nPREF, [[49]])] else l.flatMap prefStep
def nPHOTO : List UInt8 := [80, 72, 79, 84, 79]
def nLOGO : List UInt8 := [76, 79, 71, 79]
def nSOUND : List UInt8 := [83, 79, 85, 78, 68]
def nKEY : List UInt8 := [75, 69, 89]
def kindM (n : List UInt8) : List UInt8 := if n = nPHOTO ∨ n = nLOGO then [105, 109, 97, 103, 101, 47] else if n = nSOUND then [97, 117, 100, 105, 111, 47] else [97, 112, 112, 108, 105, 99, 97, 116, 105, 111, 110, 47]
def octets : List UInt8 := [97, 112, 112, 108, 105, 99, 97, 116, 105, 111, 110, 47, 111, 99, 116, 101, 116, 45, 115, 116, 114, 101, 97, 109]
def val0 (l : List Pm) (i : Nat) : List UInt8 := (l.getD i ([], [])).2.getD 0 []
def mediaL (n : List UInt8) (l : List Pm) : List UInt8 := match findL l nTYPE with
  | none => octets
  | some i => kindM n ++ lowerL (val0 l i)
def bigX (n : List UInt8) (x : It) : It × Bool := match findL x.ps nENC with
  | none => if x.v.ty = 4 then (⟨x.g, x.n, withoutL x.ps nVALUE, x.v⟩, true) else (x, false)
  | some i =>
    if sameL (val0 x.ps i) [98] = true ∧ x.v.ty = 8 then
      (if x.v.tx.length % 4 ≠ 0 then (x, false) else match b64D x.v.tx with
        | .error _ => (x, false)
        | .ok bs => (⟨x.g, x.n, withoutL (withoutL (withoutL x.ps nENC) nTYPE) nVALUE, tV 4 (if mediaB (mediaL n x.ps) = true then dataU (mediaL n x.ps) bs else [])⟩, mediaB (mediaL n x.ps)))
    else (x, false)
def otherX (n : List UInt8) (x : It) : It := ⟨x.g, 88 :: 45 :: n, withoutL x.ps nVALUE, tV 8 (if x.v.ty = 1 then escL x.v.tx else x.v.tx)⟩
def geoP : List UInt8 := [103, 101, 111, 58]
def placeX (x : It) : It × Bool :=
  if x.v.ty = 3 then (match x.v.ps with
    | [[a], [b]] => (⟨x.g, x.n, withoutL x.ps nVALUE, tV 4 (geoP ++ a ++ [44] ++ b)⟩, uriB (geoP ++ a ++ [44] ++ b))
    | _ => (x, false))
  else (x, false)
def kindX (x : It) : It := ⟨x.g, x.n, withoutL x.ps nVALUE ++ [(nVALUE, [kindN x.v.ty])], x.v⟩
def bigN (n : List UInt8) : Bool := n == nPHOTO || n == nLOGO || n == nSOUND || n == nKEY
def nAGENT : List UInt8 := [65, 71, 69, 78, 84]
def nCLASS : List UInt8 := [67, 76, 65, 83, 83]
def nMAILER : List UInt8 := [77, 65, 73, 76, 69, 82]
def nNAME : List UInt8 := [78, 65, 77, 69]
def nSORT : List UInt8 := [83, 79, 82, 84, 45, 83, 84, 82, 73, 78, 71]
def nGEO : List UInt8 := [71, 69, 79]
def nTZ : List UInt8 := [84, 90]
def nUID : List UInt8 := [85, 73, 68]
def otherN (n : List UInt8) : Bool := n == nAGENT || n == nCLASS || n == nMAILER || n == nNAME || n == nSORT || n == nLABEL
def oneX (y : It) : It × Bool :=
  let n := upperL y.n
  let x : It := ⟨y.g, y.n, prefersL y.ps, y.v⟩
  if bigN n = true then bigX n x
  else if otherN n = true then (otherX n x, decide (x.v.ty = 1 ∨ x.v.ty = 8))
  else if n = nGEO then placeX x
  else if n = nTZ then (kindX x, true)
  else if n = nUID then (if x.v.ty = 1 ∧ uriB x.v.tx = true then (⟨x.g, x.n, withoutL x.ps nVALUE, ⟨4, x.v.tx, x.v.ps, x.v.st, x.v.n⟩⟩, true) else (kindX x, true))
  else (x, true)
def lastN (n : List UInt8) (l : List It) : Option Nat := (List.range l.length).reverse.find? fun i => match l[i]? with | some x => sameL x.n n | none => false
def labelS (out : List It) (x : It) : List It :=
  if sameL x.n nLABEL = true ∧ x.v.ty = 1 then (match lastN nADR out with
    | some k => (match out[k]? with
      | some y => if (findL y.ps nLABEL).isNone = true then out.set k ⟨y.g, y.n, y.ps ++ [(nLABEL, [x.v.tx])], y.v⟩ else out ++ [x]
      | none => out ++ [x])
    | none => out ++ [x])
  else out ++ [x]
def labelsX (l : List It) : List It := l.foldl labelS []
def upX (xs : List It) : Option (List It) :=
  if rightC 3 xs = true then
    (if (labelsX xs).all (fun x => (oneX x).2) = true then (if rightC 4 ((labelsX xs).map fun x => (oneX x).1) = true then some ((labelsX xs).map fun x => (oneX x).1) else none) else none)
  else none
end Go.Proofs.YtdmbhoagjjkogaaGreatDoor

namespace Go.Proofs.YtdmbhoagjjkogaaGreatDoor
open Go.RowKit
set_option linter.unusedVariables false
set_option linter.unusedSimpArgs false
set_option maxRecDepth 100000 in
set_option maxHeartbeats 400000 in
theorem bare_nil (w : World) : Gives 105 #[.nilIface] w .nilIface := by
  go_enter Tryz.func105, Tryz.ntmps105
  go_wp2_with fail
  go_ret
  exact ⟨rfl, G.refl _⟩
set_option maxRecDepth 100000 in
set_option maxHeartbeats 400000 in
theorem bare_eno (c : Int) (w : World) (hE : LaidE w) : Gives 105 #[eno c] w (eno c) := by
  have h := tell_eno c w hE
  have H := hid h
  clear h
  go_enter Tryz.func105, Tryz.ntmps105
  go_wp2_with fail
  refine (H.out).use ?_
  intro w1 g1
  go_wp2_with fail
  go_ret
  exact ⟨rfl, g1⟩
set_option maxRecDepth 100000 in
set_option maxHeartbeats 400000 in
theorem bare_at (v : Value) (c p : Int) (w : World) (hE : LaidE w) (hv : IsAt w v c p) : Gives 105 #[v] w (eno c) := by
  have h := tell_at c p v w hE hv
  have H := hid h
  obtain ⟨b, rfl, _⟩ := hv
  clear h
  go_enter Tryz.func105, Tryz.ntmps105
  go_wp2_with fail
  refine (H.out).use ?_
  intro w1 g1
  go_wp2_with fail
  go_ret
  exact ⟨rfl, g1⟩
set_option maxRecDepth 100000 in
set_option maxHeartbeats 4000000 in
theorem only_any (x : Vl) (a : Option Addr) (cap : Nat) (w : World) (hk : 1 ≤ x.ty ∧ x.ty < 9) : Gives 103 #[x.v (.slice a x.ps.length cap)] w (.bool x.only) := by
  obtain ⟨ty, tx, ps, st, n⟩ := x
  obtain ⟨y, m, d, h, nn, s, zd, zn⟩ := st
  simp only at hk
  simp only [Vl.v]
  have hty : ty = 1 ∨ ty = 2 ∨ ty = 3 ∨ ty = 4 ∨ ty = 5 ∨ ty = 6 ∨ ty = 7 ∨ ty = 8 := by omega
  clear hk
  rcases hty with rfl | rfl | rfl | rfl | rfl | rfl | rfl | rfl
  all_goals
    go_enter Tryz.func103, Tryz.ntmps103
    go_wp2_with fail
    all_goals (go_ret; refine ⟨ret_bool ?_, (G.refl _).alloc _⟩; simp_all [Vl.only, isT, isL, St.isZero]; (try rfl))
end Go.Proofs.YtdmbhoagjjkogaaGreatDoor

namespace Go.Proofs.YtdmbhoagjjkogaaGreatDoor
open Go.RowKit
set_option linter.unusedVariables false
set_option linter.unusedSimpArgs false
theorem idx_back {c : UInt8} {k : Int} (h : idxB c = k) (hk : 0 ≤ k) : byteOf (letB k) = c ∧ k < 64 := by
  rcases idxB_cases c with h' | ⟨_, h2, h3, _⟩
  · omega
  · rw [h] at h2 h3; exact ⟨h3, h2⟩
theorem decQ_cases {last : Bool} {c0 c1 c2 c3 : UInt8} {bs : List UInt8} (h : decQ last c0 c1 c2 c3 = .ok bs) :
    (last = true ∧ ∃ a, bs = [a] ∧ b64E [a] = [c0, c1, c2, c3]) ∨ (last = true ∧ ∃ a b, bs = [a, b] ∧ b64E [a, b] = [c0, c1, c2, c3]) ∨ ∃ a b c, bs = [a, b, c] ∧ quadL (num3 a b c) = [c0, c1, c2, c3] := by
  unfold decQ at h
  split at h
  · cases h
  rename_i h0
  split at h
  · cases h
  rename_i h1
  obtain ⟨b0, l0⟩ := idx_back (c := c0) rfl (by omega)
  obtain ⟨b1, l1⟩ := idx_back (c := c1) rfl (by omega)
  generalize hi : idxB c0 = i at *
  generalize hj : idxB c1 = j at *
  split at h
  · rename_i hp
    split at h
    · rename_i hz
      cases h
      obtain ⟨hl, rfl, rfl⟩ := hp
      refine .inl ⟨hl, byteOf (num4 i j 0 0 / 65536), rfl, ?_⟩
      have e := byteOf_toNat (n := num4 i j 0 0 / 65536) (by unfold num4; omega) (by unfold num4; omega)
      have e2 : num3 (byteOf (num4 i j 0 0 / 65536)) 0 0 = num4 i j 0 0 := by
        unfold num3; rw [e]; simp; omega
      rw [encL_1, e2]
      have q0 : num4 i j 0 0 / 262144 % 64 = i := by unfold num4; omega
      have q1 : num4 i j 0 0 / 4096 % 64 = j := by unfold num4; omega
      unfold quadL
      rw [q0, q1, b0, b1]; rfl
    · cases h
  · split at h
    · cases h
    rename_i h2
    obtain ⟨b2, l2⟩ := idx_back (c := c2) rfl (by omega)
    generalize hk : idxB c2 = k at *
    split at h
    · rename_i hp
      split at h
      · rename_i hz
        cases h
        obtain ⟨hl, rfl⟩ := hp
        refine .inr (.inl ⟨hl, byteOf (num4 i j k 0 / 65536), byteOf (num4 i j k 0 / 256 % 256), rfl, ?_⟩)
        have e := byteOf_toNat (n := num4 i j k 0 / 65536) (by unfold num4; omega) (by unfold num4; omega)
        have e' := byteOf_toNat (n := num4 i j k 0 / 256 % 256) (by omega) (by omega)
        have e2 : num3 (byteOf (num4 i j k 0 / 65536)) (byteOf (num4 i j k 0 / 256 % 256)) 0 = num4 i j k 0 := by
          unfold num3; rw [e, e']; simp; omega
        rw [encL_2, e2]
        have q0 : num4 i j k 0 / 262144 % 64 = i := by unfold num4; omega
        have q1 : num4 i j k 0 / 4096 % 64 = j := by unfold num4; omega
        have q2 : num4 i j k 0 / 64 % 64 = k := by unfold num4; omega
        unfold quadL
        rw [q0, q1, q2, b0, b1, b2]; rfl
      · cases h
    · split at h
      · cases h
      rename_i h3
      obtain ⟨b3, l3⟩ := idx_back (c := c3) rfl (by omega)
      generalize hm : idxB c3 = m at *
      cases h
      refine .inr (.inr ⟨_, _, _, rfl, ?_⟩)
      have e := byteOf_toNat (n := num4 i j k m / 65536) (by unfold num4; omega) (by unfold num4; omega)
      have e' := byteOf_toNat (n := num4 i j k m / 256 % 256) (by omega) (by omega)
      have e'' := byteOf_toNat (n := num4 i j k m % 256) (by omega) (by omega)
      have e2 : num3 (byteOf (num4 i j k m / 65536)) (byteOf (num4 i j k m / 256 % 256)) (byteOf (num4 i j k m % 256)) = num4 i j k m := by
        unfold num3; rw [e, e', e'']; omega
      rw [e2]
      have q0 : num4 i j k m / 262144 % 64 = i := by unfold num4; omega
      have q1 : num4 i j k m / 4096 % 64 = j := by unfold num4; omega
      have q2 : num4 i j k m / 64 % 64 = k := by unfold num4; omega
      have q3 : num4 i j k m % 64 = m := by unfold num4; omega
      unfold quadL
      rw [q0, q1, q2, q3, b0, b1, b2, b3]
theorem enc_dec : ∀ (r b : List UInt8), r.length % 4 = 0 → b64D r = .ok b → b64E b = r
  | c0 :: c1 :: c2 :: c3 :: t, b, hl, h => by
    rw [decL_cons] at h
    cases hq : decQ t.isEmpty c0 c1 c2 c3 with
    | error p => rw [hq] at h; cases h
    | ok bs =>
      rw [hq] at h
      cases ht : b64D t with
      | error p => rw [ht] at h; cases h
      | ok cs =>
        rw [ht] at h
        have hb : b = bs ++ cs := by cases h; rfl
        rcases decQ_cases hq with ⟨hl, a, rfl, he⟩ | ⟨hl, a, a', rfl, he⟩ | ⟨a, a', a'', rfl, he⟩
        · have : t = [] := by simpa using hl
          subst this
          cases ht
          rw [hb]; exact he
        · have : t = [] := by simpa using hl
          subst this
          cases ht
          rw [hb]; exact he
        · have ih := enc_dec t cs (by simp at hl; omega) ht
          rw [hb]
          show b64E (a :: a' :: a'' :: cs) = _
          rw [encL_3, he, ih]; rfl
  | [], b, _, h => by cases h; rfl
  | [_], _, hl, _ => by simp at hl
  | [_, _], _, hl, _ => by simp at hl
  | [_, _, _], _, hl, _ => by simp at hl
end Go.Proofs.YtdmbhoagjjkogaaGreatDoor

namespace Go.Proofs.YtdmbhoagjjkogaaGreatDoor
open Go.RowKit
set_option linter.unusedVariables false
theorem boxed_below {W W' : World} {B : Nat} {t : TypeId} {v : Value} (h : Boxed W B t v) (g : Below W.heap.size W W') : Boxed W' B t v := (g.block B h.lt).trans h
theorem ownsRow_below {W W' : World} {base : Nat} {e : TypeId} {size : Nat} {v : Value} {n : Nat} {xs : List Value} (h : W.ownsRow base e size v n xs) (g : Below W.heap.size W W') : W'.ownsRow base e size v n xs := by
  refine ⟨h.1, h.2.imp id ?_⟩
  rintro ⟨b, cap, cur, e1, e2, e3, r⟩
  exact ⟨b, cap, cur, e1, e2, (g.block b (Array.getElem?_eq_some_iff.1 e3).1).trans e3, r⟩
theorem rowMono {W : World} {base base' : Nat} {e : TypeId} {size : Nat} {v : Value} {n : Nat} {xs : List Value} (h : W.ownsRow base e size v n xs) (g : base' ≤ base) : W.ownsRow base' e size v n xs := by
  refine ⟨h.1, h.2.imp id ?_⟩
  rintro ⟨b, cap, cur, e1, e2, r⟩
  exact ⟨b, cap, cur, e1, Nat.le_trans g e2, r⟩
theorem kpSeq_set {Bp B1 Bz b : Nat} {W : World} (v : Value) (h1 : b ≠ Bp) (h2 : b ≠ B1) (h3 : b ≠ Bz) : KpSeq Bp B1 Bz W (W.setCell ⟨b, 0, none⟩ v) :=
  ⟨World.cell?_setCell_other _ _ _ _ (by first | (simp; done) | (simp; omega)), World.cell?_setCell_other _ _ _ _ (by first | (simp; done) | (simp; omega)), World.cell?_setCell_other _ _ _ _ (by first | (simp; done) | (simp; omega)), World.frozen?_setCell _ _ _ _⟩
theorem below_grown {n : Nat} {W w1 : World} {e : TypeId} {size : Nat} {v : Value} {k : Nat} {xs : List Value} {tmp : Obj} (hrow : W.ownsRow n e size v k xs) (hn : n ≤ W.heap.size) (hgrow : (W.alloc tmp).grownBy w1 v.ownBlock) : Below n W w1 := by
  refine ((Below.refl n W).alloc hn tmp).grown hgrow (by simp; omega) fun j ej => ?_
  rcases hrow.2 with ⟨rfl, _⟩ | ⟨g, cap, cur, rfl, hb, _, _⟩
  · simp [Value.ownBlock] at ej
  · obtain rfl : g = j := by simpa [Value.ownBlock] using ej
    exact hb
theorem infoNames : (Tryz.prog.info? 9).map (fun i => (i.zero, i.size, i.bytes)) = some (some (.string ⟨#[]⟩), 1, 16) := by kernel_rfl
def nameOf (x : List UInt8) : List UInt8 := (Lib.cut x [32]).1
theorem nameOf_text (v : Int) : (tabT v).map (fun e => nameOf e.text) = (tabT v).map Ent.name := by
  unfold tabT
  split
  · decide +kernel
  · decide +kernel
theorem tab_len (v : Int) : (tabT v).length ≤ 100 := by
  unfold tabT
  split
  · decide +kernel
  · decide +kernel
end Go.Proofs.YtdmbhoagjjkogaaGreatDoor
