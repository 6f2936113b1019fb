/-
  Texts merged into one: Items, LinePlain, LinePlain2, WhenDate, B64Dec2, PrefDel, RulesNames.
-/
import Derived.Test.YtfadckackdmbnaaGreatDoorMA56
import Derived.Test.YtfadckackdmbnaaGreatDoorMA48
import Derived.Test.YtfadckackdmbnaaGreatDoorMA46
import Derived.Shelf.SlicesQ.Load
import Derived.Test.YtfadckackdmbnaaGreatDoorMA63
import Derived.Test.YtfadckackdmbnaaGreatDoorMA60
import Derived.Test.YtfadckackdmbnaaGreatDoorWhenPrint
import Derived.Deep.RegionHeld3
import Derived.WideMake
import Derived.Laws.Tables
import Derived.Shelf.Strings.MapAny
import Derived.Test.YtfadckackdmbnaaGreatDoorMA50
import Derived.Test.YtfadckackdmbnaaGreatDoorMFn
import Derived.Test.YtfadckackdmbnaaGreatDoorMA59
import Derived.Test.YtfadckackdmbnaaGreatDoorMA49
namespace Go.Proofs.YtfadckackdmbnaaGreatDoor
open Go.RowKit
set_option linter.unusedVariables false
set_option linter.unusedSimpArgs false
structure It where
  g : List UInt8
  n : List UInt8
  ps : List Pm
  v : Vl
def Vl.cells (x : Vl) (lv : Value) : List Value := [.int .i64 x.ty, .string (S x.tx), lv, .int .i64 x.st.y, .int .i64 x.st.m, .int .i64 x.st.d, .int .i64 x.st.h, .int .i64 x.st.n, .int .i64 x.st.s, .bool x.st.zd, .int .i64 x.st.zn, .int .i64 x.n]
def It.cells (x : It) (pv lv : Value) : List Value := [.string (S x.g), .string (S x.n), pv, .int .i64 x.v.ty, .string (S x.v.tx), lv, .int .i64 x.v.st.y, .int .i64 x.v.st.m, .int .i64 x.v.st.d, .int .i64 x.v.st.h, .int .i64 x.v.st.n, .int .i64 x.v.st.s, .bool x.v.st.zd, .int .i64 x.v.st.zn, .int .i64 x.v.n]
abbrev It.val (x : It) (pv lv : Value) : Value := .agg #[.string (S x.g), .string (S x.n), pv, .int .i64 x.v.ty, .string (S x.v.tx), lv, .int .i64 x.v.st.y, .int .i64 x.v.st.m, .int .i64 x.v.st.d, .int .i64 x.v.st.h, .int .i64 x.v.st.n, .int .i64 x.v.st.s, .bool x.v.st.zd, .int .i64 x.v.st.zn, .int .i64 x.v.n]
structure ItOk (w : World) (x : It) (pv lv : Value) : Prop where
  p : IsParams w pv x.ps
  l : IsLists w lv x.v.ps
  f : pv = .slice none 0 0 ∨ ∃ a n c, pv = .slice (some a) n c
  y : -9223372036854775808 ≤ x.v.st.y ∧ x.v.st.y ≤ 9223372036854775807
  t : -9223372036854775808 ≤ x.v.ty ∧ x.v.ty ≤ 9223372036854775807
theorem ItOk.grow {w w' : World} {x : It} {pv lv : Value} (h : ItOk w x pv lv) (g : G w w') : ItOk w' x pv lv := ⟨h.p.grow g, h.l.grow g, h.f, h.y, h.t⟩
theorem ItOk.pv {w : World} {x : It} {pv lv : Value} (h : ItOk w x pv lv) : ∃ a c, pv = .slice a x.ps.length c := by obtain ⟨a, c, e, _⟩ := h.p; exact ⟨a, c, e⟩
theorem ItOk.lv {w : World} {x : It} {pv lv : Value} (h : ItOk w x pv lv) : ∃ a c, lv = .slice a x.v.ps.length c := by obtain ⟨a, c, e, _⟩ := h.l.len; exact ⟨a, c, e⟩
structure ItAt (w : World) (b o : Nat) (x : It) (pv lv : Value) : Prop where
  c : ∀ (j : Nat) (u : Value), (x.cells pv lv)[j]? = some u → w.cell? ⟨b, o + j, none⟩ = some u
  ok : ItOk w x pv lv
theorem ItAt.grow {w w' : World} {b o : Nat} {x : It} {pv lv : Value} (h : ItAt w b o x pv lv) (hb : b < w.heap.size) (g : G w w') : ItAt w' b o x pv lv :=
  ⟨fun j u hu => by rw [g.cell hb]; exact h.c j u hu, h.ok.grow g⟩
theorem ItAt.e {w : World} {b o : Nat} {x : It} {pv lv : Value} (h : ItAt w b o x pv lv) : w.cell? ⟨b, o, none⟩ = some (.string (S x.g)) ∧ w.cell? ⟨b, o + 1, none⟩ = some (.string (S x.n)) ∧ w.cell? ⟨b, o + 2, none⟩ = some (pv) ∧ w.cell? ⟨b, o + 3, none⟩ = some (.int .i64 x.v.ty) ∧ w.cell? ⟨b, o + 4, none⟩ = some (.string (S x.v.tx)) ∧ w.cell? ⟨b, o + 5, none⟩ = some (lv) ∧ w.cell? ⟨b, o + 6, none⟩ = some (.int .i64 x.v.st.y) ∧ w.cell? ⟨b, o + 7, none⟩ = some (.int .i64 x.v.st.m) ∧ w.cell? ⟨b, o + 8, none⟩ = some (.int .i64 x.v.st.d) ∧ w.cell? ⟨b, o + 9, none⟩ = some (.int .i64 x.v.st.h) ∧ w.cell? ⟨b, o + 10, none⟩ = some (.int .i64 x.v.st.n) ∧ w.cell? ⟨b, o + 11, none⟩ = some (.int .i64 x.v.st.s) ∧ w.cell? ⟨b, o + 12, none⟩ = some (.bool x.v.st.zd) ∧ w.cell? ⟨b, o + 13, none⟩ = some (.int .i64 x.v.st.zn) ∧ w.cell? ⟨b, o + 14, none⟩ = some (.int .i64 x.v.n) :=
  ⟨h.c 0 _ rfl, h.c 1 _ rfl, h.c 2 _ rfl, h.c 3 _ rfl, h.c 4 _ rfl, h.c 5 _ rfl, h.c 6 _ rfl, h.c 7 _ rfl, h.c 8 _ rfl, h.c 9 _ rfl, h.c 10 _ rfl, h.c 11 _ rfl, h.c 12 _ rfl, h.c 13 _ rfl, h.c 14 _ rfl⟩
def IsItems (w : World) (v : Value) (xs : List It) : Prop :=
  ∃ a cap, v = .slice a xs.length cap ∧ xs.length ≤ cap ∧ (xs ≠ [] → ∃ b off, a = some ⟨b, off, none⟩ ∧ b < w.heap.size ∧ ∀ (i : Nat) (x : It), xs[i]? = some x → ∃ pv lv, ItAt w b (off + i * 15) x pv lv)
theorem IsItems.grow {w w' : World} {v : Value} {xs : List It} (h : IsItems w v xs) (g : G w w') : IsItems w' v xs := by
  obtain ⟨a, cap, e, hc, h⟩ := h
  refine ⟨a, cap, e, hc, fun h0 => ?_⟩
  obtain ⟨b, off, e2, hb, h⟩ := h h0
  refine ⟨b, off, e2, Nat.lt_of_lt_of_le hb g.size, fun i x hx => ?_⟩
  obtain ⟨pv, lv, h1⟩ := h i x hx
  exact ⟨pv, lv, h1.grow hb g⟩
theorem IsItems.len {w : World} {v : Value} {xs : List It} (h : IsItems w v xs) : ∃ a c, v = .slice a xs.length c ∧ xs.length ≤ c := by
  obtain ⟨a, c, e, h1, _⟩ := h
  exact ⟨a, c, e, h1⟩
def It.big (x : It) : Nat := x.g.length + x.n.length + (x.ps.map fun p => p.1.length + (p.2.map fun s => s.length + 1).sum + 1).sum + x.v.tx.length + sumP x.v.ps
def cardV (ver : Int) (iv : Value) : Value := .agg #[.int .i64 ver, iv]
end Go.Proofs.YtfadckackdmbnaaGreatDoor

namespace Go.Proofs.YtfadckackdmbnaaGreatDoor
open Go.RowKit
set_option linter.unusedVariables false
set_option linter.unusedSimpArgs false
abbrev L8 := List UInt8
abbrev Er := Int × Nat
abbrev Rs (α : Type) := Except Er (α × L8)
def Rs.next {α β : Type} (x : Except Er (α × L8)) (f : α → L8 → Except Er β) : Except Er β := match x with | .ok (a, t) => f a t | .error e => .error e
def ctlB (c : UInt8) : Bool := !(txtP false c)
structure Hd where
  group : L8
  name : L8
  params : List Pm
structure Ln where
  hd : Hd
  value : L8
def encV (cf : Bool) (v : L8) : L8 := if cf then encL v else v
def needQ (v : L8) : Bool := v.any fun c => c == 44 || c == 59 || c == 58
def valW (cf : Bool) (v : L8) : L8 := if needQ (encV cf v) then 34 :: (encV cf v ++ [34]) else encV cf v
def valsW (cf : Bool) : List L8 → L8
  | [] => []
  | v :: vs => 61 :: valW cf v ++ vs.flatMap fun u => 44 :: valW cf u
def pmW (cf : Bool) (p : Pm) : L8 := 59 :: p.1 ++ valsW cf p.2
def headW (cf : Bool) (h : Hd) : L8 := (if h.group = [] then [] else h.group ++ [46]) ++ h.name ++ h.params.flatMap (pmW cf)
def printW (cf : Bool) (p : Ln) : L8 := headW cf p.hd ++ 58 :: p.value
def holdsP (cf : Bool) (v : L8) : Bool := holdsB (encV cf v) false && !((encV cf v).contains 34)
def pmR (cf : Bool) (p : Pm) : Bool := isNameL p.1 && !p.2.isEmpty && p.2.all (holdsP cf)
def rightB (cf : Bool) (p : Ln) : Bool := isNameL p.hd.name && (p.hd.group.isEmpty || isNameL p.hd.group) && decide (p.hd.params.length ≤ 20) && p.hd.params.all (pmR cf) && holdsB p.value false
end Go.Proofs.YtfadckackdmbnaaGreatDoor

namespace Go.Proofs.YtfadckackdmbnaaGreatDoor
open Go.RowKit
set_option linter.unusedVariables false
set_option linter.unusedSimpArgs false
end Go.Proofs.YtfadckackdmbnaaGreatDoor

namespace Go.Proofs.YtfadckackdmbnaaGreatDoor
open Go.RowKit
set_option linter.unusedVariables false
set_option linter.unusedSimpArgs false
def shF (x : Int) : Int := if 48 ≤ x ∧ x ≤ 57 then 57 else x
def shapeL (s : List UInt8) : List UInt8 := Lib.mapD shF s
def HasU (w : World) : Prop := Lib.Utf8Tabs 6 7 w
theorem HasU.grow {w w' : World} (h : HasU w) (g : G w w') : HasU w' := Utf8Tabs_below h g
def dgB (c : UInt8) : Bool := decide (48 ≤ c.toNat) && decide (c.toNat ≤ 57)
def valL (l : List UInt8) : Nat := l.foldl (fun n c => 10 * n + (c.toNat - 48)) 0
theorem valL_snoc (l : List UInt8) (c : UInt8) : valL (l ++ [c]) = 10 * valL l + (c.toNat - 48) := by simp [valL]
end Go.Proofs.YtfadckackdmbnaaGreatDoor

namespace Go.Proofs.YtfadckackdmbnaaGreatDoor
open Go.RowKit
set_option linter.unusedVariables false
set_option linter.unusedSimpArgs false
def DecPost (l : List UInt8) (v : Value) (w' : World) : Prop :=
  if l.length % 4 ≠ 0 then ∃ e, v = .tuple #[.string (S []), e] ∧ IsAt w' e 7 l.length
  else match b64D l with
    | .ok bs => v = .tuple #[.string (S bs), .nilIface]
    | .error p => ∃ e, v = .tuple #[.string (S []), e] ∧ IsAt w' e 3 p
theorem DecPost.odd {l : List UInt8} (h : l.length % 4 ≠ 0) {w' : World} {e : Value} (he : IsAt w' e 7 l.length) : DecPost l (.tuple #[.string (S []), e]) w' := by
  unfold DecPost; rw [if_pos h]; exact ⟨e, rfl, he⟩
theorem DecPost.good {l bs : List UInt8} (h : l.length % 4 = 0) (hd : b64D l = .ok bs) {w' : World} : DecPost l (.tuple #[.string (S bs), .nilIface]) w' := by
  unfold DecPost; rw [if_neg (by omega), hd]
theorem DecPost.bad {l : List UInt8} {p : Nat} (h : l.length % 4 = 0) (hd : b64D l = .error p) {w' : World} {e : Value} (he : IsAt w' e 3 p) : DecPost l (.tuple #[.string (S []), e]) w' := by
  unfold DecPost; rw [if_neg (by omega), hd]; exact ⟨e, rfl, he⟩
def joinD (pre : List UInt8) (k : Nat) : Except Nat (List UInt8) → Except Nat (List UInt8)
  | .ok bs => .ok (pre ++ bs)
  | .error p => .error (p + k)
theorem decL_cons (c0 c1 c2 c3 : UInt8) (t : List UInt8) : b64D (c0 :: c1 :: c2 :: c3 :: t) = match decQ t.isEmpty c0 c1 c2 c3 with
    | .error p => .error p
    | .ok bs => joinD bs 4 (b64D t) := by
  rw [b64D]
  cases decQ t.isEmpty c0 c1 c2 c3 with
  | error p => rfl
  | ok bs => cases b64D t <;> rfl
theorem dec_err {l outp rest : List UInt8} {k p : Nat} {c0 c1 c2 c3 : UInt8} {t : List UInt8} (h : b64D l = joinD outp k (b64D (c0 :: c1 :: c2 :: c3 :: t))) (hq : decQ t.isEmpty c0 c1 c2 c3 = .error p) : b64D l = .error (p + k) := by
  rw [h, decL_cons, hq]; rfl
theorem dec_ok {l outp : List UInt8} {k : Nat} {c0 c1 c2 c3 : UInt8} {t bs : List UInt8} (h : b64D l = joinD outp k (b64D (c0 :: c1 :: c2 :: c3 :: t))) (hq : decQ t.isEmpty c0 c1 c2 c3 = .ok bs) : b64D l = joinD (outp ++ bs) (k + 4) (b64D t) := by
  rw [h, decL_cons, hq]
  show joinD outp k (joinD bs 4 (b64D t)) = _
  cases b64D t with
  | error p => show Except.error _ = Except.error _; congr 1; omega
  | ok cs => show Except.ok _ = Except.ok _; rw [List.append_assoc]
theorem idx_to (c : UInt8) (k : Int) (h : idxB c = k) (w : World) : Pure 122 #[.string (S lettersL), .int .u8 (c.toNat : Int)] w (.int .i64 k) := by
  subst h; exact indexByte_any lettersL c w
theorem ne61 {c : UInt8} (h : c ≠ 61) : ((c.toNat : Int) == 61) = false := beq_eq_false_iff_ne.2 fun e => h (UInt8.toNat_inj.1 (by show c.toNat = 61; omega))
theorem eq61 {c : UInt8} (h : c = 61) : ((c.toNat : Int) == 61) = true := by subst h; rfl
theorem or0 {k : Int} (h0 : 0 ≤ k) (h1 : k < 64) : bits .or .i64 0 k = k := by
  have := i64_join 6 0 k (by omega) (by decide) (by omega) h0 (by omega) (by omega); omega
theorem or64 {n k : Int} (n0 : 0 ≤ n) (n1 : n < 16777216) (h0 : 0 ≤ k) (h1 : k < 64) : bits .or .i64 (n * 64) k = n * 64 + k :=
  i64_join 6 _ _ (by omega) (by simp) (by omega) h0 (by omega) (by omega)
structure At4 (l : List UInt8) (k : Nat) (c0 c1 c2 c3 : UInt8) (t : List UInt8) : Prop where
  len : l.length = k + 4 + t.length
  x0 : l[k]? = some c0
  x1 : l[k + 1]? = some c1
  x2 : l[k + 2]? = some c2
  x3 : l[k + 3]? = some c3
theorem At4.of {l : List UInt8} {k : Nat} {c0 c1 c2 c3 : UInt8} {t : List UInt8} (h : l.drop k = c0 :: c1 :: c2 :: c3 :: t) : At4 l k c0 c1 c2 c3 t := by
  have hl := congrArg List.length h
  simp only [List.length_drop, List.length_cons] at hl
  have g : ∀ j, (l.drop k)[j]? = l[k + j]? := fun j => List.getElem?_drop
  refine ⟨by omega, ?_, ?_, ?_, ?_⟩
  · have := g 0; rw [h] at this; simpa using this.symm
  · have := g 1; rw [h] at this; simpa using this.symm
  · have := g 2; rw [h] at this; simpa using this.symm
  · have := g 3; rw [h] at this; simpa using this.symm
theorem get_of {l : List UInt8} {j : Nat} {c : UInt8} (h : l[j]? = some c) (hj : j < l.length) : l[j] = c := by
  rw [List.getElem?_eq_getElem hj] at h; exact Option.some.inj h
set_option maxRecDepth 100000 in
set_option maxHeartbeats 4000000 in
theorem b64decode_any (l : List UInt8) (w : World) (hl : l.length ≤ 1099511627776) : Makes 78 #[.string (S l)] w (DecPost l) := by
  obtain ⟨i0, hi, hz0, hz1, hz2⟩ := info_parts infoByte
  by_cases hm : l.length % 4 = 0
  case neg =>
    have h1 : ((l.length : Int) % 4 != 0) = true := bne_iff_ne.2 (by omega)
    have HM := hid hm
    clear hm
    go_enter Tryz.func78, Tryz.ntmps78
    go_wp2
    go_ret2
    exact ⟨_, rfl, DecPost.odd HM.out (IsAt.new _ _ _ _), (G.refl w).alloc _⟩
  have h1 : ((l.length : Int) % 4 != 0) = false := by rw [bne_eq_false_iff_eq]; omega
  have HM := hid hm
  clear hm
  go_enter Tryz.func78, Tryz.ntmps78
  go_wp2
  go_loopw [4, 5] (fun v i wr => ∃ k : Nat, ∃ outp : List UInt8, k ≤ l.length ∧ i = .int .i64 k ∧ k % 4 = 0 ∧ b64D l = joinD outp k (b64D (l.drop k)) ∧ outp.length ≤ k ∧ wr.ownsRow w.heap.size 5 1 v outp.length (outp.map fun c => Value.int .u8 (c.toNat : Int)) ∧ G w wr) (fun _ i _ => l.length - (intOf i).toNat)
  case atStart => exact ⟨0, [], Nat.zero_le _, rfl, rfl, by simp; cases b64D l <;> rfl, by simp, World.ownsRow_nil _ _ _ _, G.refl _⟩
  case round =>
    obtain ⟨k, outp, hk, rfl, hk4, hd, hol, hown, hg⟩ := hrel
    have HD := hid hd
    clear hd
    by_cases hlt : k < l.length
    case neg =>
      have hc := conv_own hown
      go_wp2
      go_ret2
      refine ⟨_, rfl, DecPost.good HM.out ?_, hg⟩
      rw [HD.out, List.drop_eq_nil_of_le (by omega)]
      show joinD outp k (.ok []) = _
      simp [joinD]
    obtain ⟨c0, c1, c2, c3, t, hdr⟩ : ∃ c0 c1 c2 c3 t, l.drop k = c0 :: c1 :: c2 :: c3 :: t := by
      have hll := HM.out
      have hlen : (l.drop k).length = l.length - k := List.length_drop
      match hdr : l.drop k with
      | [] => rw [hdr] at hlen; simp at hlen; omega
      | [_] => rw [hdr] at hlen; simp at hlen; omega
      | [_, _] => rw [hdr] at hlen; simp at hlen; omega
      | [_, _, _] => rw [hdr] at hlen; simp at hlen; omega
      | c0 :: c1 :: c2 :: c3 :: t => exact ⟨c0, c1, c2, c3, t, rfl⟩
    have h4 := At4.of hdr
    have hd := HD.out
    rw [hdr] at hd
    have HD2 := hid hd
    have hlen := h4.len
    have hll : k + 4 + t.length = l.length := hlen.symm
    have lk1 : k + 1 < l.length := by omega
    have lk2 : k + 2 < l.length := by omega
    have lk3 : k + 3 < l.length := by omega
    have x0 := get_of h4.x0 hlt
    have x1 := get_of h4.x1 lk1
    have x2 := get_of h4.x2 lk2
    have x3 := get_of h4.x3 lk3
    have hdt : l.drop (k + 4) = t := by rw [← List.drop_drop, hdr]; rfl
    have HDT := hid hdt
    have b0 : c0.toNat < 256 := c0.toNat_lt
    have b1 : c1.toNat < 256 := c1.toNat_lt
    have b2 : c2.toNat < 256 := c2.toNat_lt
    have b3 : c3.toNat < 256 := c3.toNat_lt
    have hlast : ((k : Int) + 4 == (l.length : Int)) = t.isEmpty := by
      cases t with
      | nil => simp at hll ⊢; omega
      | cons a t => simp at hll ⊢; omega
    clear hd hlen h4 HD hdr hdt
    have llb : k + 4 ≤ l.length := by omega
    clear hll
    rcases idxB_cases c0 with i0c | ⟨p0, q0, -, r0⟩
    · have I0 := hid i0c
      have HQ : Hid (decQ t.isEmpty c0 c1 c2 c3 = .error 0) := hid (by unfold decQ; rw [if_pos (by omega)])
      cases h61 : ((c0.toNat : Int) == 61)
      all_goals cases hls : t.isEmpty
      all_goals rw [hls] at hlast
      all_goals clear i0c
      all_goals
        go_wp2_with fail
        refine wp_loop_rounds 5 ?_
        rw [rounds_succ]
        go_wp2_with fail
        refine (idx_to c0 (-1) I0.out _).use ?_
        go_wp2_with fail
        go_ret2
        exact ⟨_, rfl, DecPost.bad HM.out (dec_err (rest := []) HD2.out HQ.out) (by have := IsAt.new wr 80 3 (k); simpa [Int.add_comm] using this), hg.alloc _⟩
    have z0 := ne61 r0
    obtain ⟨K0, hK0⟩ : ∃ K0, K0 = idxB c0 := ⟨_, rfl⟩
    rw [← hK0] at p0 q0
    have I0 : Hid (idxB c0 = K0) := hid hK0.symm
    have e0 := or0 p0 q0
    clear hK0
    rcases idxB_cases c1 with i1c | ⟨p1, q1, -, r1⟩
    · have I1 := hid i1c
      have HQ : Hid (decQ t.isEmpty c0 c1 c2 c3 = .error 1) := hid (by unfold decQ; rw [if_neg (by rw [I0.out]; omega), if_pos (by omega)])
      cases h61 : ((c1.toNat : Int) == 61)
      all_goals cases hls : t.isEmpty
      all_goals rw [hls] at hlast
      all_goals clear i1c
      all_goals
        go_wp2_with fail
        refine wp_loop_rounds 5 ?_
        rw [rounds_succ]
        go_wp2_with fail
        refine (idx_to c0 K0 I0.out _).use ?_
        go_wp2_with fail
        rw [rounds_succ]
        go_wp2_with fail
        refine (idx_to c1 (-1) I1.out _).use ?_
        go_wp2_with fail
        go_ret2
        exact ⟨_, rfl, DecPost.bad HM.out (dec_err (rest := []) HD2.out HQ.out) (by have := IsAt.new wr 80 3 ((k : Int) + 1); simpa [Int.add_comm] using this), hg.alloc _⟩
    have z1 := ne61 r1
    obtain ⟨K1, hK1⟩ : ∃ K1, K1 = idxB c1 := ⟨_, rfl⟩
    rw [← hK1] at p1 q1
    have I1 : Hid (idxB c1 = K1) := hid hK1.symm
    have e1 := or64 (n := K0) p0 (by omega) p1 q1
    have n1a : 0 ≤ K0 * 64 + K1 := by omega
    have n1b : K0 * 64 + K1 < 4096 := by omega
    obtain ⟨N1, hN1⟩ : ∃ N1, N1 = K0 * 64 + K1 := ⟨_, rfl⟩
    rw [← hN1] at e1 n1a n1b
    have HN1 := hid hN1
    clear hK1 hN1
    by_cases hp2 : t.isEmpty = true ∧ c3 = 61 ∧ c2 = 61
    · obtain ⟨hls, hc3, hc2⟩ := hp2
      have z2 := eq61 hc2
      have z3 := eq61 hc3
      have I2 : Hid (idxB c2 = -1) := hid (by rw [hc2]; exact idx61)
      have I3 : Hid (idxB c3 = -1) := hid (by rw [hc3]; exact idx61)
      have hnum : num4 K0 K1 0 0 = N1 * 4096 := by unfold num4; rw [HN1.out]; omega
      have e2 := or64 (n := N1) (k := 0) n1a (by omega) (by omega) (by omega)
      have e3 := or64 (n := N1 * 64) (k := 0) (by omega) (by omega) (by omega) (by omega)
      rw [Int.add_zero] at e2 e3
      obtain ⟨N3, hN3⟩ : ∃ N3, N3 = N1 * 64 * 64 := ⟨_, rfl⟩
      have n3a : 0 ≤ N3 := by omega
      have n3b : N3 < 16777216 := by omega
      replace e3 : bits .or .i64 (N1 * 64 * 64) 0 = N3 := e3.trans hN3.symm
      have mm : (min 4 (min 2 3) : Int) = 2 := by decide
      have m3 : bits .and .i64 N3 65535 = N3 % 65536 := i64_mask 16 (by omega) _ 65535 (by omega) (by omega) rfl
      have hnum2 : num4 K0 K1 0 0 = N3 := by rw [hnum, hN3]; omega
      have HNU := hid hnum2
      rw [hls] at hlast
      have HLS := hid hls
      have HC3 := hid hc3
      have HC2 := hid hc2
      clear hnum hnum2 hls hc2 hc3 hN3
      by_cases hz : N3 % 65536 = 0
      · have HQ : Hid (decQ t.isEmpty c0 c1 c2 c3 = .ok ((bytes3 N3).take 1)) := hid (by unfold decQ; rw [if_neg (by rw [I0.out]; omega), if_neg (by rw [I1.out]; omega), if_pos ⟨HLS.out, HC3.out, HC2.out⟩, I0.out, I1.out, HNU.out, if_pos hz])
        have tz : (N3 % 65536 != 0) = false := by rw [bne_eq_false_iff_eq]; exact hz
        clear hz
        go_wp2_with fail
        refine wp_loop_rounds 5 ?_
        rw [rounds_succ]
        go_wp2_with fail
        refine (idx_to c0 K0 I0.out _).use ?_
        go_wp2_with fail
        rw [rounds_succ]
        go_wp2_with fail
        refine (idx_to c1 K1 I1.out _).use ?_
        go_wp2_with fail
        rw [rounds_succ]
        go_wp2_with fail
        refine (idx_to c2 (-1) I2.out _).use ?_
        go_wp2_with fail
        rw [rounds_succ]
        go_wp2_with fail
        refine (idx_to c3 (-1) I3.out _).use ?_
        go_wp2_with fail
        rw [rounds_succ]
        go_wp2_with (at_builtin; refine wpList_pushM (w := w) rfl _ _ 114 rfl 5 i0 _ 1 Tryz.underlying114 hi hz0 hz1 hz2 rfl _ _ _ rfl hown hg [.int .u8 (N3 / 65536), .int .u8 (N3 / 256 % 256), .int .u8 (N3 % 256)] 1 3 (by simp) rfl (by intro u hu; simp at hu; rcases hu with rfl | rfl | rfl <;> rfl) (by omega) (by omega) ?_; intro v' w' hown' hg')
        go_roundw
        case rel =>
          refine ⟨k + 4, outp ++ (bytes3 N3).take 1, by omega, by go_num, by omega, ?_, by simp [bytes3]; omega, ?_, hg'⟩
          · rw [HDT.out]; exact dec_ok HD2.out HQ.out
          · have e1 := byteOf_toNat (n := N3 / 65536) (by omega) (by omega)
            have e2 := byteOf_toNat (n := N3 / 256 % 256) (by omega) (by omega)
            have e3 := byteOf_toNat (n := N3 % 256) (by omega) (by omega)
            simpa [bytes3, e1, e2, e3] using hown'
        case measure => simp [intOf]; omega
      · have HQ : Hid (decQ t.isEmpty c0 c1 c2 c3 = .error 1) := hid (by unfold decQ; rw [if_neg (by rw [I0.out]; omega), if_neg (by rw [I1.out]; omega), if_pos ⟨HLS.out, HC3.out, HC2.out⟩, I0.out, I1.out, HNU.out, if_neg hz])
        have tz : (N3 % 65536 != 0) = true := bne_iff_ne.2 hz
        clear hz
        go_wp2_with fail
        refine wp_loop_rounds 5 ?_
        rw [rounds_succ]
        go_wp2_with fail
        refine (idx_to c0 K0 I0.out _).use ?_
        go_wp2_with fail
        rw [rounds_succ]
        go_wp2_with fail
        refine (idx_to c1 K1 I1.out _).use ?_
        go_wp2_with fail
        rw [rounds_succ]
        go_wp2_with fail
        refine (idx_to c2 (-1) I2.out _).use ?_
        go_wp2_with fail
        rw [rounds_succ]
        go_wp2_with fail
        refine (idx_to c3 (-1) I3.out _).use ?_
        go_wp2_with fail
        rw [rounds_succ]
        go_wp2_with fail
        go_ret2
        exact ⟨_, rfl, DecPost.bad HM.out (dec_err (rest := []) HD2.out HQ.out) (by have h : ((1 + k : Nat) : Int) = (k : Int) + 2 - 1 := (by omega); rw [h]; exact IsAt.new _ _ _ _), hg.alloc _⟩
    have NP2 := hid hp2
    clear hp2
    rcases idxB_cases c2 with i2c | ⟨p2, q2, -, r2⟩
    · have I2 := hid i2c
      have HQ : Hid (decQ t.isEmpty c0 c1 c2 c3 = .error 2) := hid (by unfold decQ; rw [if_neg (by rw [I0.out]; omega), if_neg (by rw [I1.out]; omega), if_neg NP2.out, if_pos (by omega)])
      by_cases h61 : c2 = 61
      · have z2 := eq61 h61
        by_cases h613 : c3 = 61
        · have z3 := eq61 h613
          have hls : t.isEmpty = false := by
            cases hls : t.isEmpty
            · rfl
            · exact absurd ⟨hls, h613, h61⟩ NP2.out
          rw [hls] at hlast
          clear i2c h61 h613
          go_wp2_with fail
          refine wp_loop_rounds 5 ?_
          rw [rounds_succ]
          go_wp2_with fail
          refine (idx_to c0 K0 I0.out _).use ?_
          go_wp2_with fail
          rw [rounds_succ]
          go_wp2_with fail
          refine (idx_to c1 K1 I1.out _).use ?_
          go_wp2_with fail
          rw [rounds_succ]
          go_wp2_with fail
          refine (idx_to c2 (-1) I2.out _).use ?_
          go_wp2_with fail
          go_ret2
          exact ⟨_, rfl, DecPost.bad HM.out (dec_err (rest := []) HD2.out HQ.out) (by have := IsAt.new wr 80 3 ((k : Int) + 2); simpa [Int.add_comm] using this), hg.alloc _⟩
        · have z3 := ne61 h613
          cases hls : t.isEmpty
          all_goals rw [hls] at hlast
          all_goals clear i2c h61 h613
          all_goals
            go_wp2_with fail
            refine wp_loop_rounds 5 ?_
            rw [rounds_succ]
            go_wp2_with fail
            refine (idx_to c0 K0 I0.out _).use ?_
            go_wp2_with fail
            rw [rounds_succ]
            go_wp2_with fail
            refine (idx_to c1 K1 I1.out _).use ?_
            go_wp2_with fail
            rw [rounds_succ]
            go_wp2_with fail
            refine (idx_to c2 (-1) I2.out _).use ?_
            go_wp2_with fail
            go_ret2
            exact ⟨_, rfl, DecPost.bad HM.out (dec_err (rest := []) HD2.out HQ.out) (by have := IsAt.new wr 80 3 ((k : Int) + 2); simpa [Int.add_comm] using this), hg.alloc _⟩
      · have z2 := ne61 h61
        cases hls : t.isEmpty
        all_goals rw [hls] at hlast
        all_goals clear i2c h61
        all_goals
          go_wp2_with fail
          refine wp_loop_rounds 5 ?_
          rw [rounds_succ]
          go_wp2_with fail
          refine (idx_to c0 K0 I0.out _).use ?_
          go_wp2_with fail
          rw [rounds_succ]
          go_wp2_with fail
          refine (idx_to c1 K1 I1.out _).use ?_
          go_wp2_with fail
          rw [rounds_succ]
          go_wp2_with fail
          refine (idx_to c2 (-1) I2.out _).use ?_
          go_wp2_with fail
          go_ret2
          exact ⟨_, rfl, DecPost.bad HM.out (dec_err (rest := []) HD2.out HQ.out) (by have := IsAt.new wr 80 3 ((k : Int) + 2); simpa [Int.add_comm] using this), hg.alloc _⟩
    have z2 := ne61 r2
    obtain ⟨K2, hK2⟩ : ∃ K2, K2 = idxB c2 := ⟨_, rfl⟩
    rw [← hK2] at p2 q2
    have I2 : Hid (idxB c2 = K2) := hid hK2.symm
    have e2 := or64 (n := N1) n1a (by omega) p2 q2
    have n2a : 0 ≤ N1 * 64 + K2 := by omega
    have n2b : N1 * 64 + K2 < 262144 := by omega
    obtain ⟨N2, hN2⟩ : ∃ N2, N2 = N1 * 64 + K2 := ⟨_, rfl⟩
    rw [← hN2] at e2 n2a n2b
    have HN2 := hid hN2
    clear hK2 hN2
    by_cases hp3 : t.isEmpty = true ∧ c3 = 61
    · obtain ⟨hls, hc3⟩ := hp3
      have z3 := eq61 hc3
      have I3 : Hid (idxB c3 = -1) := hid (by rw [hc3]; exact idx61)
      have e3 := or64 (n := N2) (k := 0) n2a (by omega) (by omega) (by omega)
      rw [Int.add_zero] at e3
      obtain ⟨N3, hN3⟩ : ∃ N3, N3 = N2 * 64 := ⟨_, rfl⟩
      have n3a : 0 ≤ N3 := by omega
      have n3b : N3 < 16777216 := by omega
      replace e3 : bits .or .i64 (N2 * 64) 0 = N3 := e3.trans hN3.symm
      have mm : (min 4 3 : Int) = 3 := by decide
      have m3 : bits .and .i64 N3 255 = N3 % 256 := i64_mask 8 (by omega) _ 255 (by omega) (by omega) rfl
      have HNU : Hid (num4 K0 K1 K2 0 = N3) := hid (by unfold num4; rw [hN3, HN2.out, HN1.out]; omega)
      rw [hls] at hlast
      have HLS := hid hls
      have HC3 := hid hc3
      clear hls hc3 hN3
      by_cases hz : N3 % 256 = 0
      · have HQ : Hid (decQ t.isEmpty c0 c1 c2 c3 = .ok ((bytes3 N3).take 2)) := hid (by unfold decQ; rw [if_neg (by rw [I0.out]; omega), if_neg (by rw [I1.out]; omega), if_neg NP2.out, if_neg (by rw [I2.out]; omega), if_pos ⟨HLS.out, HC3.out⟩, I0.out, I1.out, I2.out, HNU.out, if_pos hz])
        have tz : (N3 % 256 != 0) = false := by rw [bne_eq_false_iff_eq]; exact hz
        clear hz
        go_wp2_with fail
        refine wp_loop_rounds 5 ?_
        rw [rounds_succ]
        go_wp2_with fail
        refine (idx_to c0 K0 I0.out _).use ?_
        go_wp2_with fail
        rw [rounds_succ]
        go_wp2_with fail
        refine (idx_to c1 K1 I1.out _).use ?_
        go_wp2_with fail
        rw [rounds_succ]
        go_wp2_with fail
        refine (idx_to c2 K2 I2.out _).use ?_
        go_wp2_with fail
        rw [rounds_succ]
        go_wp2_with fail
        refine (idx_to c3 (-1) I3.out _).use ?_
        go_wp2_with fail
        rw [rounds_succ]
        go_wp2_with (at_builtin; refine wpList_pushM (w := w) rfl _ _ 114 rfl 5 i0 _ 1 Tryz.underlying114 hi hz0 hz1 hz2 rfl _ _ _ rfl hown hg [.int .u8 (N3 / 65536), .int .u8 (N3 / 256 % 256), .int .u8 (N3 % 256)] 2 3 (by simp) rfl (by intro u hu; simp at hu; rcases hu with rfl | rfl | rfl <;> rfl) (by omega) (by omega) ?_; intro v' w' hown' hg')
        go_roundw
        case rel =>
          refine ⟨k + 4, outp ++ (bytes3 N3).take 2, by omega, by go_num, by omega, ?_, by simp [bytes3]; omega, ?_, hg'⟩
          · rw [HDT.out]; exact dec_ok HD2.out HQ.out
          · have e1 := byteOf_toNat (n := N3 / 65536) (by omega) (by omega)
            have e2 := byteOf_toNat (n := N3 / 256 % 256) (by omega) (by omega)
            have e3 := byteOf_toNat (n := N3 % 256) (by omega) (by omega)
            simpa [bytes3, e1, e2, e3] using hown'
        case measure => simp [intOf]; omega
      · have HQ : Hid (decQ t.isEmpty c0 c1 c2 c3 = .error 2) := hid (by unfold decQ; rw [if_neg (by rw [I0.out]; omega), if_neg (by rw [I1.out]; omega), if_neg NP2.out, if_neg (by rw [I2.out]; omega), if_pos ⟨HLS.out, HC3.out⟩, I0.out, I1.out, I2.out, HNU.out, if_neg hz])
        have tz : (N3 % 256 != 0) = true := bne_iff_ne.2 hz
        clear hz
        go_wp2_with fail
        refine wp_loop_rounds 5 ?_
        rw [rounds_succ]
        go_wp2_with fail
        refine (idx_to c0 K0 I0.out _).use ?_
        go_wp2_with fail
        rw [rounds_succ]
        go_wp2_with fail
        refine (idx_to c1 K1 I1.out _).use ?_
        go_wp2_with fail
        rw [rounds_succ]
        go_wp2_with fail
        refine (idx_to c2 K2 I2.out _).use ?_
        go_wp2_with fail
        rw [rounds_succ]
        go_wp2_with fail
        refine (idx_to c3 (-1) I3.out _).use ?_
        go_wp2_with fail
        rw [rounds_succ]
        go_wp2_with fail
        go_ret2
        exact ⟨_, rfl, DecPost.bad HM.out (dec_err (rest := []) HD2.out HQ.out) (by have h : ((2 + k : Nat) : Int) = (k : Int) + 3 - 1 := (by omega); rw [h]; exact IsAt.new _ _ _ _), hg.alloc _⟩
    have NP3 := hid hp3
    clear hp3
    rcases idxB_cases c3 with i3c | ⟨p3, q3, -, r3⟩
    · have I3 := hid i3c
      have HQ : Hid (decQ t.isEmpty c0 c1 c2 c3 = .error 3) := hid (by unfold decQ; rw [if_neg (by rw [I0.out]; omega), if_neg (by rw [I1.out]; omega), if_neg NP2.out, if_neg (by rw [I2.out]; omega), if_neg NP3.out, if_pos (by omega)])
      by_cases h61 : c3 = 61
      · have z3 := eq61 h61
        have hls : t.isEmpty = false := by
          cases hls : t.isEmpty
          · rfl
          · exact absurd ⟨hls, h61⟩ NP3.out
        rw [hls] at hlast
        clear i3c h61
        go_wp2_with fail
        refine wp_loop_rounds 5 ?_
        rw [rounds_succ]
        go_wp2_with fail
        refine (idx_to c0 K0 I0.out _).use ?_
        go_wp2_with fail
        rw [rounds_succ]
        go_wp2_with fail
        refine (idx_to c1 K1 I1.out _).use ?_
        go_wp2_with fail
        rw [rounds_succ]
        go_wp2_with fail
        refine (idx_to c2 K2 I2.out _).use ?_
        go_wp2_with fail
        rw [rounds_succ]
        go_wp2_with fail
        refine (idx_to c3 (-1) I3.out _).use ?_
        go_wp2_with fail
        go_ret2
        exact ⟨_, rfl, DecPost.bad HM.out (dec_err (rest := []) HD2.out HQ.out) (by have := IsAt.new wr 80 3 ((k : Int) + 3); simpa [Int.add_comm] using this), hg.alloc _⟩
      · have z3 := ne61 h61
        cases hls : t.isEmpty
        all_goals rw [hls] at hlast
        all_goals clear i3c h61
        all_goals
          go_wp2_with fail
          refine wp_loop_rounds 5 ?_
          rw [rounds_succ]
          go_wp2_with fail
          refine (idx_to c0 K0 I0.out _).use ?_
          go_wp2_with fail
          rw [rounds_succ]
          go_wp2_with fail
          refine (idx_to c1 K1 I1.out _).use ?_
          go_wp2_with fail
          rw [rounds_succ]
          go_wp2_with fail
          refine (idx_to c2 K2 I2.out _).use ?_
          go_wp2_with fail
          rw [rounds_succ]
          go_wp2_with fail
          refine (idx_to c3 (-1) I3.out _).use ?_
          go_wp2_with fail
          go_ret2
          exact ⟨_, rfl, DecPost.bad HM.out (dec_err (rest := []) HD2.out HQ.out) (by have := IsAt.new wr 80 3 ((k : Int) + 3); simpa [Int.add_comm] using this), hg.alloc _⟩
    have z3 := ne61 r3
    obtain ⟨K3, hK3⟩ : ∃ K3, K3 = idxB c3 := ⟨_, rfl⟩
    rw [← hK3] at p3 q3
    have I3 : Hid (idxB c3 = K3) := hid hK3.symm
    have e3 := or64 (n := N2) n2a (by omega) p3 q3
    have n3a : 0 ≤ N2 * 64 + K3 := by omega
    have n3b : N2 * 64 + K3 < 16777216 := by omega
    obtain ⟨N3, hN3⟩ : ∃ N3, N3 = N2 * 64 + K3 := ⟨_, rfl⟩
    rw [← hN3] at e3 n3a n3b
    have HN3 := hid hN3
    clear hK3 hN3
    have HQ : Hid (decQ t.isEmpty c0 c1 c2 c3 = .ok ((bytes3 N3).take 3)) := hid (by
      have hnum : num4 K0 K1 K2 K3 = N3 := by unfold num4; rw [HN3.out, HN2.out, HN1.out]
      unfold decQ
      rw [if_neg (by rw [I0.out]; omega), if_neg (by rw [I1.out]; omega), if_neg NP2.out, if_neg (by rw [I2.out]; omega), if_neg NP3.out, if_neg (by rw [I3.out]; omega), I0.out, I1.out, I2.out, I3.out, hnum]; rfl)
    cases hls : t.isEmpty
    all_goals rw [hls] at hlast
    all_goals
      go_wp2_with fail
      refine wp_loop_rounds 5 ?_
      rw [rounds_succ]
      go_wp2_with fail
      refine (idx_to c0 K0 I0.out _).use ?_
      go_wp2_with fail
      rw [rounds_succ]
      go_wp2_with fail
      refine (idx_to c1 K1 I1.out _).use ?_
      go_wp2_with fail
      rw [rounds_succ]
      go_wp2_with fail
      refine (idx_to c2 K2 I2.out _).use ?_
      go_wp2_with fail
      rw [rounds_succ]
      go_wp2_with fail
      refine (idx_to c3 K3 I3.out _).use ?_
      go_wp2_with fail
      rw [rounds_succ]
      go_wp2_with (at_builtin; refine wpList_pushM (w := w) rfl _ _ 114 rfl 5 i0 _ 1 Tryz.underlying114 hi hz0 hz1 hz2 rfl _ _ _ rfl hown hg [.int .u8 (N3 / 65536), .int .u8 (N3 / 256 % 256), .int .u8 (N3 % 256)] 3 3 (by simp) rfl (by intro u hu; simp at hu; rcases hu with rfl | rfl | rfl <;> rfl) (by omega) (by omega) ?_; intro v' w' hown' hg')
      go_roundw
      case rel =>
        refine ⟨k + 4, outp ++ (bytes3 N3).take 3, by omega, by go_num, by omega, ?_, by simp [bytes3]; omega, ?_, hg'⟩
        · rw [HDT.out]; exact dec_ok HD2.out HQ.out
        · have e1 := byteOf_toNat (n := N3 / 65536) (by omega) (by omega)
          have e2 := byteOf_toNat (n := N3 / 256 % 256) (by omega) (by omega)
          have e3 := byteOf_toNat (n := N3 % 256) (by omega) (by omega)
          simpa [bytes3, e1, e2, e3] using hown'
      case measure => simp [intOf]; omega
end Go.Proofs.YtfadckackdmbnaaGreatDoor

namespace Go.Proofs.YtfadckackdmbnaaGreatDoor
open Go.RowKit
set_option linter.unusedVariables false
set_option linter.unusedSimpArgs false
def IxSt (q : List UInt8 → Bool) (xs : List (List UInt8)) (R : World → World → Prop) (w w1 : World) : Prop := (xs.findIdx? q = none ∧ G w w1) ∨ (∃ k, xs.findIdx? q = some k ∧ ∃ W, G w W ∧ R W w1)
set_option maxRecDepth 100000 in
set_option maxHeartbeats 4000000 in
theorem indexS_st (g : Nat) (lb : Array Value) (eg : ∀ args w, (callFunc g args).run Tryz.prog w = .ok (.enter g args) w) (q : List UInt8 → Bool) (v : Value) (xs : List (List UInt8)) (w : World) (R : World → World → Prop) (h : IsRow 1 w v xs.length (xs.flatMap cellsS)) (hl : xs.length ≤ 1000000)
    (hPf : ∀ W, G w W → ∀ x ∈ xs, q x = false → Gives g (#[valS x] ++ lb) W (.bool false)) (hPt : ∀ W, G w W → ∀ x ∈ xs, q x = true → Calls Tryz.prog g (#[valS x] ++ lb) W fun e w' => e = .returned (.bool true) ∧ R W w') :
    Calls Tryz.prog 59 #[v, .func (.func g) #[] lb] w fun e w1 => e = .returned (.int .i64 (findV (xs.findIdx? q))) ∧ IxSt q xs R w w1 := by
  have H := hid h
  have HPF := hid hPf
  have HPT := hid hPt
  obtain ⟨a, cap, rfl⟩ := h.len
  clear h hPf hPt
  go_enter Tryz.func59, Tryz.ntmps59
  go_wp2_with fail
  go_loopw [8] (fun i wr => ∃ k : Nat, k ≤ xs.length ∧ i = .int .i64 k ∧ (∀ j (h : j < xs.length), j < k → q xs[j] = false) ∧ G w wr) (fun i _ => xs.length - (intOf i).toNat)
  case atStart => exact ⟨0, Nat.zero_le _, rfl, fun j _ h => by omega, G.refl _⟩
  case round =>
    obtain ⟨k, hk, rfl, hn, gr⟩ := hrel
    have HN := hid hn
    have GR := hid gr
    clear hn gr
    by_cases hlt : k < xs.length
    · obtain ⟨_, _, hh⟩ := H.out.grow GR.out
      rcases hh with ⟨h0, _⟩ | ⟨b, off, cp, e, hb, _, hc⟩
      · omega
      cases e
      obtain ⟨x, hx⟩ : ∃ x, xs[k] = x := ⟨_, rfl⟩
      have hxk : xs[k]? = some x := by rw [List.getElem?_eq_getElem hlt, hx]
      have c0 : wr.cell? ⟨b, off + k, none⟩ = some (.string (S x)) := by
        have e1 := dflat_at cellsS_len hxk 0 (by omega)
        have e2 : k * 1 + 0 < (xs.flatMap cellsS).length := by rw [dflat_len cellsS_len]; omega
        have := hc _ e2
        rw [List.getElem?_eq_getElem e2] at e1
        have e3 := Option.some.inj e1
        rw [e3] at this
        simpa [Nat.add_assoc] using this
      have hmem : x ∈ xs := hx ▸ List.getElem_mem hlt
      have HX := hid hx
      clear hc hxk
      cases hq : q x with
      | true =>
        have CQ := hid (HPT.out wr GR.out x hmem hq)
        have HF : Hid (xs.findIdx? q = some k) := hid (by
          rw [List.findIdx?_eq_some_iff_getElem]
          exact ⟨hlt, by rw [HX.out]; exact hq, fun j hj => by rw [HN.out j (by omega) hj]; simp⟩)
        clear hq hx
        clear hmem
        go_wp2_with (go_at_fn g; refine CQ.out.mono ?_)
        rintro e w2 ⟨rfl, hr⟩
        have HRR := hid hr
        clear hr
        go_wp2_with fail
        go_ret
        exact ⟨ret_int (by rw [HF.out]; rfl), .inr ⟨k, HF.out, _, GR.out, HRR.out⟩⟩
      | false =>
        have CQ := hid (HPF.out wr GR.out x hmem hq)
        have HF : Hid (∀ j (h : j < xs.length), j < k + 1 → q xs[j] = false) := hid (fun j h hj => by
          rcases Nat.lt_or_ge j k with h1 | h1
          · exact HN.out j h h1
          · obtain rfl : j = k := by omega
            rw [HX.out]; exact hq)
        clear hq hx hmem
        go_wp2_with (go_at_fn g; refine CQ.out.use ?_)
        intro w2 g2
        have G2 : Hid (G w w2) := hid (GR.out.trans g2)
        clear g2
        go_wp2_with fail
        go_roundw
        case rel => exact ⟨k + 1, by omega, by go_num, HF.out, G2.out⟩
        case measure => simp [intOf]; omega
    · obtain rfl : k = xs.length := by omega
      have HF : Hid (xs.findIdx? q = none) := hid (by
        rw [List.findIdx?_eq_none_iff]
        intro x hx
        obtain ⟨j, hj, rfl⟩ := List.mem_iff_getElem.1 hx
        rw [HN.out j hj hj])
      go_wp2_with fail
      go_ret
      exact ⟨ret_int (by rw [HF.out]; rfl), .inl ⟨HF.out, GR.out⟩⟩
set_option maxRecDepth 100000 in
set_option maxHeartbeats 8000000 in
theorem deleteS_st (g : Nat) (lb : Array Value) (eg : ∀ args w, (callFunc g args).run Tryz.prog w = .ok (.enter g args) w) (q : List UInt8 → Bool) (base : Nat) (v : Value) (xs : List (List UInt8)) (w : World) (R : World → Prop) (h : w.ownsRow base 9 1 v xs.length (xs.flatMap cellsS)) (hl : xs.length ≤ 1000000)
    (hIX : Calls Tryz.prog 59 #[v, .func (.func g) #[] lb] w fun e w1 => e = .returned (.int .i64 (findV (xs.findIdx? q))) ∧ R w1)
    (hR : ∀ w1, R w1 → w1.ownsRow base 9 1 v xs.length (xs.flatMap cellsS) ∧ (∀ k, xs.findIdx? q = some k → AnsS g lb q xs w1 v.ownBlock)) :
    Calls Tryz.prog 147 #[v, .func (.func g) #[] lb] w fun e w' => ∃ u w1, R w1 ∧ e = .returned u ∧ w'.ownsRow base 9 1 u (xs.filter fun x => !q x).length ((xs.filter fun x => !q x).flatMap cellsS) ∧ w1.grownBy w' v.ownBlock ∧ u.ownBlock = v.ownBlock := by
  have HIX := hid hIX
  have HRR := hid hR
  obtain ⟨r, hr⟩ : ∃ r, xs.findIdx? q = r := ⟨_, rfl⟩
  rw [hr] at HIX
  have HR := hid hr
  clear hr hIX hR
  rcases h.2 with ⟨rfl, h0⟩ | ⟨b, cap, cur0, rfl, hb0, hg0, hn0, hm0, hs0, ht0⟩
  · have hx0 : xs = [] := List.eq_nil_of_length_eq_zero h0
    obtain rfl : r = none := by rw [← HR.out, hx0]; rfl
    have HX0 := hid hx0
    clear h hx0 h0
    go_enter Tryz.func147, Tryz.ntmps147
    go_wp2_with fail
    refine HIX.out.mono ?_
    rintro e w1 ⟨rfl, hr1⟩
    have HR1 := hid hr1
    clear hr1
    simp only [findV]
    go_wp2_with fail
    go_ret
    refine ⟨_, w1, HR1.out, rfl, ?_, mv_refl _ _, rfl⟩
    rw [HX0.out]
    exact ⟨rfl, .inl ⟨rfl, rfl⟩⟩
  clear hg0 hm0 hs0 ht0 hb0 hn0 h
  cases r with
  | none =>
    have HF : Hid ((xs.filter fun x => !q x) = xs) := hid (List.filter_eq_self.2 fun x hx => by have := List.findIdx?_eq_none_iff.1 HR.out x hx; simp [this])
    go_enter Tryz.func147, Tryz.ntmps147
    go_wp2_with fail
    refine HIX.out.mono ?_
    rintro e w1 ⟨rfl, hr1⟩
    have HR1 := hid hr1
    clear hr1
    simp only [findV]
    go_wp2_with fail
    go_ret
    refine ⟨_, w1, HR1.out, rfl, ?_, mv_refl _ _, rfl⟩
    rw [HF.out]
    exact (HRR.out w1 HR1.out).1
  | some i0 =>
    go_enter Tryz.func147, Tryz.ntmps147
    go_wp2_with fail
    refine HIX.out.mono ?_
    rintro e w ⟨rfl, hr1⟩
    have HR1 := hid hr1
    obtain ⟨hrow, hans⟩ := HRR.out w hr1
    have HP := hid (hans i0 HR.out)
    clear hans hr1
    simp only [findV]
    rcases hrow.2 with ⟨e, _⟩ | ⟨b', cap', cur, e, hb, hg, hn, hm, hs, ht⟩
    · cases e
    cases e
    clear hrow
    have h9 : cur.toList.length = cap * 1 := by rw [Array.length_toList]; exact hs
    have HC0 : Hid (cur.toList.take (xs.length * 1) = xs.flatMap cellsS ∧ xs.length * 1 ≤ cur.toList.length) := hid ⟨ht, by rw [h9]; exact Nat.mul_le_mul_right _ hn⟩
    clear h9
    have HD := hid (DelI.start (p := q) cellsS_len HC0.out.1 HR.out)
    have HB1 := hid (show BR w b 9 cur.toList w from ⟨mv_refl _ _, by simpa using hg⟩)
    have HSZ := hid (⟨hs, hb, hm⟩ : cur.size = cap * 1 ∧ base ≤ b ∧ cap ≤ maxLen)
    have hi0 : i0 < xs.length := by have := HR.out; rw [List.findIdx?_eq_some_iff_getElem] at this; exact this.1
    clear ht hg hs hm
    have hne : ((i0 : Int) == -1) = false := beq_eq_false_iff_ne.2 (by omega)
    go_wp2_with fail
    go_loopw [5, 6, 7] (fun s5 s6 _ wr => ∃ (i j : Nat) (cu : List Value), s5 = .int .i64 (i : Int) ∧ s6 = .int .i64 (j : Int) ∧ j ≤ xs.length ∧ BR w b 9 cu wr ∧ DelI q cellsS 1 xs cur.toList cu i j) (fun _ s6 _ _ => xs.length - (intOf s6).toNat)
    case atStart => exact ⟨i0, i0 + 1, cur.toList, rfl, by go_num, by omega, HB1.out, HD.out⟩
    case round =>
      obtain ⟨i, j, cu, rfl, rfl, hj, hB, hD⟩ := hrel
      have hij := hD.lt
      have HB2 := hid hB
      have HD2 := hid hD
      obtain ⟨hc0, hc1⟩ := HC0.out
      by_cases hlt : j < xs.length
      · obtain ⟨x, hx⟩ : ∃ x, xs[j] = x := ⟨_, rfl⟩
        have hxj : xs[j]? = some x := by rw [List.getElem?_eq_getElem hlt, hx]
        have hjl : j * 1 + 1 ≤ cur.toList.length := by omega
        have c0 := hB.cell (hD.cell cellsS_len hc0 hxj 0 (by omega))
        obtain ⟨u0, hu0⟩ := hD.has (by omega) (by omega) 0 (by omega)
        have d0 := hB.cell hu0
        have f0 := hB.fz (i * 1 + 0)
        simp only [cellsS, List.getElem?_cons_zero, List.getElem?_cons_succ, Nat.mul_one, Nat.add_zero] at c0 d0 f0
        have CL := hid (fun W (gW : G wr W) => HP.out W (mv_g hB.mv gW) x (hx ▸ List.getElem_mem hlt))
        have HX := hid hxj
        have HJL := hid hjl
        clear hx hxj hB hD hc0 hc1 hjl hu0
        have hltz : (j : Int) < (xs.length : Int) := by omega
        cases hq : q x with
        | false =>
          have CQ := CL.out wr (G.refl _)
          rw [hq] at CQ
          have HQ := hid hq
          clear hq
          have hbl := HB2.out.lt
          go_wp2_with (go_at_fn g; refine CQ.use ?_)
          intro w3 g3
          have HB3 := hid (HB2.out.grow g3)
          rw [← g3.cell (p := ⟨b, i, none⟩) hbl] at d0
          rw [← g3.below.frozen (p := ⟨b, i, none⟩) hbl] at f0
          clear g3 c0 CQ
          go_wp2_with fail
          go_roundw
          case rel => exact ⟨i + 1, j + 1, _, by go_num, by go_num, by omega, HB3.out.set i _, HD2.out.keep1 rfl HX.out HQ.out (by have := HJL.out; omega)⟩
          case measure => simp [intOf]; omega
        | true =>
          have CQ := CL.out wr (G.refl _)
          rw [hq] at CQ
          have HQ := hid hq
          clear hq
          go_wp2_with (go_at_fn g; refine CQ.use ?_)
          intro w3 g3
          have HB3 := hid (HB2.out.grow g3)
          clear g3 c0 CQ
          go_wp2_with fail
          go_roundw
          case rel => exact ⟨i, j + 1, _, rfl, by go_num, by omega, HB3.out, HD2.out.skip HX.out HQ.out⟩
          case measure => simp [intOf]; omega
      · obtain rfl : j = xs.length := by omega
        have hltz : ¬ (xs.length : Int) < (xs.length : Int) := by omega
        obtain ⟨i1, i2, i3, i4⟩ := info_parts infoS
        obtain ⟨cu2, W2, hrun, hB3, hl3, hlo3⟩ := run_clear_row (P := Tryz.prog) hB 23 9 (.string ⟨#[]⟩) 1 rfl (by omega) Tryz.underlying23 (fun w => by kernel_rfl) (by decide) i i xs.length (cap - i) (by omega) hij (by rw [hD.len]; exact hc1)
        have hcnt := hD.cnt
        have hlow := hD.low
        rw [List.take_length] at hcnt hlow
        have HL := hid (show w.grownBy W2 (some b) ∧ W2.ownsRow base 9 1 (.slice (some ⟨b, 0, none⟩) i cap) i ((xs.filter fun x => !q x).flatMap cellsS) from by
          refine ⟨hB3.mv, by rw [dflat_len cellsS_len, hcnt], .inr ⟨b, cap, cu2.toArray, rfl, HSZ.out.2.1, hB3.b, by omega, HSZ.out.2.2, ?_, ?_⟩⟩
          · have := HSZ.out.1
            rw [List.size_toArray, hl3, hD.len, Array.length_toList, this]
          · rw [List.toList_toArray, hlo3, hlow])
        have HN := hid hcnt
        clear hcnt hlow hlo3 hl3 hB3 hB hD hc0 hc1
        go_wp2_with fail
        go_ret
        refine ⟨_, _, HR1.out, rfl, ?_, HL.out.1, rfl⟩
        rw [HN.out]
        exact HL.out.2
end Go.Proofs.YtfadckackdmbnaaGreatDoor

namespace Go.Proofs.YtfadckackdmbnaaGreatDoor
open Go.RowKit
set_option linter.unusedVariables false
set_option linter.unusedSimpArgs false
theorem names_any (v : Int) (w : World) (hv : v = 3 ∨ v = 4) (hM : RMem w) :
    Calls Tryz.prog 51 #[.int .i64 v] w fun e w' => ∃ u, e = .returned (.tuple #[u, .nilIface]) ∧ w'.ownsRow w.heap.size 9 1 u (tabT v).length ((tabT v).map fun e => .string (S e.name)) ∧ Below w.heap.size w w' := by
  rcases hv with rfl | rfl
  · exact (callsIn_wide (n := 6)).1 (names_in3 w hM.hm)
  · exact (callsIn_wide (n := 6)).1 (names_in4 w hM.hm)
def entOk (e : Ent) : Bool := isNameL e.name && (upperL e.name == e.name && (decide (1 ≤ e.ty ∧ e.ty < 9 ∧ (0 < e.most → e.least ≤ e.most) ∧ (0 < e.parts → e.ty = 3) ∧ e.name.length ≤ 100)))
theorem tab_ok (v : Int) : (∀ e ∈ tabT v, entOk e = true) ∧ 25 < (tabT v).length := by
  unfold tabT
  split
  · decide +kernel
  · decide +kernel
end Go.Proofs.YtfadckackdmbnaaGreatDoor
