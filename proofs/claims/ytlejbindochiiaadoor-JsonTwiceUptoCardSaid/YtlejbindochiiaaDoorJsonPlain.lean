/-
  JSON trees as text: what json.Write writes, json.Read reads, json.Right says. Plain.
-/
import Derived.Test.YtlejbindochiiaaDoorCode
import Derived.Test.YtlejbindochiiaaDoorUtf2
import Derived.Test.YtlejbindochiiaaDoorUtfPlain
namespace Go.Proofs.YtlejbindochiiaaDoor
open Go.RowKit
set_option linter.unusedVariables false
set_option linter.unusedSimpArgs false

/-- a tree -/
inductive Jt where
  | mk : Int → List UInt8 → List (List UInt8) → List Jt → Jt
def Jt.kind : Jt → Int | .mk k _ _ _ => k
def Jt.text : Jt → List UInt8 | .mk _ t _ _ => t
def Jt.keys : Jt → List (List UInt8) | .mk _ _ ks _ => ks
def Jt.list : Jt → List Jt | .mk _ _ _ l => l

/-- an error's number, and how many bytes are left where it is told -/
abbrev JEr := Int × Nat
abbrev JRs (α : Type) := Except JEr (α × List UInt8)
def JRs.next {α β : Type} (x : Except JEr (α × List UInt8)) (f : α → List UInt8 → Except JEr β) : Except JEr β := match x with | .ok (a, t) => f a t | .error e => .error e
theorem jnext_ok {α β : Type} {x : Except JEr (α × List UInt8)} {f : α → List UInt8 → Except JEr β} {b : β} : JRs.next x f = .ok b ↔ ∃ a t, x = .ok (a, t) ∧ f a t = .ok b := by
  cases x with
  | ok p => obtain ⟨a, t⟩ := p; exact ⟨fun h => ⟨a, t, rfl, h⟩, fun ⟨a', t', h, h2⟩ => by injection h with h; injection h with h1 h3; subst h1; subst h3; exact h2⟩
  | error e => exact ⟨fun h => (by cases h), fun ⟨_, _, h, _⟩ => (by cases h)⟩
theorem jnext_pos {α β : Type} (a : α) (t : List UInt8) (f : α → List UInt8 → Except JEr β) : JRs.next (.ok (a, t)) f = f a t := rfl
/-- a byte that is to come -/
def isJ (c : UInt8) : List UInt8 → Option (List UInt8)
  | [] => none
  | d :: r => if d = c then some r else none
theorem isJ_eq (c d : UInt8) (r : List UInt8) : isJ c (d :: r) = if d = c then some r else none := rfl
theorem isJ_some {c : UInt8} {l r : List UInt8} (h : isJ c l = some r) : l = c :: r := by
  cases l with
  | nil => cases h
  | cons d l =>
    rw [isJ_eq] at h
    by_cases e : d = c
    · rw [if_pos e] at h; injection h with h; rw [e, h]
    · rw [if_neg e] at h; cases h
theorem isJ_cons (c : UInt8) (r : List UInt8) : isJ c (c :: r) = some r := by rw [isJ_eq, if_pos rfl]
theorem isJ_not {c : UInt8} {l : List UInt8} (h : l.head? ≠ some c) : isJ c l = none := by
  cases l with
  | nil => rfl
  | cons d l => rw [isJ_eq, if_neg (by simpa using h)]

/-! ## numbers -/
def dgJ (c : UInt8) : Bool := decide (48 ≤ c.toNat ∧ c.toNat ≤ 57)
/-- so many digits -/
def digsJ (l : List UInt8) : Nat := (l.takeWhile dgJ).length
/-- behind the digits of a whole number: the exponent -/
def expJ (l : List UInt8) : Nat :=
  match l with
  | c :: r => if c = 101 ∨ c = 69 then
      let s := match r with | d :: _ => if d = 43 ∨ d = 45 then 1 else 0 | [] => 0
      if digsJ (r.drop s) = 0 then 0 else 1 + s + digsJ (r.drop s)
    else 0
  | [] => 0
/-- behind the digits of a whole number: none of it, or a point and digits; then the exponent, unless the point has no digits -/
def fracJ (l : List UInt8) : Nat :=
  match l with
  | c :: r => if c = 46 then (if digsJ r = 0 then 0 else 1 + digsJ r + expJ (r.drop (digsJ r))) else expJ (c :: r)
  | [] => 0
/-- so many bytes of a number a text begins with -/
def numJ (l : List UInt8) : Nat :=
  let m := match l with | c :: _ => if c = 45 then 1 else 0 | [] => 0
  match l.drop m with
  | c :: r => if c = 48 then m + 1 + fracJ r else if digsJ (c :: r) = 0 then 0 else m + digsJ (c :: r) + fracJ ((c :: r).drop (digsJ (c :: r)))
  | [] => 0

/-! ## texts -/
/-- what stands for a byte behind a reverse solidus -/
def shortJ (c : UInt8) : Option UInt8 :=
  if c = 34 then some 34 else if c = 92 then some 92 else if c = 8 then some 98 else if c = 12 then some 102 else if c = 10 then some 110 else if c = 13 then some 114 else if c = 9 then some 116 else none
/-- what a letter behind a reverse solidus stands for -/
def longJ (c : UInt8) : Option UInt8 :=
  if c = 47 then some 47 else if c = 34 then some 34 else if c = 92 then some 92 else if c = 98 then some 8 else if c = 102 then some 12 else if c = 110 then some 10 else if c = 114 then some 13 else if c = 116 then some 9 else none
def hexJ (n : Nat) : UInt8 := if n < 10 then UInt8.ofNat (48 + n) else UInt8.ofNat (87 + n)
/-- a byte of a text as it is written -/
def byteJ (c : UInt8) : List UInt8 := match shortJ c with
  | some d => [92, d]
  | none => if c.toNat < 32 then [92, 117, 48, 48, hexJ (c.toNat / 16), hexJ (c.toNat % 16)] else [c]
def quoteJ (s : List UInt8) : List UInt8 := 34 :: (s.flatMap byteJ ++ [34])
/-- a hexadecimal digit's number -/
def digitJ (c : UInt8) : Option Nat :=
  if 48 ≤ c.toNat ∧ c.toNat ≤ 57 then some (c.toNat - 48) else if 97 ≤ c.toNat ∧ c.toNat ≤ 102 then some (c.toNat - 87) else if 65 ≤ c.toNat ∧ c.toNat ≤ 70 then some (c.toNat - 55) else none
/-- k digits, n so far -/
def fourJ : Nat → Nat → List UInt8 → JRs Nat
  | 0, n, l => .ok (n, l)
  | k + 1, n, [] => .error (7, 0)
  | k + 1, n, c :: r => match digitJ c with
    | none => .error (3, r.length + 1)
    | some d => fourJ k (n * 16 + d) r
/-- a code point's bytes, and what follows -/
def pointJ (m n : Nat) (t : List UInt8) : JRs (List UInt8) := if mayB (n : Int) then .ok (pointL (n : Int), t) else .error (3, m)
/-- what stands behind a reverse solidus; so many bytes were left at it -/
def escJ (m : Nat) : List UInt8 → JRs (List UInt8)
  | [] => .error (7, 0)
  | c :: r => if c = 117 then
      JRs.next (fourJ 4 0 r) fun n t =>
        if 55296 ≤ n ∧ n < 56320 ∧ t.take 2 = [92, 117] then
          JRs.next (fourJ 4 0 (t.drop 2)) fun low u => if 56320 ≤ low ∧ low ≤ 57343 then pointJ m (65536 + (n - 55296) * 1024 + (low - 56320)) u else .error (3, m)
        else pointJ m n t
    else match longJ c with
      | some d => .ok ([d], r)
      | none => .error (3, r.length + 1)
/-- a text behind its first quotation mark (f: more than its bytes) -/
def textJ : Nat → List UInt8 → JRs (List UInt8)
  | 0, _ => .error (7, 0)
  | _ + 1, [] => .error (7, 0)
  | f + 1, c :: r =>
    if c = 34 then .ok ([], r)
    else if c = 92 then JRs.next (escJ (r.length + 1) r) fun a t => JRs.next (textJ f t) fun b u => .ok (a ++ b, u)
    else if c.toNat < 32 then .error (3, r.length + 1)
    else JRs.next (textJ f r) fun b u => .ok (c :: b, u)
/-- what is told where another byte was to come -/
def lackJ (l : List UInt8) : JEr := if l = [] then (7, 0) else (3, l.length)
def wantJ (c : UInt8) (l : List UInt8) : JRs Unit := match isJ c l with
  | some r => .ok ((), r)
  | none => .error (lackJ l)
def strJ (l : List UInt8) : JRs (List UInt8) := JRs.next (wantJ 34 l) fun _ r => textJ (r.length + 1) r
def blankB (c : UInt8) : Bool := c == 32 || c == 9 || c == 13 || c == 10
def blankJ (l : List UInt8) : List UInt8 := l.dropWhile blankB

/-! ## trees -/
def nullJ : List UInt8 := [110, 117, 108, 108]
def falseJ : List UInt8 := [102, 97, 108, 115, 101]
def trueJ : List UInt8 := [116, 114, 117, 101]
/-- an array's elements behind the bracket (f: an element; n: more than its bytes; more: one stands already) -/
def elemsJ (f : List UInt8 → JRs Jt) : Nat → Bool → List UInt8 → JRs (List Jt)
  | 0, _, _ => .error (7, 0)
  | n + 1, more, l => match isJ 93 l with
    | some r => .ok ([], r)
    | none => JRs.next (if more then wantJ 44 l else .ok ((), l)) fun _ t => JRs.next (f t) fun x u => JRs.next (elemsJ f n true (blankJ u)) fun xs v => .ok (x :: xs, v)
/-- an object's members behind the brace (ks: the keys that stand already) -/
def membJ (f : List UInt8 → JRs Jt) : Nat → List (List UInt8) → List UInt8 → JRs (List (List UInt8) × List Jt)
  | 0, _, _ => .error (7, 0)
  | n + 1, ks, l => match isJ 125 l with
    | some r => .ok (([], []), r)
    | none => JRs.next (if ks = [] then .ok ((), l) else JRs.next (wantJ 44 l) fun _ t => .ok ((), blankJ t)) fun _ t =>
      JRs.next (strJ t) fun k u => if k ∈ ks then .error (9, t.length) else
        JRs.next (wantJ 58 (blankJ u)) fun _ v => JRs.next (f v) fun x w => JRs.next (membJ f n (ks ++ [k]) (blankJ w)) fun p z => .ok ((k :: p.1, x :: p.2), z)
/-- a tree (d: how deep it may be) -/
def treeJ : Nat → List UInt8 → JRs Jt
  | 0, l => .error (4, (blankJ l).length)
  | d + 1, l =>
    if (blankJ l).take 4 = nullJ then .ok (.mk 1 [] [] [], (blankJ l).drop 4)
    else if (blankJ l).take 5 = falseJ then .ok (.mk 2 [] [] [], (blankJ l).drop 5)
    else if (blankJ l).take 4 = trueJ then .ok (.mk 3 [] [] [], (blankJ l).drop 4)
    else if 0 < numJ (blankJ l) then .ok (.mk 4 ((blankJ l).take (numJ (blankJ l))) [] [], (blankJ l).drop (numJ (blankJ l)))
    else match blankJ l with
      | [] => .error (7, 0)
      | c :: r =>
        if c = 34 then JRs.next (strJ (c :: r)) fun s t => .ok (.mk 5 s [] [], t)
        else if c = 91 then JRs.next (elemsJ (treeJ d) (r.length + 1) false (blankJ r)) fun xs t => .ok (.mk 6 [] [] xs, t)
        else if c = 123 then JRs.next (membJ (treeJ d) (r.length + 1) [] (blankJ r)) fun p t => .ok (.mk 7 [] p.1 p.2, t)
        else .error (3, r.length + 1)
/-- what is wrong with a text: an error alone, or one with the byte -/
def readJ (s : List UInt8) : Except (Int × Option Nat) Jt :=
  if 20000 < s.length then .error (4, none) else
  match badL s with
  | some i => .error (3, some i)
  | none => match treeJ 12 s with
    | .error (c, k) => .error (c, some (s.length - k))
    | .ok (x, t) => if blankJ t = [] then .ok x else .error (3, some (s.length - (blankJ t).length))

/-! ## what is right, and how it is written -/
/-- what is wrong with a tree that may be d deep: an error's number -/
def rightJ : Nat → Jt → Option Int
  | 0, _ => some 4
  | d + 1, .mk k t ks l =>
    if ¬ (1 ≤ k ∧ k ≤ 7) then some 1
    else if ¬ ((k = 4 ∨ k = 5 ∨ t = []) ∧ (k = 7 ∨ ks = []) ∧ (k = 7 → ks.length = l.length) ∧ (k = 7 ∨ k = 6 ∨ l = [])) then some 1
    else if (k = 4 ∧ (t = [] ∨ numJ t ≠ t.length)) ∨ badL t ≠ none then some 3
    else if ∃ x ∈ ks, badL x ≠ none then some 3
    else if ¬ ks.Nodup then some 9
    else l.findSome? (rightJ d)
def itemsJ (f : Jt → List UInt8) (obj : Bool) : Bool → List (List UInt8) → List Jt → List UInt8
  | _, _, [] => []
  | first, ks, x :: l => (if first then [] else [44]) ++ (if obj then quoteJ (ks.headD []) ++ [58] else []) ++ f x ++ itemsJ f obj false ks.tail l
def writeJ : Nat → Jt → List UInt8
  | 0, _ => []
  | d + 1, .mk k t ks l =>
    if k = 1 then nullJ else if k = 2 then falseJ else if k = 3 then trueJ else if k = 4 then t else if k = 5 then quoteJ t
    else if k = 7 then 123 :: (itemsJ (writeJ d) true true ks l ++ [125]) else 91 :: (itemsJ (writeJ d) false true ks l ++ [93])

end Go.Proofs.YtlejbindochiiaaDoor
