/-
  Texts merged into one: Row, IsStrs, Split, Data, ReplPlain, ReplLen, Once, HasM, SeqOwn, Atoi.
-/
import Derived.Test.YtdmbhoagjjkogaaGreatDoorMA44
import Derived.Test.YtdmbhoagjjkogaaGreatDoorShelf
import Derived.Lib.SplitLaws
import Derived.Lib.CountLaws
import Derived.Defers
import Derived.Laws.Pointers
import Derived.Laws.LoneSync
import Derived.RegionTactic
import Derived.RegionCalls
import Derived.ChangeAlike
import Derived.RangeFuncWrites
import Derived.RangeFuncLeaves
import Derived.Lib.AtoiErrMem
import Derived.Lib.AtoiAllCases
import Derived.Lib.AppendIntMem
namespace Go.Proofs.YtdmbhoagjjkogaaGreatDoor
open Go.RowKit
set_option linter.unusedVariables false
set_option linter.unusedSimpArgs false
def IsRow (k : Nat) (w : World) (v : Value) (n : Nat) (cs : List Value) : Prop :=
  cs.length = n * k ∧ (∀ u ∈ cs, u.oneCell' = true) ∧
  ((n = 0 ∧ (v = .slice none 0 0 ∨ ∃ a c, v = .slice (some a) 0 c)) ∨ ∃ b off cap, v = .slice (some ⟨b, off, none⟩) n cap ∧ b < w.heap.size ∧ 0 < n ∧ ∀ j (h : j < cs.length), w.cell? ⟨b, off + j, none⟩ = some cs[j])
theorem IsRow.grow {k : Nat} {w w' : World} {v : Value} {n : Nat} {cs : List Value} (h : IsRow k w v n cs) (g : G w w') : IsRow k w' v n cs := by
  obtain ⟨h1, h1c, h2⟩ := h
  refine ⟨h1, h1c, ?_⟩
  rcases h2 with h2 | ⟨b, off, cap, e, hb, h0, hc⟩
  · exact .inl h2
  · exact .inr ⟨b, off, cap, e, Nat.lt_of_lt_of_le hb g.size, h0, fun j hj => by rw [g.cell hb]; exact hc j hj⟩
theorem IsRow.len {k : Nat} {w : World} {v : Value} {n : Nat} {cs : List Value} (h : IsRow k w v n cs) : ∃ a c, v = .slice a n c := by
  rcases h.2.2 with ⟨rfl, e | ⟨a, c, e⟩⟩ | ⟨b, off, cap, e, _⟩
  · exact ⟨_, _, e⟩
  · exact ⟨_, _, e⟩
  · exact ⟨_, _, e⟩
end Go.Proofs.YtdmbhoagjjkogaaGreatDoor

namespace Go.Proofs.YtdmbhoagjjkogaaGreatDoor
open Go.RowKit
set_option linter.unusedVariables false
set_option linter.unusedSimpArgs false
def capOk : Value → Prop
  | .slice _ n c => n ≤ c
  | _ => True
def IsStrs (w : World) (v : Value) (ls : List (List UInt8)) : Prop := IsRow 1 w v ls.length (ls.map fun l => .string (S l)) ∧ capOk v
theorem IsStrs.grow {w w' : World} {v : Value} {ls : List (List UInt8)} (h : IsStrs w v ls) (g : G w w') : IsStrs w' v ls := ⟨IsRow.grow h.1 g, h.2⟩
theorem IsStrs.len {w : World} {v : Value} {ls : List (List UInt8)} (h : IsStrs w v ls) : ∃ a c, v = .slice a ls.length c ∧ ls.length ≤ c := by
  obtain ⟨a, c, e⟩ := IsRow.len h.1
  exact ⟨a, c, e, by have := h.2; rw [e] at this; exact this⟩
theorem IsStrs.at_ {w : World} {v : Value} {ls : List (List UInt8)} (h : IsStrs w v ls) (h0 : ls ≠ []) : ∃ b off cap, v = .slice (some ⟨b, off, none⟩) ls.length cap ∧ ls.length ≤ cap ∧ b < w.heap.size ∧ ∀ (i : Nat) (l : List UInt8), ls[i]? = some l → w.cell? ⟨b, off + i, none⟩ = some (.string (S l)) := by
  obtain ⟨⟨h1, h2, h3⟩, hk⟩ := h
  rcases h3 with ⟨h3, _⟩ | ⟨b, off, cap, e, hb, hn, hc⟩
  · exact absurd (List.eq_nil_of_length_eq_zero h3) h0
  · refine ⟨b, off, cap, e, by rw [e] at hk; exact hk, hb, fun i l hl => ?_⟩
    have hi : i < ls.length := by
      rcases Nat.lt_or_ge i ls.length with h | h
      · exact h
      · rw [List.getElem?_eq_none h] at hl; cases hl
    rw [hc i (by simpa using hi)]
    rw [List.getElem?_eq_getElem hi] at hl
    injection hl with hl
    simp [hl]
end Go.Proofs.YtdmbhoagjjkogaaGreatDoor

namespace Go.Proofs.YtdmbhoagjjkogaaGreatDoor
open Go.RowKit
set_option linter.unusedVariables false
set_option linter.unusedSimpArgs false
def joinS (sep : List UInt8) (p : List UInt8) : List (List UInt8) → List UInt8
  | [] => p
  | q :: ps => p ++ (sep ++ joinS sep q ps)
theorem strs_of_alloc (w : World) (t : TypeId) (ls : List (List UInt8)) (h : ls ≠ []) : IsStrs (w.alloc (.cells ((ls.map S).map Value.string).toArray t)) (.slice (some ⟨w.heap.size, 0, none⟩) ls.length ls.length) ls := by
  refine ⟨⟨by simp, ?_, .inr ⟨w.heap.size, 0, ls.length, rfl, by simp, ?_, fun j hj => ?_⟩⟩, Nat.le_refl _⟩
  · intro u hu
    obtain ⟨l, _, rfl⟩ := List.mem_map.1 hu
    rfl
  · cases ls with
    | nil => exact absurd rfl h
    | cons _ _ => simp
  · rw [Nat.zero_add, World.cell?_alloc_new]
    simp at hj
    simp [List.getElem?_eq_getElem hj]
end Go.Proofs.YtdmbhoagjjkogaaGreatDoor

namespace Go.Proofs.YtdmbhoagjjkogaaGreatDoor
open Go.RowKit
set_option linter.unusedVariables false
structure St where
  y : Int
  m : Int
  d : Int
  h : Int
  n : Int
  s : Int
  zd : Bool
  zn : Int
def St.cells (t : St) : Array Value := #[.int .i64 t.y, .int .i64 t.m, .int .i64 t.d, .int .i64 t.h, .int .i64 t.n, .int .i64 t.s, .bool t.zd, .int .i64 t.zn]
def St.v (t : St) : Value := .agg #[.int .i64 t.y, .int .i64 t.m, .int .i64 t.d, .int .i64 t.h, .int .i64 t.n, .int .i64 t.s, .bool t.zd, .int .i64 t.zn]
def St0 : St := ⟨0, 0, 0, 0, 0, 0, false, 0⟩
structure Vl where
  ty : Int
  tx : List UInt8
  ps : List (List (List UInt8))
  st : St
  n : Int
def Vl.v (x : Vl) (pv : Value) : Value := .agg #[.int .i64 x.ty, .string (S x.tx), pv, .int .i64 x.st.y, .int .i64 x.st.m, .int .i64 x.st.d, .int .i64 x.st.h, .int .i64 x.st.n, .int .i64 x.st.s, .bool x.st.zd, .int .i64 x.st.zn, .int .i64 x.n]
end Go.Proofs.YtdmbhoagjjkogaaGreatDoor

namespace Go.Proofs.YtdmbhoagjjkogaaGreatDoor
open Go.RowKit
set_option linter.unusedVariables false
set_option linter.unusedSimpArgs false
def rep1 (f : UInt8 → Option (List UInt8)) (c : UInt8) : List UInt8 := (f c).getD [c]
def replL (f : UInt8 → Option (List UInt8)) (s : List UInt8) : List UInt8 := s.flatMap (rep1 f)
theorem replL_append (f : UInt8 → Option (List UInt8)) (a b : List UInt8) : replL f (a ++ b) = replL f a ++ replL f b := by simp [replL]
theorem replL_cons (f : UInt8 → Option (List UInt8)) (c : UInt8) (t : List UInt8) : replL f (c :: t) = rep1 f c ++ replL f t := by simp [replL]
/-! ## carets -/
def caretF (c : UInt8) : Option (List UInt8) := if c = 94 then some [94, 94] else if c = 10 then some [94, 110] else if c = 34 then some [94, 39] else none
def encL (s : List UInt8) : List UInt8 := replL caretF s
theorem enc_len (s : List UInt8) : s.length ≤ (encL s).length ∧ (encL s).length ≤ 2 * s.length := by
  have h : ∀ c : UInt8, 1 ≤ (rep1 caretF c).length ∧ (rep1 caretF c).length ≤ 2 := fun c => of_decide_eq_true (byte_all (fun c => decide (1 ≤ (rep1 caretF c).length ∧ (rep1 caretF c).length ≤ 2)) (by decide +kernel) c)
  induction s with
  | nil => exact ⟨Nat.le_refl _, Nat.le_refl _⟩
  | cons c t ih =>
    have := h c
    show (c :: t).length ≤ (rep1 caretF c ++ encL t).length ∧ (rep1 caretF c ++ encL t).length ≤ _
    simp only [List.length_append, List.length_cons]
    omega
/-! ## escapes -/
def escF (c : UInt8) : Option (List UInt8) := if c = 92 then some [92, 92] else if c = 44 then some [92, 44] else if c = 59 then some [92, 59] else if c = 10 then some [92, 110] else none
def escL (s : List UInt8) : List UInt8 := replL escF s
def needL (s : List UInt8) : Nat := (s.filter fun c => ([92, 44, 59, 10] : List UInt8).contains c).length
theorem esc_len (s : List UInt8) : (escL s).length = s.length + needL s := by
  have h : ∀ c : UInt8, (rep1 escF c).length = 1 + if ([92, 44, 59, 10] : List UInt8).contains c = true then 1 else 0 := fun c => of_decide_eq_true (byte_all (fun c => decide ((rep1 escF c).length = 1 + if ([92, 44, 59, 10] : List UInt8).contains c = true then 1 else 0)) (by decide +kernel) c)
  induction s with
  | nil => rfl
  | cons c t ih =>
    have e : (escL (c :: t)).length = (rep1 escF c).length + (escL t).length := by
      show (rep1 escF c ++ escL t).length = _
      rw [List.length_append]
    rw [e, h, ih]
    unfold needL
    rw [List.filter_cons]
    split <;> simp <;> omega
/-! ## pieces -/
inductive PiecesR where
  | good (texts : List (List UInt8)) (cuts : List UInt8)
  | bad (code : Int) (place : Nat)
def unescB (c : UInt8) : Option UInt8 := if c = 92 ∨ c = 44 ∨ c = 59 then some c else if c = 110 ∨ c = 78 then some 10 else none
def piecesGo (at_ : List UInt8) : List UInt8 → Nat → List UInt8 → List (List UInt8) → List UInt8 → PiecesR
  | [], _, cur, texts, cuts => .good (texts ++ [cur]) cuts
  | [c], k, cur, texts, cuts => if c = 92 then .bad 7 (k + 1) else if at_.contains c = true then .good (texts ++ [cur] ++ [[]]) (cuts ++ [c]) else .good (texts ++ [cur ++ [c]]) cuts
  | c :: d :: t, k, cur, texts, cuts =>
    if c = 92 then
      match unescB d with
      | some x => piecesGo at_ t (k + 2) (cur ++ [x]) texts cuts
      | none => .bad 3 (k + 1)
    else if at_.contains c = true then piecesGo at_ (d :: t) (k + 1) [] (texts ++ [cur]) (cuts ++ [c])
    else piecesGo at_ (d :: t) (k + 1) (cur ++ [c]) texts cuts
theorem pieces_nil (a : List UInt8) (k : Nat) (cur : List UInt8) (ts : List (List UInt8)) (cs : List UInt8) : piecesGo a [] k cur ts cs = .good (ts ++ [cur]) cs := rfl
theorem pieces_esc {a : List UInt8} {d x : UInt8} {t : List UInt8} {k : Nat} {cur : List UInt8} {ts : List (List UInt8)} {cs : List UInt8} (h : unescB d = some x) : piecesGo a (92 :: d :: t) k cur ts cs = piecesGo a t (k + 2) (cur ++ [x]) ts cs := by
  show (if (92 : UInt8) = 92 then _ else _) = _
  rw [if_pos rfl, h]
theorem pieces_cut {a : List UInt8} {c : UInt8} {t : List UInt8} {k : Nat} {cur : List UInt8} {ts : List (List UInt8)} {cs : List UInt8} (h1 : c ≠ 92) (h2 : a.contains c = true) : piecesGo a (c :: t) k cur ts cs = piecesGo a t (k + 1) [] (ts ++ [cur]) (cs ++ [c]) := by
  cases t with
  | nil => show (if c = 92 then _ else _) = _; rw [if_neg h1, if_pos h2]; rfl
  | cons d t => show (if c = 92 then _ else _) = _; rw [if_neg h1, if_pos h2]
theorem pieces_one {a : List UInt8} {c : UInt8} {t : List UInt8} {k : Nat} {cur : List UInt8} {ts : List (List UInt8)} {cs : List UInt8} (h1 : c ≠ 92) (h2 : a.contains c = false) : piecesGo a (c :: t) k cur ts cs = piecesGo a t (k + 1) (cur ++ [c]) ts cs := by
  cases t with
  | nil => show (if c = 92 then _ else _) = _; rw [if_neg h1, if_neg (by simpa using h2)]; rfl
  | cons d t => show (if c = 92 then _ else _) = _; rw [if_neg h1, if_neg (by simpa using h2)]
theorem esc_cases (c : UInt8) : (∃ d, rep1 escF c = [92, d] ∧ unescB d = some c) ∨ (rep1 escF c = [c] ∧ c ≠ 92 ∧ c ≠ 44 ∧ c ≠ 59) := by
  by_cases h1 : c = 92
  · subst h1; exact .inl ⟨92, rfl, rfl⟩
  by_cases h2 : c = 44
  · subst h2; exact .inl ⟨44, rfl, rfl⟩
  by_cases h3 : c = 59
  · subst h3; exact .inl ⟨59, rfl, rfl⟩
  by_cases h4 : c = 10
  · subst h4; exact .inl ⟨110, rfl, rfl⟩
  · right
    refine ⟨?_, h1, h2, h3⟩
    unfold rep1 escF
    rw [if_neg h1, if_neg h2, if_neg h3, if_neg h4]; rfl
theorem pieces_escL (a : List UInt8) (ha : ∀ c ∈ a, c = 44 ∨ c = 59) (s : List UInt8) : ∀ (r : List UInt8) (k : Nat) (cur : List UInt8) (ts : List (List UInt8)) (cs : List UInt8), piecesGo a (escL s ++ r) k cur ts cs = piecesGo a r (k + (escL s).length) (cur ++ s) ts cs := by
  induction s with
  | nil => intro r k cur ts cs; simp [escL, replL]
  | cons c t ih =>
    intro r k cur ts cs
    have e : escL (c :: t) = rep1 escF c ++ escL t := rfl
    rcases esc_cases c with ⟨d, h1, h2⟩ | ⟨h1, h2, h3, h4⟩
    · rw [e, h1]
      show piecesGo a (92 :: d :: (escL t ++ r)) k cur ts cs = _
      rw [pieces_esc h2, ih]
      simp; congr 1; omega
    · rw [e, h1]
      show piecesGo a (c :: (escL t ++ r)) k cur ts cs = _
      rw [pieces_one h2 (by
        cases hc : a.contains c with
        | false => rfl
        | true => rcases ha c (by simpa using hc) with h | h; exact absurd h h3; exact absurd h h4), ih]
      simp; congr 1; omega
end Go.Proofs.YtdmbhoagjjkogaaGreatDoor

namespace Go.Proofs.YtdmbhoagjjkogaaGreatDoor
open Go.RowKit
set_option linter.unusedVariables false
set_option linter.unusedSimpArgs false
structure Keyed1 (f : UInt8 → Option (List UInt8)) (keys : List UInt8) : Prop where
  nodup : keys.Nodup
  iff : ∀ c, f c = none ↔ c ∉ keys
  pos : ∀ c l, f c = some l → 1 ≤ l.length
  small : ∀ c l, f c = some l → l.length ≤ 10
def grow1 (f : UInt8 → Option (List UInt8)) (c : UInt8) : Nat := (rep1 f c).length - 1
def addK (f : UInt8 → Option (List UInt8)) (s : List UInt8) (keys : List UInt8) : Nat := (keys.map fun k => s.count k * grow1 f k).sum
theorem addK_cons (f : UInt8 → Option (List UInt8)) (c : UInt8) (t : List UInt8) (keys : List UInt8) (hn : keys.Nodup) : addK f (c :: t) keys = addK f t keys + if c ∈ keys then grow1 f c else 0 := by
  induction keys with
  | nil => simp [addK]
  | cons k ks ih =>
    obtain ⟨h1, h2⟩ := List.nodup_cons.1 hn
    have ih := ih h2
    have e : ∀ l, addK f l (k :: ks) = l.count k * grow1 f k + addK f l ks := fun l => by simp [addK]
    rw [e, e, ih, List.count_cons]
    by_cases hc : c = k
    · subst hc
      simp [h1, Nat.add_mul]; omega
    · have hck : (c == k) = false := beq_eq_false_iff_ne.2 hc
      simp [hc, hck]
      omega
theorem repl_len {f : UInt8 → Option (List UInt8)} {keys : List UInt8} (h : Keyed1 f keys) (s : List UInt8) : (replL f s).length = s.length + addK f s keys := by
  induction s with
  | nil =>
    have h0 : ∀ l : List UInt8, (l.map fun _ => 0).sum = 0 := fun l => by induction l with
      | nil => rfl
      | cons _ _ ih => simpa using ih
    simp [replL, addK, h0]
  | cons c t ih =>
    rw [replL_cons, List.length_append, ih, addK_cons f c t keys h.nodup]
    have hr : (rep1 f c).length = 1 + if c ∈ keys then grow1 f c else 0 := by
      unfold grow1
      by_cases hc : c ∈ keys
      · rw [if_pos hc]
        cases hf : f c with
        | none => exact absurd hc ((h.iff c).1 hf)
        | some l =>
          have := h.pos c l hf
          simp [rep1, hf]; omega
      · rw [if_neg hc]
        have := (h.iff c).2 hc
        simp [rep1, this]
    rw [hr]; simp; omega
theorem repl_same {f : UInt8 → Option (List UInt8)} (s : List UInt8) (h : ∀ c ∈ s, f c = none) : replL f s = s := by
  induction s with
  | nil => rfl
  | cons c t ih =>
    rw [replL_cons, ih fun d hd => h d (List.mem_cons_of_mem _ hd)]
    simp [rep1, h c List.mem_cons_self]
theorem repl_snoc (f : UInt8 → Option (List UInt8)) (s : List UInt8) (k : Nat) (h : k < s.length) : replL f (s.take (k + 1)) = replL f (s.take k) ++ rep1 f s[k] := by
  rw [List.take_succ_eq_append_getElem h, replL_append]; simp [replL]
theorem repl_le {f : UInt8 → Option (List UInt8)} {keys : List UInt8} (h : Keyed1 f keys) (s : List UInt8) : s.length ≤ (replL f s).length ∧ (replL f s).length ≤ 10 * s.length := by
  have h1 : ∀ c, 1 ≤ (rep1 f c).length ∧ (rep1 f c).length ≤ 10 := by
    intro c
    cases hf : f c with
    | none => simp [rep1, hf]
    | some l => have := h.pos c l hf; have := h.small c l hf; simp [rep1, hf]; omega
  induction s with
  | nil => simp [replL]
  | cons c t ih =>
    have := h1 c
    rw [replL_cons]; simp only [List.length_append, List.length_cons]; omega
theorem repl_take_le (f : UInt8 → Option (List UInt8)) (s : List UInt8) (k : Nat) : (replL f (s.take k)).length ≤ (replL f s).length := by
  conv => rhs; rw [← List.take_append_drop k s, replL_append]
  simp
end Go.Proofs.YtdmbhoagjjkogaaGreatDoor

namespace Go.Proofs.YtdmbhoagjjkogaaGreatDoor
open Go.RowKit
set_option linter.unusedVariables false
set_option linter.unusedSimpArgs false
theorem race_disable (w : World) : (callFunc 239 #[]).run Tryz.prog w = .ok (.value (.tuple #[])) w := run_call_mark0 Tryz.func239 (by kernel_rfl) (by kernel_rfl) (by kernel_rfl) .disable (by kernel_rfl) w
theorem race_enable (w : World) : (callFunc 241 #[]).run Tryz.prog w = .ok (.value (.tuple #[])) w := run_call_mark0 Tryz.func241 (by kernel_rfl) (by kernel_rfl) (by kernel_rfl) .enable (by kernel_rfl) w
theorem race_acquire (a : Addr) (w : World) : (callFunc 242 #[.pointer (some a)]).run Tryz.prog w = .ok (.value (.tuple #[])) w := run_call_marked Tryz.func242 (by kernel_rfl) (by kernel_rfl) (by kernel_rfl) .acquire (by kernel_rfl) a w
theorem race_releaseMerge (a : Addr) (w : World) : (callFunc 244 #[.pointer (some a)]).run Tryz.prog w = .ok (.value (.tuple #[])) w := run_call_marked Tryz.func244 (by kernel_rfl) (by kernel_rfl) (by kernel_rfl) .releaseMerge (by kernel_rfl) a w
set_option maxRecDepth 100000 in
set_option maxHeartbeats 1600000 in
theorem store_deferred (a : Addr) (x : Value) (u : FrameMode) (w : World) (hc : w.cell? a = some x) (hz : w.frozen? a = false) :
    CallsD Tryz.prog 220 #[.pointer (some a), .bool true] u w fun e u' w' => u' = u ∧ (e = .returned (.tuple #[]) ∧ w' = w.drew.setCell a (.int .u32 1)) := by
  have hc' : w.drew.cell? a = some x := by go_simp
  have hz' : w.drew.frozen? a = false := by go_simp
  have hst := run_call_store (P := Tryz.prog) Tryz.func233 (by kernel_rfl) (by kernel_rfl) (by kernel_rfl) (by kernel_rfl) (k := .u32) (y := 1) hc' hz'
  go_enter_d Tryz.func220, Tryz.ntmps220
  go_wp2
  go_region_calls
  all_goals (go_end0; exact ⟨rfl, rfl⟩)
set_option maxRecDepth 100000 in
set_option maxHeartbeats 1600000 in
theorem unlock_deferred (a : Addr) (u : FrameMode) (w : World) (hc : w.cell? a = some (.int .i32 1)) (hz : w.frozen? a = false) :
    CallsD Tryz.prog 219 #[.pointer (some a)] u w fun e u' w' => u' = u ∧ (e = .returned (.tuple #[]) ∧ w' = w.setCell a (.int .i32 0)) := by
  have hd := race_disable
  have he := race_enable
  have hr := race_releaseMerge
  have hadd := run_call_add (P := Tryz.prog) Tryz.func245 (by kernel_rfl) (by kernel_rfl) (by kernel_rfl) .i32 (by kernel_rfl) (y := -1) (s := 0) hc hz (by simp [go_sem]; rfl)
  have hcv := run_convert_to_unsafe (P := Tryz.prog) (src := 345) (dst := 136) Tryz.underlying345 Tryz.underlying136 (by kernel_rfl) hc
  go_enter_d Tryz.func219, Tryz.ntmps219
  go_wp2
  go_end0
  go_wp2
  go_end0
  exact ⟨rfl, rfl⟩
set_option maxRecDepth 100000 in
set_option maxHeartbeats 1600000 in
theorem lock_free (a : Addr) (w : World) (hc : w.cell? a = some (.int .i32 0)) (hz : w.frozen? a = false) :
    Calls Tryz.prog 218 #[.pointer (some a)] w fun e w' => e = .returned (.tuple #[]) ∧ w' = w.setCell a (.int .i32 1) := by
  have hd := race_disable
  have he := race_enable
  have ha := race_acquire
  have hcas := run_call_cas_hit (P := Tryz.prog) Tryz.func240 (by kernel_rfl) (by kernel_rfl) (by kernel_rfl) .i32 (by kernel_rfl) (y := 1) hc hz
  have hc' : (w.setCell a (.int .i32 1)).cell? a = some (.int .i32 1) := World.cell?_setCell_same w a _ hc
  have hcv := run_convert_to_unsafe (P := Tryz.prog) (src := 345) (dst := 136) Tryz.underlying345 Tryz.underlying136 (by kernel_rfl) hc'
  go_enter Tryz.func218, Tryz.ntmps218
  go_wp2
  first | go_end0 | (simp only [Exit.inBlock, Exit.then]; refine bodyPost_ret (results_none rfl _ _ _) rfl ?_) | refine bodyPost_ret (results_none rfl _ _ _) rfl ?_
  go_wp2
  go_end0
  exact ⟨rfl, rfl⟩
set_option maxRecDepth 100000 in
set_option maxHeartbeats 1600000 in
theorem boolLoad_zero (a : Addr) (w : World) (h : w.cell? a = some (.int .u32 0)) : Pure 201 #[.pointer (some a)] w (.bool false) := by
  have hl := run_call_load (P := Tryz.prog) Tryz.func217 (by kernel_rfl) (by kernel_rfl) (by kernel_rfl) .u32 (by kernel_rfl) h
  go_enter Tryz.func201, Tryz.ntmps201
  go_wp2
  go_ret
  exact ⟨rfl, rfl⟩
def Onced (w : World) (b off : Nat) (e : Ending) (w' : World) (R : World → Prop) : Prop :=
  e = .returned (.tuple #[]) ∧ R w' ∧ w'.cell? ⟨b, off, none⟩ = some (.int .u32 0) ∧ w'.frozen? ⟨b, off, none⟩ = false ∧ w'.cell? ⟨b, off + 1, none⟩ = some (.int .i32 1) ∧ w'.frozen? ⟨b, off + 1, none⟩ = false
set_option maxRecDepth 100000 in
set_option maxHeartbeats 4000000 in
theorem slow_any (p : Value) (b off : Nat) (w : World) (R : World → Prop)
    (h0 : w.cell? ⟨b, off, none⟩ = some (.int .u32 0)) (h1 : w.cell? ⟨b, off + 1, none⟩ = some (.int .i32 0)) (f0 : w.frozen? ⟨b, off, none⟩ = false) (f1 : w.frozen? ⟨b, off + 1, none⟩ = false)
    (hf : Calls Tryz.prog 176 #[p] (w.setCell ⟨b, off + 1, none⟩ (.int .i32 1)) fun e w' => Onced w b off e w' R) :
    Calls Tryz.prog 202 #[.pointer (some ⟨b, off, none⟩), .func (.func 176) #[p] #[]] w fun e w' => e = .returned (.tuple #[]) ∧ ∃ w1, R w1 ∧ w' = (w1.drew.setCell ⟨b, off, none⟩ (.int .u32 1)).setCell ⟨b, off + 1, none⟩ (.int .i32 0) := by
  have l0 : (w.setCell ⟨b, off + 1, none⟩ (.int .i32 1)).cell? ⟨b, off, none⟩ = some (.int .u32 0) := (World.cell?_setCell_other _ ⟨b, off + 1, none⟩ ⟨b, off, none⟩ _ (by simp)).trans h0
  have hnot : ∀ (x : Bool) (w : World), (Op.unary .not (.bool x)).run Tryz.prog w = .ok (.bool (!x)) w := fun _ _ => rfl
  go_enter_defers Tryz.func202, Tryz.ntmps202
  go_wp2_with (go_at_call 218; refine (lock_free ⟨b, off + 1, none⟩ _ (by go_simp) (by go_simp)).mono ?_; rintro e w' ⟨rfl, rfl⟩)
  refine (boolLoad_zero ⟨b, off, none⟩ _ l0).use ?_
  go_wp2_with fail
  refine Calls.mono hf ?_
  rintro e w1 ⟨rfl, hr, a0, z0, a1, z1⟩
  go_wp2_with fail
  refine leaves_cons (f := 220) (args := #[.pointer (some ⟨b, off, none⟩), .bool true]) (by simp) (by simp [go_sem]) ?_
  refine (store_deferred ⟨b, off, none⟩ (.int .u32 0) .returning _ a0 z0).mono ?_
  rintro e u' w2 ⟨rfl, rfl, rfl⟩
  refine leaves_cons (f := 219) (args := #[.pointer (some ⟨b, off + 1, none⟩)]) (by simp [settle]) (by simp [go_sem]) ?_
  refine (unlock_deferred ⟨b, off + 1, none⟩ _ _ ?_ (by simp [z1])).mono ?_
  · refine (World.cell?_setCell_other _ ⟨b, off, none⟩ ⟨b, off + 1, none⟩ _ (by simp)).trans ?_
    rw [World.cell?_drew]
    exact a1
  rintro e u' w2 ⟨rfl, rfl, rfl⟩
  simp [Leaves, settle, results, Tryz.results202]
  exact ⟨w1, hr, rfl⟩
set_option maxRecDepth 100000 in
set_option maxHeartbeats 4000000 in
theorem onceDo_any (p : Value) (b off : Nat) (w : World) (R : World → Prop)
    (h0 : w.cell? ⟨b, off, none⟩ = some (.int .u32 0)) (h1 : w.cell? ⟨b, off + 1, none⟩ = some (.int .i32 0)) (f0 : w.frozen? ⟨b, off, none⟩ = false) (f1 : w.frozen? ⟨b, off + 1, none⟩ = false)
    (hf : Calls Tryz.prog 176 #[p] (w.setCell ⟨b, off + 1, none⟩ (.int .i32 1)) fun e w' => Onced w b off e w' R) :
    Calls Tryz.prog 175 #[.pointer (some ⟨b, off, none⟩), .func (.func 176) #[p] #[]] w fun e w' => e = .returned (.tuple #[]) ∧ ∃ w1, R w1 ∧ w' = (w1.drew.setCell ⟨b, off, none⟩ (.int .u32 1)).setCell ⟨b, off + 1, none⟩ (.int .i32 0) := by
  have hnot : ∀ (x : Bool) (w : World), (Op.unary .not (.bool x)).run Tryz.prog w = .ok (.bool (!x)) w := fun _ _ => rfl
  go_enter Tryz.func175, Tryz.ntmps175
  go_wp2_with fail
  refine (boolLoad_zero ⟨b, off, none⟩ _ h0).use ?_
  go_wp2_with fail
  refine Calls.mono (slow_any p b off w R h0 h1 f0 f1 hf) ?_
  rintro e w' ⟨rfl, hr⟩
  go_wp2_with fail
  go_end0
  exact ⟨rfl, hr⟩
end Go.Proofs.YtdmbhoagjjkogaaGreatDoor

namespace Go.Proofs.YtdmbhoagjjkogaaGreatDoor
open Go.RowKit
set_option linter.unusedVariables false
set_option linter.unusedSimpArgs false
def HasM (w : World) : Prop := ∃ m, w.cell? ⟨5, 0, none⟩ = some (.int .i64 m)
theorem HasM.grow {w w' : World} (h : HasM w) (g : G w w') : HasM w' := by
  obtain ⟨m, h⟩ := h
  exact ⟨m, by rw [g.cell (p := ⟨5, 0, none⟩) (World.block_lt_of_cell? w _ h)]; exact h⟩
theorem stringsCut_any (s sep : List UInt8) (w : World) (hm : HasM w) (hs : s.length ≤ 1000000) : Gives 60 #[.string (S s), .string (S sep)] w (.tuple #[.string (S (Lib.cut s sep).1), .string (S (Lib.cut s sep).2.1), .bool (Lib.cut s sep).2.2]) := by
  obtain ⟨m, hm⟩ := hm
  refine (Tryz.strings_Cut (S s) (S sep) m w (by simp; omega) hm).mono ?_
  rintro e w' ⟨rfl, q, rfl⟩
  exact ⟨rfl, (G.refl w).drewN q⟩
end Go.Proofs.YtdmbhoagjjkogaaGreatDoor

namespace Go.Proofs.YtdmbhoagjjkogaaGreatDoor
open Go.RowKit
set_option linter.unusedVariables false
variable {F : Fence} {n : Nat} {P : Program}
def AbidesAt {β : Type} (B : Nat) (J : β → World → Prop) : Prop := ∀ s W v, J s W → J s (W.setCell ⟨B, 0, none⟩ v)
def SeqStopsAt (B : Nat) {α : Type} (F : Fence) (n : Nat) (P : Program) (g : Nat) (lb : Array Value) (encs : α → Array Value) (Kp : World → World → Prop) (xs : List α) (w : World) : Prop :=
  ∀ (l : Nat) (J Jx : List α → World → Prop) (W : World), Below w.heap.size w W → AbidesFrom W.heap.size J → AbidesFrom W.heap.size Jx → AbidesAt B J →
    (∀ pre x W1, J pre W1 → pre ++ [x] <+: xs → YieldAt F (n - 1) P l (encs x) W1 fun e W' =>
      (e = .returned (.bool true) ∧ J (pre ++ [x]) W' ∧ Kp W1 W') ∨ (e = .returned (.bool false) ∧ Jx (pre ++ [x]) W')) →
    J [] W →
    CallsIn F n P g (#[.func (.yield l) #[] #[]] ++ lb) W fun e W' => (∃ v, e = .returned v) ∧ (J xs W' ∨ ∃ pre, pre <+: xs ∧ Jx pre W')
theorem wpIn_rangeFunc_ownAt {B : Nat} {α : Type} {g : Operand} {ps : Array Tmp} {assign body : Code} {Q : Exit → Act → World → Prop} {a : Act} {w : World}
    (hB : B < w.heap.size)
    (hro : F.round = none) (h1 : 1 ≤ n) {gf : Nat} {lb : Array Value} (hg : a.eval g = .func (.func gf) #[] lb) (hFg : F.fn gf) (eg : ∀ args w, (callFunc gf args).run P w = .ok (.enter gf args) w)
    {encs : α → Array Value} {Kp : World → World → Prop} {xs : List α} {w0 : World} (hseq : SeqStopsAt B F (n - 1) P gf lb encs Kp xs w0)
    (hKt : ∀ {X Y Z : World}, Kp X Y → Kp Y Z → Kp X Z) (hKb : ∀ (W : World) (l : Nat) (o o' : Obj), w.heap.size ≤ l → W.heap[l]? = some o → o.isCells = false → o.isWalk = false → Kp W (W.putObj l o')) (hb0 : Below w0.heap.size w0 w) (hps : ∀ x, (encs x).size = ps.size)
    (I : List α → World → Prop) (Ix : Code → List α → World → Prop) (hI : OwnFrom w.heap.size I) (hIB : AbidesAt B I) (hIx : ∀ c, OwnFrom w.heap.size (Ix c)) (h0 : I [] w) (a₁ : α → Act)
    (hassign : ∀ (l : Nat) (x : α) (W : World) (K : Act → World → Prop), K (a₁ x) W →
      assign.wpIn (F.inRound l) (n - 1 - 1) P (Exit.then K (fun _ _ _ => False)) { tmps := (ps.zip (encs x)).foldl (fun t (p, v) => t.setIfInBounds p v) a.tmps, defers := [] } W)
    (hbody : ∀ (l : Nat) (pre : List α) (x : α) (W : World), I pre W → pre ++ [x] <+: xs → body.wpIn (F.inRound l) (n - 1 - 1) P (ownPostG w.heap.size Kp I Ix (pre ++ [x]) W) (a₁ x) W)
    (hdone : ∀ (D : Nat) (W : World), w.heap.size ≤ D → I xs W → W.heap[D]? = some (.deferred (some [])) → Q .normal { a with defers := { target := .collected D, args := #[] } :: a.defers } W)
    (hstop : ∀ (D : Nat) (c : Code) (pre : List α) (W : World), w.heap.size ≤ D → pre <+: xs → Ix c pre W → W.heap[D]? = some (.deferred (some [])) → c.wpIn F n P Q { a with defers := { target := .collected D, args := #[] } :: a.defers } W) :
    (Code.rangeFunc g ps assign body).wpIn F n P Q a w := by
  refine wpIn_rangeFunc ?_
  intro fn hfn
  rw [hro]
  obtain ⟨rec, hrec⟩ : ∃ rec : LoopState → Option Code → Loop, rec = fun st pe => { state := st, pending := pe, fn, tmps := a.tmps, params := ps, assign, body, defers := w.heap.size } := ⟨_, rfl⟩
  obtain ⟨W1, hW1⟩ : ∃ W1, (w.alloc (.deferred (some []))).alloc (.loop (rec .ready none)) = W1 := ⟨_, rfl⟩
  have hL1 : W1.heap[w.heap.size + 1]? = some (.loop (rec .ready none)) := by
    rw [← hW1]; have := World.alloc_heap_new (w.alloc (.deferred (some []))) (.loop (rec .ready none)); rwa [World.size_alloc] at this
  have hK1 : W1.heap[w.heap.size]? = some (.deferred (some [])) := by
    rw [← hW1]; exact (Below.heap_alloc _ _ _ (by simp)).trans (World.alloc_heap_new w _)
  have hI1 : I [] W1 := by rw [← hW1]; exact hI.alloc _ (hI.alloc _ h0)
  have hb1 : Below w0.heap.size w0 W1 := by
    rw [← hW1]; exact hb0.trans ((((Below.refl _ w).alloc (Nat.le_refl _) _).alloc (by simp) _).mono hb0.size)
  have hs1 : W1.heap.size = w.heap.size + 2 := by rw [← hW1]; simp
  refine ⟨w.heap.size + 1, [{ target := .collected w.heap.size, args := #[] }], W1, { target := .fn (.func gf) lb, args := #[.func (.yield (w.heap.size + 1)) #[] #[]] }, W1, gf,
    #[.func (.yield (w.heap.size + 1)) #[] #[]] ++ lb, W1, ?_, ?_, ?_, ?_, fun _ => h1, ?_⟩
  · rw [← hW1, hrec]; exact run_enterLoop_outer _ _ _ _ _
  · simp only [resolve, hg]
    simp [go_sem]
  · intro f' hf'; simp [Target.leads] at hf'; subst hf'; exact hFg
  · simp [invoke, go_sem, eg]
  have walkRow : ∀ {X : World} {row : Option Nat}, (∀ r, row = some r → W1.heap.size ≤ r ∧ ∃ o : Obj, X.heap[r]? = some o ∧ o.isWalk = true) → (∀ r, row = some r → w.heap.size ≤ r ∧ ∃ o : Obj, X.heap[r]? = some o ∧ o.isCells = false) :=
    fun hr r e => by obtain ⟨hb, o, ho, hw⟩ := hr r e; exact ⟨by omega, o, ho, Obj.not_cells_of_walk hw⟩
  have stay : ∀ {X Y : World} {row : Option Nat} {k : Nat} {o : Obj}, X.grownBy Y row → (∀ r, row = some r → w.heap.size ≤ r ∧ ∃ o : Obj, X.heap[r]? = some o ∧ o.isWalk = true) → X.heap[k]? = some o → o.isWalk = false → Y.heap[k]? = some o :=
    fun hg' hr hk ho => (grownBy_keeps hg' (fun r e => (hr r e).2) hk ho).trans hk
  have atB : ∀ {X : World} {k : Nat} {o : Obj} (v : Value), w.heap.size ≤ k → X.heap[k]? = some o → (X.setCell ⟨B, 0, none⟩ v).heap[k]? = some o :=
    fun v hk ho => by rw [Below.heap_setCell _ _ _ _ (by simp; omega)]; exact ho
  refine (hseq (w.heap.size + 1)
    (fun pre W => I pre W ∧ W.heap[w.heap.size + 1]? = some (.loop (rec .ready none)) ∧ W.heap[w.heap.size]? = some (.deferred (some [])))
    (fun pre W => ∃ c, Ix c pre W ∧ W.heap[w.heap.size + 1]? = some (.loop (rec .done (some c))) ∧ W.heap[w.heap.size]? = some (.deferred (some [])))
    W1 hb1
    (fun s X Y row hs hg' hr => ⟨hI s X Y row hs.1 hg' (walkRow hr), stay hg' (fun r e => ⟨by have := (hr r e).1; omega, (hr r e).2⟩) hs.2.1 rfl, stay hg' (fun r e => ⟨by have := (hr r e).1; omega, (hr r e).2⟩) hs.2.2 rfl⟩)
    (fun s X Y row hs hg' hr => by
      obtain ⟨c, hc, hl, hk⟩ := hs
      exact ⟨c, hIx c s X Y row hc hg' (walkRow hr), stay hg' (fun r e => ⟨by have := (hr r e).1; omega, (hr r e).2⟩) hl rfl, stay hg' (fun r e => ⟨by have := (hr r e).1; omega, (hr r e).2⟩) hk rfl⟩)
    (fun s X v hs => ⟨hIB s X v hs.1, atB v (by omega) hs.2.1, atB v (Nat.le_refl _) hs.2.2⟩)
    ?_ ⟨hI1, hL1, hK1⟩).mono ?_
  · rintro pre x W ⟨hi, hl, hk⟩ hlen
    have hlt : w.heap.size + 1 < W.heap.size := (Array.getElem?_eq_some_iff.1 hl).1
    have hy := run_yield (P := P) (args := encs x) hl (by rw [hrec]; exact hps x)
    rw [hrec] at hy
    refine ⟨fn, _, assign, body, hy, roundIn_of_wpIn hfn (hassign _ x W _ ⟨_, run_beginRound hl (by rw [hrec]), ?_⟩)⟩
    obtain ⟨Wb, hWb⟩ : ∃ Wb, W.putObj (w.heap.size + 1) (.loop { rec .ready none with state := .busy }) = Wb := ⟨_, rfl⟩
    have hl2 : Wb.heap[w.heap.size + 1]? = some (.loop { rec .ready none with state := .busy }) := by rw [← hWb]; exact World.putObj_heap_same hlt
    have hk2 : Wb.heap[w.heap.size]? = some (.deferred (some [])) := by rw [← hWb]; exact (World.putObj_heap_other (by omega)).trans hk
    have hw2 : Kp W Wb := by rw [← hWb]; exact hKb _ _ _ _ (by omega) hl rfl rfl
    have hi2 : I pre Wb := by rw [← hWb]; exact hI.putObj _ hi (by omega) hl rfl
    rw [hWb]
    refine wpIn_mono (hbody _ pre x _ hi2 hlen) ?_
    have fin : ∀ (jump : Option Code) (W3 : World), KeepsFrom w.heap.size Wb W3 →
        (Instr.endRound (w.heap.size + 1) jump).run P W3 = .ok (.bool jump.isNone) (W3.putObj (w.heap.size + 1) (.loop (rec (if jump.isNone then .ready else .done) jump))) ∧
        W3.heap[w.heap.size + 1]? = some (.loop { rec .ready none with state := .busy }) ∧
        (W3.putObj (w.heap.size + 1) (.loop (rec (if jump.isNone then .ready else .done) jump))).heap[w.heap.size + 1]? = some (.loop (rec (if jump.isNone then .ready else .done) jump)) ∧
        (W3.putObj (w.heap.size + 1) (.loop (rec (if jump.isNone then .ready else .done) jump))).heap[w.heap.size]? = some (.deferred (some [])) := fun jump W3 hk3 => by
      have hl3 := hk3.same _ _ (by omega) hl2 rfl
      have := run_endRound (P := P) jump hl3
      rw [hrec] at this ⊢
      exact ⟨this, by rw [hrec] at hl3; exact hl3, World.putObj_heap_same (Array.getElem?_eq_some_iff.1 hl3).1, (World.putObj_heap_other (by omega)).trans (hk3.same _ _ (Nat.le_refl _) hk2 rfl)⟩
    rintro e a3 W3 hp
    cases e with
    | normal =>
      obtain ⟨hk3, hkp3, hi3⟩ := hp
      obtain ⟨hr, hl3, hl4, hk4⟩ := fin none W3 hk3
      exact ⟨_, _, hr, .inl ⟨rfl, ⟨hI.putObj _ hi3 (by omega) hl3 rfl, hl4, hk4⟩, hKt (hKt hw2 hkp3) (hKb _ _ _ _ (by omega) hl3 rfl rfl)⟩⟩
    | ret =>
      obtain ⟨hr, hl3, hl4, hk4⟩ := fin (some .ret) W3 hp.1
      exact ⟨_, _, hr, .inr ⟨rfl, .ret, (hIx _).putObj _ hp.2 (by omega) hl3 rfl, hl4, hk4⟩⟩
    | exit id =>
      obtain ⟨hr, hl3, hl4, hk4⟩ := fin (some (.exit id)) W3 hp.1
      exact ⟨_, _, hr, .inr ⟨rfl, .exit id, (hIx _).putObj _ hp.2 (by omega) hl3 rfl, hl4, hk4⟩⟩
    | goto t =>
      obtain ⟨hr, hl3, hl4, hk4⟩ := fin (some (.goto t)) W3 hp.1
      exact ⟨_, _, hr, .inr ⟨rfl, .goto t, (hIx _).putObj _ hp.2 (by omega) hl3 rfl, hl4, hk4⟩⟩
    | panic ch => exact hp.elim
    | outgrown => exact hp.elim
  · rintro e W2 ⟨⟨v, rfl⟩, (⟨hi, hl, hk⟩ | ⟨pre, hSp, c, hi, hl, hk⟩)⟩
    · exact ⟨none, _, by have := run_endLoop (P := P) hl (by rw [hrec]; simp); rw [hrec] at this; exact this, hdone _ _ (Nat.le_refl _) (hI.putObj _ hi (by omega) hl rfl) ((World.putObj_heap_other (by omega)).trans hk)⟩
    · exact ⟨some c, _, by have := run_endLoop (P := P) hl (by rw [hrec]; simp); rw [hrec] at this; exact this, hstop _ c pre _ (Nat.le_refl _) hSp ((hIx c).putObj _ hi (by omega) hl rfl) ((World.putObj_heap_other (by omega)).trans hk)⟩
end Go.Proofs.YtdmbhoagjjkogaaGreatDoor

namespace Go.Proofs.YtdmbhoagjjkogaaGreatDoor
open Go.RowKit
set_option linter.unusedVariables false
set_option linter.unusedSimpArgs false
def HasErr (W : World) : Prop := (∃ ev, W.cell? ⟨3, 0, none⟩ = some ev ∧ (ev = .nilIface ∨ ∃ te pe, ev = .iface te pe)) ∧ (∃ ev, W.cell? ⟨4, 0, none⟩ = some ev ∧ (ev = .nilIface ∨ ∃ te pe, ev = .iface te pe))
theorem HasErr.grow {w w' : World} (h : HasErr w) (g : G w w') : HasErr w' := by
  obtain ⟨⟨e1, h1, k1⟩, ⟨e2, h2, k2⟩⟩ := h
  exact ⟨⟨e1, (g.cell (World.block_lt_of_cell? _ _ h1)).trans h1, k1⟩, ⟨e2, (g.cell (World.block_lt_of_cell? _ _ h2)).trans h2, k2⟩⟩
theorem S_list (s : List UInt8) : (S s).data.toList = s := by simp [S]
theorem atoi_ok (s : List UInt8) (n : Int) (w : World) (hs : s.length ≤ 1000000) (h : Lib.atoiAll s = .ok n) : Gives 46 #[.string (S s)] w (.tuple #[.int .i64 n, .nilIface]) := by
  refine (Tryz.strconv_Atoi_ok (S s) (by simp; omega) n (by rw [S_list]; exact h) w).mono ?_
  rintro e w' ⟨rfl, hw⟩
  refine ⟨rfl, ?_⟩
  rcases hw with rfl | ⟨t, rfl⟩
  · exact G.refl _
  · exact Lib.bytesWorld_below _ _ _
theorem atoi_digit1 : ∀ n : Nat, n < 10 → Lib.atoiAll [UInt8.ofNat (48 + n)] = .ok (n : Int) := by
  intro n hn
  have : n = 0 ∨ n = 1 ∨ n = 2 ∨ n = 3 ∨ n = 4 ∨ n = 5 ∨ n = 6 ∨ n = 7 ∨ n = 8 ∨ n = 9 := by omega
  rcases this with rfl | rfl | rfl | rfl | rfl | rfl | rfl | rfl | rfl | rfl <;> rfl
theorem atoi_digit_any (n : Nat) (w : World) (h : n < 10) : Gives 46 #[.string (S [UInt8.ofNat (48 + n)])] w (.tuple #[.int .i64 n, .nilIface]) := atoi_ok _ _ w (by simp) (atoi_digit1 n h)
theorem atoi_no (s : List UInt8) (w : World) (hs : s.length ≤ 1000000) (h : ∀ n, Lib.atoiAll s ≠ .ok n) (hE : HasErr w) : Makes 46 #[.string (S s)] w fun v _ => ∃ (n : Int) (N : Nat), v = .tuple #[.int .i64 n, .iface 173 (.pointer (some ⟨N, 0, none⟩))] := by
  obtain ⟨⟨e1, h1, k1⟩, ⟨e2, h2, k2⟩⟩ := hE
  rcases hc : Lib.atoiAll s with n | _ | _
  · exact absurd hc (h n)
  · refine (Any.strconv_Atoi_syntax Tryz.laysC172 (S s) (by simp; omega) (by rw [S_list]; exact hc) e1 w h1 k1).mono ?_
    rintro e w' ⟨N, rfl, _, _, g⟩
    exact ⟨_, rfl, ⟨_, _, rfl⟩, g⟩
  · refine (Tryz.strconv_Atoi_range (S s) (by simp; omega) (by rw [S_list]; exact hc) e2 w h2 k2).mono ?_
    rintro e w' ⟨N, rfl, _, _, g⟩
    exact ⟨_, rfl, ⟨_, _, rfl⟩, g⟩
theorem itoa_any (n : Int) (w : World) (h0 : -9223372036854775808 ≤ n) (h1 : n ≤ 9223372036854775807) (htab : Lib.TabIs Tryz.prog w "internal/strconv.uint64pow10" .u64 Lib.pow10Tab) : Gives 82 #[.int .i64 n] w (.string (S (Lib.itoa n))) := by
  refine (Tryz.strconv_Itoa n h0 h1 w htab).mono ?_
  rintro e w' ⟨rfl, k, os, rfl⟩
  exact ⟨rfl, Lib.below_grow _ w (Nat.le_refl _) k os⟩
end Go.Proofs.YtdmbhoagjjkogaaGreatDoor
