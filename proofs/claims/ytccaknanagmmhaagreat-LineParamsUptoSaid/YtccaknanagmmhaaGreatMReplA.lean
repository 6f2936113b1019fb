/-
  Texts merged into one: ReplPlain, ReplLen, Once.
-/
import Derived.Test.YtccaknanagmmhaaGreatBase
import Derived.Defers
import Derived.Laws.Pointers
import Derived.Laws.LoneSync
import Derived.RegionTactic
import Derived.RegionCalls
import Derived.ChangeAlike
namespace Go.Proofs.YtccaknanagmmhaaGreat
open Go.RowKit
set_option linter.unusedVariables false
set_option linter.unusedSimpArgs false

/-- each byte that has a replacement is replaced -/
def rep1 (f : UInt8 → Option (List UInt8)) (c : UInt8) : List UInt8 := (f c).getD [c]
def replL (f : UInt8 → Option (List UInt8)) (s : List UInt8) : List UInt8 := s.flatMap (rep1 f)
theorem replL_append (f : UInt8 → Option (List UInt8)) (a b : List UInt8) : replL f (a ++ b) = replL f a ++ replL f b := by simp [replL]
theorem replL_cons (f : UInt8 → Option (List UInt8)) (c : UInt8) (t : List UInt8) : replL f (c :: t) = rep1 f c ++ replL f t := by simp [replL]

/-! ## carets -/
def caretF (c : UInt8) : Option (List UInt8) := if c = 94 then some [94, 94] else if c = 10 then some [94, 110] else if c = 34 then some [94, 39] else none
def encL (s : List UInt8) : List UInt8 := replL caretF s
def decC : List UInt8 → List UInt8
  | 94 :: 94 :: t => 94 :: decC t
  | 94 :: 110 :: t => 10 :: decC t
  | 94 :: 39 :: t => 34 :: decC t
  | c :: t => c :: decC t
  | [] => []
theorem dec_enc (s : List UInt8) : decC (encL s) = s := by
  induction s with
  | nil => rfl
  | cons c t ih =>
    show decC (rep1 caretF c ++ encL t) = _
    by_cases h1 : c = 94
    · subst h1; show 94 :: decC (encL t) = _; rw [ih]
    by_cases h2 : c = 10
    · subst h2; show 10 :: decC (encL t) = _; rw [ih]
    by_cases h3 : c = 34
    · subst h3; show 34 :: decC (encL t) = _; rw [ih]
    have e : rep1 caretF c = [c] := by unfold rep1 caretF; rw [if_neg h1, if_neg h2, if_neg h3]; rfl
    rw [e]
    show decC (c :: encL t) = _
    rw [decC.eq_4 _ _ (by intro u hu _; exact h1 hu) (by intro u hu _; exact h1 hu) (by intro u hu _; exact h1 hu), ih]
theorem enc_clean (s : List UInt8) : (34 : UInt8) ∉ encL s ∧ (10 : UInt8) ∉ encL s := by
  have h : ∀ c : UInt8, (34 : UInt8) ∉ rep1 caretF c ∧ (10 : UInt8) ∉ rep1 caretF c := fun c => of_decide_eq_true (byte_all (fun c => decide ((34 : UInt8) ∉ rep1 caretF c ∧ (10 : UInt8) ∉ rep1 caretF c)) (by decide +kernel) c)
  unfold encL replL
  constructor
  · intro hm; obtain ⟨c, _, hc⟩ := List.mem_flatMap.1 hm; exact (h c).1 hc
  · intro hm; obtain ⟨c, _, hc⟩ := List.mem_flatMap.1 hm; exact (h c).2 hc
theorem enc_len (s : List UInt8) : s.length ≤ (encL s).length ∧ (encL s).length ≤ 2 * s.length := by
  have h : ∀ c : UInt8, 1 ≤ (rep1 caretF c).length ∧ (rep1 caretF c).length ≤ 2 := fun c => of_decide_eq_true (byte_all (fun c => decide (1 ≤ (rep1 caretF c).length ∧ (rep1 caretF c).length ≤ 2)) (by decide +kernel) c)
  induction s with
  | nil => exact ⟨Nat.le_refl _, Nat.le_refl _⟩
  | cons c t ih =>
    have := h c
    show (c :: t).length ≤ (rep1 caretF c ++ encL t).length ∧ (rep1 caretF c ++ encL t).length ≤ _
    simp only [List.length_append, List.length_cons]
    omega

/-! ## escapes -/
def escF (c : UInt8) : Option (List UInt8) := if c = 92 then some [92, 92] else if c = 44 then some [92, 44] else if c = 59 then some [92, 59] else if c = 10 then some [92, 110] else none
def escL (s : List UInt8) : List UInt8 := replL escF s
/-- how many bytes need an escape -/
def needL (s : List UInt8) : Nat := (s.filter fun c => ([92, 44, 59, 10] : List UInt8).contains c).length
theorem esc_len (s : List UInt8) : (escL s).length = s.length + needL s := by
  have h : ∀ c : UInt8, (rep1 escF c).length = 1 + if ([92, 44, 59, 10] : List UInt8).contains c = true then 1 else 0 := fun c => of_decide_eq_true (byte_all (fun c => decide ((rep1 escF c).length = 1 + if ([92, 44, 59, 10] : List UInt8).contains c = true then 1 else 0)) (by decide +kernel) c)
  induction s with
  | nil => rfl
  | cons c t ih =>
    have e : (escL (c :: t)).length = (rep1 escF c).length + (escL t).length := by
      show (rep1 escF c ++ escL t).length = _
      rw [List.length_append]
    rw [e, h, ih]
    unfold needL
    rw [List.filter_cons]
    split <;> simp <;> omega
theorem esc_no10 (s : List UInt8) : (10 : UInt8) ∉ escL s := by
  have h : ∀ c : UInt8, (10 : UInt8) ∉ rep1 escF c := fun c => of_decide_eq_true (byte_all (fun c => decide ((10 : UInt8) ∉ rep1 escF c)) (by decide +kernel) c)
  intro hm; obtain ⟨c, _, hc⟩ := List.mem_flatMap.1 hm; exact h c hc

/-! ## pieces -/
inductive PiecesR where
  | good (texts : List (List UInt8)) (cuts : List UInt8)
  | bad (code : Int) (place : Nat)
/-- what stands behind a backslash -/
def unescB (c : UInt8) : Option UInt8 := if c = 92 ∨ c = 44 ∨ c = 59 then some c else if c = 110 ∨ c = 78 then some 10 else none
def piecesGo (at_ : List UInt8) : List UInt8 → Nat → List UInt8 → List (List UInt8) → List UInt8 → PiecesR
  | [], _, cur, texts, cuts => .good (texts ++ [cur]) cuts
  | [c], k, cur, texts, cuts => if c = 92 then .bad 7 (k + 1) else if at_.contains c = true then .good (texts ++ [cur] ++ [[]]) (cuts ++ [c]) else .good (texts ++ [cur ++ [c]]) cuts
  | c :: d :: t, k, cur, texts, cuts =>
    if c = 92 then
      match unescB d with
      | some x => piecesGo at_ t (k + 2) (cur ++ [x]) texts cuts
      | none => .bad 3 (k + 1)
    else if at_.contains c = true then piecesGo at_ (d :: t) (k + 1) [] (texts ++ [cur]) (cuts ++ [c])
    else piecesGo at_ (d :: t) (k + 1) (cur ++ [c]) texts cuts
theorem pieces_nil (a : List UInt8) (k : Nat) (cur : List UInt8) (ts : List (List UInt8)) (cs : List UInt8) : piecesGo a [] k cur ts cs = .good (ts ++ [cur]) cs := rfl
theorem pieces_end (a : List UInt8) (k : Nat) (cur : List UInt8) (ts : List (List UInt8)) (cs : List UInt8) : piecesGo a [92] k cur ts cs = .bad 7 (k + 1) := rfl
theorem pieces_esc {a : List UInt8} {d x : UInt8} {t : List UInt8} {k : Nat} {cur : List UInt8} {ts : List (List UInt8)} {cs : List UInt8} (h : unescB d = some x) : piecesGo a (92 :: d :: t) k cur ts cs = piecesGo a t (k + 2) (cur ++ [x]) ts cs := by
  show (if (92 : UInt8) = 92 then _ else _) = _
  rw [if_pos rfl, h]
theorem pieces_none {a : List UInt8} {d : UInt8} {t : List UInt8} {k : Nat} {cur : List UInt8} {ts : List (List UInt8)} {cs : List UInt8} (h : unescB d = none) : piecesGo a (92 :: d :: t) k cur ts cs = .bad 3 (k + 1) := by
  show (if (92 : UInt8) = 92 then _ else _) = _
  rw [if_pos rfl, h]
theorem pieces_cut {a : List UInt8} {c : UInt8} {t : List UInt8} {k : Nat} {cur : List UInt8} {ts : List (List UInt8)} {cs : List UInt8} (h1 : c ≠ 92) (h2 : a.contains c = true) : piecesGo a (c :: t) k cur ts cs = piecesGo a t (k + 1) [] (ts ++ [cur]) (cs ++ [c]) := by
  cases t with
  | nil => show (if c = 92 then _ else _) = _; rw [if_neg h1, if_pos h2]; rfl
  | cons d t => show (if c = 92 then _ else _) = _; rw [if_neg h1, if_pos h2]
theorem pieces_one {a : List UInt8} {c : UInt8} {t : List UInt8} {k : Nat} {cur : List UInt8} {ts : List (List UInt8)} {cs : List UInt8} (h1 : c ≠ 92) (h2 : a.contains c = false) : piecesGo a (c :: t) k cur ts cs = piecesGo a t (k + 1) (cur ++ [c]) ts cs := by
  cases t with
  | nil => show (if c = 92 then _ else _) = _; rw [if_neg h1, if_neg (by simpa using h2)]; rfl
  | cons d t => show (if c = 92 then _ else _) = _; rw [if_neg h1, if_neg (by simpa using h2)]
/-- a byte as it is escaped -/
theorem esc_cases (c : UInt8) : (∃ d, rep1 escF c = [92, d] ∧ unescB d = some c) ∨ (rep1 escF c = [c] ∧ c ≠ 92 ∧ c ≠ 44 ∧ c ≠ 59) := by
  by_cases h1 : c = 92
  · subst h1; exact .inl ⟨92, rfl, rfl⟩
  by_cases h2 : c = 44
  · subst h2; exact .inl ⟨44, rfl, rfl⟩
  by_cases h3 : c = 59
  · subst h3; exact .inl ⟨59, rfl, rfl⟩
  by_cases h4 : c = 10
  · subst h4; exact .inl ⟨110, rfl, rfl⟩
  · right
    refine ⟨?_, h1, h2, h3⟩
    unfold rep1 escF
    rw [if_neg h1, if_neg h2, if_neg h3, if_neg h4]; rfl
/-- what is escaped adds itself to the text that is read -/
theorem pieces_escL (a : List UInt8) (ha : ∀ c ∈ a, c = 44 ∨ c = 59) (s : List UInt8) : ∀ (r : List UInt8) (k : Nat) (cur : List UInt8) (ts : List (List UInt8)) (cs : List UInt8), piecesGo a (escL s ++ r) k cur ts cs = piecesGo a r (k + (escL s).length) (cur ++ s) ts cs := by
  induction s with
  | nil => intro r k cur ts cs; simp [escL, replL]
  | cons c t ih =>
    intro r k cur ts cs
    have e : escL (c :: t) = rep1 escF c ++ escL t := rfl
    rcases esc_cases c with ⟨d, h1, h2⟩ | ⟨h1, h2, h3, h4⟩
    · rw [e, h1]
      show piecesGo a (92 :: d :: (escL t ++ r)) k cur ts cs = _
      rw [pieces_esc h2, ih]
      simp; congr 1; omega
    · rw [e, h1]
      show piecesGo a (c :: (escL t ++ r)) k cur ts cs = _
      rw [pieces_one h2 (by
        cases hc : a.contains c with
        | false => rfl
        | true => rcases ha c (by simpa using hc) with h | h; exact absurd h h3; exact absurd h h4), ih]
      simp; congr 1; omega

end Go.Proofs.YtccaknanagmmhaaGreat

namespace Go.Proofs.YtccaknanagmmhaaGreat
open Go.RowKit
set_option linter.unusedVariables false
set_option linter.unusedSimpArgs false

/-- the bytes that are replaced, each once -/
structure Keyed1 (f : UInt8 → Option (List UInt8)) (keys : List UInt8) : Prop where
  nodup : keys.Nodup
  iff : ∀ c, f c = none ↔ c ∉ keys
  pos : ∀ c l, f c = some l → 1 ≤ l.length
  small : ∀ c l, f c = some l → l.length ≤ 10
def grow1 (f : UInt8 → Option (List UInt8)) (c : UInt8) : Nat := (rep1 f c).length - 1
/-- how much the keys add, so many of them -/
def addK (f : UInt8 → Option (List UInt8)) (s : List UInt8) (keys : List UInt8) : Nat := (keys.map fun k => s.count k * grow1 f k).sum
theorem addK_cons (f : UInt8 → Option (List UInt8)) (c : UInt8) (t : List UInt8) (keys : List UInt8) (hn : keys.Nodup) : addK f (c :: t) keys = addK f t keys + if c ∈ keys then grow1 f c else 0 := by
  induction keys with
  | nil => simp [addK]
  | cons k ks ih =>
    obtain ⟨h1, h2⟩ := List.nodup_cons.1 hn
    have ih := ih h2
    have e : ∀ l, addK f l (k :: ks) = l.count k * grow1 f k + addK f l ks := fun l => by simp [addK]
    rw [e, e, ih, List.count_cons]
    by_cases hc : c = k
    · subst hc
      simp [h1, Nat.add_mul]; omega
    · have hck : (c == k) = false := beq_eq_false_iff_ne.2 hc
      simp [hc, hck]
      omega
theorem repl_len {f : UInt8 → Option (List UInt8)} {keys : List UInt8} (h : Keyed1 f keys) (s : List UInt8) : (replL f s).length = s.length + addK f s keys := by
  induction s with
  | nil =>
    have h0 : ∀ l : List UInt8, (l.map fun _ => 0).sum = 0 := fun l => by induction l with
      | nil => rfl
      | cons _ _ ih => simpa using ih
    simp [replL, addK, h0]
  | cons c t ih =>
    rw [replL_cons, List.length_append, ih, addK_cons f c t keys h.nodup]
    have hr : (rep1 f c).length = 1 + if c ∈ keys then grow1 f c else 0 := by
      unfold grow1
      by_cases hc : c ∈ keys
      · rw [if_pos hc]
        cases hf : f c with
        | none => exact absurd hc ((h.iff c).1 hf)
        | some l =>
          have := h.pos c l hf
          simp [rep1, hf]; omega
      · rw [if_neg hc]
        have := (h.iff c).2 hc
        simp [rep1, this]
    rw [hr]; simp; omega
/-- nothing is replaced -/
theorem repl_same {f : UInt8 → Option (List UInt8)} (s : List UInt8) (h : ∀ c ∈ s, f c = none) : replL f s = s := by
  induction s with
  | nil => rfl
  | cons c t ih =>
    rw [replL_cons, ih fun d hd => h d (List.mem_cons_of_mem _ hd)]
    simp [rep1, h c List.mem_cons_self]
theorem repl_snoc (f : UInt8 → Option (List UInt8)) (s : List UInt8) (k : Nat) (h : k < s.length) : replL f (s.take (k + 1)) = replL f (s.take k) ++ rep1 f s[k] := by
  rw [List.take_succ_eq_append_getElem h, replL_append]; simp [replL]
theorem repl_le {f : UInt8 → Option (List UInt8)} {keys : List UInt8} (h : Keyed1 f keys) (s : List UInt8) : s.length ≤ (replL f s).length ∧ (replL f s).length ≤ 10 * s.length := by
  have h1 : ∀ c, 1 ≤ (rep1 f c).length ∧ (rep1 f c).length ≤ 10 := by
    intro c
    cases hf : f c with
    | none => simp [rep1, hf]
    | some l => have := h.pos c l hf; have := h.small c l hf; simp [rep1, hf]; omega
  induction s with
  | nil => simp [replL]
  | cons c t ih =>
    have := h1 c
    rw [replL_cons]; simp only [List.length_append, List.length_cons]; omega
theorem repl_take_le (f : UInt8 → Option (List UInt8)) (s : List UInt8) (k : Nat) : (replL f (s.take k)).length ≤ (replL f s).length := by
  conv => rhs; rw [← List.take_append_drop k s, replL_append]
  simp
theorem caret_keyed : Keyed1 caretF [34, 10, 94] := by
  refine ⟨by decide, fun c => ?_, fun c l h => ?_, fun c l h => ?_⟩
  · exact of_decide_eq_true (byte_all (fun c => decide (caretF c = none ↔ c ∉ ([34, 10, 94] : List UInt8))) (by decide +kernel) c)
  · unfold caretF at h; repeat' split at h
    all_goals first | (injection h with h; subst h; decide) | cases h
  · unfold caretF at h; repeat' split at h
    all_goals first | (injection h with h; subst h; decide) | cases h
theorem esc_keyed : Keyed1 escF [10, 59, 44, 92] := by
  refine ⟨by decide, fun c => ?_, fun c l h => ?_, fun c l h => ?_⟩
  · exact of_decide_eq_true (byte_all (fun c => decide (escF c = none ↔ c ∉ ([10, 59, 44, 92] : List UInt8))) (by decide +kernel) c)
  · unfold escF at h; repeat' split at h
    all_goals first | (injection h with h; subst h; decide) | cases h
  · unfold escF at h; repeat' split at h
    all_goals first | (injection h with h; subst h; decide) | cases h

end Go.Proofs.YtccaknanagmmhaaGreat

namespace Go.Proofs.YtccaknanagmmhaaGreat
open Go.RowKit
set_option linter.unusedVariables false
set_option linter.unusedSimpArgs false

theorem race_disable (w : World) : (callFunc 79 #[]).run Tryz.prog w = .ok (.value (.tuple #[])) w := run_call_mark0 Tryz.func79 (by kernel_rfl) (by kernel_rfl) (by kernel_rfl) .disable (by kernel_rfl) w
theorem race_enable (w : World) : (callFunc 81 #[]).run Tryz.prog w = .ok (.value (.tuple #[])) w := run_call_mark0 Tryz.func81 (by kernel_rfl) (by kernel_rfl) (by kernel_rfl) .enable (by kernel_rfl) w
theorem race_acquire (a : Addr) (w : World) : (callFunc 82 #[.pointer (some a)]).run Tryz.prog w = .ok (.value (.tuple #[])) w := run_call_marked Tryz.func82 (by kernel_rfl) (by kernel_rfl) (by kernel_rfl) .acquire (by kernel_rfl) a w
theorem race_releaseMerge (a : Addr) (w : World) : (callFunc 84 #[.pointer (some a)]).run Tryz.prog w = .ok (.value (.tuple #[])) w := run_call_marked Tryz.func84 (by kernel_rfl) (by kernel_rfl) (by kernel_rfl) .releaseMerge (by kernel_rfl) a w

set_option maxRecDepth 100000 in
set_option maxHeartbeats 1600000 in
theorem store_deferred (a : Addr) (x : Value) (u : FrameMode) (w : World) (hc : w.cell? a = some x) (hz : w.frozen? a = false) :
    CallsD Tryz.prog 70 #[.pointer (some a), .bool true] u w fun e u' w' => u' = u ∧ (e = .returned (.tuple #[]) ∧ w' = w.drew.setCell a (.int .u32 1)) := by
  have hc' : w.drew.cell? a = some x := by go_simp
  have hz' : w.drew.frozen? a = false := by go_simp
  have hst := run_call_store (P := Tryz.prog) Tryz.func75 (by kernel_rfl) (by kernel_rfl) (by kernel_rfl) (by kernel_rfl) (k := .u32) (y := 1) hc' hz'
  go_enter_d Tryz.func70, Tryz.ntmps70
  go_wp2
  go_region_calls
  all_goals (go_end0; exact ⟨rfl, rfl⟩)

set_option maxRecDepth 100000 in
set_option maxHeartbeats 1600000 in
theorem unlock_deferred (a : Addr) (u : FrameMode) (w : World) (hc : w.cell? a = some (.int .i32 1)) (hz : w.frozen? a = false) :
    CallsD Tryz.prog 69 #[.pointer (some a)] u w fun e u' w' => u' = u ∧ (e = .returned (.tuple #[]) ∧ w' = w.setCell a (.int .i32 0)) := by
  have hd := race_disable
  have he := race_enable
  have hr := race_releaseMerge
  have hadd := run_call_add (P := Tryz.prog) Tryz.func85 (by kernel_rfl) (by kernel_rfl) (by kernel_rfl) .i32 (by kernel_rfl) (y := -1) (s := 0) hc hz (by simp [go_sem]; rfl)
  have hcv := run_convert_to_unsafe (P := Tryz.prog) (src := 143) (dst := 90) Tryz.underlying143 Tryz.underlying90 (by kernel_rfl) hc
  go_enter_d Tryz.func69, Tryz.ntmps69
  go_wp2
  go_end0
  go_wp2
  go_end0
  exact ⟨rfl, rfl⟩

set_option maxRecDepth 100000 in
set_option maxHeartbeats 1600000 in
theorem lock_free (a : Addr) (w : World) (hc : w.cell? a = some (.int .i32 0)) (hz : w.frozen? a = false) :
    Calls Tryz.prog 68 #[.pointer (some a)] w fun e w' => e = .returned (.tuple #[]) ∧ w' = w.setCell a (.int .i32 1) := by
  have hd := race_disable
  have he := race_enable
  have ha := race_acquire
  have hcas := run_call_cas_hit (P := Tryz.prog) Tryz.func80 (by kernel_rfl) (by kernel_rfl) (by kernel_rfl) .i32 (by kernel_rfl) (y := 1) hc hz
  have hc' : (w.setCell a (.int .i32 1)).cell? a = some (.int .i32 1) := World.cell?_setCell_same w a _ hc
  have hcv := run_convert_to_unsafe (P := Tryz.prog) (src := 143) (dst := 90) Tryz.underlying143 Tryz.underlying90 (by kernel_rfl) hc'
  go_enter Tryz.func68, Tryz.ntmps68
  go_wp2
  first | go_end0 | (simp only [Exit.inBlock, Exit.then]; refine bodyPost_ret (results_none rfl _ _ _) rfl ?_) | refine bodyPost_ret (results_none rfl _ _ _) rfl ?_
  go_wp2
  go_end0
  exact ⟨rfl, rfl⟩

set_option maxRecDepth 100000 in
set_option maxHeartbeats 1600000 in
theorem boolLoad_zero (a : Addr) (w : World) (h : w.cell? a = some (.int .u32 0)) : Pure 63 #[.pointer (some a)] w (.bool false) := by
  have hl := run_call_load (P := Tryz.prog) Tryz.func67 (by kernel_rfl) (by kernel_rfl) (by kernel_rfl) .u32 (by kernel_rfl) h
  go_enter Tryz.func63, Tryz.ntmps63
  go_wp2
  go_ret
  exact ⟨rfl, rfl⟩

/-- what a function does that a once calls: the once's two cells stay as they are -/
def Onced (w : World) (b off : Nat) (e : Ending) (w' : World) (R : World → Prop) : Prop :=
  e = .returned (.tuple #[]) ∧ R w' ∧ w'.cell? ⟨b, off, none⟩ = some (.int .u32 0) ∧ w'.frozen? ⟨b, off, none⟩ = false ∧ w'.cell? ⟨b, off + 1, none⟩ = some (.int .i32 1) ∧ w'.frozen? ⟨b, off + 1, none⟩ = false

set_option maxRecDepth 100000 in
set_option maxHeartbeats 4000000 in
theorem slow_any (p : Value) (b off : Nat) (w : World) (R : World → Prop)
    (h0 : w.cell? ⟨b, off, none⟩ = some (.int .u32 0)) (h1 : w.cell? ⟨b, off + 1, none⟩ = some (.int .i32 0)) (f0 : w.frozen? ⟨b, off, none⟩ = false) (f1 : w.frozen? ⟨b, off + 1, none⟩ = false)
    (hf : Calls Tryz.prog 56 #[p] (w.setCell ⟨b, off + 1, none⟩ (.int .i32 1)) fun e w' => Onced w b off e w' R) :
    Calls Tryz.prog 64 #[.pointer (some ⟨b, off, none⟩), .func (.func 56) #[p] #[]] w fun e w' => e = .returned (.tuple #[]) ∧ ∃ w1, R w1 ∧ w' = (w1.drew.setCell ⟨b, off, none⟩ (.int .u32 1)).setCell ⟨b, off + 1, none⟩ (.int .i32 0) := by
  have l0 : (w.setCell ⟨b, off + 1, none⟩ (.int .i32 1)).cell? ⟨b, off, none⟩ = some (.int .u32 0) := (World.cell?_setCell_other _ ⟨b, off + 1, none⟩ ⟨b, off, none⟩ _ (by simp)).trans h0
  have hnot : ∀ (x : Bool) (w : World), (Op.unary .not (.bool x)).run Tryz.prog w = .ok (.bool (!x)) w := fun _ _ => rfl
  go_enter_defers Tryz.func64, Tryz.ntmps64
  go_wp2_with (go_at_call 68; refine (lock_free ⟨b, off + 1, none⟩ _ (by go_simp) (by go_simp)).mono ?_; rintro e w' ⟨rfl, rfl⟩)
  refine (boolLoad_zero ⟨b, off, none⟩ _ l0).use ?_
  go_wp2_with fail
  refine Calls.mono hf ?_
  rintro e w1 ⟨rfl, hr, a0, z0, a1, z1⟩
  go_wp2_with fail
  refine leaves_cons (f := 70) (args := #[.pointer (some ⟨b, off, none⟩), .bool true]) (by simp) (by simp [go_sem]) ?_
  refine (store_deferred ⟨b, off, none⟩ (.int .u32 0) .returning _ a0 z0).mono ?_
  rintro e u' w2 ⟨rfl, rfl, rfl⟩
  refine leaves_cons (f := 69) (args := #[.pointer (some ⟨b, off + 1, none⟩)]) (by simp [settle]) (by simp [go_sem]) ?_
  refine (unlock_deferred ⟨b, off + 1, none⟩ _ _ ?_ (by simp [z1])).mono ?_
  · refine (World.cell?_setCell_other _ ⟨b, off, none⟩ ⟨b, off + 1, none⟩ _ (by simp)).trans ?_
    rw [World.cell?_drew]
    exact a1
  rintro e u' w2 ⟨rfl, rfl, rfl⟩
  simp [Leaves, settle, results, Tryz.results64]
  exact ⟨w1, hr, rfl⟩

set_option maxRecDepth 100000 in
set_option maxHeartbeats 4000000 in
theorem onceDo_any (p : Value) (b off : Nat) (w : World) (R : World → Prop)
    (h0 : w.cell? ⟨b, off, none⟩ = some (.int .u32 0)) (h1 : w.cell? ⟨b, off + 1, none⟩ = some (.int .i32 0)) (f0 : w.frozen? ⟨b, off, none⟩ = false) (f1 : w.frozen? ⟨b, off + 1, none⟩ = false)
    (hf : Calls Tryz.prog 56 #[p] (w.setCell ⟨b, off + 1, none⟩ (.int .i32 1)) fun e w' => Onced w b off e w' R) :
    Calls Tryz.prog 55 #[.pointer (some ⟨b, off, none⟩), .func (.func 56) #[p] #[]] w fun e w' => e = .returned (.tuple #[]) ∧ ∃ w1, R w1 ∧ w' = (w1.drew.setCell ⟨b, off, none⟩ (.int .u32 1)).setCell ⟨b, off + 1, none⟩ (.int .i32 0) := by
  have hnot : ∀ (x : Bool) (w : World), (Op.unary .not (.bool x)).run Tryz.prog w = .ok (.bool (!x)) w := fun _ _ => rfl
  go_enter Tryz.func55, Tryz.ntmps55
  go_wp2_with fail
  refine (boolLoad_zero ⟨b, off, none⟩ _ h0).use ?_
  go_wp2_with fail
  refine Calls.mono (slow_any p b off w R h0 h1 f0 f1 hf) ?_
  rintro e w' ⟨rfl, hr⟩
  go_wp2_with fail
  go_end0
  exact ⟨rfl, hr⟩

end Go.Proofs.YtccaknanagmmhaaGreat
