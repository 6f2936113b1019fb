/-
  THE TABLES of package rules as entries; CONTRACTS of rules.table, strings.SplitSeq. (written by gen_rules.py)
-/
import Derived.Test.YtpfenaeaegdeaaaDoorSeqSplit
namespace Go.Proofs.YtpfenaeaegdeaaaDoor
open Go.RowKit
set_option linter.unusedVariables false
set_option linter.unusedSimpArgs false

/-- an entry: a property's name, its type, least, most, parts -/
structure Ent where
  name : List UInt8
  ty : Nat
  least : Nat
  most : Nat
  parts : Nat
def Ent.text (e : Ent) : List UInt8 := e.name ++ [32, UInt8.ofNat (48 + e.ty), 32, UInt8.ofNat (48 + e.least), 32, UInt8.ofNat (48 + e.most), 32, UInt8.ofNat (48 + e.parts)]
def oldT : List Ent := [⟨[70, 78], 1, 1, 1, 0⟩, ⟨[78], 3, 1, 1, 5⟩, ⟨[78, 73, 67, 75, 78, 65, 77, 69], 2, 0, 0, 0⟩, ⟨[80, 72, 79, 84, 79], 8, 0, 0, 0⟩, ⟨[66, 68, 65, 89], 5, 0, 1, 0⟩, ⟨[65, 68, 82], 3, 0, 0, 7⟩, ⟨[76, 65, 66, 69, 76], 1, 0, 0, 0⟩, ⟨[84, 69, 76], 1, 0, 0, 0⟩, ⟨[69, 77, 65, 73, 76], 1, 0, 0, 0⟩, ⟨[77, 65, 73, 76, 69, 82], 1, 0, 0, 0⟩, ⟨[84, 90], 6, 0, 1, 0⟩, ⟨[71, 69, 79], 3, 0, 1, 2⟩, ⟨[84, 73, 84, 76, 69], 1, 0, 0, 0⟩, ⟨[82, 79, 76, 69], 1, 0, 0, 0⟩, ⟨[76, 79, 71, 79], 8, 0, 0, 0⟩, ⟨[65, 71, 69, 78, 84], 1, 0, 0, 0⟩, ⟨[79, 82, 71], 3, 0, 0, 0⟩, ⟨[67, 65, 84, 69, 71, 79, 82, 73, 69, 83], 2, 0, 0, 0⟩, ⟨[78, 79, 84, 69], 1, 0, 0, 0⟩, ⟨[80, 82, 79, 68, 73, 68], 1, 0, 1, 0⟩, ⟨[82, 69, 86], 5, 0, 1, 0⟩, ⟨[83, 79, 82, 84, 45, 83, 84, 82, 73, 78, 71], 1, 0, 1, 0⟩, ⟨[83, 79, 85, 78, 68], 8, 0, 0, 0⟩, ⟨[85, 73, 68], 1, 0, 1, 0⟩, ⟨[85, 82, 76], 4, 0, 0, 0⟩, ⟨[67, 76, 65, 83, 83], 1, 0, 1, 0⟩, ⟨[75, 69, 89], 8, 0, 0, 0⟩, ⟨[78, 65, 77, 69], 1, 0, 1, 0⟩, ⟨[83, 79, 85, 82, 67, 69], 4, 0, 0, 0⟩]
def newT : List Ent := [⟨[70, 78], 1, 1, 0, 0⟩, ⟨[78], 3, 0, 1, 5⟩, ⟨[78, 73, 67, 75, 78, 65, 77, 69], 2, 0, 0, 0⟩, ⟨[80, 72, 79, 84, 79], 4, 0, 0, 0⟩, ⟨[66, 68, 65, 89], 5, 0, 1, 0⟩, ⟨[65, 78, 78, 73, 86, 69, 82, 83, 65, 82, 89], 5, 0, 1, 0⟩, ⟨[71, 69, 78, 68, 69, 82], 3, 0, 1, 2⟩, ⟨[65, 68, 82], 3, 0, 0, 7⟩, ⟨[84, 69, 76], 1, 0, 0, 0⟩, ⟨[69, 77, 65, 73, 76], 1, 0, 0, 0⟩, ⟨[73, 77, 80, 80], 4, 0, 0, 0⟩, ⟨[76, 65, 78, 71], 7, 0, 0, 0⟩, ⟨[84, 90], 1, 0, 0, 0⟩, ⟨[71, 69, 79], 4, 0, 0, 0⟩, ⟨[84, 73, 84, 76, 69], 1, 0, 0, 0⟩, ⟨[82, 79, 76, 69], 1, 0, 0, 0⟩, ⟨[76, 79, 71, 79], 4, 0, 0, 0⟩, ⟨[79, 82, 71], 3, 0, 0, 0⟩, ⟨[77, 69, 77, 66, 69, 82], 4, 0, 0, 0⟩, ⟨[82, 69, 76, 65, 84, 69, 68], 4, 0, 0, 0⟩, ⟨[67, 65, 84, 69, 71, 79, 82, 73, 69, 83], 2, 0, 0, 0⟩, ⟨[78, 79, 84, 69], 1, 0, 0, 0⟩, ⟨[80, 82, 79, 68, 73, 68], 1, 0, 1, 0⟩, ⟨[82, 69, 86], 5, 0, 1, 0⟩, ⟨[83, 79, 85, 78, 68], 4, 0, 0, 0⟩, ⟨[85, 73, 68], 4, 0, 1, 0⟩, ⟨[85, 82, 76], 4, 0, 0, 0⟩, ⟨[75, 73, 78, 68], 1, 0, 1, 0⟩, ⟨[75, 69, 89], 4, 0, 0, 0⟩, ⟨[83, 79, 85, 82, 67, 69], 4, 0, 0, 0⟩]
def tabT (v : Int) : List Ent := if v = 3 then oldT else newT
def textT (T : List Ent) : List UInt8 := match T.map Ent.text with | [] => [] | p :: ps => joinS [124] p ps
/-- what a version knows of a property -/
def ruleOf (T : List Ent) (u : List UInt8) : Int × Int × Int × Int := match T.find? (fun e => e.name == u) with | some e => ((e.ty : Int), (e.least : Int), (e.most : Int), (e.parts : Int)) | none => (8, 0, 0, 0)

set_option maxRecDepth 100000 in
set_option maxHeartbeats 1000000 in
theorem table_any (v : Int) (w : World) : Pure 28 #[.int .i64 v] w (.string (S (textT (tabT v)))) := by
  by_cases h : v = 3
  · subst h
    go_enter Tryd.func28, Tryd.ntmps28
    go_wp2
    go_ret
    exact ⟨by rfl, rfl⟩
  · have ht : tabT v = newT := if_neg h
    rw [ht]
    go_enter Tryd.func28, Tryd.ntmps28
    go_wp2
    go_ret
    exact ⟨by rfl, rfl⟩

set_option maxRecDepth 100000 in
set_option maxHeartbeats 400000 in
theorem splitSeq_any (t sep : List UInt8) (w : World) : Calls Tryd.prog 39 #[.string (S t), .string (S sep), .int .i64 0] w fun e w' => e = .returned (.func (.func 50) #[] #[.pointer (some ⟨w.heap.size + 1, 0, none⟩), .pointer (some ⟨w.heap.size, 0, none⟩), .pointer (some ⟨w.heap.size + 2, 0, none⟩)]) ∧
    w' = ((w.alloc (.cells #[.string (S t)] 9)).alloc (.cells #[.string (S sep)] 9)).alloc (.cells #[.int .i64 0] 3) := by
  have hmf : ∀ (fn : Fn) (first cap : Array Value) (w : World), (Instr.makeFunc fn first cap).run Tryd.prog w = .ok (.func fn first cap) w := fun _ _ _ _ => rfl
  go_enter Tryd.func39, Tryd.ntmps39
  go_wp2
  go_ret
  exact ⟨by simp, rfl⟩
set_option maxRecDepth 100000 in
set_option maxHeartbeats 400000 in
theorem SplitSeq_any (t sep : List UInt8) (w : World) : Calls Tryd.prog 27 #[.string (S t), .string (S sep)] w fun e w' => e = .returned (.func (.func 50) #[] #[.pointer (some ⟨w.heap.size + 1, 0, none⟩), .pointer (some ⟨w.heap.size, 0, none⟩), .pointer (some ⟨w.heap.size + 2, 0, none⟩)]) ∧
    w' = ((w.alloc (.cells #[.string (S t)] 9)).alloc (.cells #[.string (S sep)] 9)).alloc (.cells #[.int .i64 0] 3) := by
  go_enter Tryd.func27, Tryd.ntmps27
  go_wp2_with (go_at_call 39; refine (splitSeq_any t sep _).mono ?_; rintro e w' ⟨rfl, rfl⟩)
  go_ret
  exact ⟨rfl, rfl⟩

end Go.Proofs.YtpfenaeaegdeaaaDoor
