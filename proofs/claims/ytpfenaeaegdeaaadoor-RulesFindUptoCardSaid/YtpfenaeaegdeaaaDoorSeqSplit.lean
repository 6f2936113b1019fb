/-
  CONTRACT of the iterator of strings.SplitSeq at the separator '|' (124): the pieces, in order.
-/
import Derived.Test.YtpfenaeaegdeaaaDoorSeqOwn
import Derived.Test.YtpfenaeaegdeaaaDoorSplit
import Derived.Shelf.Abstract
import Derived.OwnWalkIn
import Derived.TacticsInMore
import Derived.LoopNIn
import Derived.LoopIn
namespace Go.Proofs.YtpfenaeaegdeaaaDoor
open Go.RowKit Go.Shelf
attribute [local go_sem] Oper.semAt_some
set_option linter.unusedVariables false
set_option linter.unusedSimpArgs false

/-- what a round keeps: the three captured cells -/
def KpSeq (Bp B1 Bz : Nat) (W W' : World) : Prop := W'.cell? ⟨Bp, 0, none⟩ = W.cell? ⟨Bp, 0, none⟩ ∧ W'.cell? ⟨B1, 0, none⟩ = W.cell? ⟨B1, 0, none⟩ ∧ W'.cell? ⟨Bz, 0, none⟩ = W.cell? ⟨Bz, 0, none⟩ ∧ W'.frozen? ⟨B1, 0, none⟩ = W.frozen? ⟨B1, 0, none⟩
/-- how much of the text is left -/
def leftSeq (B1 : Nat) (W : World) : Nat := match W.cell? ⟨B1, 0, none⟩ with | some (.string b) => b.size | _ => 0

set_option maxRecDepth 100000 in
set_option maxHeartbeats 2000000 in
theorem seq_in (n l Bp B1 Bz : Nat) (hn : 1 ≤ n) (hpz : ¬ Bp = B1) (hzz : ¬ Bz = B1) (xs : List (List UInt8)) (hx : ∀ q ∈ xs, (124 : UInt8) ∉ q) (p : List UInt8) (ps : List (List UInt8)) (hxs : xs = p :: ps) (hsz : (joinS [124] p ps).length ≤ 1000000)
    (J Jx : List (List UInt8) → World → Prop) (hJB : AbidesAt B1 J)
    (hY : ∀ pre x W1, J pre W1 → pre ++ [x] <+: xs → YieldAt Fence.wide (n - 1) Tryd.prog l #[.string (S x)] W1 fun e W' =>
      (e = .returned (.bool true) ∧ J (pre ++ [x]) W' ∧ KpSeq Bp B1 Bz W1 W') ∨ (e = .returned (.bool false) ∧ Jx (pre ++ [x]) W'))
    (W : World) (c1 : W.cell? ⟨Bp, 0, none⟩ = some (.string (S [124]))) (c2 : W.cell? ⟨B1, 0, none⟩ = some (.string (S (joinS [124] p ps)))) (c3 : W.cell? ⟨Bz, 0, none⟩ = some (.int .i64 0)) (cf : W.frozen? ⟨B1, 0, none⟩ = false) (h0 : J [] W) :
    CallsIn Fence.wide n Tryd.prog 50 #[.func (.yield l) #[] #[], .pointer (some ⟨Bp, 0, none⟩), .pointer (some ⟨B1, 0, none⟩), .pointer (some ⟨Bz, 0, none⟩)] W fun e W' => (∃ v, e = .returned v) ∧ (J xs W' ∨ ∃ pre, pre <+: xs ∧ Jx pre W') := by
  refine callsIn_of_wp Tryd.func50 rfl trivial ?_ rfl
  simp only [Tryd.ntmps50, List.size_toArray, List.length_cons, List.length_nil, Nat.reduceAdd, Nat.reduceSub, Array.replicate_succ, Array.replicate_zero, List.push_toArray, List.append_toArray, List.nil_append, List.cons_append]
  gi_wp2
  gi_loopw [7] (fun _ wr => ∃ (pre : List (List UInt8)) (q : List UInt8) (qs : List (List UInt8)), xs = pre ++ (q :: qs) ∧ wr.cell? ⟨Bp, 0, none⟩ = some (.string (S [124])) ∧ wr.cell? ⟨B1, 0, none⟩ = some (.string (S (joinS [124] q qs))) ∧ wr.cell? ⟨Bz, 0, none⟩ = some (.int .i64 0) ∧ wr.frozen? ⟨B1, 0, none⟩ = false ∧ (joinS [124] q qs).length ≤ 1000000 ∧ J pre wr)
    (fun _ wr => leftSeq B1 wr)
  case atStart => exact ⟨[], p, ps, hxs, c1, c2, c3, cf, hsz, h0⟩
  case round =>
    obtain ⟨pre, q, qs, e, d1, d2, d3, df, dz, hJ⟩ := hrel
    have hq : (124 : UInt8) ∉ q := hx q (by rw [e]; simp)
    have hpl : pre ++ [q] <+: xs := by rw [e]; exact ⟨qs, by simp⟩
    cases qs with
    | nil =>
      simp only [joinS] at d2 dz
      obtain ⟨fn, tmps, assign, body, hy, hR⟩ := hY pre q wr hJ hpl
      have hi : ∀ w, Calls Tryd.prog 52 #[.string (S q), .string (S [124])] w fun e w' => e = .returned (.int .i64 (-1)) ∧ w' = w := fun w => by
        have := Tryd.strings_Index_one (S q) 124 w
        rw [show (S q).data.toList = q from by simp [S], indexByte_none q 124 hq] at this
        exact this
      have HI := hid hi
      clear hi
      gi_wp2_with (refine ⟨trivial, ?_⟩; gi_at_call 52; refine (callsIn_wide.2 (HI.out _)).mono ?_; rintro e w' ⟨rfl, rfl⟩)
      refine hR.mono ?_
      rintro e2 W3 (⟨rfl, hJ3, hk3⟩ | ⟨rfl, hJx3⟩)
      · gi_wp2
        go_end0
        exact ⟨⟨_, rfl⟩, .inl (by rw [e]; exact hJ3)⟩
      · gi_wp2
        go_end0
        exact ⟨⟨_, rfl⟩, .inr ⟨_, by rw [e]; exact List.prefix_refl _, hJx3⟩⟩
    | cons r rs =>
      have dd : joinS [124] q (r :: rs) = q ++ 124 :: joinS [124] r rs := by simp [joinS]
      rw [dd] at d2 dz
      obtain ⟨fn, tmps, assign, body, hy, hR⟩ := hY pre q wr hJ hpl
      have hi : ∀ w, Calls Tryd.prog 52 #[.string (S (q ++ 124 :: joinS [124] r rs)), .string (S [124])] w fun e w' => e = .returned (.int .i64 (q.length : Int)) ∧ w' = w := fun w => by
        have := Tryd.strings_Index_one (S (q ++ 124 :: joinS [124] r rs)) 124 w
        rw [show (S (q ++ 124 :: joinS [124] r rs)).data.toList = q ++ 124 :: joinS [124] r rs from by simp [S], indexByte_some q _ 124 hq] at this
        exact this
      have HI := hid hi
      clear hi
      have hl : q.length + 1 + (joinS [124] r rs).length ≤ 1000000 := by simp only [List.length_append, List.length_cons] at dz; omega
      have hw : wrap64 (q.length : Int) = (q.length : Int) := (by unfold wrap64; omega)
      gi_wp2_with (refine ⟨trivial, ?_⟩; gi_at_call 52; refine (callsIn_wide.2 (HI.out _)).mono ?_; rintro e w' ⟨rfl, rfl⟩)
      refine hR.mono ?_
      rintro e2 W3 (⟨rfl, hJ3, k1, k2, k3, k4⟩ | ⟨rfl, hJx3⟩)
      · have b1 := k1.trans d1
        have b2 := k2.trans d2
        have b3 := k3.trans d3
        have b4 := k4.trans df
        have hw2 : wrap64 ((q.length : Int) + 1) = (q.length : Int) + 1 := (by unfold wrap64; omega)
        have htk : List.drop (q.length + 1) (List.take (q.length + ((joinS [124] r rs).length + 1)) (q ++ 124 :: joinS [124] r rs)) = joinS [124] r rs := by
          rw [List.take_of_length_le (by simp)]
          simp [List.drop_length_add_append]
        gi_wp2
        go_roundw
        case rel =>
          refine ⟨pre ++ [q], r, rs, by rw [e]; simp, ?_, ?_, ?_, ?_, by omega, hJB _ _ _ hJ3⟩
          · rw [World.cell?_setCell_other _ _ _ _ (by first | (simp; done) | (simp; omega))]; exact b1
          · rw [World.cell?_setCell_same _ _ _ b2]
          · rw [World.cell?_setCell_other _ _ _ _ (by first | (simp; done) | (simp; omega))]; exact b3
          · rw [World.frozen?_setCell]; exact b4
        case measure =>
          unfold leftSeq
          rw [World.cell?_setCell_same _ _ _ b2, d2]
          simp; omega
      · gi_wp2
        refine bodyPost_ret (results_none rfl _ _ _) rfl ?_
        exact ⟨⟨_, rfl⟩, .inr ⟨_, by rw [e]; exact ⟨r :: rs, by simp⟩, hJx3⟩⟩
/-- **strings.SplitSeq's closure at the separator '|'.** -/
theorem seq_stops (n Bp B1 Bz : Nat) (hn : 1 ≤ n) (hpz : ¬ Bp = B1) (hzz : ¬ Bz = B1) (p : List UInt8) (ps : List (List UInt8)) (hx : ∀ q ∈ p :: ps, (124 : UInt8) ∉ q) (hsz : (joinS [124] p ps).length ≤ 1000000) (w : World)
    (hBp : Bp < w.heap.size) (hB1 : B1 < w.heap.size) (hBz : Bz < w.heap.size)
    (c1 : w.cell? ⟨Bp, 0, none⟩ = some (.string (S [124]))) (c2 : w.cell? ⟨B1, 0, none⟩ = some (.string (S (joinS [124] p ps)))) (c3 : w.cell? ⟨Bz, 0, none⟩ = some (.int .i64 0)) (cf : w.frozen? ⟨B1, 0, none⟩ = false) :
    SeqStopsAt B1 Fence.wide n Tryd.prog 50 #[.pointer (some ⟨Bp, 0, none⟩), .pointer (some ⟨B1, 0, none⟩), .pointer (some ⟨Bz, 0, none⟩)] (fun x => #[Value.string (S x)]) (KpSeq Bp B1 Bz) (p :: ps) w :=
  fun l J Jx W hW _ _ hJB hY h0 => seq_in n l Bp B1 Bz hn hpz hzz (p :: ps) hx p ps rfl hsz J Jx hJB hY W ((hW.cell (p := ⟨Bp, 0, none⟩) hBp).trans c1) ((hW.cell (p := ⟨B1, 0, none⟩) hB1).trans c2) ((hW.cell (p := ⟨Bz, 0, none⟩) hBz).trans c3) ((hW.frozen (p := ⟨B1, 0, none⟩) hB1).trans cf) h0

end Go.Proofs.YtpfenaeaegdeaaaDoor
