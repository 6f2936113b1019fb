/-
  CONTRACT of value.Read. (written by gen_valread.py)
-/
import Derived.Test.YtedlgpccmlcijaaGreatDoorValWrite
import Derived.Test.YtedlgpccmlcijaaGreatDoorWhenParse
namespace Go.Proofs.YtedlgpccmlcijaaGreatDoor
open Go.RowKit
set_option linter.unusedVariables false
set_option linter.unusedSimpArgs false

/-- an error's value -/
def IsE (e : Value) : Prop := ∃ t u, e = .iface t u
theorem isE_eno (c : Int) : IsE (eno c) := ⟨_, _, rfl⟩
theorem isE_at {w : World} {e : Value} {c p : Int} (h : IsAt w e c p) : IsE e := by obtain ⟨b, rfl, _⟩ := h; exact ⟨_, _, rfl⟩
def Vl0 : Vl := ⟨0, [], [], St0, 0⟩
/-- what Read hands back -/
def ReadP (o : Option Vl) (r : Value) (w' : World) : Prop :=
  match o with
  | some x => ∃ pv, r = .tuple #[x.v pv, .nilIface] ∧ IsLists w' pv x.ps
  | none => ∃ e, r = .tuple #[Vl0.v (.slice none 0 0), e] ∧ IsE e
theorem ReadP.no {o : Option Vl} {e : Value} {w' : World} (h : o = none) (he : IsE e) : ReadP o (.tuple #[Vl0.v (.slice none 0 0), e]) w' := by subst h; exact ⟨e, rfl, he⟩
theorem ReadP.yes {o : Option Vl} {x : Vl} {pv : Value} {w' : World} (h : o = some x) (hp : IsLists w' pv x.ps) : ReadP o (.tuple #[x.v pv, .nilIface]) w' := by subst h; exact ⟨pv, rfl, hp⟩
theorem lists_nil (w : World) : IsLists w (.slice none 0 0) [] := ⟨[], ⟨rfl, by simp, .inl ⟨rfl, .inl rfl⟩⟩, Nat.le_refl _, fun i l h => by simp at h⟩
theorem row_set12 {W : World} {b : Nat} {T : TypeId} {fr : Nat × Nat} {c0 c1 c2 c3 c4 c5 c6 c7 c8 c9 c10 c11 : Value} (v0 v1 v2 v3 v4 v5 v6 v7 v8 v9 v10 v11 : Value) (h : W.heap[b]? = some (.cells #[c0, c1, c2, c3, c4, c5, c6, c7, c8, c9, c10, c11] T fr)) : ((((((((((((W.setCell ⟨b, 0, none⟩ v0).setCell ⟨b, 1, none⟩ v1).setCell ⟨b, 2, none⟩ v2).setCell ⟨b, 3, none⟩ v3).setCell ⟨b, 4, none⟩ v4).setCell ⟨b, 5, none⟩ v5).setCell ⟨b, 6, none⟩ v6).setCell ⟨b, 7, none⟩ v7).setCell ⟨b, 8, none⟩ v8).setCell ⟨b, 9, none⟩ v9).setCell ⟨b, 10, none⟩ v10).setCell ⟨b, 11, none⟩ v11).heap[b]? = some (.cells #[v0, v1, v2, v3, v4, v5, v6, v7, v8, v9, v10, v11] T fr) := by
  have h0 := row_setE (i := 0) (v := v0) (cs' := #[v0, c1, c2, c3, c4, c5, c6, c7, c8, c9, c10, c11]) h rfl
  have h1 := row_setE (i := 1) (v := v1) (cs' := #[v0, v1, c2, c3, c4, c5, c6, c7, c8, c9, c10, c11]) h0 rfl
  have h2 := row_setE (i := 2) (v := v2) (cs' := #[v0, v1, v2, c3, c4, c5, c6, c7, c8, c9, c10, c11]) h1 rfl
  have h3 := row_setE (i := 3) (v := v3) (cs' := #[v0, v1, v2, v3, c4, c5, c6, c7, c8, c9, c10, c11]) h2 rfl
  have h4 := row_setE (i := 4) (v := v4) (cs' := #[v0, v1, v2, v3, v4, c5, c6, c7, c8, c9, c10, c11]) h3 rfl
  have h5 := row_setE (i := 5) (v := v5) (cs' := #[v0, v1, v2, v3, v4, v5, c6, c7, c8, c9, c10, c11]) h4 rfl
  have h6 := row_setE (i := 6) (v := v6) (cs' := #[v0, v1, v2, v3, v4, v5, v6, c7, c8, c9, c10, c11]) h5 rfl
  have h7 := row_setE (i := 7) (v := v7) (cs' := #[v0, v1, v2, v3, v4, v5, v6, v7, c8, c9, c10, c11]) h6 rfl
  have h8 := row_setE (i := 8) (v := v8) (cs' := #[v0, v1, v2, v3, v4, v5, v6, v7, v8, c9, c10, c11]) h7 rfl
  have h9 := row_setE (i := 9) (v := v9) (cs' := #[v0, v1, v2, v3, v4, v5, v6, v7, v8, v9, c10, c11]) h8 rfl
  have h10 := row_setE (i := 10) (v := v10) (cs' := #[v0, v1, v2, v3, v4, v5, v6, v7, v8, v9, v10, c11]) h9 rfl
  have h11 := row_setE (i := 11) (v := v11) (cs' := #[v0, v1, v2, v3, v4, v5, v6, v7, v8, v9, v10, v11]) h10 rfl
  exact h11
/-- the values that stay: texts, and slices that are not nil -/
def stays : Value → Bool
  | .string _ => true
  | .slice (some _) _ _ => true
  | _ => false
/-- texts and slices stay where they are -/
def Kp (w w' : World) : Prop := w.heap.size ≤ w'.heap.size ∧ ∀ p v, w.cell? p = some v → stays v = true → w'.cell? p = some v
theorem Kp.refl (w : World) : Kp w w := ⟨Nat.le_refl _, fun _ _ h _ => h⟩
theorem Kp.trans {a b c : World} (h : Kp a b) (k : Kp b c) : Kp a c := ⟨Nat.le_trans h.1 k.1, fun p v h1 h2 => k.2 p v (h.2 p v h1 h2) h2⟩
theorem Kp.set {w : World} {q : Addr} {old v : Value} (h : w.cell? q = some old) (hk : stays old = false ∨ old = v) : Kp w (w.setCell q v) := by
  refine ⟨by simp, fun p u hp hu => ?_⟩
  by_cases e : p = q
  · subst e
    rw [h] at hp
    obtain rfl := Option.some.inj hp
    rcases hk with hk | hk
    · rw [hk] at hu; cases hu
    · rw [World.cell?_setCell_same _ _ _ h, hk]
  · rw [World.cell?_setCell_other _ _ _ _ (by exact Ne.symm e)]; exact hp
theorem IsStrs.kept {w w' : World} {v : Value} {l : List (List UInt8)} (h : IsStrs w v l) (k : Kp w w') : IsStrs w' v l := by
  obtain ⟨⟨h1, h2, h3⟩, hc⟩ := h
  refine ⟨⟨h1, h2, ?_⟩, hc⟩
  rcases h3 with h3 | ⟨b, off, cap, e, hb, h0, hcell⟩
  · exact .inl h3
  · refine .inr ⟨b, off, cap, e, Nat.lt_of_lt_of_le hb k.1, h0, fun j hj => k.2 _ _ (hcell j hj) ?_⟩
    simp [stays]
theorem IsLists.kept {w w' : World} {v : Value} {ls : List (List (List UInt8))} (h : IsLists w v ls) (hne : ∀ l ∈ ls, l ≠ []) (k : Kp w w') : IsLists w' v ls := by
  obtain ⟨cells, ⟨h1, h2, h3⟩, hc, hl⟩ := h
  refine ⟨cells, ⟨h1, h2, ?_⟩, hc, fun i l hi => ?_⟩
  · rcases h3 with h3 | ⟨b, off, cap, e, hb, h0, hcell⟩
    · exact .inl h3
    · refine .inr ⟨b, off, cap, e, Nat.lt_of_lt_of_le hb k.1, h0, fun j hj => k.2 _ _ (hcell j hj) ?_⟩
      have hj2 : j < ls.length := by simpa using (by omega : j < ls.length * 1)
      obtain ⟨sv, e1, e2⟩ := hl j _ (List.getElem?_eq_getElem hj2)
      rw [List.getElem?_eq_getElem hj] at e1
      obtain rfl := Option.some.inj e1
      obtain ⟨b', o', c', ev, _⟩ := e2.at_ (hne _ (List.getElem_mem hj2))
      rw [ev]; rfl
  · obtain ⟨sv, e1, e2⟩ := hl i l hi
    exact ⟨sv, e1, e2.kept k⟩
theorem kp_set12 {W : World} {b : Nat} {T : TypeId} {fr : Nat × Nat} {c0 c1 c2 c3 c4 c5 c6 c7 c8 c9 c10 c11 : Value} (v0 v1 v2 v3 v4 v5 v6 v7 v8 v9 v10 v11 : Value) (h : W.heap[b]? = some (.cells #[c0, c1, c2, c3, c4, c5, c6, c7, c8, c9, c10, c11] T fr)) (hk : (stays c0 = false ∨ c0 = v0) ∧ (stays c1 = false ∨ c1 = v1) ∧ (stays c2 = false ∨ c2 = v2) ∧ (stays c3 = false ∨ c3 = v3) ∧ (stays c4 = false ∨ c4 = v4) ∧ (stays c5 = false ∨ c5 = v5) ∧ (stays c6 = false ∨ c6 = v6) ∧ (stays c7 = false ∨ c7 = v7) ∧ (stays c8 = false ∨ c8 = v8) ∧ (stays c9 = false ∨ c9 = v9) ∧ (stays c10 = false ∨ c10 = v10) ∧ (stays c11 = false ∨ c11 = v11)) : Kp W ((((((((((((W.setCell ⟨b, 0, none⟩ v0).setCell ⟨b, 1, none⟩ v1).setCell ⟨b, 2, none⟩ v2).setCell ⟨b, 3, none⟩ v3).setCell ⟨b, 4, none⟩ v4).setCell ⟨b, 5, none⟩ v5).setCell ⟨b, 6, none⟩ v6).setCell ⟨b, 7, none⟩ v7).setCell ⟨b, 8, none⟩ v8).setCell ⟨b, 9, none⟩ v9).setCell ⟨b, 10, none⟩ v10).setCell ⟨b, 11, none⟩ v11) := by
  obtain ⟨k0, k1, k2, k3, k4, k5, k6, k7, k8, k9, k10, k11⟩ := hk
  have e0 : W.cell? ⟨b, 0, none⟩ = some c0 := by rw [cell_of_row _ b 0 _ _ _ h]; rfl
  have h0 := row_setE (i := 0) (v := v0) (cs' := #[v0, c1, c2, c3, c4, c5, c6, c7, c8, c9, c10, c11]) h rfl
  have e1 : (W.setCell ⟨b, 0, none⟩ v0).cell? ⟨b, 1, none⟩ = some c1 := by rw [cell_of_row _ b 1 _ _ _ h0]; rfl
  have h1 := row_setE (i := 1) (v := v1) (cs' := #[v0, v1, c2, c3, c4, c5, c6, c7, c8, c9, c10, c11]) h0 rfl
  have e2 : ((W.setCell ⟨b, 0, none⟩ v0).setCell ⟨b, 1, none⟩ v1).cell? ⟨b, 2, none⟩ = some c2 := by rw [cell_of_row _ b 2 _ _ _ h1]; rfl
  have h2 := row_setE (i := 2) (v := v2) (cs' := #[v0, v1, v2, c3, c4, c5, c6, c7, c8, c9, c10, c11]) h1 rfl
  have e3 : (((W.setCell ⟨b, 0, none⟩ v0).setCell ⟨b, 1, none⟩ v1).setCell ⟨b, 2, none⟩ v2).cell? ⟨b, 3, none⟩ = some c3 := by rw [cell_of_row _ b 3 _ _ _ h2]; rfl
  have h3 := row_setE (i := 3) (v := v3) (cs' := #[v0, v1, v2, v3, c4, c5, c6, c7, c8, c9, c10, c11]) h2 rfl
  have e4 : ((((W.setCell ⟨b, 0, none⟩ v0).setCell ⟨b, 1, none⟩ v1).setCell ⟨b, 2, none⟩ v2).setCell ⟨b, 3, none⟩ v3).cell? ⟨b, 4, none⟩ = some c4 := by rw [cell_of_row _ b 4 _ _ _ h3]; rfl
  have h4 := row_setE (i := 4) (v := v4) (cs' := #[v0, v1, v2, v3, v4, c5, c6, c7, c8, c9, c10, c11]) h3 rfl
  have e5 : (((((W.setCell ⟨b, 0, none⟩ v0).setCell ⟨b, 1, none⟩ v1).setCell ⟨b, 2, none⟩ v2).setCell ⟨b, 3, none⟩ v3).setCell ⟨b, 4, none⟩ v4).cell? ⟨b, 5, none⟩ = some c5 := by rw [cell_of_row _ b 5 _ _ _ h4]; rfl
  have h5 := row_setE (i := 5) (v := v5) (cs' := #[v0, v1, v2, v3, v4, v5, c6, c7, c8, c9, c10, c11]) h4 rfl
  have e6 : ((((((W.setCell ⟨b, 0, none⟩ v0).setCell ⟨b, 1, none⟩ v1).setCell ⟨b, 2, none⟩ v2).setCell ⟨b, 3, none⟩ v3).setCell ⟨b, 4, none⟩ v4).setCell ⟨b, 5, none⟩ v5).cell? ⟨b, 6, none⟩ = some c6 := by rw [cell_of_row _ b 6 _ _ _ h5]; rfl
  have h6 := row_setE (i := 6) (v := v6) (cs' := #[v0, v1, v2, v3, v4, v5, v6, c7, c8, c9, c10, c11]) h5 rfl
  have e7 : (((((((W.setCell ⟨b, 0, none⟩ v0).setCell ⟨b, 1, none⟩ v1).setCell ⟨b, 2, none⟩ v2).setCell ⟨b, 3, none⟩ v3).setCell ⟨b, 4, none⟩ v4).setCell ⟨b, 5, none⟩ v5).setCell ⟨b, 6, none⟩ v6).cell? ⟨b, 7, none⟩ = some c7 := by rw [cell_of_row _ b 7 _ _ _ h6]; rfl
  have h7 := row_setE (i := 7) (v := v7) (cs' := #[v0, v1, v2, v3, v4, v5, v6, v7, c8, c9, c10, c11]) h6 rfl
  have e8 : ((((((((W.setCell ⟨b, 0, none⟩ v0).setCell ⟨b, 1, none⟩ v1).setCell ⟨b, 2, none⟩ v2).setCell ⟨b, 3, none⟩ v3).setCell ⟨b, 4, none⟩ v4).setCell ⟨b, 5, none⟩ v5).setCell ⟨b, 6, none⟩ v6).setCell ⟨b, 7, none⟩ v7).cell? ⟨b, 8, none⟩ = some c8 := by rw [cell_of_row _ b 8 _ _ _ h7]; rfl
  have h8 := row_setE (i := 8) (v := v8) (cs' := #[v0, v1, v2, v3, v4, v5, v6, v7, v8, c9, c10, c11]) h7 rfl
  have e9 : (((((((((W.setCell ⟨b, 0, none⟩ v0).setCell ⟨b, 1, none⟩ v1).setCell ⟨b, 2, none⟩ v2).setCell ⟨b, 3, none⟩ v3).setCell ⟨b, 4, none⟩ v4).setCell ⟨b, 5, none⟩ v5).setCell ⟨b, 6, none⟩ v6).setCell ⟨b, 7, none⟩ v7).setCell ⟨b, 8, none⟩ v8).cell? ⟨b, 9, none⟩ = some c9 := by rw [cell_of_row _ b 9 _ _ _ h8]; rfl
  have h9 := row_setE (i := 9) (v := v9) (cs' := #[v0, v1, v2, v3, v4, v5, v6, v7, v8, v9, c10, c11]) h8 rfl
  have e10 : ((((((((((W.setCell ⟨b, 0, none⟩ v0).setCell ⟨b, 1, none⟩ v1).setCell ⟨b, 2, none⟩ v2).setCell ⟨b, 3, none⟩ v3).setCell ⟨b, 4, none⟩ v4).setCell ⟨b, 5, none⟩ v5).setCell ⟨b, 6, none⟩ v6).setCell ⟨b, 7, none⟩ v7).setCell ⟨b, 8, none⟩ v8).setCell ⟨b, 9, none⟩ v9).cell? ⟨b, 10, none⟩ = some c10 := by rw [cell_of_row _ b 10 _ _ _ h9]; rfl
  have h10 := row_setE (i := 10) (v := v10) (cs' := #[v0, v1, v2, v3, v4, v5, v6, v7, v8, v9, v10, c11]) h9 rfl
  have e11 : (((((((((((W.setCell ⟨b, 0, none⟩ v0).setCell ⟨b, 1, none⟩ v1).setCell ⟨b, 2, none⟩ v2).setCell ⟨b, 3, none⟩ v3).setCell ⟨b, 4, none⟩ v4).setCell ⟨b, 5, none⟩ v5).setCell ⟨b, 6, none⟩ v6).setCell ⟨b, 7, none⟩ v7).setCell ⟨b, 8, none⟩ v8).setCell ⟨b, 9, none⟩ v9).setCell ⟨b, 10, none⟩ v10).cell? ⟨b, 11, none⟩ = some c11 := by rw [cell_of_row _ b 11 _ _ _ h10]; rfl
  have h11 := row_setE (i := 11) (v := v11) (cs' := #[v0, v1, v2, v3, v4, v5, v6, v7, v8, v9, v10, v11]) h10 rfl
  exact (Kp.trans (Kp.trans (Kp.trans (Kp.trans (Kp.trans (Kp.trans (Kp.trans (Kp.trans (Kp.trans (Kp.trans (Kp.trans (Kp.trans (Kp.refl W) (Kp.set e0 k0)) (Kp.set e1 k1)) (Kp.set e2 k2)) (Kp.set e3 k3)) (Kp.set e4 k4)) (Kp.set e5 k5)) (Kp.set e6 k6)) (Kp.set e7 k7)) (Kp.set e8 k8)) (Kp.set e9 k9)) (Kp.set e10 k10)) (Kp.set e11 k11))
theorem lists_one {w : World} {va : Value} {a : List (List UInt8)} (ha : IsStrs w va a) : IsLists (w.alloc (.cells #[va] 42)) (.slice (some ⟨w.heap.size, 0, none⟩) 1 1) [a] :=
  lists_lit (vs := [va]) 42 1 rfl (by simp) rfl (by intro u hu; rw [List.mem_singleton.1 hu]; exact ha.one) (by
    intro i l v hl hv
    match i, hl, hv with
    | 0, hl, hv => simp at hl hv; subst hl; subst hv; exact ha
    | n + 1, hl, hv => simp at hl)

set_option maxRecDepth 100000 in
set_option maxHeartbeats 4000000 in
theorem vread_far (s : List UInt8) (k : Int) (w : World) (hs : s.length ≤ 100000) (hM : HasM w) (hU : HasU w) (hk : ¬ (1 ≤ k ∧ k < 9)) : Makes 12 #[.string (S s), .int .i64 k] w (ReadP (readV s k)) := by
  have HN : Hid (readV s k = none) := hid (by unfold readV; rw [if_pos hk])
  by_cases h1 : k < 1
  · clear hk
    go_enter Tryz.func12, Tryz.ntmps12
    go_wp2_with fail
    refine bodyPost_ret (v := .tuple #[.agg #[.int .i64 0, .string ⟨#[]⟩, (.slice none 0 0), .int .i64 0, .int .i64 0, .int .i64 0, .int .i64 0, .int .i64 0, .int .i64 0, .bool false, .int .i64 0, .int .i64 0], eno 1]) (by simp [results, Tryz.results12, go_sem]) rfl ⟨_, rfl, ReadP.no HN.out (isE_eno 1), by repeat (first | exact G.refl _ | apply G.drew | apply G.alloc)⟩
  · have h2 : 9 ≤ k := by omega
    clear hk
    go_enter Tryz.func12, Tryz.ntmps12
    go_wp2_with fail
    refine bodyPost_ret (v := .tuple #[.agg #[.int .i64 0, .string ⟨#[]⟩, (.slice none 0 0), .int .i64 0, .int .i64 0, .int .i64 0, .int .i64 0, .int .i64 0, .int .i64 0, .bool false, .int .i64 0, .int .i64 0], eno 1]) (by simp [results, Tryz.results12, go_sem]) rfl ⟨_, rfl, ReadP.no HN.out (isE_eno 1), by repeat (first | exact G.refl _ | apply G.drew | apply G.alloc)⟩
set_option maxRecDepth 100000 in
set_option maxHeartbeats 4000000 in
theorem vread_no (s : List UInt8) (k : Int) (w : World) (hs : s.length ≤ 100000) (hM : HasM w) (hU : HasU w) (hk : 1 ≤ k ∧ k < 9) (hh : holdsB s false = false) : Makes 12 #[.string (S s), .int .i64 k] w (ReadP (readV s k)) := by
  have HN : Hid (readV s k = none) := hid (by unfold readV; rw [if_neg (by simpa using hk), if_pos hh])
  have h1 : ¬ k < 1 := by omega
  have h2 : ¬ 9 ≤ k := by omega
  have HH := hid hh
  clear hk hh
  go_enter Tryz.func12, Tryz.ntmps12
  go_wp2_with fail
  refine (holds_any s false _ (by omega)).use ?_
  rw [HH.out]
  go_wp2_with fail
  refine bodyPost_ret (v := .tuple #[.agg #[.int .i64 0, .string ⟨#[]⟩, (.slice none 0 0), .int .i64 0, .int .i64 0, .int .i64 0, .int .i64 0, .int .i64 0, .int .i64 0, .bool false, .int .i64 0, .int .i64 0], eno 3]) (by simp [results, Tryz.results12, go_sem]) rfl ⟨_, rfl, ReadP.no HN.out (isE_eno 3), by repeat (first | exact G.refl _ | apply G.drew | apply G.alloc)⟩
set_option maxRecDepth 100000 in
set_option maxHeartbeats 4000000 in
theorem vread8 (s : List UInt8) (w : World) (hs : s.length ≤ 100000) (hM : HasM w) (hU : HasU w) (hh : holdsB s false = true) : Makes 12 #[.string (S s), .int .i64 8] w (ReadP (readV s 8)) := by
  have HN : Hid (readV s 8 = some (tV 8 s)) := hid (by unfold readV; rw [if_neg (by decide), if_neg (by rw [hh]; decide), if_neg (by decide), if_neg (by decide), if_neg (by decide), if_neg (by decide), if_neg (by decide), if_neg (by decide), if_neg (by decide)])
  have HM := hid hM
  have HU := hid hU
  have HH := hid hh
  clear hM hU hh
  go_enter Tryz.func12, Tryz.ntmps12
  go_wp2_with fail
  refine (holds_any s false _ (by omega)).use ?_
  rw [HH.out]
  go_wp2_with fail
  refine bodyPost_ret (v := .tuple #[.agg #[.int .i64 8, .string (S s), (.slice none 0 0), .int .i64 0, .int .i64 0, .int .i64 0, .int .i64 0, .int .i64 0, .int .i64 0, .bool false, .int .i64 0, .int .i64 0], .nilIface]) (by simp [results, Tryz.results12, go_sem]) rfl ⟨_, rfl, ReadP.yes HN.out (lists_nil _), by repeat (first | exact G.refl _ | apply G.drew | apply G.alloc)⟩
set_option maxRecDepth 100000 in
set_option maxHeartbeats 4000000 in
theorem vread1 (s : List UInt8) (w : World) (hs : s.length ≤ 100000) (hM : HasM w) (hU : HasU w) (hh : holdsB s false = true) : Makes 12 #[.string (S s), .int .i64 1] w (ReadP (readV s 1)) := by
  have HM := hid hM
  have HU := hid hU
  have HH := hid hh
  clear hM hU hh
  go_enter Tryz.func12, Tryz.ntmps12
  go_wp2_with fail
  refine (holds_any s false _ (by omega)).use ?_
  rw [HH.out]
  go_wp2_with fail
  refine (unescape_any s _ (by omega)).use ?_
  intro v w2 hv g2
  have rz : Hid (w2.heap[w.heap.size]? = some (.cells #[.int .i64 0, .string ⟨#[]⟩, (.slice none 0 0), .int .i64 0, .int .i64 0, .int .i64 0, .int .i64 0, .int .i64 0, .int .i64 0, .bool false, .int .i64 0, .int .i64 0] 26 (0, 0))) := hid (by rw [g2.below.block w.heap.size (by simp; omega), Lib.alloc_old _ _ _ (by simp)]; exact heap_alloc_new w _)
  have rv : Hid (w2.heap[w.heap.size + 1]? = some (.cells #[.int .i64 1, .string ⟨#[]⟩, (.slice none 0 0), .int .i64 0, .int .i64 0, .int .i64 0, .int .i64 0, .int .i64 0, .int .i64 0, .bool false, .int .i64 0, .int .i64 0] 26 (0, 0))) := hid (by rw [g2.below.block (w.heap.size + 1) (by simp)]; have := heap_alloc_new (w.alloc (.cells #[.int .i64 0, .string ⟨#[]⟩, (.slice none 0 0), .int .i64 0, .int .i64 0, .int .i64 0, .int .i64 0, .int .i64 0, .int .i64 0, .bool false, .int .i64 0, .int .i64 0] 26)) (.cells #[.int .i64 1, .string ⟨#[]⟩, (.slice none 0 0), .int .i64 0, .int .i64 0, .int .i64 0, .int .i64 0, .int .i64 0, .int .i64 0, .bool false, .int .i64 0, .int .i64 0] 26); simpa using this)
  have G2 : Hid (G w w2) := hid (G.trans (((G.refl w).alloc _).alloc _) g2)
  clear g2
  cases hp : piecesGo [] s 0 [] [] [] with
  | good ts cs =>
    rw [hp] at hv
    cases ts with
    | nil => have := pieces_ne hp; simp at this
    | cons t ts =>
      have HN : Hid (readV s 1 = some (tV 1 t)) := hid (by unfold readV; rw [if_neg (by decide), if_neg (by rw [HH.out]; decide), if_pos rfl]; rw [hp])
      obtain rfl : v = .tuple #[.string (S t), .nilIface] := hv
      clear hp
      have d1 : w2.cell? ⟨w.heap.size + 1, 1, none⟩ = some (.string ⟨#[]⟩) := by rw [cell_of_row w2 (w.heap.size + 1) 1 _ _ _ rv.out]; rfl
      have f1 : w2.frozen? ⟨w.heap.size + 1, 1, none⟩ = false := frozen_of_row w2 (w.heap.size + 1) 1 _ _ rv.out
      have q0 : (w2.setCell ⟨w.heap.size + 1, 1, none⟩ (.string (S t))).heap[w.heap.size + 1]? = some (.cells #[.int .i64 1, .string (S t), (.slice none 0 0), .int .i64 0, .int .i64 0, .int .i64 0, .int .i64 0, .int .i64 0, .int .i64 0, .bool false, .int .i64 0, .int .i64 0] 26 (0, 0)) := row_setE rv.out rfl
      have rvS := hid q0
      clear q0
      have rzS : Hid ((w2.setCell ⟨w.heap.size + 1, 1, none⟩ (.string (S t))).heap[w.heap.size]? = some (.cells #[.int .i64 0, .string ⟨#[]⟩, (.slice none 0 0), .int .i64 0, .int .i64 0, .int .i64 0, .int .i64 0, .int .i64 0, .int .i64 0, .bool false, .int .i64 0, .int .i64 0] 26 (0, 0))) := hid (by rw [Below.heap_setCell _ _ _ _ (by simp)]; exact rz.out)
      have GS : Hid (G w (w2.setCell ⟨w.heap.size + 1, 1, none⟩ (.string (S t)))) := hid (Below.setCell (p := ⟨w.heap.size + 1, 1, none⟩) G2.out.below (by simp) (.string (S t)))
      have c0 : (w2.setCell ⟨w.heap.size + 1, 1, none⟩ (.string (S t))).cell? ⟨w.heap.size + 1, 0, none⟩ = some (.int .i64 1) := by rw [cell_of_row (w2.setCell ⟨w.heap.size + 1, 1, none⟩ (.string (S t))) (w.heap.size + 1) 0 _ _ _ rvS.out]; rfl
      have c1 : (w2.setCell ⟨w.heap.size + 1, 1, none⟩ (.string (S t))).cell? ⟨w.heap.size + 1, 1, none⟩ = some (.string (S t)) := by rw [cell_of_row (w2.setCell ⟨w.heap.size + 1, 1, none⟩ (.string (S t))) (w.heap.size + 1) 1 _ _ _ rvS.out]; rfl
      have c2 : (w2.setCell ⟨w.heap.size + 1, 1, none⟩ (.string (S t))).cell? ⟨w.heap.size + 1, 2, none⟩ = some ((.slice none 0 0)) := by rw [cell_of_row (w2.setCell ⟨w.heap.size + 1, 1, none⟩ (.string (S t))) (w.heap.size + 1) 2 _ _ _ rvS.out]; rfl
      have c3 : (w2.setCell ⟨w.heap.size + 1, 1, none⟩ (.string (S t))).cell? ⟨w.heap.size + 1, 3, none⟩ = some (.int .i64 0) := by rw [cell_of_row (w2.setCell ⟨w.heap.size + 1, 1, none⟩ (.string (S t))) (w.heap.size + 1) 3 _ _ _ rvS.out]; rfl
      have c4 : (w2.setCell ⟨w.heap.size + 1, 1, none⟩ (.string (S t))).cell? ⟨w.heap.size + 1, 4, none⟩ = some (.int .i64 0) := by rw [cell_of_row (w2.setCell ⟨w.heap.size + 1, 1, none⟩ (.string (S t))) (w.heap.size + 1) 4 _ _ _ rvS.out]; rfl
      have c5 : (w2.setCell ⟨w.heap.size + 1, 1, none⟩ (.string (S t))).cell? ⟨w.heap.size + 1, 5, none⟩ = some (.int .i64 0) := by rw [cell_of_row (w2.setCell ⟨w.heap.size + 1, 1, none⟩ (.string (S t))) (w.heap.size + 1) 5 _ _ _ rvS.out]; rfl
      have c6 : (w2.setCell ⟨w.heap.size + 1, 1, none⟩ (.string (S t))).cell? ⟨w.heap.size + 1, 6, none⟩ = some (.int .i64 0) := by rw [cell_of_row (w2.setCell ⟨w.heap.size + 1, 1, none⟩ (.string (S t))) (w.heap.size + 1) 6 _ _ _ rvS.out]; rfl
      have c7 : (w2.setCell ⟨w.heap.size + 1, 1, none⟩ (.string (S t))).cell? ⟨w.heap.size + 1, 7, none⟩ = some (.int .i64 0) := by rw [cell_of_row (w2.setCell ⟨w.heap.size + 1, 1, none⟩ (.string (S t))) (w.heap.size + 1) 7 _ _ _ rvS.out]; rfl
      have c8 : (w2.setCell ⟨w.heap.size + 1, 1, none⟩ (.string (S t))).cell? ⟨w.heap.size + 1, 8, none⟩ = some (.int .i64 0) := by rw [cell_of_row (w2.setCell ⟨w.heap.size + 1, 1, none⟩ (.string (S t))) (w.heap.size + 1) 8 _ _ _ rvS.out]; rfl
      have c9 : (w2.setCell ⟨w.heap.size + 1, 1, none⟩ (.string (S t))).cell? ⟨w.heap.size + 1, 9, none⟩ = some (.bool false) := by rw [cell_of_row (w2.setCell ⟨w.heap.size + 1, 1, none⟩ (.string (S t))) (w.heap.size + 1) 9 _ _ _ rvS.out]; rfl
      have c10 : (w2.setCell ⟨w.heap.size + 1, 1, none⟩ (.string (S t))).cell? ⟨w.heap.size + 1, 10, none⟩ = some (.int .i64 0) := by rw [cell_of_row (w2.setCell ⟨w.heap.size + 1, 1, none⟩ (.string (S t))) (w.heap.size + 1) 10 _ _ _ rvS.out]; rfl
      have c11 : (w2.setCell ⟨w.heap.size + 1, 1, none⟩ (.string (S t))).cell? ⟨w.heap.size + 1, 11, none⟩ = some (.int .i64 0) := by rw [cell_of_row (w2.setCell ⟨w.heap.size + 1, 1, none⟩ (.string (S t))) (w.heap.size + 1) 11 _ _ _ rvS.out]; rfl
      have t0 : (w2.setCell ⟨w.heap.size + 1, 1, none⟩ (.string (S t))).cell? ⟨w.heap.size, 0, none⟩ = some (.int .i64 0) := by rw [cell_of_row (w2.setCell ⟨w.heap.size + 1, 1, none⟩ (.string (S t))) (w.heap.size) 0 _ _ _ rzS.out]; rfl
      have v0 : (w2.setCell ⟨w.heap.size + 1, 1, none⟩ (.string (S t))).frozen? ⟨w.heap.size, 0, none⟩ = false := frozen_of_row (w2.setCell ⟨w.heap.size + 1, 1, none⟩ (.string (S t))) (w.heap.size) 0 _ _ rzS.out
      have t1 : (w2.setCell ⟨w.heap.size + 1, 1, none⟩ (.string (S t))).cell? ⟨w.heap.size, 1, none⟩ = some (.string ⟨#[]⟩) := by rw [cell_of_row (w2.setCell ⟨w.heap.size + 1, 1, none⟩ (.string (S t))) (w.heap.size) 1 _ _ _ rzS.out]; rfl
      have v1 : (w2.setCell ⟨w.heap.size + 1, 1, none⟩ (.string (S t))).frozen? ⟨w.heap.size, 1, none⟩ = false := frozen_of_row (w2.setCell ⟨w.heap.size + 1, 1, none⟩ (.string (S t))) (w.heap.size) 1 _ _ rzS.out
      have t2 : (w2.setCell ⟨w.heap.size + 1, 1, none⟩ (.string (S t))).cell? ⟨w.heap.size, 2, none⟩ = some ((.slice none 0 0)) := by rw [cell_of_row (w2.setCell ⟨w.heap.size + 1, 1, none⟩ (.string (S t))) (w.heap.size) 2 _ _ _ rzS.out]; rfl
      have v2 : (w2.setCell ⟨w.heap.size + 1, 1, none⟩ (.string (S t))).frozen? ⟨w.heap.size, 2, none⟩ = false := frozen_of_row (w2.setCell ⟨w.heap.size + 1, 1, none⟩ (.string (S t))) (w.heap.size) 2 _ _ rzS.out
      have t3 : (w2.setCell ⟨w.heap.size + 1, 1, none⟩ (.string (S t))).cell? ⟨w.heap.size, 3, none⟩ = some (.int .i64 0) := by rw [cell_of_row (w2.setCell ⟨w.heap.size + 1, 1, none⟩ (.string (S t))) (w.heap.size) 3 _ _ _ rzS.out]; rfl
      have v3 : (w2.setCell ⟨w.heap.size + 1, 1, none⟩ (.string (S t))).frozen? ⟨w.heap.size, 3, none⟩ = false := frozen_of_row (w2.setCell ⟨w.heap.size + 1, 1, none⟩ (.string (S t))) (w.heap.size) 3 _ _ rzS.out
      have t4 : (w2.setCell ⟨w.heap.size + 1, 1, none⟩ (.string (S t))).cell? ⟨w.heap.size, 4, none⟩ = some (.int .i64 0) := by rw [cell_of_row (w2.setCell ⟨w.heap.size + 1, 1, none⟩ (.string (S t))) (w.heap.size) 4 _ _ _ rzS.out]; rfl
      have v4 : (w2.setCell ⟨w.heap.size + 1, 1, none⟩ (.string (S t))).frozen? ⟨w.heap.size, 4, none⟩ = false := frozen_of_row (w2.setCell ⟨w.heap.size + 1, 1, none⟩ (.string (S t))) (w.heap.size) 4 _ _ rzS.out
      have t5 : (w2.setCell ⟨w.heap.size + 1, 1, none⟩ (.string (S t))).cell? ⟨w.heap.size, 5, none⟩ = some (.int .i64 0) := by rw [cell_of_row (w2.setCell ⟨w.heap.size + 1, 1, none⟩ (.string (S t))) (w.heap.size) 5 _ _ _ rzS.out]; rfl
      have v5 : (w2.setCell ⟨w.heap.size + 1, 1, none⟩ (.string (S t))).frozen? ⟨w.heap.size, 5, none⟩ = false := frozen_of_row (w2.setCell ⟨w.heap.size + 1, 1, none⟩ (.string (S t))) (w.heap.size) 5 _ _ rzS.out
      have t6 : (w2.setCell ⟨w.heap.size + 1, 1, none⟩ (.string (S t))).cell? ⟨w.heap.size, 6, none⟩ = some (.int .i64 0) := by rw [cell_of_row (w2.setCell ⟨w.heap.size + 1, 1, none⟩ (.string (S t))) (w.heap.size) 6 _ _ _ rzS.out]; rfl
      have v6 : (w2.setCell ⟨w.heap.size + 1, 1, none⟩ (.string (S t))).frozen? ⟨w.heap.size, 6, none⟩ = false := frozen_of_row (w2.setCell ⟨w.heap.size + 1, 1, none⟩ (.string (S t))) (w.heap.size) 6 _ _ rzS.out
      have t7 : (w2.setCell ⟨w.heap.size + 1, 1, none⟩ (.string (S t))).cell? ⟨w.heap.size, 7, none⟩ = some (.int .i64 0) := by rw [cell_of_row (w2.setCell ⟨w.heap.size + 1, 1, none⟩ (.string (S t))) (w.heap.size) 7 _ _ _ rzS.out]; rfl
      have v7 : (w2.setCell ⟨w.heap.size + 1, 1, none⟩ (.string (S t))).frozen? ⟨w.heap.size, 7, none⟩ = false := frozen_of_row (w2.setCell ⟨w.heap.size + 1, 1, none⟩ (.string (S t))) (w.heap.size) 7 _ _ rzS.out
      have t8 : (w2.setCell ⟨w.heap.size + 1, 1, none⟩ (.string (S t))).cell? ⟨w.heap.size, 8, none⟩ = some (.int .i64 0) := by rw [cell_of_row (w2.setCell ⟨w.heap.size + 1, 1, none⟩ (.string (S t))) (w.heap.size) 8 _ _ _ rzS.out]; rfl
      have v8 : (w2.setCell ⟨w.heap.size + 1, 1, none⟩ (.string (S t))).frozen? ⟨w.heap.size, 8, none⟩ = false := frozen_of_row (w2.setCell ⟨w.heap.size + 1, 1, none⟩ (.string (S t))) (w.heap.size) 8 _ _ rzS.out
      have t9 : (w2.setCell ⟨w.heap.size + 1, 1, none⟩ (.string (S t))).cell? ⟨w.heap.size, 9, none⟩ = some (.bool false) := by rw [cell_of_row (w2.setCell ⟨w.heap.size + 1, 1, none⟩ (.string (S t))) (w.heap.size) 9 _ _ _ rzS.out]; rfl
      have v9 : (w2.setCell ⟨w.heap.size + 1, 1, none⟩ (.string (S t))).frozen? ⟨w.heap.size, 9, none⟩ = false := frozen_of_row (w2.setCell ⟨w.heap.size + 1, 1, none⟩ (.string (S t))) (w.heap.size) 9 _ _ rzS.out
      have t10 : (w2.setCell ⟨w.heap.size + 1, 1, none⟩ (.string (S t))).cell? ⟨w.heap.size, 10, none⟩ = some (.int .i64 0) := by rw [cell_of_row (w2.setCell ⟨w.heap.size + 1, 1, none⟩ (.string (S t))) (w.heap.size) 10 _ _ _ rzS.out]; rfl
      have v10 : (w2.setCell ⟨w.heap.size + 1, 1, none⟩ (.string (S t))).frozen? ⟨w.heap.size, 10, none⟩ = false := frozen_of_row (w2.setCell ⟨w.heap.size + 1, 1, none⟩ (.string (S t))) (w.heap.size) 10 _ _ rzS.out
      have t11 : (w2.setCell ⟨w.heap.size + 1, 1, none⟩ (.string (S t))).cell? ⟨w.heap.size, 11, none⟩ = some (.int .i64 0) := by rw [cell_of_row (w2.setCell ⟨w.heap.size + 1, 1, none⟩ (.string (S t))) (w.heap.size) 11 _ _ _ rzS.out]; rfl
      have v11 : (w2.setCell ⟨w.heap.size + 1, 1, none⟩ (.string (S t))).frozen? ⟨w.heap.size, 11, none⟩ = false := frozen_of_row (w2.setCell ⟨w.heap.size + 1, 1, none⟩ (.string (S t))) (w.heap.size) 11 _ _ rzS.out
      have rf : Hid ((((((((((((((w2.setCell ⟨w.heap.size + 1, 1, none⟩ (.string (S t))).setCell ⟨w.heap.size, 0, none⟩ (.int .i64 1)).setCell ⟨w.heap.size, 1, none⟩ (.string (S t))).setCell ⟨w.heap.size, 2, none⟩ ((.slice none 0 0))).setCell ⟨w.heap.size, 3, none⟩ (.int .i64 0)).setCell ⟨w.heap.size, 4, none⟩ (.int .i64 0)).setCell ⟨w.heap.size, 5, none⟩ (.int .i64 0)).setCell ⟨w.heap.size, 6, none⟩ (.int .i64 0)).setCell ⟨w.heap.size, 7, none⟩ (.int .i64 0)).setCell ⟨w.heap.size, 8, none⟩ (.int .i64 0)).setCell ⟨w.heap.size, 9, none⟩ (.bool false)).setCell ⟨w.heap.size, 10, none⟩ (.int .i64 0)).setCell ⟨w.heap.size, 11, none⟩ (.int .i64 0)).heap[w.heap.size]? = some (.cells #[.int .i64 1, .string (S t), (.slice none 0 0), .int .i64 0, .int .i64 0, .int .i64 0, .int .i64 0, .int .i64 0, .int .i64 0, .bool false, .int .i64 0, .int .i64 0] 26 (0, 0))) := hid (row_set12 (.int .i64 1) (.string (S t)) ((.slice none 0 0)) (.int .i64 0) (.int .i64 0) (.int .i64 0) (.int .i64 0) (.int .i64 0) (.int .i64 0) (.bool false) (.int .i64 0) (.int .i64 0) rzS.out)
      have GF : Hid (G w (((((((((((((w2.setCell ⟨w.heap.size + 1, 1, none⟩ (.string (S t))).setCell ⟨w.heap.size, 0, none⟩ (.int .i64 1)).setCell ⟨w.heap.size, 1, none⟩ (.string (S t))).setCell ⟨w.heap.size, 2, none⟩ ((.slice none 0 0))).setCell ⟨w.heap.size, 3, none⟩ (.int .i64 0)).setCell ⟨w.heap.size, 4, none⟩ (.int .i64 0)).setCell ⟨w.heap.size, 5, none⟩ (.int .i64 0)).setCell ⟨w.heap.size, 6, none⟩ (.int .i64 0)).setCell ⟨w.heap.size, 7, none⟩ (.int .i64 0)).setCell ⟨w.heap.size, 8, none⟩ (.int .i64 0)).setCell ⟨w.heap.size, 9, none⟩ (.bool false)).setCell ⟨w.heap.size, 10, none⟩ (.int .i64 0)).setCell ⟨w.heap.size, 11, none⟩ (.int .i64 0))) := hid (Below.setCell (p := ⟨w.heap.size, 11, none⟩) (Below.setCell (p := ⟨w.heap.size, 10, none⟩) (Below.setCell (p := ⟨w.heap.size, 9, none⟩) (Below.setCell (p := ⟨w.heap.size, 8, none⟩) (Below.setCell (p := ⟨w.heap.size, 7, none⟩) (Below.setCell (p := ⟨w.heap.size, 6, none⟩) (Below.setCell (p := ⟨w.heap.size, 5, none⟩) (Below.setCell (p := ⟨w.heap.size, 4, none⟩) (Below.setCell (p := ⟨w.heap.size, 3, none⟩) (Below.setCell (p := ⟨w.heap.size, 2, none⟩) (Below.setCell (p := ⟨w.heap.size, 1, none⟩) (Below.setCell (p := ⟨w.heap.size, 0, none⟩) GS.out.below (Nat.le_refl _) (.int .i64 1)) (Nat.le_refl _) (.string (S t))) (Nat.le_refl _) ((.slice none 0 0))) (Nat.le_refl _) (.int .i64 0)) (Nat.le_refl _) (.int .i64 0)) (Nat.le_refl _) (.int .i64 0)) (Nat.le_refl _) (.int .i64 0)) (Nat.le_refl _) (.int .i64 0)) (Nat.le_refl _) (.int .i64 0)) (Nat.le_refl _) (.bool false)) (Nat.le_refl _) (.int .i64 0)) (Nat.le_refl _) (.int .i64 0))
      go_wp2_with fail
      obtain ⟨WF, hWF⟩ : ∃ WF, (((((((((((((w2.setCell ⟨w.heap.size + 1, 1, none⟩ (.string (S t))).setCell ⟨w.heap.size, 0, none⟩ (.int .i64 1)).setCell ⟨w.heap.size, 1, none⟩ (.string (S t))).setCell ⟨w.heap.size, 2, none⟩ ((.slice none 0 0))).setCell ⟨w.heap.size, 3, none⟩ (.int .i64 0)).setCell ⟨w.heap.size, 4, none⟩ (.int .i64 0)).setCell ⟨w.heap.size, 5, none⟩ (.int .i64 0)).setCell ⟨w.heap.size, 6, none⟩ (.int .i64 0)).setCell ⟨w.heap.size, 7, none⟩ (.int .i64 0)).setCell ⟨w.heap.size, 8, none⟩ (.int .i64 0)).setCell ⟨w.heap.size, 9, none⟩ (.bool false)).setCell ⟨w.heap.size, 10, none⟩ (.int .i64 0)).setCell ⟨w.heap.size, 11, none⟩ (.int .i64 0)) = WF := ⟨_, rfl⟩
      rw [hWF] at rf GF ⊢
      clear hWF t0 t1 t2 t3 t4 t5 t6 t7 t8 t9 t10 t11 v0 v1 v2 v3 v4 v5 v6 v7 v8 v9 v10 v11
      have e0 : WF.cell? ⟨w.heap.size, 0, none⟩ = some (.int .i64 1) := by rw [cell_of_row WF (w.heap.size) 0 _ _ _ rf.out]; rfl
      have e1 : WF.cell? ⟨w.heap.size, 1, none⟩ = some (.string (S t)) := by rw [cell_of_row WF (w.heap.size) 1 _ _ _ rf.out]; rfl
      have e2 : WF.cell? ⟨w.heap.size, 2, none⟩ = some ((.slice none 0 0)) := by rw [cell_of_row WF (w.heap.size) 2 _ _ _ rf.out]; rfl
      have e3 : WF.cell? ⟨w.heap.size, 3, none⟩ = some (.int .i64 0) := by rw [cell_of_row WF (w.heap.size) 3 _ _ _ rf.out]; rfl
      have e4 : WF.cell? ⟨w.heap.size, 4, none⟩ = some (.int .i64 0) := by rw [cell_of_row WF (w.heap.size) 4 _ _ _ rf.out]; rfl
      have e5 : WF.cell? ⟨w.heap.size, 5, none⟩ = some (.int .i64 0) := by rw [cell_of_row WF (w.heap.size) 5 _ _ _ rf.out]; rfl
      have e6 : WF.cell? ⟨w.heap.size, 6, none⟩ = some (.int .i64 0) := by rw [cell_of_row WF (w.heap.size) 6 _ _ _ rf.out]; rfl
      have e7 : WF.cell? ⟨w.heap.size, 7, none⟩ = some (.int .i64 0) := by rw [cell_of_row WF (w.heap.size) 7 _ _ _ rf.out]; rfl
      have e8 : WF.cell? ⟨w.heap.size, 8, none⟩ = some (.int .i64 0) := by rw [cell_of_row WF (w.heap.size) 8 _ _ _ rf.out]; rfl
      have e9 : WF.cell? ⟨w.heap.size, 9, none⟩ = some (.bool false) := by rw [cell_of_row WF (w.heap.size) 9 _ _ _ rf.out]; rfl
      have e10 : WF.cell? ⟨w.heap.size, 10, none⟩ = some (.int .i64 0) := by rw [cell_of_row WF (w.heap.size) 10 _ _ _ rf.out]; rfl
      have e11 : WF.cell? ⟨w.heap.size, 11, none⟩ = some (.int .i64 0) := by rw [cell_of_row WF (w.heap.size) 11 _ _ _ rf.out]; rfl
      refine bodyPost_ret (v := .tuple #[.agg #[.int .i64 1, .string (S t), (.slice none 0 0), .int .i64 0, .int .i64 0, .int .i64 0, .int .i64 0, .int .i64 0, .int .i64 0, .bool false, .int .i64 0, .int .i64 0], .nilIface]) (by simp [results, Tryz.results12, go_sem, e0, e1, e2, e3, e4, e5, e6, e7, e8, e9, e10, e11]) rfl ⟨_, rfl, ReadP.yes HN.out (lists_nil _), GF.out⟩
  | bad c q =>
    have HN : Hid (readV s 1 = none) := hid (by unfold readV; rw [if_neg (by decide), if_neg (by rw [HH.out]; decide), if_pos rfl]; rw [hp])
    rw [hp] at hv
    obtain ⟨e, rfl, he⟩ := hv
    have HE := hid (isE_at he)
    obtain ⟨eb, rfl, _⟩ := he
    clear hp
    have d1 : w2.cell? ⟨w.heap.size + 1, 1, none⟩ = some (.string ⟨#[]⟩) := by rw [cell_of_row w2 (w.heap.size + 1) 1 _ _ _ rv.out]; rfl
    have f1 : w2.frozen? ⟨w.heap.size + 1, 1, none⟩ = false := frozen_of_row w2 (w.heap.size + 1) 1 _ _ rv.out
    have rzS : Hid ((w2.setCell ⟨w.heap.size + 1, 1, none⟩ (.string (S ([] : List UInt8)))).heap[w.heap.size]? = some (.cells #[.int .i64 0, .string ⟨#[]⟩, (.slice none 0 0), .int .i64 0, .int .i64 0, .int .i64 0, .int .i64 0, .int .i64 0, .int .i64 0, .bool false, .int .i64 0, .int .i64 0] 26 (0, 0))) := hid (by rw [Below.heap_setCell _ _ _ _ (by simp)]; exact rz.out)
    have GS : Hid (G w (w2.setCell ⟨w.heap.size + 1, 1, none⟩ (.string (S ([] : List UInt8))))) := hid (Below.setCell (p := ⟨w.heap.size + 1, 1, none⟩) G2.out.below (by simp) (.string (S ([] : List UInt8))))
    have t0 : (w2.setCell ⟨w.heap.size + 1, 1, none⟩ (.string (S ([] : List UInt8)))).cell? ⟨w.heap.size, 0, none⟩ = some (.int .i64 0) := by rw [cell_of_row (w2.setCell ⟨w.heap.size + 1, 1, none⟩ (.string (S ([] : List UInt8)))) (w.heap.size) 0 _ _ _ rzS.out]; rfl
    have v0 : (w2.setCell ⟨w.heap.size + 1, 1, none⟩ (.string (S ([] : List UInt8)))).frozen? ⟨w.heap.size, 0, none⟩ = false := frozen_of_row (w2.setCell ⟨w.heap.size + 1, 1, none⟩ (.string (S ([] : List UInt8)))) (w.heap.size) 0 _ _ rzS.out
    have t1 : (w2.setCell ⟨w.heap.size + 1, 1, none⟩ (.string (S ([] : List UInt8)))).cell? ⟨w.heap.size, 1, none⟩ = some (.string ⟨#[]⟩) := by rw [cell_of_row (w2.setCell ⟨w.heap.size + 1, 1, none⟩ (.string (S ([] : List UInt8)))) (w.heap.size) 1 _ _ _ rzS.out]; rfl
    have v1 : (w2.setCell ⟨w.heap.size + 1, 1, none⟩ (.string (S ([] : List UInt8)))).frozen? ⟨w.heap.size, 1, none⟩ = false := frozen_of_row (w2.setCell ⟨w.heap.size + 1, 1, none⟩ (.string (S ([] : List UInt8)))) (w.heap.size) 1 _ _ rzS.out
    have t2 : (w2.setCell ⟨w.heap.size + 1, 1, none⟩ (.string (S ([] : List UInt8)))).cell? ⟨w.heap.size, 2, none⟩ = some ((.slice none 0 0)) := by rw [cell_of_row (w2.setCell ⟨w.heap.size + 1, 1, none⟩ (.string (S ([] : List UInt8)))) (w.heap.size) 2 _ _ _ rzS.out]; rfl
    have v2 : (w2.setCell ⟨w.heap.size + 1, 1, none⟩ (.string (S ([] : List UInt8)))).frozen? ⟨w.heap.size, 2, none⟩ = false := frozen_of_row (w2.setCell ⟨w.heap.size + 1, 1, none⟩ (.string (S ([] : List UInt8)))) (w.heap.size) 2 _ _ rzS.out
    have t3 : (w2.setCell ⟨w.heap.size + 1, 1, none⟩ (.string (S ([] : List UInt8)))).cell? ⟨w.heap.size, 3, none⟩ = some (.int .i64 0) := by rw [cell_of_row (w2.setCell ⟨w.heap.size + 1, 1, none⟩ (.string (S ([] : List UInt8)))) (w.heap.size) 3 _ _ _ rzS.out]; rfl
    have v3 : (w2.setCell ⟨w.heap.size + 1, 1, none⟩ (.string (S ([] : List UInt8)))).frozen? ⟨w.heap.size, 3, none⟩ = false := frozen_of_row (w2.setCell ⟨w.heap.size + 1, 1, none⟩ (.string (S ([] : List UInt8)))) (w.heap.size) 3 _ _ rzS.out
    have t4 : (w2.setCell ⟨w.heap.size + 1, 1, none⟩ (.string (S ([] : List UInt8)))).cell? ⟨w.heap.size, 4, none⟩ = some (.int .i64 0) := by rw [cell_of_row (w2.setCell ⟨w.heap.size + 1, 1, none⟩ (.string (S ([] : List UInt8)))) (w.heap.size) 4 _ _ _ rzS.out]; rfl
    have v4 : (w2.setCell ⟨w.heap.size + 1, 1, none⟩ (.string (S ([] : List UInt8)))).frozen? ⟨w.heap.size, 4, none⟩ = false := frozen_of_row (w2.setCell ⟨w.heap.size + 1, 1, none⟩ (.string (S ([] : List UInt8)))) (w.heap.size) 4 _ _ rzS.out
    have t5 : (w2.setCell ⟨w.heap.size + 1, 1, none⟩ (.string (S ([] : List UInt8)))).cell? ⟨w.heap.size, 5, none⟩ = some (.int .i64 0) := by rw [cell_of_row (w2.setCell ⟨w.heap.size + 1, 1, none⟩ (.string (S ([] : List UInt8)))) (w.heap.size) 5 _ _ _ rzS.out]; rfl
    have v5 : (w2.setCell ⟨w.heap.size + 1, 1, none⟩ (.string (S ([] : List UInt8)))).frozen? ⟨w.heap.size, 5, none⟩ = false := frozen_of_row (w2.setCell ⟨w.heap.size + 1, 1, none⟩ (.string (S ([] : List UInt8)))) (w.heap.size) 5 _ _ rzS.out
    have t6 : (w2.setCell ⟨w.heap.size + 1, 1, none⟩ (.string (S ([] : List UInt8)))).cell? ⟨w.heap.size, 6, none⟩ = some (.int .i64 0) := by rw [cell_of_row (w2.setCell ⟨w.heap.size + 1, 1, none⟩ (.string (S ([] : List UInt8)))) (w.heap.size) 6 _ _ _ rzS.out]; rfl
    have v6 : (w2.setCell ⟨w.heap.size + 1, 1, none⟩ (.string (S ([] : List UInt8)))).frozen? ⟨w.heap.size, 6, none⟩ = false := frozen_of_row (w2.setCell ⟨w.heap.size + 1, 1, none⟩ (.string (S ([] : List UInt8)))) (w.heap.size) 6 _ _ rzS.out
    have t7 : (w2.setCell ⟨w.heap.size + 1, 1, none⟩ (.string (S ([] : List UInt8)))).cell? ⟨w.heap.size, 7, none⟩ = some (.int .i64 0) := by rw [cell_of_row (w2.setCell ⟨w.heap.size + 1, 1, none⟩ (.string (S ([] : List UInt8)))) (w.heap.size) 7 _ _ _ rzS.out]; rfl
    have v7 : (w2.setCell ⟨w.heap.size + 1, 1, none⟩ (.string (S ([] : List UInt8)))).frozen? ⟨w.heap.size, 7, none⟩ = false := frozen_of_row (w2.setCell ⟨w.heap.size + 1, 1, none⟩ (.string (S ([] : List UInt8)))) (w.heap.size) 7 _ _ rzS.out
    have t8 : (w2.setCell ⟨w.heap.size + 1, 1, none⟩ (.string (S ([] : List UInt8)))).cell? ⟨w.heap.size, 8, none⟩ = some (.int .i64 0) := by rw [cell_of_row (w2.setCell ⟨w.heap.size + 1, 1, none⟩ (.string (S ([] : List UInt8)))) (w.heap.size) 8 _ _ _ rzS.out]; rfl
    have v8 : (w2.setCell ⟨w.heap.size + 1, 1, none⟩ (.string (S ([] : List UInt8)))).frozen? ⟨w.heap.size, 8, none⟩ = false := frozen_of_row (w2.setCell ⟨w.heap.size + 1, 1, none⟩ (.string (S ([] : List UInt8)))) (w.heap.size) 8 _ _ rzS.out
    have t9 : (w2.setCell ⟨w.heap.size + 1, 1, none⟩ (.string (S ([] : List UInt8)))).cell? ⟨w.heap.size, 9, none⟩ = some (.bool false) := by rw [cell_of_row (w2.setCell ⟨w.heap.size + 1, 1, none⟩ (.string (S ([] : List UInt8)))) (w.heap.size) 9 _ _ _ rzS.out]; rfl
    have v9 : (w2.setCell ⟨w.heap.size + 1, 1, none⟩ (.string (S ([] : List UInt8)))).frozen? ⟨w.heap.size, 9, none⟩ = false := frozen_of_row (w2.setCell ⟨w.heap.size + 1, 1, none⟩ (.string (S ([] : List UInt8)))) (w.heap.size) 9 _ _ rzS.out
    have t10 : (w2.setCell ⟨w.heap.size + 1, 1, none⟩ (.string (S ([] : List UInt8)))).cell? ⟨w.heap.size, 10, none⟩ = some (.int .i64 0) := by rw [cell_of_row (w2.setCell ⟨w.heap.size + 1, 1, none⟩ (.string (S ([] : List UInt8)))) (w.heap.size) 10 _ _ _ rzS.out]; rfl
    have v10 : (w2.setCell ⟨w.heap.size + 1, 1, none⟩ (.string (S ([] : List UInt8)))).frozen? ⟨w.heap.size, 10, none⟩ = false := frozen_of_row (w2.setCell ⟨w.heap.size + 1, 1, none⟩ (.string (S ([] : List UInt8)))) (w.heap.size) 10 _ _ rzS.out
    have t11 : (w2.setCell ⟨w.heap.size + 1, 1, none⟩ (.string (S ([] : List UInt8)))).cell? ⟨w.heap.size, 11, none⟩ = some (.int .i64 0) := by rw [cell_of_row (w2.setCell ⟨w.heap.size + 1, 1, none⟩ (.string (S ([] : List UInt8)))) (w.heap.size) 11 _ _ _ rzS.out]; rfl
    have v11 : (w2.setCell ⟨w.heap.size + 1, 1, none⟩ (.string (S ([] : List UInt8)))).frozen? ⟨w.heap.size, 11, none⟩ = false := frozen_of_row (w2.setCell ⟨w.heap.size + 1, 1, none⟩ (.string (S ([] : List UInt8)))) (w.heap.size) 11 _ _ rzS.out
    have rf : Hid ((((((((((((((w2.setCell ⟨w.heap.size + 1, 1, none⟩ (.string (S ([] : List UInt8)))).setCell ⟨w.heap.size, 0, none⟩ (.int .i64 0)).setCell ⟨w.heap.size, 1, none⟩ (.string ⟨#[]⟩)).setCell ⟨w.heap.size, 2, none⟩ ((.slice none 0 0))).setCell ⟨w.heap.size, 3, none⟩ (.int .i64 0)).setCell ⟨w.heap.size, 4, none⟩ (.int .i64 0)).setCell ⟨w.heap.size, 5, none⟩ (.int .i64 0)).setCell ⟨w.heap.size, 6, none⟩ (.int .i64 0)).setCell ⟨w.heap.size, 7, none⟩ (.int .i64 0)).setCell ⟨w.heap.size, 8, none⟩ (.int .i64 0)).setCell ⟨w.heap.size, 9, none⟩ (.bool false)).setCell ⟨w.heap.size, 10, none⟩ (.int .i64 0)).setCell ⟨w.heap.size, 11, none⟩ (.int .i64 0)).heap[w.heap.size]? = some (.cells #[.int .i64 0, .string ⟨#[]⟩, (.slice none 0 0), .int .i64 0, .int .i64 0, .int .i64 0, .int .i64 0, .int .i64 0, .int .i64 0, .bool false, .int .i64 0, .int .i64 0] 26 (0, 0))) := hid (row_set12 (.int .i64 0) (.string ⟨#[]⟩) ((.slice none 0 0)) (.int .i64 0) (.int .i64 0) (.int .i64 0) (.int .i64 0) (.int .i64 0) (.int .i64 0) (.bool false) (.int .i64 0) (.int .i64 0) rzS.out)
    have GF : Hid (G w (((((((((((((w2.setCell ⟨w.heap.size + 1, 1, none⟩ (.string (S ([] : List UInt8)))).setCell ⟨w.heap.size, 0, none⟩ (.int .i64 0)).setCell ⟨w.heap.size, 1, none⟩ (.string ⟨#[]⟩)).setCell ⟨w.heap.size, 2, none⟩ ((.slice none 0 0))).setCell ⟨w.heap.size, 3, none⟩ (.int .i64 0)).setCell ⟨w.heap.size, 4, none⟩ (.int .i64 0)).setCell ⟨w.heap.size, 5, none⟩ (.int .i64 0)).setCell ⟨w.heap.size, 6, none⟩ (.int .i64 0)).setCell ⟨w.heap.size, 7, none⟩ (.int .i64 0)).setCell ⟨w.heap.size, 8, none⟩ (.int .i64 0)).setCell ⟨w.heap.size, 9, none⟩ (.bool false)).setCell ⟨w.heap.size, 10, none⟩ (.int .i64 0)).setCell ⟨w.heap.size, 11, none⟩ (.int .i64 0))) := hid (Below.setCell (p := ⟨w.heap.size, 11, none⟩) (Below.setCell (p := ⟨w.heap.size, 10, none⟩) (Below.setCell (p := ⟨w.heap.size, 9, none⟩) (Below.setCell (p := ⟨w.heap.size, 8, none⟩) (Below.setCell (p := ⟨w.heap.size, 7, none⟩) (Below.setCell (p := ⟨w.heap.size, 6, none⟩) (Below.setCell (p := ⟨w.heap.size, 5, none⟩) (Below.setCell (p := ⟨w.heap.size, 4, none⟩) (Below.setCell (p := ⟨w.heap.size, 3, none⟩) (Below.setCell (p := ⟨w.heap.size, 2, none⟩) (Below.setCell (p := ⟨w.heap.size, 1, none⟩) (Below.setCell (p := ⟨w.heap.size, 0, none⟩) GS.out.below (Nat.le_refl _) (.int .i64 0)) (Nat.le_refl _) (.string ⟨#[]⟩)) (Nat.le_refl _) ((.slice none 0 0))) (Nat.le_refl _) (.int .i64 0)) (Nat.le_refl _) (.int .i64 0)) (Nat.le_refl _) (.int .i64 0)) (Nat.le_refl _) (.int .i64 0)) (Nat.le_refl _) (.int .i64 0)) (Nat.le_refl _) (.int .i64 0)) (Nat.le_refl _) (.bool false)) (Nat.le_refl _) (.int .i64 0)) (Nat.le_refl _) (.int .i64 0))
    go_wp2_with fail
    obtain ⟨WF, hWF⟩ : ∃ WF, (((((((((((((w2.setCell ⟨w.heap.size + 1, 1, none⟩ (.string (S ([] : List UInt8)))).setCell ⟨w.heap.size, 0, none⟩ (.int .i64 0)).setCell ⟨w.heap.size, 1, none⟩ (.string ⟨#[]⟩)).setCell ⟨w.heap.size, 2, none⟩ ((.slice none 0 0))).setCell ⟨w.heap.size, 3, none⟩ (.int .i64 0)).setCell ⟨w.heap.size, 4, none⟩ (.int .i64 0)).setCell ⟨w.heap.size, 5, none⟩ (.int .i64 0)).setCell ⟨w.heap.size, 6, none⟩ (.int .i64 0)).setCell ⟨w.heap.size, 7, none⟩ (.int .i64 0)).setCell ⟨w.heap.size, 8, none⟩ (.int .i64 0)).setCell ⟨w.heap.size, 9, none⟩ (.bool false)).setCell ⟨w.heap.size, 10, none⟩ (.int .i64 0)).setCell ⟨w.heap.size, 11, none⟩ (.int .i64 0)) = WF := ⟨_, rfl⟩
    rw [hWF] at rf GF ⊢
    clear hWF t0 t1 t2 t3 t4 t5 t6 t7 t8 t9 t10 t11 v0 v1 v2 v3 v4 v5 v6 v7 v8 v9 v10 v11
    have e0 : WF.cell? ⟨w.heap.size, 0, none⟩ = some (.int .i64 0) := by rw [cell_of_row WF (w.heap.size) 0 _ _ _ rf.out]; rfl
    have e1 : WF.cell? ⟨w.heap.size, 1, none⟩ = some (.string ⟨#[]⟩) := by rw [cell_of_row WF (w.heap.size) 1 _ _ _ rf.out]; rfl
    have e2 : WF.cell? ⟨w.heap.size, 2, none⟩ = some ((.slice none 0 0)) := by rw [cell_of_row WF (w.heap.size) 2 _ _ _ rf.out]; rfl
    have e3 : WF.cell? ⟨w.heap.size, 3, none⟩ = some (.int .i64 0) := by rw [cell_of_row WF (w.heap.size) 3 _ _ _ rf.out]; rfl
    have e4 : WF.cell? ⟨w.heap.size, 4, none⟩ = some (.int .i64 0) := by rw [cell_of_row WF (w.heap.size) 4 _ _ _ rf.out]; rfl
    have e5 : WF.cell? ⟨w.heap.size, 5, none⟩ = some (.int .i64 0) := by rw [cell_of_row WF (w.heap.size) 5 _ _ _ rf.out]; rfl
    have e6 : WF.cell? ⟨w.heap.size, 6, none⟩ = some (.int .i64 0) := by rw [cell_of_row WF (w.heap.size) 6 _ _ _ rf.out]; rfl
    have e7 : WF.cell? ⟨w.heap.size, 7, none⟩ = some (.int .i64 0) := by rw [cell_of_row WF (w.heap.size) 7 _ _ _ rf.out]; rfl
    have e8 : WF.cell? ⟨w.heap.size, 8, none⟩ = some (.int .i64 0) := by rw [cell_of_row WF (w.heap.size) 8 _ _ _ rf.out]; rfl
    have e9 : WF.cell? ⟨w.heap.size, 9, none⟩ = some (.bool false) := by rw [cell_of_row WF (w.heap.size) 9 _ _ _ rf.out]; rfl
    have e10 : WF.cell? ⟨w.heap.size, 10, none⟩ = some (.int .i64 0) := by rw [cell_of_row WF (w.heap.size) 10 _ _ _ rf.out]; rfl
    have e11 : WF.cell? ⟨w.heap.size, 11, none⟩ = some (.int .i64 0) := by rw [cell_of_row WF (w.heap.size) 11 _ _ _ rf.out]; rfl
    refine bodyPost_ret (v := .tuple #[.agg #[.int .i64 0, .string ⟨#[]⟩, (.slice none 0 0), .int .i64 0, .int .i64 0, .int .i64 0, .int .i64 0, .int .i64 0, .int .i64 0, .bool false, .int .i64 0, .int .i64 0], (.iface 70 (.pointer (some ⟨eb, 0, none⟩)))]) (by simp [results, Tryz.results12, go_sem, e0, e1, e2, e3, e4, e5, e6, e7, e8, e9, e10, e11]) rfl ⟨_, rfl, ReadP.no HN.out HE.out, GF.out⟩
set_option maxRecDepth 100000 in
set_option maxHeartbeats 4000000 in
theorem vread2 (s : List UInt8) (w : World) (hs : s.length ≤ 100000) (hM : HasM w) (hU : HasU w) (hh : holdsB s false = true) : Makes 12 #[.string (S s), .int .i64 2] w (ReadP (readV s 2)) := by
  have HM := hid hM
  have HU := hid hU
  have HH := hid hh
  clear hM hU hh
  go_enter Tryz.func12, Tryz.ntmps12
  go_wp2_with fail
  refine (holds_any s false _ (by omega)).use ?_
  rw [HH.out]
  go_wp2_with fail
  refine (list_any s _ (by omega)).use ?_
  intro v w2 hv g2
  have rz : Hid (w2.heap[w.heap.size]? = some (.cells #[.int .i64 0, .string ⟨#[]⟩, (.slice none 0 0), .int .i64 0, .int .i64 0, .int .i64 0, .int .i64 0, .int .i64 0, .int .i64 0, .bool false, .int .i64 0, .int .i64 0] 26 (0, 0))) := hid (by rw [g2.below.block w.heap.size (by simp; omega), Lib.alloc_old _ _ _ (by simp)]; exact heap_alloc_new w _)
  have rv : Hid (w2.heap[w.heap.size + 1]? = some (.cells #[.int .i64 2, .string ⟨#[]⟩, (.slice none 0 0), .int .i64 0, .int .i64 0, .int .i64 0, .int .i64 0, .int .i64 0, .int .i64 0, .bool false, .int .i64 0, .int .i64 0] 26 (0, 0))) := hid (by rw [g2.below.block (w.heap.size + 1) (by simp)]; have := heap_alloc_new (w.alloc (.cells #[.int .i64 0, .string ⟨#[]⟩, (.slice none 0 0), .int .i64 0, .int .i64 0, .int .i64 0, .int .i64 0, .int .i64 0, .int .i64 0, .bool false, .int .i64 0, .int .i64 0] 26)) (.cells #[.int .i64 2, .string ⟨#[]⟩, (.slice none 0 0), .int .i64 0, .int .i64 0, .int .i64 0, .int .i64 0, .int .i64 0, .int .i64 0, .bool false, .int .i64 0, .int .i64 0] 26); simpa using this)
  have G2 : Hid (G w w2) := hid (G.trans (((G.refl w).alloc _).alloc _) g2)
  clear g2
  cases hp : piecesGo [44] s 0 [] [] [] with
  | good ts cs =>
    rw [hp] at hv
    have HN : Hid (readV s 2 = some ⟨2, [], [ts], St0, 0⟩) := hid (by unfold readV; rw [if_neg (by decide), if_neg (by rw [HH.out]; decide), if_neg (by decide), if_pos rfl]; rw [hp])
    have HTN : Hid (ts ≠ []) := hid (by intro e; subst e; have := pieces_ne hp; simp at this)
    obtain ⟨tv, rfl, htv⟩ := hv
    have HTV := hid htv
    obtain ⟨ta, tc, rfl, _⟩ := htv.len
    clear hp htv
    have hq0 : w.heap.size < w2.heap.size := lt_of_row rz.out
    have hq1 : w.heap.size + 1 < w2.heap.size := lt_of_row rv.out
    have HLS : Hid (IsLists (w2.alloc (.cells #[.slice ta ts.length tc] 42)) (.slice (some ⟨w2.heap.size, 0, none⟩) 1 1) [ts]) := hid (lists_one HTV.out)
    have rzA : Hid ((w2.alloc (.cells #[.slice ta ts.length tc] 42)).heap[w.heap.size]? = some (.cells #[.int .i64 0, .string ⟨#[]⟩, (.slice none 0 0), .int .i64 0, .int .i64 0, .int .i64 0, .int .i64 0, .int .i64 0, .int .i64 0, .bool false, .int .i64 0, .int .i64 0] 26 (0, 0))) := hid (by rw [Lib.alloc_old _ _ _ hq0]; exact rz.out)
    have rvA : Hid ((w2.alloc (.cells #[.slice ta ts.length tc] 42)).heap[w.heap.size + 1]? = some (.cells #[.int .i64 2, .string ⟨#[]⟩, (.slice none 0 0), .int .i64 0, .int .i64 0, .int .i64 0, .int .i64 0, .int .i64 0, .int .i64 0, .bool false, .int .i64 0, .int .i64 0] 26 (0, 0))) := hid (by rw [Lib.alloc_old _ _ _ hq1]; exact rv.out)
    have GA : Hid (G w (w2.alloc (.cells #[.slice ta ts.length tc] 42))) := hid (G2.out.alloc _)
    have dq : (w2.alloc (.cells #[.slice ta ts.length tc] 42)).cell? ⟨w.heap.size + 1, 2, none⟩ = some (.slice none 0 0) := by rw [cell_of_row _ (w.heap.size + 1) 2 _ _ _ rvA.out]; rfl
    have fq : (w2.alloc (.cells #[.slice ta ts.length tc] 42)).frozen? ⟨w.heap.size + 1, 2, none⟩ = false := frozen_of_row _ (w.heap.size + 1) 2 _ _ rvA.out
    obtain ⟨w3, hw3⟩ : ∃ w3, (w2.alloc (.cells #[.slice ta ts.length tc] 42)) = w3 := ⟨_, rfl⟩
    have hsz3 : w2.heap.size < w3.heap.size := by rw [← hw3]; simp
    have e2 : w2.cell? ⟨w.heap.size + 1, 2, none⟩ = some (.slice none 0 0) := by rw [cell_of_row w2 (w.heap.size + 1) 2 _ _ _ rv.out]; rfl
    have g2' : w2.frozen? ⟨w.heap.size + 1, 2, none⟩ = false := frozen_of_row w2 (w.heap.size + 1) 2 _ _ rv.out
    have hn1 : ¬ w.heap.size + 1 = w2.heap.size := by omega
    have hn0 : ¬ w.heap.size = w2.heap.size := by omega
    rw [hw3] at rzA rvA GA HLS dq fq
    have d2 : w3.cell? ⟨w.heap.size + 1, 2, none⟩ = some ((.slice none 0 0)) := by rw [cell_of_row w3 (w.heap.size + 1) 2 _ _ _ rvA.out]; rfl
    have f2 : w3.frozen? ⟨w.heap.size + 1, 2, none⟩ = false := frozen_of_row w3 (w.heap.size + 1) 2 _ _ rvA.out
    have q0 : (w3.setCell ⟨w.heap.size + 1, 2, none⟩ ((.slice (some ⟨w2.heap.size, 0, none⟩) 1 1))).heap[w.heap.size + 1]? = some (.cells #[.int .i64 2, .string ⟨#[]⟩, (.slice (some ⟨w2.heap.size, 0, none⟩) 1 1), .int .i64 0, .int .i64 0, .int .i64 0, .int .i64 0, .int .i64 0, .int .i64 0, .bool false, .int .i64 0, .int .i64 0] 26 (0, 0)) := row_setE rvA.out rfl
    have rvS := hid q0
    clear q0
    have rzS : Hid ((w3.setCell ⟨w.heap.size + 1, 2, none⟩ ((.slice (some ⟨w2.heap.size, 0, none⟩) 1 1))).heap[w.heap.size]? = some (.cells #[.int .i64 0, .string ⟨#[]⟩, (.slice none 0 0), .int .i64 0, .int .i64 0, .int .i64 0, .int .i64 0, .int .i64 0, .int .i64 0, .bool false, .int .i64 0, .int .i64 0] 26 (0, 0))) := hid (by rw [Below.heap_setCell _ _ _ _ (by simp)]; exact rzA.out)
    have GS : Hid (G w (w3.setCell ⟨w.heap.size + 1, 2, none⟩ ((.slice (some ⟨w2.heap.size, 0, none⟩) 1 1)))) := hid (Below.setCell (p := ⟨w.heap.size + 1, 2, none⟩) GA.out.below (by simp) ((.slice (some ⟨w2.heap.size, 0, none⟩) 1 1)))
    have c0 : (w3.setCell ⟨w.heap.size + 1, 2, none⟩ ((.slice (some ⟨w2.heap.size, 0, none⟩) 1 1))).cell? ⟨w.heap.size + 1, 0, none⟩ = some (.int .i64 2) := by rw [cell_of_row (w3.setCell ⟨w.heap.size + 1, 2, none⟩ ((.slice (some ⟨w2.heap.size, 0, none⟩) 1 1))) (w.heap.size + 1) 0 _ _ _ rvS.out]; rfl
    have c1 : (w3.setCell ⟨w.heap.size + 1, 2, none⟩ ((.slice (some ⟨w2.heap.size, 0, none⟩) 1 1))).cell? ⟨w.heap.size + 1, 1, none⟩ = some (.string ⟨#[]⟩) := by rw [cell_of_row (w3.setCell ⟨w.heap.size + 1, 2, none⟩ ((.slice (some ⟨w2.heap.size, 0, none⟩) 1 1))) (w.heap.size + 1) 1 _ _ _ rvS.out]; rfl
    have c2 : (w3.setCell ⟨w.heap.size + 1, 2, none⟩ ((.slice (some ⟨w2.heap.size, 0, none⟩) 1 1))).cell? ⟨w.heap.size + 1, 2, none⟩ = some ((.slice (some ⟨w2.heap.size, 0, none⟩) 1 1)) := by rw [cell_of_row (w3.setCell ⟨w.heap.size + 1, 2, none⟩ ((.slice (some ⟨w2.heap.size, 0, none⟩) 1 1))) (w.heap.size + 1) 2 _ _ _ rvS.out]; rfl
    have c3 : (w3.setCell ⟨w.heap.size + 1, 2, none⟩ ((.slice (some ⟨w2.heap.size, 0, none⟩) 1 1))).cell? ⟨w.heap.size + 1, 3, none⟩ = some (.int .i64 0) := by rw [cell_of_row (w3.setCell ⟨w.heap.size + 1, 2, none⟩ ((.slice (some ⟨w2.heap.size, 0, none⟩) 1 1))) (w.heap.size + 1) 3 _ _ _ rvS.out]; rfl
    have c4 : (w3.setCell ⟨w.heap.size + 1, 2, none⟩ ((.slice (some ⟨w2.heap.size, 0, none⟩) 1 1))).cell? ⟨w.heap.size + 1, 4, none⟩ = some (.int .i64 0) := by rw [cell_of_row (w3.setCell ⟨w.heap.size + 1, 2, none⟩ ((.slice (some ⟨w2.heap.size, 0, none⟩) 1 1))) (w.heap.size + 1) 4 _ _ _ rvS.out]; rfl
    have c5 : (w3.setCell ⟨w.heap.size + 1, 2, none⟩ ((.slice (some ⟨w2.heap.size, 0, none⟩) 1 1))).cell? ⟨w.heap.size + 1, 5, none⟩ = some (.int .i64 0) := by rw [cell_of_row (w3.setCell ⟨w.heap.size + 1, 2, none⟩ ((.slice (some ⟨w2.heap.size, 0, none⟩) 1 1))) (w.heap.size + 1) 5 _ _ _ rvS.out]; rfl
    have c6 : (w3.setCell ⟨w.heap.size + 1, 2, none⟩ ((.slice (some ⟨w2.heap.size, 0, none⟩) 1 1))).cell? ⟨w.heap.size + 1, 6, none⟩ = some (.int .i64 0) := by rw [cell_of_row (w3.setCell ⟨w.heap.size + 1, 2, none⟩ ((.slice (some ⟨w2.heap.size, 0, none⟩) 1 1))) (w.heap.size + 1) 6 _ _ _ rvS.out]; rfl
    have c7 : (w3.setCell ⟨w.heap.size + 1, 2, none⟩ ((.slice (some ⟨w2.heap.size, 0, none⟩) 1 1))).cell? ⟨w.heap.size + 1, 7, none⟩ = some (.int .i64 0) := by rw [cell_of_row (w3.setCell ⟨w.heap.size + 1, 2, none⟩ ((.slice (some ⟨w2.heap.size, 0, none⟩) 1 1))) (w.heap.size + 1) 7 _ _ _ rvS.out]; rfl
    have c8 : (w3.setCell ⟨w.heap.size + 1, 2, none⟩ ((.slice (some ⟨w2.heap.size, 0, none⟩) 1 1))).cell? ⟨w.heap.size + 1, 8, none⟩ = some (.int .i64 0) := by rw [cell_of_row (w3.setCell ⟨w.heap.size + 1, 2, none⟩ ((.slice (some ⟨w2.heap.size, 0, none⟩) 1 1))) (w.heap.size + 1) 8 _ _ _ rvS.out]; rfl
    have c9 : (w3.setCell ⟨w.heap.size + 1, 2, none⟩ ((.slice (some ⟨w2.heap.size, 0, none⟩) 1 1))).cell? ⟨w.heap.size + 1, 9, none⟩ = some (.bool false) := by rw [cell_of_row (w3.setCell ⟨w.heap.size + 1, 2, none⟩ ((.slice (some ⟨w2.heap.size, 0, none⟩) 1 1))) (w.heap.size + 1) 9 _ _ _ rvS.out]; rfl
    have c10 : (w3.setCell ⟨w.heap.size + 1, 2, none⟩ ((.slice (some ⟨w2.heap.size, 0, none⟩) 1 1))).cell? ⟨w.heap.size + 1, 10, none⟩ = some (.int .i64 0) := by rw [cell_of_row (w3.setCell ⟨w.heap.size + 1, 2, none⟩ ((.slice (some ⟨w2.heap.size, 0, none⟩) 1 1))) (w.heap.size + 1) 10 _ _ _ rvS.out]; rfl
    have c11 : (w3.setCell ⟨w.heap.size + 1, 2, none⟩ ((.slice (some ⟨w2.heap.size, 0, none⟩) 1 1))).cell? ⟨w.heap.size + 1, 11, none⟩ = some (.int .i64 0) := by rw [cell_of_row (w3.setCell ⟨w.heap.size + 1, 2, none⟩ ((.slice (some ⟨w2.heap.size, 0, none⟩) 1 1))) (w.heap.size + 1) 11 _ _ _ rvS.out]; rfl
    have HK1 : Hid (Kp w3 (w3.setCell ⟨w.heap.size + 1, 2, none⟩ ((.slice (some ⟨w2.heap.size, 0, none⟩) 1 1)))) := hid (Kp.set d2 (.inl rfl))
    have t0 : (w3.setCell ⟨w.heap.size + 1, 2, none⟩ ((.slice (some ⟨w2.heap.size, 0, none⟩) 1 1))).cell? ⟨w.heap.size, 0, none⟩ = some (.int .i64 0) := by rw [cell_of_row (w3.setCell ⟨w.heap.size + 1, 2, none⟩ ((.slice (some ⟨w2.heap.size, 0, none⟩) 1 1))) (w.heap.size) 0 _ _ _ rzS.out]; rfl
    have v0 : (w3.setCell ⟨w.heap.size + 1, 2, none⟩ ((.slice (some ⟨w2.heap.size, 0, none⟩) 1 1))).frozen? ⟨w.heap.size, 0, none⟩ = false := frozen_of_row (w3.setCell ⟨w.heap.size + 1, 2, none⟩ ((.slice (some ⟨w2.heap.size, 0, none⟩) 1 1))) (w.heap.size) 0 _ _ rzS.out
    have t1 : (w3.setCell ⟨w.heap.size + 1, 2, none⟩ ((.slice (some ⟨w2.heap.size, 0, none⟩) 1 1))).cell? ⟨w.heap.size, 1, none⟩ = some (.string ⟨#[]⟩) := by rw [cell_of_row (w3.setCell ⟨w.heap.size + 1, 2, none⟩ ((.slice (some ⟨w2.heap.size, 0, none⟩) 1 1))) (w.heap.size) 1 _ _ _ rzS.out]; rfl
    have v1 : (w3.setCell ⟨w.heap.size + 1, 2, none⟩ ((.slice (some ⟨w2.heap.size, 0, none⟩) 1 1))).frozen? ⟨w.heap.size, 1, none⟩ = false := frozen_of_row (w3.setCell ⟨w.heap.size + 1, 2, none⟩ ((.slice (some ⟨w2.heap.size, 0, none⟩) 1 1))) (w.heap.size) 1 _ _ rzS.out
    have t2 : (w3.setCell ⟨w.heap.size + 1, 2, none⟩ ((.slice (some ⟨w2.heap.size, 0, none⟩) 1 1))).cell? ⟨w.heap.size, 2, none⟩ = some ((.slice none 0 0)) := by rw [cell_of_row (w3.setCell ⟨w.heap.size + 1, 2, none⟩ ((.slice (some ⟨w2.heap.size, 0, none⟩) 1 1))) (w.heap.size) 2 _ _ _ rzS.out]; rfl
    have v2 : (w3.setCell ⟨w.heap.size + 1, 2, none⟩ ((.slice (some ⟨w2.heap.size, 0, none⟩) 1 1))).frozen? ⟨w.heap.size, 2, none⟩ = false := frozen_of_row (w3.setCell ⟨w.heap.size + 1, 2, none⟩ ((.slice (some ⟨w2.heap.size, 0, none⟩) 1 1))) (w.heap.size) 2 _ _ rzS.out
    have t3 : (w3.setCell ⟨w.heap.size + 1, 2, none⟩ ((.slice (some ⟨w2.heap.size, 0, none⟩) 1 1))).cell? ⟨w.heap.size, 3, none⟩ = some (.int .i64 0) := by rw [cell_of_row (w3.setCell ⟨w.heap.size + 1, 2, none⟩ ((.slice (some ⟨w2.heap.size, 0, none⟩) 1 1))) (w.heap.size) 3 _ _ _ rzS.out]; rfl
    have v3 : (w3.setCell ⟨w.heap.size + 1, 2, none⟩ ((.slice (some ⟨w2.heap.size, 0, none⟩) 1 1))).frozen? ⟨w.heap.size, 3, none⟩ = false := frozen_of_row (w3.setCell ⟨w.heap.size + 1, 2, none⟩ ((.slice (some ⟨w2.heap.size, 0, none⟩) 1 1))) (w.heap.size) 3 _ _ rzS.out
    have t4 : (w3.setCell ⟨w.heap.size + 1, 2, none⟩ ((.slice (some ⟨w2.heap.size, 0, none⟩) 1 1))).cell? ⟨w.heap.size, 4, none⟩ = some (.int .i64 0) := by rw [cell_of_row (w3.setCell ⟨w.heap.size + 1, 2, none⟩ ((.slice (some ⟨w2.heap.size, 0, none⟩) 1 1))) (w.heap.size) 4 _ _ _ rzS.out]; rfl
    have v4 : (w3.setCell ⟨w.heap.size + 1, 2, none⟩ ((.slice (some ⟨w2.heap.size, 0, none⟩) 1 1))).frozen? ⟨w.heap.size, 4, none⟩ = false := frozen_of_row (w3.setCell ⟨w.heap.size + 1, 2, none⟩ ((.slice (some ⟨w2.heap.size, 0, none⟩) 1 1))) (w.heap.size) 4 _ _ rzS.out
    have t5 : (w3.setCell ⟨w.heap.size + 1, 2, none⟩ ((.slice (some ⟨w2.heap.size, 0, none⟩) 1 1))).cell? ⟨w.heap.size, 5, none⟩ = some (.int .i64 0) := by rw [cell_of_row (w3.setCell ⟨w.heap.size + 1, 2, none⟩ ((.slice (some ⟨w2.heap.size, 0, none⟩) 1 1))) (w.heap.size) 5 _ _ _ rzS.out]; rfl
    have v5 : (w3.setCell ⟨w.heap.size + 1, 2, none⟩ ((.slice (some ⟨w2.heap.size, 0, none⟩) 1 1))).frozen? ⟨w.heap.size, 5, none⟩ = false := frozen_of_row (w3.setCell ⟨w.heap.size + 1, 2, none⟩ ((.slice (some ⟨w2.heap.size, 0, none⟩) 1 1))) (w.heap.size) 5 _ _ rzS.out
    have t6 : (w3.setCell ⟨w.heap.size + 1, 2, none⟩ ((.slice (some ⟨w2.heap.size, 0, none⟩) 1 1))).cell? ⟨w.heap.size, 6, none⟩ = some (.int .i64 0) := by rw [cell_of_row (w3.setCell ⟨w.heap.size + 1, 2, none⟩ ((.slice (some ⟨w2.heap.size, 0, none⟩) 1 1))) (w.heap.size) 6 _ _ _ rzS.out]; rfl
    have v6 : (w3.setCell ⟨w.heap.size + 1, 2, none⟩ ((.slice (some ⟨w2.heap.size, 0, none⟩) 1 1))).frozen? ⟨w.heap.size, 6, none⟩ = false := frozen_of_row (w3.setCell ⟨w.heap.size + 1, 2, none⟩ ((.slice (some ⟨w2.heap.size, 0, none⟩) 1 1))) (w.heap.size) 6 _ _ rzS.out
    have t7 : (w3.setCell ⟨w.heap.size + 1, 2, none⟩ ((.slice (some ⟨w2.heap.size, 0, none⟩) 1 1))).cell? ⟨w.heap.size, 7, none⟩ = some (.int .i64 0) := by rw [cell_of_row (w3.setCell ⟨w.heap.size + 1, 2, none⟩ ((.slice (some ⟨w2.heap.size, 0, none⟩) 1 1))) (w.heap.size) 7 _ _ _ rzS.out]; rfl
    have v7 : (w3.setCell ⟨w.heap.size + 1, 2, none⟩ ((.slice (some ⟨w2.heap.size, 0, none⟩) 1 1))).frozen? ⟨w.heap.size, 7, none⟩ = false := frozen_of_row (w3.setCell ⟨w.heap.size + 1, 2, none⟩ ((.slice (some ⟨w2.heap.size, 0, none⟩) 1 1))) (w.heap.size) 7 _ _ rzS.out
    have t8 : (w3.setCell ⟨w.heap.size + 1, 2, none⟩ ((.slice (some ⟨w2.heap.size, 0, none⟩) 1 1))).cell? ⟨w.heap.size, 8, none⟩ = some (.int .i64 0) := by rw [cell_of_row (w3.setCell ⟨w.heap.size + 1, 2, none⟩ ((.slice (some ⟨w2.heap.size, 0, none⟩) 1 1))) (w.heap.size) 8 _ _ _ rzS.out]; rfl
    have v8 : (w3.setCell ⟨w.heap.size + 1, 2, none⟩ ((.slice (some ⟨w2.heap.size, 0, none⟩) 1 1))).frozen? ⟨w.heap.size, 8, none⟩ = false := frozen_of_row (w3.setCell ⟨w.heap.size + 1, 2, none⟩ ((.slice (some ⟨w2.heap.size, 0, none⟩) 1 1))) (w.heap.size) 8 _ _ rzS.out
    have t9 : (w3.setCell ⟨w.heap.size + 1, 2, none⟩ ((.slice (some ⟨w2.heap.size, 0, none⟩) 1 1))).cell? ⟨w.heap.size, 9, none⟩ = some (.bool false) := by rw [cell_of_row (w3.setCell ⟨w.heap.size + 1, 2, none⟩ ((.slice (some ⟨w2.heap.size, 0, none⟩) 1 1))) (w.heap.size) 9 _ _ _ rzS.out]; rfl
    have v9 : (w3.setCell ⟨w.heap.size + 1, 2, none⟩ ((.slice (some ⟨w2.heap.size, 0, none⟩) 1 1))).frozen? ⟨w.heap.size, 9, none⟩ = false := frozen_of_row (w3.setCell ⟨w.heap.size + 1, 2, none⟩ ((.slice (some ⟨w2.heap.size, 0, none⟩) 1 1))) (w.heap.size) 9 _ _ rzS.out
    have t10 : (w3.setCell ⟨w.heap.size + 1, 2, none⟩ ((.slice (some ⟨w2.heap.size, 0, none⟩) 1 1))).cell? ⟨w.heap.size, 10, none⟩ = some (.int .i64 0) := by rw [cell_of_row (w3.setCell ⟨w.heap.size + 1, 2, none⟩ ((.slice (some ⟨w2.heap.size, 0, none⟩) 1 1))) (w.heap.size) 10 _ _ _ rzS.out]; rfl
    have v10 : (w3.setCell ⟨w.heap.size + 1, 2, none⟩ ((.slice (some ⟨w2.heap.size, 0, none⟩) 1 1))).frozen? ⟨w.heap.size, 10, none⟩ = false := frozen_of_row (w3.setCell ⟨w.heap.size + 1, 2, none⟩ ((.slice (some ⟨w2.heap.size, 0, none⟩) 1 1))) (w.heap.size) 10 _ _ rzS.out
    have t11 : (w3.setCell ⟨w.heap.size + 1, 2, none⟩ ((.slice (some ⟨w2.heap.size, 0, none⟩) 1 1))).cell? ⟨w.heap.size, 11, none⟩ = some (.int .i64 0) := by rw [cell_of_row (w3.setCell ⟨w.heap.size + 1, 2, none⟩ ((.slice (some ⟨w2.heap.size, 0, none⟩) 1 1))) (w.heap.size) 11 _ _ _ rzS.out]; rfl
    have v11 : (w3.setCell ⟨w.heap.size + 1, 2, none⟩ ((.slice (some ⟨w2.heap.size, 0, none⟩) 1 1))).frozen? ⟨w.heap.size, 11, none⟩ = false := frozen_of_row (w3.setCell ⟨w.heap.size + 1, 2, none⟩ ((.slice (some ⟨w2.heap.size, 0, none⟩) 1 1))) (w.heap.size) 11 _ _ rzS.out
    have rf : Hid ((((((((((((((w3.setCell ⟨w.heap.size + 1, 2, none⟩ ((.slice (some ⟨w2.heap.size, 0, none⟩) 1 1))).setCell ⟨w.heap.size, 0, none⟩ (.int .i64 2)).setCell ⟨w.heap.size, 1, none⟩ (.string ⟨#[]⟩)).setCell ⟨w.heap.size, 2, none⟩ ((.slice (some ⟨w2.heap.size, 0, none⟩) 1 1))).setCell ⟨w.heap.size, 3, none⟩ (.int .i64 0)).setCell ⟨w.heap.size, 4, none⟩ (.int .i64 0)).setCell ⟨w.heap.size, 5, none⟩ (.int .i64 0)).setCell ⟨w.heap.size, 6, none⟩ (.int .i64 0)).setCell ⟨w.heap.size, 7, none⟩ (.int .i64 0)).setCell ⟨w.heap.size, 8, none⟩ (.int .i64 0)).setCell ⟨w.heap.size, 9, none⟩ (.bool false)).setCell ⟨w.heap.size, 10, none⟩ (.int .i64 0)).setCell ⟨w.heap.size, 11, none⟩ (.int .i64 0)).heap[w.heap.size]? = some (.cells #[.int .i64 2, .string ⟨#[]⟩, (.slice (some ⟨w2.heap.size, 0, none⟩) 1 1), .int .i64 0, .int .i64 0, .int .i64 0, .int .i64 0, .int .i64 0, .int .i64 0, .bool false, .int .i64 0, .int .i64 0] 26 (0, 0))) := hid (row_set12 (.int .i64 2) (.string ⟨#[]⟩) ((.slice (some ⟨w2.heap.size, 0, none⟩) 1 1)) (.int .i64 0) (.int .i64 0) (.int .i64 0) (.int .i64 0) (.int .i64 0) (.int .i64 0) (.bool false) (.int .i64 0) (.int .i64 0) rzS.out)
    have GF : Hid (G w (((((((((((((w3.setCell ⟨w.heap.size + 1, 2, none⟩ ((.slice (some ⟨w2.heap.size, 0, none⟩) 1 1))).setCell ⟨w.heap.size, 0, none⟩ (.int .i64 2)).setCell ⟨w.heap.size, 1, none⟩ (.string ⟨#[]⟩)).setCell ⟨w.heap.size, 2, none⟩ ((.slice (some ⟨w2.heap.size, 0, none⟩) 1 1))).setCell ⟨w.heap.size, 3, none⟩ (.int .i64 0)).setCell ⟨w.heap.size, 4, none⟩ (.int .i64 0)).setCell ⟨w.heap.size, 5, none⟩ (.int .i64 0)).setCell ⟨w.heap.size, 6, none⟩ (.int .i64 0)).setCell ⟨w.heap.size, 7, none⟩ (.int .i64 0)).setCell ⟨w.heap.size, 8, none⟩ (.int .i64 0)).setCell ⟨w.heap.size, 9, none⟩ (.bool false)).setCell ⟨w.heap.size, 10, none⟩ (.int .i64 0)).setCell ⟨w.heap.size, 11, none⟩ (.int .i64 0))) := hid (Below.setCell (p := ⟨w.heap.size, 11, none⟩) (Below.setCell (p := ⟨w.heap.size, 10, none⟩) (Below.setCell (p := ⟨w.heap.size, 9, none⟩) (Below.setCell (p := ⟨w.heap.size, 8, none⟩) (Below.setCell (p := ⟨w.heap.size, 7, none⟩) (Below.setCell (p := ⟨w.heap.size, 6, none⟩) (Below.setCell (p := ⟨w.heap.size, 5, none⟩) (Below.setCell (p := ⟨w.heap.size, 4, none⟩) (Below.setCell (p := ⟨w.heap.size, 3, none⟩) (Below.setCell (p := ⟨w.heap.size, 2, none⟩) (Below.setCell (p := ⟨w.heap.size, 1, none⟩) (Below.setCell (p := ⟨w.heap.size, 0, none⟩) GS.out.below (Nat.le_refl _) (.int .i64 2)) (Nat.le_refl _) (.string ⟨#[]⟩)) (Nat.le_refl _) ((.slice (some ⟨w2.heap.size, 0, none⟩) 1 1))) (Nat.le_refl _) (.int .i64 0)) (Nat.le_refl _) (.int .i64 0)) (Nat.le_refl _) (.int .i64 0)) (Nat.le_refl _) (.int .i64 0)) (Nat.le_refl _) (.int .i64 0)) (Nat.le_refl _) (.int .i64 0)) (Nat.le_refl _) (.bool false)) (Nat.le_refl _) (.int .i64 0)) (Nat.le_refl _) (.int .i64 0))
    have HKF : Hid (Kp w3 (((((((((((((w3.setCell ⟨w.heap.size + 1, 2, none⟩ ((.slice (some ⟨w2.heap.size, 0, none⟩) 1 1))).setCell ⟨w.heap.size, 0, none⟩ (.int .i64 2)).setCell ⟨w.heap.size, 1, none⟩ (.string ⟨#[]⟩)).setCell ⟨w.heap.size, 2, none⟩ ((.slice (some ⟨w2.heap.size, 0, none⟩) 1 1))).setCell ⟨w.heap.size, 3, none⟩ (.int .i64 0)).setCell ⟨w.heap.size, 4, none⟩ (.int .i64 0)).setCell ⟨w.heap.size, 5, none⟩ (.int .i64 0)).setCell ⟨w.heap.size, 6, none⟩ (.int .i64 0)).setCell ⟨w.heap.size, 7, none⟩ (.int .i64 0)).setCell ⟨w.heap.size, 8, none⟩ (.int .i64 0)).setCell ⟨w.heap.size, 9, none⟩ (.bool false)).setCell ⟨w.heap.size, 10, none⟩ (.int .i64 0)).setCell ⟨w.heap.size, 11, none⟩ (.int .i64 0))) := hid (Kp.trans HK1.out (kp_set12 (.int .i64 2) (.string ⟨#[]⟩) ((.slice (some ⟨w2.heap.size, 0, none⟩) 1 1)) (.int .i64 0) (.int .i64 0) (.int .i64 0) (.int .i64 0) (.int .i64 0) (.int .i64 0) (.bool false) (.int .i64 0) (.int .i64 0) rzS.out (by refine ⟨?_, ?_, ?_, ?_, ?_, ?_, ?_, ?_, ?_, ?_, ?_, ?_⟩ <;> (first | exact .inl rfl | exact .inr rfl))))
    go_wp2_with fail
    obtain ⟨WF, hWF⟩ : ∃ WF, (((((((((((((w3.setCell ⟨w.heap.size + 1, 2, none⟩ ((.slice (some ⟨w2.heap.size, 0, none⟩) 1 1))).setCell ⟨w.heap.size, 0, none⟩ (.int .i64 2)).setCell ⟨w.heap.size, 1, none⟩ (.string ⟨#[]⟩)).setCell ⟨w.heap.size, 2, none⟩ ((.slice (some ⟨w2.heap.size, 0, none⟩) 1 1))).setCell ⟨w.heap.size, 3, none⟩ (.int .i64 0)).setCell ⟨w.heap.size, 4, none⟩ (.int .i64 0)).setCell ⟨w.heap.size, 5, none⟩ (.int .i64 0)).setCell ⟨w.heap.size, 6, none⟩ (.int .i64 0)).setCell ⟨w.heap.size, 7, none⟩ (.int .i64 0)).setCell ⟨w.heap.size, 8, none⟩ (.int .i64 0)).setCell ⟨w.heap.size, 9, none⟩ (.bool false)).setCell ⟨w.heap.size, 10, none⟩ (.int .i64 0)).setCell ⟨w.heap.size, 11, none⟩ (.int .i64 0)) = WF := ⟨_, rfl⟩
    rw [hWF] at rf GF HKF ⊢
    clear hWF t0 t1 t2 t3 t4 t5 t6 t7 t8 t9 t10 t11 v0 v1 v2 v3 v4 v5 v6 v7 v8 v9 v10 v11
    have e0 : WF.cell? ⟨w.heap.size, 0, none⟩ = some (.int .i64 2) := by rw [cell_of_row WF (w.heap.size) 0 _ _ _ rf.out]; rfl
    have e1 : WF.cell? ⟨w.heap.size, 1, none⟩ = some (.string ⟨#[]⟩) := by rw [cell_of_row WF (w.heap.size) 1 _ _ _ rf.out]; rfl
    have e2 : WF.cell? ⟨w.heap.size, 2, none⟩ = some ((.slice (some ⟨w2.heap.size, 0, none⟩) 1 1)) := by rw [cell_of_row WF (w.heap.size) 2 _ _ _ rf.out]; rfl
    have e3 : WF.cell? ⟨w.heap.size, 3, none⟩ = some (.int .i64 0) := by rw [cell_of_row WF (w.heap.size) 3 _ _ _ rf.out]; rfl
    have e4 : WF.cell? ⟨w.heap.size, 4, none⟩ = some (.int .i64 0) := by rw [cell_of_row WF (w.heap.size) 4 _ _ _ rf.out]; rfl
    have e5 : WF.cell? ⟨w.heap.size, 5, none⟩ = some (.int .i64 0) := by rw [cell_of_row WF (w.heap.size) 5 _ _ _ rf.out]; rfl
    have e6 : WF.cell? ⟨w.heap.size, 6, none⟩ = some (.int .i64 0) := by rw [cell_of_row WF (w.heap.size) 6 _ _ _ rf.out]; rfl
    have e7 : WF.cell? ⟨w.heap.size, 7, none⟩ = some (.int .i64 0) := by rw [cell_of_row WF (w.heap.size) 7 _ _ _ rf.out]; rfl
    have e8 : WF.cell? ⟨w.heap.size, 8, none⟩ = some (.int .i64 0) := by rw [cell_of_row WF (w.heap.size) 8 _ _ _ rf.out]; rfl
    have e9 : WF.cell? ⟨w.heap.size, 9, none⟩ = some (.bool false) := by rw [cell_of_row WF (w.heap.size) 9 _ _ _ rf.out]; rfl
    have e10 : WF.cell? ⟨w.heap.size, 10, none⟩ = some (.int .i64 0) := by rw [cell_of_row WF (w.heap.size) 10 _ _ _ rf.out]; rfl
    have e11 : WF.cell? ⟨w.heap.size, 11, none⟩ = some (.int .i64 0) := by rw [cell_of_row WF (w.heap.size) 11 _ _ _ rf.out]; rfl
    refine bodyPost_ret (v := .tuple #[.agg #[.int .i64 2, .string ⟨#[]⟩, (.slice (some ⟨w2.heap.size, 0, none⟩) 1 1), .int .i64 0, .int .i64 0, .int .i64 0, .int .i64 0, .int .i64 0, .int .i64 0, .bool false, .int .i64 0, .int .i64 0], .nilIface]) (by simp [results, Tryz.results12, go_sem, e0, e1, e2, e3, e4, e5, e6, e7, e8, e9, e10, e11]) rfl ⟨_, rfl, ReadP.yes HN.out (HLS.out.kept (by intro l hl; rw [List.mem_singleton.1 hl]; exact HTN.out) HKF.out), GF.out⟩
  | bad c q =>
    have HN : Hid (readV s 2 = none) := hid (by unfold readV; rw [if_neg (by decide), if_neg (by rw [HH.out]; decide), if_neg (by decide), if_pos rfl]; rw [hp])
    rw [hp] at hv
    obtain ⟨e, rfl, he⟩ := hv
    have HE := hid (isE_at he)
    obtain ⟨eb, rfl, _⟩ := he
    clear hp
    have hq0 : w.heap.size < w2.heap.size := lt_of_row rz.out
    have hq1 : w.heap.size + 1 < w2.heap.size := lt_of_row rv.out
    have rzA : Hid ((w2.alloc (.cells #[.slice none 0 0] 42)).heap[w.heap.size]? = some (.cells #[.int .i64 0, .string ⟨#[]⟩, (.slice none 0 0), .int .i64 0, .int .i64 0, .int .i64 0, .int .i64 0, .int .i64 0, .int .i64 0, .bool false, .int .i64 0, .int .i64 0] 26 (0, 0))) := hid (by rw [Lib.alloc_old _ _ _ hq0]; exact rz.out)
    have rvA : Hid ((w2.alloc (.cells #[.slice none 0 0] 42)).heap[w.heap.size + 1]? = some (.cells #[.int .i64 2, .string ⟨#[]⟩, (.slice none 0 0), .int .i64 0, .int .i64 0, .int .i64 0, .int .i64 0, .int .i64 0, .int .i64 0, .bool false, .int .i64 0, .int .i64 0] 26 (0, 0))) := hid (by rw [Lib.alloc_old _ _ _ hq1]; exact rv.out)
    have GA : Hid (G w (w2.alloc (.cells #[.slice none 0 0] 42))) := hid (G2.out.alloc _)
    have dq : (w2.alloc (.cells #[.slice none 0 0] 42)).cell? ⟨w.heap.size + 1, 2, none⟩ = some (.slice none 0 0) := by rw [cell_of_row _ (w.heap.size + 1) 2 _ _ _ rvA.out]; rfl
    have fq : (w2.alloc (.cells #[.slice none 0 0] 42)).frozen? ⟨w.heap.size + 1, 2, none⟩ = false := frozen_of_row _ (w.heap.size + 1) 2 _ _ rvA.out
    obtain ⟨w3, hw3⟩ : ∃ w3, (w2.alloc (.cells #[.slice none 0 0] 42)) = w3 := ⟨_, rfl⟩
    have hsz3 : w2.heap.size < w3.heap.size := by rw [← hw3]; simp
    have e2 : w2.cell? ⟨w.heap.size + 1, 2, none⟩ = some (.slice none 0 0) := by rw [cell_of_row w2 (w.heap.size + 1) 2 _ _ _ rv.out]; rfl
    have g2' : w2.frozen? ⟨w.heap.size + 1, 2, none⟩ = false := frozen_of_row w2 (w.heap.size + 1) 2 _ _ rv.out
    have hn1 : ¬ w.heap.size + 1 = w2.heap.size := by omega
    have hn0 : ¬ w.heap.size = w2.heap.size := by omega
    rw [hw3] at rzA rvA GA dq fq
    have d2 : w3.cell? ⟨w.heap.size + 1, 2, none⟩ = some ((.slice none 0 0)) := by rw [cell_of_row w3 (w.heap.size + 1) 2 _ _ _ rvA.out]; rfl
    have f2 : w3.frozen? ⟨w.heap.size + 1, 2, none⟩ = false := frozen_of_row w3 (w.heap.size + 1) 2 _ _ rvA.out
    have rzS : Hid ((w3.setCell ⟨w.heap.size + 1, 2, none⟩ ((.slice (some ⟨w2.heap.size, 0, none⟩) 1 1))).heap[w.heap.size]? = some (.cells #[.int .i64 0, .string ⟨#[]⟩, (.slice none 0 0), .int .i64 0, .int .i64 0, .int .i64 0, .int .i64 0, .int .i64 0, .int .i64 0, .bool false, .int .i64 0, .int .i64 0] 26 (0, 0))) := hid (by rw [Below.heap_setCell _ _ _ _ (by simp)]; exact rzA.out)
    have GS : Hid (G w (w3.setCell ⟨w.heap.size + 1, 2, none⟩ ((.slice (some ⟨w2.heap.size, 0, none⟩) 1 1)))) := hid (Below.setCell (p := ⟨w.heap.size + 1, 2, none⟩) GA.out.below (by simp) ((.slice (some ⟨w2.heap.size, 0, none⟩) 1 1)))
    have t0 : (w3.setCell ⟨w.heap.size + 1, 2, none⟩ ((.slice (some ⟨w2.heap.size, 0, none⟩) 1 1))).cell? ⟨w.heap.size, 0, none⟩ = some (.int .i64 0) := by rw [cell_of_row (w3.setCell ⟨w.heap.size + 1, 2, none⟩ ((.slice (some ⟨w2.heap.size, 0, none⟩) 1 1))) (w.heap.size) 0 _ _ _ rzS.out]; rfl
    have v0 : (w3.setCell ⟨w.heap.size + 1, 2, none⟩ ((.slice (some ⟨w2.heap.size, 0, none⟩) 1 1))).frozen? ⟨w.heap.size, 0, none⟩ = false := frozen_of_row (w3.setCell ⟨w.heap.size + 1, 2, none⟩ ((.slice (some ⟨w2.heap.size, 0, none⟩) 1 1))) (w.heap.size) 0 _ _ rzS.out
    have t1 : (w3.setCell ⟨w.heap.size + 1, 2, none⟩ ((.slice (some ⟨w2.heap.size, 0, none⟩) 1 1))).cell? ⟨w.heap.size, 1, none⟩ = some (.string ⟨#[]⟩) := by rw [cell_of_row (w3.setCell ⟨w.heap.size + 1, 2, none⟩ ((.slice (some ⟨w2.heap.size, 0, none⟩) 1 1))) (w.heap.size) 1 _ _ _ rzS.out]; rfl
    have v1 : (w3.setCell ⟨w.heap.size + 1, 2, none⟩ ((.slice (some ⟨w2.heap.size, 0, none⟩) 1 1))).frozen? ⟨w.heap.size, 1, none⟩ = false := frozen_of_row (w3.setCell ⟨w.heap.size + 1, 2, none⟩ ((.slice (some ⟨w2.heap.size, 0, none⟩) 1 1))) (w.heap.size) 1 _ _ rzS.out
    have t2 : (w3.setCell ⟨w.heap.size + 1, 2, none⟩ ((.slice (some ⟨w2.heap.size, 0, none⟩) 1 1))).cell? ⟨w.heap.size, 2, none⟩ = some ((.slice none 0 0)) := by rw [cell_of_row (w3.setCell ⟨w.heap.size + 1, 2, none⟩ ((.slice (some ⟨w2.heap.size, 0, none⟩) 1 1))) (w.heap.size) 2 _ _ _ rzS.out]; rfl
    have v2 : (w3.setCell ⟨w.heap.size + 1, 2, none⟩ ((.slice (some ⟨w2.heap.size, 0, none⟩) 1 1))).frozen? ⟨w.heap.size, 2, none⟩ = false := frozen_of_row (w3.setCell ⟨w.heap.size + 1, 2, none⟩ ((.slice (some ⟨w2.heap.size, 0, none⟩) 1 1))) (w.heap.size) 2 _ _ rzS.out
    have t3 : (w3.setCell ⟨w.heap.size + 1, 2, none⟩ ((.slice (some ⟨w2.heap.size, 0, none⟩) 1 1))).cell? ⟨w.heap.size, 3, none⟩ = some (.int .i64 0) := by rw [cell_of_row (w3.setCell ⟨w.heap.size + 1, 2, none⟩ ((.slice (some ⟨w2.heap.size, 0, none⟩) 1 1))) (w.heap.size) 3 _ _ _ rzS.out]; rfl
    have v3 : (w3.setCell ⟨w.heap.size + 1, 2, none⟩ ((.slice (some ⟨w2.heap.size, 0, none⟩) 1 1))).frozen? ⟨w.heap.size, 3, none⟩ = false := frozen_of_row (w3.setCell ⟨w.heap.size + 1, 2, none⟩ ((.slice (some ⟨w2.heap.size, 0, none⟩) 1 1))) (w.heap.size) 3 _ _ rzS.out
    have t4 : (w3.setCell ⟨w.heap.size + 1, 2, none⟩ ((.slice (some ⟨w2.heap.size, 0, none⟩) 1 1))).cell? ⟨w.heap.size, 4, none⟩ = some (.int .i64 0) := by rw [cell_of_row (w3.setCell ⟨w.heap.size + 1, 2, none⟩ ((.slice (some ⟨w2.heap.size, 0, none⟩) 1 1))) (w.heap.size) 4 _ _ _ rzS.out]; rfl
    have v4 : (w3.setCell ⟨w.heap.size + 1, 2, none⟩ ((.slice (some ⟨w2.heap.size, 0, none⟩) 1 1))).frozen? ⟨w.heap.size, 4, none⟩ = false := frozen_of_row (w3.setCell ⟨w.heap.size + 1, 2, none⟩ ((.slice (some ⟨w2.heap.size, 0, none⟩) 1 1))) (w.heap.size) 4 _ _ rzS.out
    have t5 : (w3.setCell ⟨w.heap.size + 1, 2, none⟩ ((.slice (some ⟨w2.heap.size, 0, none⟩) 1 1))).cell? ⟨w.heap.size, 5, none⟩ = some (.int .i64 0) := by rw [cell_of_row (w3.setCell ⟨w.heap.size + 1, 2, none⟩ ((.slice (some ⟨w2.heap.size, 0, none⟩) 1 1))) (w.heap.size) 5 _ _ _ rzS.out]; rfl
    have v5 : (w3.setCell ⟨w.heap.size + 1, 2, none⟩ ((.slice (some ⟨w2.heap.size, 0, none⟩) 1 1))).frozen? ⟨w.heap.size, 5, none⟩ = false := frozen_of_row (w3.setCell ⟨w.heap.size + 1, 2, none⟩ ((.slice (some ⟨w2.heap.size, 0, none⟩) 1 1))) (w.heap.size) 5 _ _ rzS.out
    have t6 : (w3.setCell ⟨w.heap.size + 1, 2, none⟩ ((.slice (some ⟨w2.heap.size, 0, none⟩) 1 1))).cell? ⟨w.heap.size, 6, none⟩ = some (.int .i64 0) := by rw [cell_of_row (w3.setCell ⟨w.heap.size + 1, 2, none⟩ ((.slice (some ⟨w2.heap.size, 0, none⟩) 1 1))) (w.heap.size) 6 _ _ _ rzS.out]; rfl
    have v6 : (w3.setCell ⟨w.heap.size + 1, 2, none⟩ ((.slice (some ⟨w2.heap.size, 0, none⟩) 1 1))).frozen? ⟨w.heap.size, 6, none⟩ = false := frozen_of_row (w3.setCell ⟨w.heap.size + 1, 2, none⟩ ((.slice (some ⟨w2.heap.size, 0, none⟩) 1 1))) (w.heap.size) 6 _ _ rzS.out
    have t7 : (w3.setCell ⟨w.heap.size + 1, 2, none⟩ ((.slice (some ⟨w2.heap.size, 0, none⟩) 1 1))).cell? ⟨w.heap.size, 7, none⟩ = some (.int .i64 0) := by rw [cell_of_row (w3.setCell ⟨w.heap.size + 1, 2, none⟩ ((.slice (some ⟨w2.heap.size, 0, none⟩) 1 1))) (w.heap.size) 7 _ _ _ rzS.out]; rfl
    have v7 : (w3.setCell ⟨w.heap.size + 1, 2, none⟩ ((.slice (some ⟨w2.heap.size, 0, none⟩) 1 1))).frozen? ⟨w.heap.size, 7, none⟩ = false := frozen_of_row (w3.setCell ⟨w.heap.size + 1, 2, none⟩ ((.slice (some ⟨w2.heap.size, 0, none⟩) 1 1))) (w.heap.size) 7 _ _ rzS.out
    have t8 : (w3.setCell ⟨w.heap.size + 1, 2, none⟩ ((.slice (some ⟨w2.heap.size, 0, none⟩) 1 1))).cell? ⟨w.heap.size, 8, none⟩ = some (.int .i64 0) := by rw [cell_of_row (w3.setCell ⟨w.heap.size + 1, 2, none⟩ ((.slice (some ⟨w2.heap.size, 0, none⟩) 1 1))) (w.heap.size) 8 _ _ _ rzS.out]; rfl
    have v8 : (w3.setCell ⟨w.heap.size + 1, 2, none⟩ ((.slice (some ⟨w2.heap.size, 0, none⟩) 1 1))).frozen? ⟨w.heap.size, 8, none⟩ = false := frozen_of_row (w3.setCell ⟨w.heap.size + 1, 2, none⟩ ((.slice (some ⟨w2.heap.size, 0, none⟩) 1 1))) (w.heap.size) 8 _ _ rzS.out
    have t9 : (w3.setCell ⟨w.heap.size + 1, 2, none⟩ ((.slice (some ⟨w2.heap.size, 0, none⟩) 1 1))).cell? ⟨w.heap.size, 9, none⟩ = some (.bool false) := by rw [cell_of_row (w3.setCell ⟨w.heap.size + 1, 2, none⟩ ((.slice (some ⟨w2.heap.size, 0, none⟩) 1 1))) (w.heap.size) 9 _ _ _ rzS.out]; rfl
    have v9 : (w3.setCell ⟨w.heap.size + 1, 2, none⟩ ((.slice (some ⟨w2.heap.size, 0, none⟩) 1 1))).frozen? ⟨w.heap.size, 9, none⟩ = false := frozen_of_row (w3.setCell ⟨w.heap.size + 1, 2, none⟩ ((.slice (some ⟨w2.heap.size, 0, none⟩) 1 1))) (w.heap.size) 9 _ _ rzS.out
    have t10 : (w3.setCell ⟨w.heap.size + 1, 2, none⟩ ((.slice (some ⟨w2.heap.size, 0, none⟩) 1 1))).cell? ⟨w.heap.size, 10, none⟩ = some (.int .i64 0) := by rw [cell_of_row (w3.setCell ⟨w.heap.size + 1, 2, none⟩ ((.slice (some ⟨w2.heap.size, 0, none⟩) 1 1))) (w.heap.size) 10 _ _ _ rzS.out]; rfl
    have v10 : (w3.setCell ⟨w.heap.size + 1, 2, none⟩ ((.slice (some ⟨w2.heap.size, 0, none⟩) 1 1))).frozen? ⟨w.heap.size, 10, none⟩ = false := frozen_of_row (w3.setCell ⟨w.heap.size + 1, 2, none⟩ ((.slice (some ⟨w2.heap.size, 0, none⟩) 1 1))) (w.heap.size) 10 _ _ rzS.out
    have t11 : (w3.setCell ⟨w.heap.size + 1, 2, none⟩ ((.slice (some ⟨w2.heap.size, 0, none⟩) 1 1))).cell? ⟨w.heap.size, 11, none⟩ = some (.int .i64 0) := by rw [cell_of_row (w3.setCell ⟨w.heap.size + 1, 2, none⟩ ((.slice (some ⟨w2.heap.size, 0, none⟩) 1 1))) (w.heap.size) 11 _ _ _ rzS.out]; rfl
    have v11 : (w3.setCell ⟨w.heap.size + 1, 2, none⟩ ((.slice (some ⟨w2.heap.size, 0, none⟩) 1 1))).frozen? ⟨w.heap.size, 11, none⟩ = false := frozen_of_row (w3.setCell ⟨w.heap.size + 1, 2, none⟩ ((.slice (some ⟨w2.heap.size, 0, none⟩) 1 1))) (w.heap.size) 11 _ _ rzS.out
    have rf : Hid ((((((((((((((w3.setCell ⟨w.heap.size + 1, 2, none⟩ ((.slice (some ⟨w2.heap.size, 0, none⟩) 1 1))).setCell ⟨w.heap.size, 0, none⟩ (.int .i64 0)).setCell ⟨w.heap.size, 1, none⟩ (.string ⟨#[]⟩)).setCell ⟨w.heap.size, 2, none⟩ ((.slice none 0 0))).setCell ⟨w.heap.size, 3, none⟩ (.int .i64 0)).setCell ⟨w.heap.size, 4, none⟩ (.int .i64 0)).setCell ⟨w.heap.size, 5, none⟩ (.int .i64 0)).setCell ⟨w.heap.size, 6, none⟩ (.int .i64 0)).setCell ⟨w.heap.size, 7, none⟩ (.int .i64 0)).setCell ⟨w.heap.size, 8, none⟩ (.int .i64 0)).setCell ⟨w.heap.size, 9, none⟩ (.bool false)).setCell ⟨w.heap.size, 10, none⟩ (.int .i64 0)).setCell ⟨w.heap.size, 11, none⟩ (.int .i64 0)).heap[w.heap.size]? = some (.cells #[.int .i64 0, .string ⟨#[]⟩, (.slice none 0 0), .int .i64 0, .int .i64 0, .int .i64 0, .int .i64 0, .int .i64 0, .int .i64 0, .bool false, .int .i64 0, .int .i64 0] 26 (0, 0))) := hid (row_set12 (.int .i64 0) (.string ⟨#[]⟩) ((.slice none 0 0)) (.int .i64 0) (.int .i64 0) (.int .i64 0) (.int .i64 0) (.int .i64 0) (.int .i64 0) (.bool false) (.int .i64 0) (.int .i64 0) rzS.out)
    have GF : Hid (G w (((((((((((((w3.setCell ⟨w.heap.size + 1, 2, none⟩ ((.slice (some ⟨w2.heap.size, 0, none⟩) 1 1))).setCell ⟨w.heap.size, 0, none⟩ (.int .i64 0)).setCell ⟨w.heap.size, 1, none⟩ (.string ⟨#[]⟩)).setCell ⟨w.heap.size, 2, none⟩ ((.slice none 0 0))).setCell ⟨w.heap.size, 3, none⟩ (.int .i64 0)).setCell ⟨w.heap.size, 4, none⟩ (.int .i64 0)).setCell ⟨w.heap.size, 5, none⟩ (.int .i64 0)).setCell ⟨w.heap.size, 6, none⟩ (.int .i64 0)).setCell ⟨w.heap.size, 7, none⟩ (.int .i64 0)).setCell ⟨w.heap.size, 8, none⟩ (.int .i64 0)).setCell ⟨w.heap.size, 9, none⟩ (.bool false)).setCell ⟨w.heap.size, 10, none⟩ (.int .i64 0)).setCell ⟨w.heap.size, 11, none⟩ (.int .i64 0))) := hid (Below.setCell (p := ⟨w.heap.size, 11, none⟩) (Below.setCell (p := ⟨w.heap.size, 10, none⟩) (Below.setCell (p := ⟨w.heap.size, 9, none⟩) (Below.setCell (p := ⟨w.heap.size, 8, none⟩) (Below.setCell (p := ⟨w.heap.size, 7, none⟩) (Below.setCell (p := ⟨w.heap.size, 6, none⟩) (Below.setCell (p := ⟨w.heap.size, 5, none⟩) (Below.setCell (p := ⟨w.heap.size, 4, none⟩) (Below.setCell (p := ⟨w.heap.size, 3, none⟩) (Below.setCell (p := ⟨w.heap.size, 2, none⟩) (Below.setCell (p := ⟨w.heap.size, 1, none⟩) (Below.setCell (p := ⟨w.heap.size, 0, none⟩) GS.out.below (Nat.le_refl _) (.int .i64 0)) (Nat.le_refl _) (.string ⟨#[]⟩)) (Nat.le_refl _) ((.slice none 0 0))) (Nat.le_refl _) (.int .i64 0)) (Nat.le_refl _) (.int .i64 0)) (Nat.le_refl _) (.int .i64 0)) (Nat.le_refl _) (.int .i64 0)) (Nat.le_refl _) (.int .i64 0)) (Nat.le_refl _) (.int .i64 0)) (Nat.le_refl _) (.bool false)) (Nat.le_refl _) (.int .i64 0)) (Nat.le_refl _) (.int .i64 0))
    go_wp2_with fail
    obtain ⟨WF, hWF⟩ : ∃ WF, (((((((((((((w3.setCell ⟨w.heap.size + 1, 2, none⟩ ((.slice (some ⟨w2.heap.size, 0, none⟩) 1 1))).setCell ⟨w.heap.size, 0, none⟩ (.int .i64 0)).setCell ⟨w.heap.size, 1, none⟩ (.string ⟨#[]⟩)).setCell ⟨w.heap.size, 2, none⟩ ((.slice none 0 0))).setCell ⟨w.heap.size, 3, none⟩ (.int .i64 0)).setCell ⟨w.heap.size, 4, none⟩ (.int .i64 0)).setCell ⟨w.heap.size, 5, none⟩ (.int .i64 0)).setCell ⟨w.heap.size, 6, none⟩ (.int .i64 0)).setCell ⟨w.heap.size, 7, none⟩ (.int .i64 0)).setCell ⟨w.heap.size, 8, none⟩ (.int .i64 0)).setCell ⟨w.heap.size, 9, none⟩ (.bool false)).setCell ⟨w.heap.size, 10, none⟩ (.int .i64 0)).setCell ⟨w.heap.size, 11, none⟩ (.int .i64 0)) = WF := ⟨_, rfl⟩
    rw [hWF] at rf GF ⊢
    clear hWF t0 t1 t2 t3 t4 t5 t6 t7 t8 t9 t10 t11 v0 v1 v2 v3 v4 v5 v6 v7 v8 v9 v10 v11
    have e0 : WF.cell? ⟨w.heap.size, 0, none⟩ = some (.int .i64 0) := by rw [cell_of_row WF (w.heap.size) 0 _ _ _ rf.out]; rfl
    have e1 : WF.cell? ⟨w.heap.size, 1, none⟩ = some (.string ⟨#[]⟩) := by rw [cell_of_row WF (w.heap.size) 1 _ _ _ rf.out]; rfl
    have e2 : WF.cell? ⟨w.heap.size, 2, none⟩ = some ((.slice none 0 0)) := by rw [cell_of_row WF (w.heap.size) 2 _ _ _ rf.out]; rfl
    have e3 : WF.cell? ⟨w.heap.size, 3, none⟩ = some (.int .i64 0) := by rw [cell_of_row WF (w.heap.size) 3 _ _ _ rf.out]; rfl
    have e4 : WF.cell? ⟨w.heap.size, 4, none⟩ = some (.int .i64 0) := by rw [cell_of_row WF (w.heap.size) 4 _ _ _ rf.out]; rfl
    have e5 : WF.cell? ⟨w.heap.size, 5, none⟩ = some (.int .i64 0) := by rw [cell_of_row WF (w.heap.size) 5 _ _ _ rf.out]; rfl
    have e6 : WF.cell? ⟨w.heap.size, 6, none⟩ = some (.int .i64 0) := by rw [cell_of_row WF (w.heap.size) 6 _ _ _ rf.out]; rfl
    have e7 : WF.cell? ⟨w.heap.size, 7, none⟩ = some (.int .i64 0) := by rw [cell_of_row WF (w.heap.size) 7 _ _ _ rf.out]; rfl
    have e8 : WF.cell? ⟨w.heap.size, 8, none⟩ = some (.int .i64 0) := by rw [cell_of_row WF (w.heap.size) 8 _ _ _ rf.out]; rfl
    have e9 : WF.cell? ⟨w.heap.size, 9, none⟩ = some (.bool false) := by rw [cell_of_row WF (w.heap.size) 9 _ _ _ rf.out]; rfl
    have e10 : WF.cell? ⟨w.heap.size, 10, none⟩ = some (.int .i64 0) := by rw [cell_of_row WF (w.heap.size) 10 _ _ _ rf.out]; rfl
    have e11 : WF.cell? ⟨w.heap.size, 11, none⟩ = some (.int .i64 0) := by rw [cell_of_row WF (w.heap.size) 11 _ _ _ rf.out]; rfl
    refine bodyPost_ret (v := .tuple #[.agg #[.int .i64 0, .string ⟨#[]⟩, (.slice none 0 0), .int .i64 0, .int .i64 0, .int .i64 0, .int .i64 0, .int .i64 0, .int .i64 0, .bool false, .int .i64 0, .int .i64 0], (.iface 70 (.pointer (some ⟨eb, 0, none⟩)))]) (by simp [results, Tryz.results12, go_sem, e0, e1, e2, e3, e4, e5, e6, e7, e8, e9, e10, e11]) rfl ⟨_, rfl, ReadP.no HN.out HE.out, GF.out⟩

end Go.Proofs.YtedlgpccmlcijaaGreatDoor

