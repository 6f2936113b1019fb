/-
  A region that draws its order and in which ONE operation (j0: an append in place) is less gentle than the others: what is held may say one thing ahead of it and another behind it. As text Gentle; plain, over any program.
-/
import Derived.Test.YtfadckackdmbnaaGreatDoorMVeil
namespace Go.Proofs.YtfadckackdmbnaaGreatDoor
open Go.RowKit
set_option linter.unusedVariables false
set_option linter.unusedSimpArgs false
section
variable {P : Program} {ops : Array Oper} {md : Region.Mode} {E : Array Bool}
theorem GInv.stepTo {R R' : World → World → Prop} {m : Nat} {a a' : Act} {w0 W W' : World} {Φ Φ' : Nat → Value → World → Prop} {listed : Array Bool} {vals : Nat → Value} (hF : GForm md ops E m) (hI : GInv md ops E m a R w0 Φ listed vals a' W) {j : Nat} {o : Oper} (ho : ops[j]? = some o) (hj : j < m) (hr : j ∈ Region.ready md ops listed) (v : Value)
    (hg : R' w0 W') (hph : ∀ k u, Φ k u W → Φ' k u W') (hp : Φ' j (gRes o (a'.put o.dst v)) W') : GInv md ops E m a R' w0 Φ' (listed.setIfInBounds j true) (fun k => if k = j then gRes o (a'.put o.dst v) else vals k) (a'.put o.dst v) W' := by
  obtain ⟨hun, hlis⟩ := ready_deps ho hr
  have hjs := (Array.getElem?_eq_some_iff.1 ho).1
  have hEj : E.getD j true = false := by
    cases h : E.getD j true
    · rfl
    · rw [hI.early j h] at hun; cases hun
  have hlj : (listed.setIfInBounds j true).getD j true = true := by simp [show j < listed.size by rw [hI.ls]; exact hjs]
  have hset : ∀ k, k ≠ j → (listed.setIfInBounds j true).getD k true = listed.getD k true := fun k hk => getD_set_ne true (Ne.symm hk)
  refine ⟨by rw [Act.put_defers', hI.df], by rw [Act.put_size, hI.sz], by simpa using hI.ls, fun k p hp' hEk hl => ?_, fun t ht => ?_, fun k hk hEk hl => ?_, hg, fun k p hp' hl i hi => ?_, fun k hk => ?_, fun k hk hks hEk => ?_⟩
  · by_cases e : k = j
    · subst e; rw [ho] at hp'; cases hp'; simp
    · rw [hset k e] at hl
      simp only [e, if_false]
      rw [← hI.res k p hp' hEk hl]
      unfold gRes
      cases hd : p.dst with
      | none => rfl
      | some t =>
        simp only
        have := Act.put_other a' o.dst v t (fun hod => hF.one k p hp' j hjs (Ne.symm e) t hd (by rw [dst_of ho]; exact hod))
        simp [this]
  · have h1 : o.dst ≠ some t := ht j o ho hEj hlj
    rw [Act.put_other _ _ _ _ h1]
    refine hI.old t fun k p hp' hEk hl => ?_
    by_cases e : k = j
    · subst e; rw [ho] at hp'; cases hp'; exact h1
    · exact ht k p hp' hEk (by rw [hset k e]; exact hl)
  · by_cases e : k = j
    · subst e; simpa using hp
    · rw [hset k e] at hl
      simp only [e, if_false]
      exact hph k _ (hI.phi k hk hEk hl)
  · by_cases e : i = j
    · subst e; exact hlj
    · rw [hset i e]
      by_cases e2 : k = j
      · subst e2; rw [ho] at hp'; cases hp'
        exact hlis i hi
      · rw [hset k e2] at hl
        exact hI.closed k p hp' hl i hi
  · by_cases e : k = j
    · subst e; exact hlj
    · rw [hset k e]; exact hI.early k hk
  · rw [hset k (by omega)]
    exact hI.late k hk hks hEk
theorem gAny2 {Ra : Bool → World → World → Prop} {R R1 : World → World → Prop} {j0 m : Nat} {a : Act} {w0 : World} {Φ : Bool → Nat → Value → World → Prop} {Q : Exit → Act → World → Prop} (hR0 : ∀ x, R x x) (hR1 : ∀ x, R1 x x) (hRa : ∀ b x y z, Ra b x y → R y z → Ra b x z) (hRb : ∀ x y z v, Ra false x y → R1 y z → Φ true j0 v z → Ra true x z) (hst : ∀ b k v w w', R w w' → Φ b k v w → Φ b k v w') (hst1 : ∀ k v w w', R1 w w' → Φ false k v w → Φ true k v w') (hF : GForm md ops E m) (hj0 : j0 < m)
    (hops : ∀ j o, ops[j]? = some o → E.getD j true = false → j < m → j ≠ j0 → ∀ (b : Bool), (b = true → gReach md ops ops.size j0 j = false) → ∀ (vals : Nat → Value) W, Ra b w0 W → (∀ k ∈ gDepsU md ops E o, Φ b k (vals k) W) → gOp P ops R (Φ b j) o (gPut ops vals (gDepsU md ops E o) a) W)
    (hop1 : ∀ o, ops[j0]? = some o → E.getD j0 true = false → ∀ (vals : Nat → Value) W, Ra false w0 W → (∀ k ∈ gDepsU md ops E o, Φ false k (vals k) W) → gOp P ops R1 (Φ true j0) o (gPut ops vals (gDepsU md ops E o) a) W)
    (hend : ∀ (vals : Nat → Value) W, Ra true w0 W → (∀ k ∈ gFront E m, Φ true k (vals k) W) → wpList P ops Q (gRest E (ops.toList.drop m) m) (gPut ops vals (gFront E m) a) W) :
    ∀ (fuel : Nat) (listed : Array Bool) (vals : Nat → Value) (a' : Act) (W : World), GInv md ops E m a (Ra (listed.getD j0 true)) w0 (Φ (listed.getD j0 true)) listed vals a' W → gLeft listed ops.size ≤ fuel → wpAny P md ops Q fuel listed a' W := by
  intro fuel
  induction fuel with
  | zero =>
    intro listed vals a' W hI hl
    have hall := gLeft_zero (n := ops.size) (listed := listed) (by omega)
    have hc : ∀ k, k < m → listed.getD k true = true := fun k hk => hall k (by have := hF.le; omega)
    have hq := hend vals W (by have := hI.g; rw [hc j0 hj0] at this; exact this) fun k hk => by
        have := hI.phi k (mem_gFront.1 hk).1 (mem_gFront.1 hk).2 (hc k (mem_gFront.1 hk).1)
        rw [hc j0 hj0] at this; exact this
    rw [← gFull hF hI hc] at hq
    have hle : ∀ k, m ≤ k → k < ops.size → listed.getD k true = E.getD k true := fun k hk hks => by
      cases h : E.getD k true
      · exact hI.late k hk hks h
      · exact hI.early k h
    have hlen := gRest_left (E := E) (listed := listed) (ops.toList.drop m) m ops.size (by have := hF.le; simp; omega) hle
    exact gTail (ops.toList.drop m) m listed a' W 0 (fun i => by simp) hc hle hI.ls (fun k o hk ho hE i hi hEi => hF.tail k o ho hE hk i hi hEi) ⟨hF.back, hF.shut⟩ (by omega) hq
  | succ fuel ih =>
    intro listed vals a' W hI hl
    have hle : ∀ k, m ≤ k → k < ops.size → listed.getD k true = E.getD k true := fun k hk hks => by
      cases h : E.getD k true
      · exact hI.late k hk hks h
      · exact hI.early k h
    by_cases hc : ∀ k, k < m → listed.getD k true = true
    · have hq := hend vals W (by have := hI.g; rw [hc j0 hj0] at this; exact this) fun k hk => by
        have := hI.phi k (mem_gFront.1 hk).1 (mem_gFront.1 hk).2 (hc k (mem_gFront.1 hk).1)
        rw [hc j0 hj0] at this; exact this
      rw [← gFull hF hI hc] at hq
      have hlen := gRest_left (E := E) (listed := listed) (ops.toList.drop m) m ops.size (by have := hF.le; simp; omega) hle
      exact gTail (ops.toList.drop m) m listed a' W (fuel + 1) (fun i => by simp) hc hle hI.ls (fun k o hk ho hE i hi hEi => hF.tail k o ho hE hk i hi hEi) ⟨hF.back, hF.shut⟩ (by omega) hq
    · have hun : ∃ k, k < m ∧ listed.getD k true = false := by
        apply Classical.byContradiction
        intro h
        refine hc fun k hk => ?_
        cases hh : listed.getD k true
        · exact absurd ⟨k, hk, hh⟩ h
        · rfl
      obtain ⟨k, hk, hkl, hkm⟩ := least_un hun
      have hks : k < ops.size := by have := hF.le; omega
      have hEk : E.getD k true = false := by
        cases h : E.getD k true
        · rfl
        · rw [hI.early k h] at hkl; cases hkl
      have hkr : k ∈ Region.ready md ops listed := mem_ready.2 ⟨hkl, _, Array.getElem?_eq_getElem hks, fun e he hb => by
        have h1 := hF.back k _ (Array.getElem?_eq_getElem hks) e.on (mem_gDeps.2 ⟨e, he, hb, rfl⟩)
        have h2 := hkm e.on h1
        have hlt : e.on < listed.size := by rw [hI.ls]; omega
        simp [hlt] at h2 ⊢; exact h2⟩
      refine ⟨fun hr => absurd hkr (by rw [hr]; simp), fun j hj => ?_⟩
      obtain ⟨hjl, o, ho, _⟩ := mem_ready.1 hj
      obtain ⟨_, hlis⟩ := ready_deps ho hj
      have hEj : E.getD j true = false := by
        cases h : E.getD j true
        · rfl
        · rw [hI.early j h] at hjl; cases hjl
      have hjm : j < m := by
        rcases Nat.lt_or_ge j m with h | h
        · exact h
        · exfalso
          have := gReach_in (md := md) (L := fun x => listed.getD x true = true) (fun x q hq hx d hd => hI.closed x q hq hx d hd) _ _ _ (hF.tail j o ho hEj h k (by omega) hEk) (fun q hq d hd => by rw [ho] at hq; cases hq; exact hlis d hd)
          rw [hkl] at this; cases this
      have hfx : ∀ i ∈ gDepsU md ops E o, Φ (listed.getD j0 true) i (vals i) W := fun i hi => by
        obtain ⟨hi, hEi⟩ := mem_gDepsE.1 (mem_gDepsU.1 hi).1
        exact hI.phi i (by have := hF.back j o ho i hi; omega) hEi (hlis i hi)
      have hle2 : gLeft (listed.setIfInBounds j true) ops.size ≤ fuel := by
        have := gLeft_set hjl ops.size
        have hjs := (Array.getElem?_eq_some_iff.1 ho).1
        rw [if_pos hjs] at this
        omega
      have hbb : listed.getD j0 true = true → gReach md ops ops.size j0 j = false := fun h0 => by
        cases hr : gReach md ops ops.size j0 j
        · rfl
        · have := gReach_in (md := md) (L := fun x => listed.getD x true = true) (fun x q hq hx d hd => hI.closed x q hq hx d hd) _ _ _ hr (fun q hq d hd => hI.closed j0 q hq h0 d hd)
          rw [hjl] at this; cases this
      by_cases hjj : j = j0
      · subst hjj
        rw [hjl] at hfx hI
        refine gOp_step hR1 ho hF.sel (fun t ht => gAgree hF hI ho hjm hj t ht) (by rw [hI.sz, gPut_size]) (hop1 o ho hEj vals W hI.g hfx) fun v W' hg hp => ?_
        refine ih _ (fun k => if k = j then gRes o (a'.put o.dst v) else vals k) _ _ ?_ hle2
        have hjs := (Array.getElem?_eq_some_iff.1 ho).1
        rw [show (listed.setIfInBounds j true).getD j true = true by simp [show j < listed.size by rw [hI.ls]; exact hjs]]
        exact hI.stepTo hF ho hjm hj v (hRb _ _ _ _ hI.g hg hp) (fun k u h => hst1 k u _ _ hg h) hp
      · refine gOp_step hR0 ho hF.sel (fun t ht => gAgree hF hI ho hjm hj t ht) (by rw [hI.sz, gPut_size]) (hops j o ho hEj hjm hjj _ hbb vals W hI.g hfx) fun v W' hg hp => ?_
        refine ih _ (fun k => if k = j then gRes o (a'.put o.dst v) else vals k) _ _ ?_ hle2
        rw [getD_set_ne true (fun e => hjj e)]
        exact hI.stepTo hF ho hjm hj v (hRa _ _ _ _ hI.g hg) (fun k u h => hst _ k u _ _ hg h) hp
def gAll2 (P : Program) (ops : Array Oper) (Ra : Bool → World → World → Prop) (R R1 : World → World → Prop) (j0 : Nat) (Φ : Bool → Nat → Value → World → Prop) (a : Act) (w0 : World) : List Oper → List (Option (List (Nat × Tmp))) → Nat → Prop
  | o :: l, some u :: U, j => (if j = j0 then (∀ (vals : Nat → Value) W, Ra false w0 W → gFacts (Φ false) vals W u → gOp P ops R1 (Φ true j) o (gFr vals u a) W) else (∀ (b : Bool), (b = true → gReach .any ops ops.size j0 j = false) → ∀ (vals : Nat → Value) W, Ra b w0 W → gFacts (Φ b) vals W u → gOp P ops R (Φ b j) o (gFr vals u a) W)) ∧ gAll2 P ops Ra R R1 j0 Φ a w0 l U (j + 1)
  | _ :: l, none :: U, j => gAll2 P ops Ra R R1 j0 Φ a w0 l U (j + 1)
  | _, _, _ => True
section
variable {Ra : Bool → World → World → Prop} {R R1 : World → World → Prop} {j0 : Nat} {Φ : Bool → Nat → Value → World → Prop} {a : Act} {w0 : World}
theorem gAll2_some {o : Oper} {l : List Oper} {u : List (Nat × Tmp)} {U : List (Option (List (Nat × Tmp)))} {j : Nat} (hj : j ≠ j0) (h : ∀ (b : Bool) (vals : Nat → Value) W, Ra b w0 W → gFacts (Φ b) vals W u → gOp P ops R (Φ b j) o (gFr vals u a) W) (t : gAll2 P ops Ra R R1 j0 Φ a w0 l U (j + 1)) : gAll2 P ops Ra R R1 j0 Φ a w0 (o :: l) (some u :: U) j := ⟨by rw [if_neg hj]; exact fun b _ => h b, t⟩
theorem gAll2_ahead {o : Oper} {l : List Oper} {u : List (Nat × Tmp)} {U : List (Option (List (Nat × Tmp)))} {j : Nat} (hj : j ≠ j0) (hr : gReach .any ops ops.size j0 j = true) (h : ∀ (vals : Nat → Value) W, Ra false w0 W → gFacts (Φ false) vals W u → gOp P ops R (Φ false j) o (gFr vals u a) W) (t : gAll2 P ops Ra R R1 j0 Φ a w0 l U (j + 1)) : gAll2 P ops Ra R R1 j0 Φ a w0 (o :: l) (some u :: U) j := ⟨by
    rw [if_neg hj]
    intro b hb
    cases b with
    | false => exact h
    | true => rw [hr] at hb; exact absurd (hb rfl) (by simp), t⟩
theorem gAll2_here {o : Oper} {l : List Oper} {u : List (Nat × Tmp)} {U : List (Option (List (Nat × Tmp)))} {j : Nat} (hj : j = j0) (h : ∀ (vals : Nat → Value) W, Ra false w0 W → gFacts (Φ false) vals W u → gOp P ops R1 (Φ true j) o (gFr vals u a) W) (t : gAll2 P ops Ra R R1 j0 Φ a w0 l U (j + 1)) : gAll2 P ops Ra R R1 j0 Φ a w0 (o :: l) (some u :: U) j := ⟨by rw [if_pos hj]; exact h, t⟩
theorem gAll2_nil {U : List (Option (List (Nat × Tmp)))} {j : Nat} : gAll2 P ops Ra R R1 j0 Φ a w0 [] U j := trivial
theorem gAll2_at {m : Nat} : ∀ (l : List Oper) (j : Nat), gAll2 P ops Ra R R1 j0 Φ a w0 l (gU md ops E m l j) j → ∀ i o, l[i]? = some o → E.getD (j + i) true = false → j + i < m →
    (j + i ≠ j0 → ∀ (b : Bool), (b = true → gReach .any ops ops.size j0 (j + i) = false) → ∀ (vals : Nat → Value) W, Ra b w0 W → (∀ k ∈ gDepsU md ops E o, Φ b k (vals k) W) → gOp P ops R (Φ b (j + i)) o (gPut ops vals (gDepsU md ops E o) a) W) ∧
    (j + i = j0 → ∀ (vals : Nat → Value) W, Ra false w0 W → (∀ k ∈ gDepsU md ops E o, Φ false k (vals k) W) → gOp P ops R1 (Φ true (j + i)) o (gPut ops vals (gDepsU md ops E o) a) W)
  | [], _, _, i, o, h => by simp at h
  | p :: l, j, h, 0, o, ho => by
    simp at ho; subst ho
    intro hE hm
    rw [gU, if_neg (by simp at hE hm ⊢; exact ⟨hE, hm⟩)] at h
    have h1 := h.1
    refine ⟨fun hj b hb vals W hg hd => ?_, fun hj vals W hg hd => ?_⟩
    · rw [if_neg (by simpa using hj)] at h1
      have := h1 b (by simpa using hb) vals W hg (by unfold gUse; exact gFacts_of _ hd)
      unfold gUse at this
      rw [gFr_eq] at this
      exact this
    · rw [if_pos (by simpa using hj)] at h1
      have := h1 vals W hg (by unfold gUse; exact gFacts_of _ hd)
      unfold gUse at this
      rw [gFr_eq] at this
      exact this
  | p :: l, j, h, i + 1, o, ho => by
    have h' : gAll2 P ops Ra R R1 j0 Φ a w0 l (gU md ops E m l (j + 1)) (j + 1) := by
      rw [gU] at h
      split at h
      · exact h
      · exact h.2
    have := gAll2_at l (j + 1) h' i o (by simpa using ho)
    have e : j + 1 + i = j + (i + 1) := by omega
    rw [e] at this; exact this
end
end
theorem wpAny_turned2 {P : Program} {Q : Exit → Act → World → Prop} {a : Act} {w w0 : World} {l : List Oper} {fuel : Nat} {E : Array Bool} (Ra : Bool → World → World → Prop) (R R1 : World → World → Prop) (j0 m : Nat) (Φ : Bool → Nat → Value → World → Prop) (U : List (Option (List (Nat × Tmp)))) (V : List (Nat × Tmp)) (T : List Oper) (hB : gForm .any l.toArray E m = true) (hj0 : decide (j0 < m) = true) (hE0 : E.getD j0 true = false) (hfu : gLeft E l.length ≤ fuel)
    (hU : gU .any l.toArray E m l 0 = U) (hV : gEnd l.toArray E m = V) (hT : gRest E (l.drop m) m = T)
    (hR0 : ∀ x, R x x) (hR1 : ∀ x, R1 x x) (hRa : ∀ b x y z, Ra b x y → R y z → Ra b x z) (hRb : ∀ x y z v, Ra false x y → R1 y z → Φ true j0 v z → Ra true x z) (hw0 : Ra false w0 w) (hst : ∀ b k v w w', R w w' → Φ b k v w → Φ b k v w') (hst1 : ∀ k v w w', R1 w w' → Φ false k v w → Φ true k v w') (hops0 : gAll2 P l.toArray Ra R R1 j0 Φ a w0 l U 0)
    (hend0 : ∀ (vals : Nat → Value) W, Ra true w0 W → gFacts (Φ true) vals W V → Veil (wpList P l.toArray Q T (gFr vals V a) W)) : wpAny P .any l.toArray Q fuel E a w := by
  have hF := gForm_spec hB
  have hend := fun vals W (h : Ra true w0 W) d => (hend0 vals W h d).out
  subst hU hV hT
  refine gAny2 (a := a) (w0 := w0) (m := m) (Φ := Φ) (R := R) (E := E) hR0 hR1 hRa hRb hst hst1 hF (of_decide_eq_true hj0) (fun j o ho hE hj hne b hb vals W hg hd => ?_) (fun o ho hE vals W hg hd => ?_) (fun vals W hg hp => ?_) fuel E (fun _ => undef) a _ ?_ (by simpa using hfu)
  · have := (gAll2_at l 0 hops0 j o (by simpa using ho) (by simpa using hE) (by omega)).1 (by simpa using hne) b (by simpa using hb) vals W hg hd
    simpa using this
  · have := (gAll2_at l 0 hops0 j0 o (by simpa using ho) (by simpa using hE) (by have := of_decide_eq_true hj0; omega)).2 (by simp) vals W hg hd
    simpa using this
  · have := hend vals W hg (by unfold gEnd; exact gFacts_of _ fun k hk => hp k (List.mem_filter.1 hk).1)
    unfold gEnd at this
    rw [gFr_eq, gPut_all] at this
    simpa using this
  · refine ⟨rfl, rfl, hF.es, fun k o ho hE hl => ?_, fun _ _ => rfl, fun k hk hE hl => ?_, by rw [hE0]; exact hw0, fun k o ho hl i hi => ?_, fun k hk => hk, fun k hk hks hE => hE⟩
    · rw [hE] at hl; cases hl
    · rw [hE] at hl; cases hl
    · exact hF.shut k o ho hl i hi
end Go.Proofs.YtfadckackdmbnaaGreatDoor
