/-
  CONTRACT of the laws' weight; what a small weight bounds.
-/
import Derived.Test.YtlejbindochiiaaDoorJsonSame
import Derived.Test.YtlejbindochiiaaDoorJsonQuote
namespace Go.Proofs.YtlejbindochiiaaDoor
open Go.RowKit
set_option linter.unusedVariables false
set_option linter.unusedSimpArgs false

def wlJ (f : Jt → Nat) : Nat → List Jt → Nat
  | n, [] => n
  | n, x :: l => if 900 < n + f x then n + f x else wlJ f (n + f x) l
def wtJ : Nat → Jt → Nat
  | 0, _ => 9999
  | e + 1, .mk k t ks l => wlJ (wtJ e) (1 + t.length / 8 + ks.length) l
theorem SzJ.less {a b : Nat} : ∀ {d : Nat} {x : Jt}, SzJ a b (d + 1) x → SzJ a b d x
  | 0, _, _ => trivial
  | d + 1, x, h => ⟨h.1, h.2.1, h.2.2.1, h.2.2.2.1, fun y hy => (h.2.2.2.2 y hy).less⟩
theorem wl_le (f : Jt → Nat) (M : Nat) : ∀ (l : List Jt) (n N : Nat), (∀ x ∈ l, f x ≤ M) → n ≤ N → 900 ≤ N → wlJ f n l ≤ N + M
  | [], n, N, _, h, _ => by unfold wlJ; omega
  | x :: l, n, N, hf, h, h9 => by
    have := hf x List.mem_cons_self
    unfold wlJ
    split
    · omega
    · exact wl_le f M l _ N (fun y hy => hf y (List.mem_cons_of_mem _ hy)) (by omega) h9
theorem wt_le (a b : Nat) : ∀ (e : Nat) (x : Jt), SzJ a b e x → wtJ e x ≤ 9999 + e * (901 + 2 * a)
  | 0, x, _ => by cases x; simp [wtJ]
  | e + 1, .mk k t ks l, h => by
    obtain ⟨h1, h2, _, _, h5⟩ := h
    simp only [Jt.text, Jt.keys, Jt.list] at h1 h2 h5
    have := wl_le (wtJ e) (9999 + e * (901 + 2 * a)) l (1 + t.length / 8 + ks.length) (901 + 2 * a) (fun x hx => wt_le a b e x (h5 x hx)) (by omega) (by omega)
    unfold wtJ
    rw [Nat.add_mul]
    omega
theorem wl_sum (f : Jt → Nat) : ∀ (l : List Jt) (n : Nat), wlJ f n l ≤ 900 → wlJ f n l = n + (l.map f).sum
  | [], n, _ => by simp [wlJ]
  | x :: l, n, h => by
    unfold wlJ at h ⊢
    split at h
    · omega
    · rename_i hx
      rw [if_neg hx, wl_sum f l _ h]; simp; omega
theorem wt_pos : ∀ (e : Nat) (x : Jt), 1 ≤ wtJ e x
  | 0, x => by cases x; simp [wtJ]
  | e + 1, .mk k t ks l => by
    have : ∀ (l : List Jt) (n : Nat), n ≤ wlJ (wtJ e) n l := by
      intro l
      induction l with
      | nil => intro n; exact Nat.le_refl _
      | cons x l ih =>
        intro n
        unfold wlJ
        split
        · omega
        · have := ih (n + wtJ e x); omega
    have := this l (1 + t.length / 8 + ks.length)
    unfold wtJ; omega
theorem sum_mem {f : Jt → Nat} {l : List Jt} {x : Jt} (h : x ∈ l) : f x ≤ (l.map f).sum := by
  induction l with
  | nil => cases h
  | cons y l ih =>
    rcases List.mem_cons.1 h with rfl | h
    · simp
    · have := ih h; simp; omega
theorem sum_len {f : Jt → Nat} {l : List Jt} (h : ∀ x ∈ l, 1 ≤ f x) : l.length ≤ (l.map f).sum := by
  induction l with
  | nil => simp
  | cons y l ih =>
    have h1 := h y List.mem_cons_self
    have := ih fun x hx => h x (List.mem_cons_of_mem _ hx)
    simp; omega
/-- a light tree is small -/
theorem wt_small (a b : Nat) : ∀ (e d : Nat) (x : Jt), d ≤ e → wtJ e x ≤ 600 → SzJ a b d x → SzJ 5000 b d x
  | e, 0, x, _, _, _ => trivial
  | 0, d + 1, x, h, _, _ => by omega
  | e + 1, d + 1, .mk k t ks l, hd, hw, hs => by
    obtain ⟨_, _, _, h4, h5⟩ := hs
    unfold wtJ at hw
    have hsum := wl_sum (wtJ e) l _ (by omega : wlJ (wtJ e) (1 + t.length / 8 + ks.length) l ≤ 900)
    rw [hsum] at hw
    have hlen := sum_len (f := wtJ e) (l := l) fun x _ => wt_pos e x
    refine ⟨?_, ?_, ?_, h4, fun y hy => wt_small a b e d y (by omega) ?_ (h5 y hy)⟩
    · show t.length ≤ 5000
      omega
    · show ks.length ≤ 5000
      omega
    · show l.length ≤ 5000
      omega
    · have := sum_mem (f := wtJ e) (l := l) hy; omega
theorem items_bound {f : Jt → List UInt8} {g : Jt → Nat} {c b : Nat} (hc : 6 * b + 5 ≤ c) (obj : Bool) : ∀ (l : List Jt) (first : Bool) (ks : List (List UInt8)), (∀ x ∈ l, (f x).length ≤ c * g x) → (∀ k ∈ ks, k.length ≤ b) → (obj = true → ks.length = l.length) →
    (itemsJ f obj first ks l).length ≤ l.length + (if obj then c * ks.length else 0) + c * (l.map g).sum
  | [], first, ks, _, _, _ => by simp [itemsJ]
  | x :: l, first, ks, hf, hk, ho => by
    have h1 := hf x List.mem_cons_self
    have hfl : ((if first then [] else [44]) : List UInt8).length ≤ 1 := by cases first <;> simp
    simp only [itemsJ, List.length_append, List.map_cons, List.sum_cons, List.length_cons, Nat.mul_add]
    cases obj with
    | false =>
      have ih := items_bound hc false l false ks.tail (fun y hy => hf y (List.mem_cons_of_mem _ hy)) (fun k hk' => hk k (List.mem_of_mem_tail hk')) (fun h => by cases h)
      simp only [Bool.false_eq_true, if_false, List.length_nil] at ih ⊢
      omega
    | true =>
      cases ks with
      | nil => simp at ho
      | cons k ks =>
        have ih := items_bound hc true l false ks (fun y hy => hf y (List.mem_cons_of_mem _ hy)) (fun q hq => hk q (List.mem_cons_of_mem _ hq)) (fun h => by have := ho h; simp at this; omega)
        have hkl := hk k List.mem_cons_self
        have hq : (quoteJ k).length ≤ 6 * b + 2 := by
          have := flat_six k
          unfold quoteJ; simp only [List.length_cons, List.length_append, List.length_nil]; omega
        simp only [if_true, List.length_append, List.length_cons, List.length_nil, List.headD_cons, List.tail_cons, Nat.mul_add, Nat.mul_one] at ih ⊢
        omega
theorem write_bound (a b : Nat) : ∀ (e d : Nat) (x : Jt), d ≤ e → wtJ e x ≤ 900 → SzJ a b d x → rightJ d x = none → (writeJ d x).length ≤ (6 * b + 1000) * wtJ e x
  | e, 0, x, _, _, _, hr => by cases x; cases hr
  | 0, d + 1, x, h, _, _, _ => by omega
  | e + 1, d + 1, .mk k t ks l, hd, hw, hs, hr => by
    obtain ⟨h1, ⟨ha, hb, h7, hc⟩, _, _, _, h6⟩ := right_parts_J hr
    obtain ⟨_, _, _, h4, h5⟩ := hs
    unfold wtJ at hw ⊢
    have hsum := wl_sum (wtJ e) l _ hw
    rw [hsum] at hw ⊢
    have hlen := sum_len (f := wtJ e) (l := l) fun x _ => wt_pos e x
    obtain ⟨c, hcc⟩ : ∃ c, 6 * b + 1000 = c := ⟨_, rfl⟩
    have ihx : ∀ x ∈ l, (writeJ d x).length ≤ c * wtJ e x := fun x hx => by
      rw [← hcc]; exact write_bound a b e d x (by omega) (by have := sum_mem (f := wtJ e) hx; omega) (h5 x hx) (h6 x hx)
    have hq : (quoteJ t).length ≤ 6 * t.length + 2 := by
      have := flat_six t
      unfold quoteJ; simp only [List.length_cons, List.length_append, List.length_nil]; omega
    rw [hcc]
    have hc1 : c * (t.length / 8) ≥ 1000 * (t.length / 8) := Nat.mul_le_mul_right _ (by omega)
    have hexp : c * (1 + t.length / 8 + ks.length + (l.map (wtJ e)).sum) = c + c * (t.length / 8) + c * ks.length + c * (l.map (wtJ e)).sum := by
      rw [Nat.mul_add, Nat.mul_add, Nat.mul_add, Nat.mul_one]
    rw [hexp]
    unfold writeJ
    rcases kinds h1 with rfl | rfl | rfl | rfl | rfl | rfl | rfl
    · show nullJ.length ≤ _; simp [nullJ]; omega
    · show falseJ.length ≤ _; simp [falseJ]; omega
    · show trueJ.length ≤ _; simp [trueJ]; omega
    · show t.length ≤ _; omega
    · show (quoteJ t).length ≤ _; omega
    · have := items_bound (f := writeJ d) (g := wtJ e) (c := c) (b := b) (by omega) false l true ks ihx h4 (fun h => by cases h)
      show (91 :: (itemsJ (writeJ d) false true ks l ++ [93])).length ≤ _
      simp only [Bool.false_eq_true, if_false] at this
      simp only [List.length_cons, List.length_append, List.length_nil]; omega
    · have := items_bound (f := writeJ d) (g := wtJ e) (c := c) (b := b) (by omega) true l true ks ihx h4 (fun _ => h7 rfl)
      show (123 :: (itemsJ (writeJ d) true true ks l ++ [125])).length ≤ _
      simp only [if_true] at this
      simp only [List.length_cons, List.length_append, List.length_nil]; omega
theorem wl_snoc (f : Jt → Nat) (n : Nat) {l : List Jt} {j : Nat} (hj : j < l.length) : wlJ f n (l.drop j) = if 900 < n + f l[j] then n + f l[j] else wlJ f (n + f l[j]) (l.drop (j + 1)) := by
  rw [List.drop_eq_getElem_cons hj]; rfl
def WeightC (e : Nat) : Prop := ∀ (a b n : Nat) (p : Nat → Prop) (w : World) (v : Value) (x : Jt), a ≤ 2000000 → JAt n p w v x → SzJ a b (e + 1) x → Gives 7 #[v, .int .i64 ((21 - e : Nat) : Int)] w (.int .i64 (wtJ e x : Int))
set_option maxRecDepth 100000 in
set_option maxHeartbeats 2000000 in
theorem weight_zero : WeightC 0 := by
  intro a b n p w v x ha hv hs
  obtain ⟨ka, kc, la, lc, rfl⟩ := hv.shape4
  have h0 : wtJ 0 x = 9999 := by cases x; rfl
  rw [h0]
  have htl : x.text.length ≤ 2000000 := by have := hs.1; omega
  have hkl : x.keys.length ≤ 2000000 := by have := hs.2.1; omega
  clear hv hs h0
  go_enter Tryd.func7, Tryd.ntmps7
  go_wp2_with fail
  go_ret
  exact ⟨rfl, (by repeat (first | exact G.refl _ | assumption | apply G.drew | apply G.drewN | apply G.alloc | refine G.trans ?_ (by assumption)))⟩
set_option maxRecDepth 100000 in
set_option maxHeartbeats 4000000 in
theorem weight_succ (e : Nat) (he : e + 1 ≤ 20) (ih : WeightC e) : WeightC (e + 1) := by
  intro a b n p w v x ha hv hs
  obtain ⟨ka, kc, la, lc, rfl⟩ := hv.shape4
  obtain ⟨D, hD⟩ : ∃ D, 21 - (e + 1) = D := ⟨_, rfl⟩
  have HD : Hid (D + 1 = 21 - e) := hid (by omega)
  have h20 : ¬ (20 : Int) < (D : Int) := by omega
  have h20n : ¬ 20 < D := by omega
  rw [hD]
  obtain ⟨k, t, ks, l⟩ := x
  simp only [Jt.kind, Jt.text, Jt.keys, Jt.list]
  have htl : t.length ≤ 2000000 := by have := hs.1; simp only [Jt.text] at this; omega
  have hkl : ks.length ≤ 2000000 := by have := hs.2.1; simp only [Jt.keys] at this; omega
  have hll : l.length ≤ 2000000 := by have := hs.2.2.1; simp only [Jt.list] at this; omega
  obtain ⟨KA, LA, LZ⟩ := parts_of (k := k) (t := t) (ks := ks) (l := l) hv
  have HLA := hid LA
  have IH := hid ih
  have HS := hid hs
  have hw0 : wtJ (e + 1) (.mk k t ks l) = wlJ (wtJ e) (1 + t.length / 8 + ks.length) l := rfl
  rw [hw0]
  obtain ⟨n0, hn0⟩ : ∃ n0, 1 + t.length / 8 + ks.length = n0 := ⟨_, rfl⟩
  have hn0i := hid (show (1 : Int) + (t.length : Int) / 8 + (ks.length : Int) = (n0 : Int) by omega)
  have hn0l : n0 ≤ 5000000 := by omega
  rw [hn0]
  clear hD hv hs KA LA LZ ih hw0 hn0
  go_enter Tryd.func7, Tryd.ntmps7
  go_wp2_with fail
  rw [hn0i.out]
  have GB := hid (show G w (w.alloc (.cells #[.int .i64 k, .string (S t), .slice ka ks.length kc, .slice la l.length lc] 25)) from (G.refl _).alloc _)
  generalize w.alloc (.cells #[.int .i64 k, .string (S t), .slice ka ks.length kc, .slice la l.length lc] 25) = wb at GB ⊢
  clear hn0i
  go_loopw [5, 7, 22] (fun nv _ i wr => ∃ (j m : Nat), i = .int .i64 (j : Int) ∧ nv = .int .i64 (m : Int) ∧ j ≤ l.length ∧ m ≤ 5000000 ∧ wlJ (wtJ e) n0 l = wlJ (wtJ e) m (l.drop j) ∧ G w wr) (fun _ _ i _ => l.length - (intOf i).toNat)
  case atStart => exact ⟨0, n0, rfl, rfl, by omega, hn0l, rfl, GB.out⟩
  case round =>
    obtain ⟨j, m, rfl, rfl, hj, hm, hwl, hg⟩ := hrel
    have HWL := hid hwl
    have GR := hid hg
    clear hwl hg
    by_cases hlt : j < l.length
    · obtain ⟨b1, o1, u1, n', rfl, hb1, hu1, hc1⟩ := HLA.out j hlt
      have HSN := hid (wl_snoc (wtJ e) m hlt)
      have HSY := HS.out.2.2.2.2 l[j] (List.getElem_mem hlt)
      obtain ⟨y, hy⟩ : ∃ y, l[j] = y := ⟨_, rfl⟩
      rw [hy] at hu1 HSY HSN
      obtain ⟨ya, yc, za, zc, rfl⟩ := hu1.shape4
      have hlti : (j : Int) < (l.length : Int) := by omega
      have hj1 : j + 1 ≤ 3000000 := by omega
      have x0 : wr.cell? ⟨b1, o1 + j * 4, none⟩ = some (.int .i64 y.kind) := by rw [G.cell GR.out (p := ⟨b1, o1 + j * 4, none⟩) hb1]; exact hc1 0 _ (by decide) rfl
      have x1 : wr.cell? ⟨b1, o1 + j * 4 + 1, none⟩ = some (.string (S y.text)) := by rw [G.cell GR.out (p := ⟨b1, o1 + j * 4 + 1, none⟩) hb1]; exact hc1 1 _ (by decide) rfl
      have x2 : wr.cell? ⟨b1, o1 + j * 4 + 2, none⟩ = some (.slice ya y.keys.length yc) := by rw [G.cell GR.out (p := ⟨b1, o1 + j * 4 + 2, none⟩) hb1]; exact hc1 2 _ (by decide) rfl
      have x3 : wr.cell? ⟨b1, o1 + j * 4 + 3, none⟩ = some (.slice za y.list.length zc) := by rw [G.cell GR.out (p := ⟨b1, o1 + j * 4 + 3, none⟩) hb1]; exact hc1 3 _ (by decide) rfl
      obtain ⟨K, hK⟩ : ∃ K, wtJ e y = K := ⟨_, rfl⟩
      have hKl : K ≤ 100000000 := by
        have h1 := wt_le a b e y (SzJ.less HSY)
        have h2 : e * (901 + 2 * a) ≤ 20 * (901 + 2 * 2000000) := Nat.mul_le_mul (by omega) (by omega)
        omega
      have CL : Hid (∀ W, G w W → Gives 7 #[.agg #[.int .i64 y.kind, .string (S y.text), .slice ya y.keys.length yc, .slice za y.list.length zc], .int .i64 ((D : Int) + 1)] W (.int .i64 (K : Int))) := hid (fun W gW => by
        have := IH.out a b n' p W _ y ha (hu1.grow gW) HSY
        rw [hK] at this
        rwa [show ((21 - e : Nat) : Int) = (D : Int) + 1 by have := HD.out; omega] at this)
      have hwk : IntKind.i64.wrap ((D : Int) + 1) = (D : Int) + 1 := IntWalk.i64_in _ (by omega)
      rw [hK] at HSN
      clear hc1 hu1 HSY hy hK
      by_cases hbig : 900 < m + K
      · have hbi : (900 : Int) < (m : Int) + (K : Int) := by omega
        have HR := hid (show wlJ (wtJ e) n0 l = m + K by rw [HWL.out, HSN.out, if_pos hbig])
        go_wp2_with fail
        refine (CL.out _ (GR.out.alloc _)).mono ?_
        rintro e9 w2 ⟨rfl, g2⟩
        have G2 := hid ((GR.out.alloc _).trans g2)
        clear g2
        go_wp2_with fail
        go_ret
        exact ⟨by rw [HR.out]; simp, G2.out⟩
      · have hbi : ¬ (900 : Int) < (m : Int) + (K : Int) := by omega
        have HR := hid (show wlJ (wtJ e) n0 l = wlJ (wtJ e) (m + K) (l.drop (j + 1)) by rw [HWL.out, HSN.out, if_neg hbig])
        go_wp2_with fail
        refine (CL.out _ (GR.out.alloc _)).mono ?_
        rintro e9 w2 ⟨rfl, g2⟩
        have G2 := hid ((GR.out.alloc _).trans g2)
        clear g2
        go_wp2_with fail
        go_roundw
        case rel => exact ⟨j + 1, m + K, by simp, by simp, by omega, by omega, HR.out, G2.out⟩
        case measure => simp [intOf]; omega
    · obtain rfl : j = l.length := by omega
      have hno : ¬ (l.length : Int) < (l.length : Int) := by omega
      have HR := hid (show wlJ (wtJ e) n0 l = m by rw [HWL.out, List.drop_length]; rfl)
      clear hlt hj
      go_wp2_with fail
      go_ret
      exact ⟨by rw [HR.out]; rfl, GR.out⟩
theorem weight_all : ∀ e, e ≤ 20 → WeightC e
  | 0, _ => weight_zero
  | e + 1, h => weight_succ e h (weight_all e (by omega))

end Go.Proofs.YtlejbindochiiaaDoor
