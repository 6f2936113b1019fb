/-
  The stamps of 'full', their texts, and the order of these; the walk of full.
-/
import Derived.Test.YtkhnghcecnghmaaDoorWhenDated
import Derived.Test.YtkhnghcecnghmaaDoorPick
namespace Go.Proofs.YtkhnghcecnghmaaDoor
open Go.RowKit
set_option linter.unusedVariables false
set_option linter.unusedSimpArgs false

/-- texts of one length whose order is that of numbers -/
structure Ord (x x' : List UInt8) (p p' : Int) : Prop where
  len : x.length = x'.length
  less : Op.bytesLess x x' = decide (p < p')
  eq : x = x' ↔ p = p'
theorem less_app : ∀ (x x' y y' : List UInt8), x.length = x'.length → Op.bytesLess (x ++ y) (x' ++ y') = (Op.bytesLess x x' || (decide (x = x') && Op.bytesLess y y'))
  | [], [], y, y', _ => by simp [Op.bytesLess]
  | a :: x, b :: x', y, y', h => by
      have ih := less_app x x' y y' (by simpa using h)
      show (decide (a < b) || (a == b && Op.bytesLess (x ++ y) (x' ++ y'))) = ((decide (a < b) || (a == b && Op.bytesLess x x')) || _)
      rw [ih]
      by_cases e : a = b
      · subst e
        simp [Bool.or_assoc]
      · have e1 : (a == b) = false := by simp [e]
        have e2 : decide (a :: x = b :: x') = false := by simp [e]
        rw [e1, e2]; simp
theorem Ord.join {x x' y y' : List UInt8} {p p' q q' M : Int} (h : Ord x x' p p') (k : Ord y y' q q') (h0 : 0 ≤ q ∧ q < M) (h1 : 0 ≤ q' ∧ q' < M) : Ord (x ++ y) (x' ++ y') (p * M + q) (p' * M + q') := by
  have key : (p < p' → p * M + q < p' * M + q') ∧ (p' < p → p' * M + q' < p * M + q) := by
    constructor
    · intro hp
      have : (p + 1) * M ≤ p' * M := Int.mul_le_mul_of_nonneg_right (by omega) (by omega)
      rw [Int.add_mul] at this; omega
    · intro hp
      have : (p' + 1) * M ≤ p * M := Int.mul_le_mul_of_nonneg_right (by omega) (by omega)
      rw [Int.add_mul] at this; omega
  obtain ⟨k1, k2⟩ := key
  refine ⟨by simp [h.len, k.len], ?_, ?_⟩
  · rw [less_app _ _ _ _ h.len, h.less, k.less, Bool.eq_iff_iff]
    simp only [Bool.or_eq_true, Bool.and_eq_true, decide_eq_true_eq, h.eq]
    rcases Int.lt_trichotomy p p' with e | e | e
    · have := k1 e; constructor <;> intro _ <;> omega
    · subst e; constructor <;> intro _ <;> omega
    · have := k2 e; constructor <;> intro _ <;> omega
  · constructor
    · intro e
      obtain ⟨e1, e2⟩ := List.append_inj e h.len
      rw [h.eq.1 e1, k.eq.1 e2]
    · intro e
      have hp : p = p' := by
        rcases Int.lt_trichotomy p p' with f | f | f
        · have := k1 f; omega
        · exact f
        · have := k2 f; omega
      subst hp
      have hq : q = q' := by omega
      rw [h.eq.2 rfl, k.eq.2 hq]
theorem Ord.shift {x x' : List UInt8} {p p' : Int} (h : Ord x x' p p') (r r' : Int) (e : ∃ c, r = p - c ∧ r' = p' - c) : Ord x x' r r' := by
  obtain ⟨c, rfl, rfl⟩ := e
  refine ⟨h.len, ?_, ?_⟩
  · rw [h.less, Bool.eq_iff_iff]; simp only [decide_eq_true_eq]; omega
  · rw [h.eq]; omega
theorem Ord.same (x : List UInt8) : Ord x x 0 0 := ⟨rfl, by
  induction x with
  | nil => rfl
  | cons a x ih => show (decide (a < a) || (a == a && Op.bytesLess x x)) = _; rw [ih]; simp, by simp⟩
theorem ord_dig {n m : Int} (h0 : 0 ≤ n) (h1 : n < 10) (k0 : 0 ≤ m) (k1 : m < 10) : Ord [UInt8.ofNat (48 + n).toNat] [UInt8.ofNat (48 + m).toNat] n m := by
  have a : (UInt8.ofNat (48 + n).toNat).toNat = (48 + n).toNat := by simp [UInt8.toNat_ofNat']; omega
  have b : (UInt8.ofNat (48 + m).toNat).toNat = (48 + m).toNat := by simp [UInt8.toNat_ofNat']; omega
  have e : (UInt8.ofNat (48 + n).toNat = UInt8.ofNat (48 + m).toNat) ↔ n = m := by
    constructor
    · intro h; have := congrArg UInt8.toNat h; omega
    · intro h; rw [h]
  refine ⟨rfl, ?_, ?_⟩
  · show (decide (_ < _) || (_ == _ && false)) = _
    rw [Bool.and_false, Bool.or_false, Bool.eq_iff_iff]
    simp only [decide_eq_true_eq, UInt8.lt_iff_toNat_lt]
    omega
  · constructor
    · intro h; exact e.1 (by simpa using h)
    · intro h; rw [h]
theorem ord_digL : ∀ (k : Nat) (n m : Int), 0 ≤ n → n < 10 ^ k → 0 ≤ m → m < 10 ^ k → Ord (digL n k) (digL m k) n m
  | 0, n, m, h0, h1, k0, k1 => by
      have hn : n = 0 := by simp at h1; omega
      have hm : m = 0 := by simp at k1; omega
      subst hn hm
      exact Ord.same _
  | k + 1, n, m, h0, h1, k0, k1 => by
      have ih := ord_digL k (n / 10) (m / 10) (by omega) (by rw [Int.pow_succ] at h1; omega) (by omega) (by rw [Int.pow_succ] at k1; omega)
      have := ih.join (M := 10) (ord_dig (n := n % 10) (m := m % 10) (by omega) (by omega) (by omega) (by omega)) ⟨by omega, by omega⟩ ⟨by omega, by omega⟩
      rw [show n / 10 * 10 + n % 10 = n by omega, show m / 10 * 10 + m % 10 = m by omega] at this
      exact this

/-- the stamp of 'full' at picked numbers -/
def fullS (a b : Nat) : St := ⟨(a : Int) / 336, 1 + (a : Int) / 28 % 12, 1 + (a : Int) % 28, (b : Int) / 3600, (b : Int) / 60 % 60, (b : Int) % 60, false, 0⟩
theorem daysL_28 (y m : Int) (h1 : 1 ≤ m) (h2 : m ≤ 12) : 28 ≤ daysL y m := by
  unfold daysL
  repeat' split
  all_goals omega
theorem wth_yes {n a b : Int} (h : a ≤ n) (k : n ≤ b) : wth n a b = true := by
  unfold wth; simp [h, k]
theorem dgF_nn {n : Int} (h : 0 ≤ n) : dgF n = 57 := dgF_yes (by omega)
theorem fullS_text (a b : Nat) (ha : a < 3360000) (hb : b < 86400) : (fullS a b).text = digL ((a : Int) / 336) 4 ++ (digL (1 + (a : Int) / 28 % 12) 2 ++ digL (1 + (a : Int) % 28) 2) ++ 84 :: (digL ((b : Int) / 3600) 2 ++ (digL ((b : Int) / 60 % 60) 2 ++ digL ((b : Int) % 60) 2)) := by
  unfold St.text St.date St.clock fullS
  simp only []
  rw [if_neg (by omega), if_neg (by omega), if_neg (by omega), if_neg (by omega), if_neg (by omega), if_neg (by omega), if_neg (by omega)]
  simp
theorem fullS_fits (t : St) (a b : Nat) (ha : a < 3360000) (hb : b < 86400) (e0 : t.y = (a : Int) / 336) (e1 : t.m = 1 + (a : Int) / 28 % 12) (e2 : t.d = 1 + (a : Int) % 28) (e3 : t.h = -1 ∨ t.h = (b : Int) / 3600) (e4 : t.n = -1 ∨ t.n = (b : Int) / 60 % 60) (e5 : t.s = -1 ∨ t.s = (b : Int) % 60) (e6 : t.zn = 0) : t.fits = true := by
  have w3 : wth t.h 0 23 = true := by
    rcases e3 with e | e <;> rw [e]
    · rfl
    · exact wth_yes (by omega) (by omega)
  have w4 : wth t.n 0 59 = true := by
    rcases e4 with e | e <;> rw [e]
    · rfl
    · exact wth_yes (by omega) (by omega)
  have w5 : wth t.s 0 59 = true := by
    rcases e5 with e | e <;> rw [e]
    · rfl
    · exact wth_yes (by omega) (by omega)
  have hm : 28 ≤ t.most := by
    unfold St.most
    split
    · omega
    · exact daysL_28 _ _ (by omega) (by omega)
  unfold St.fits
  rw [wth_yes (n := t.y) (by omega) (by omega), wth_yes (n := t.m) (by omega) (by omega), wth_yes (n := t.d) (by omega) (by omega), w3, w4, w5, e6]
  rfl
theorem fullS_right (a b : Nat) (ha : a < 3360000) (hb : b < 86400) : (fullS a b).right = 0 := by
  have hf : (fullS a b).fits = true := fullS_fits _ a b ha hb rfl rfl rfl (.inr rfl) (.inr rfl) (.inr rfl) rfl
  have hb : (fullS a b).bad = false := by
    have f1 : formL (fullS a b).y (fullS a b).m (fullS a b).d = [57, 57, 57] := by
      unfold formL fullS; simp only []; rw [dgF_nn (by omega), dgF_nn (by omega), dgF_nn (by omega)]
    have f2 : formL (fullS a b).h (fullS a b).n (fullS a b).s = [57, 57, 57] := by
      unfold formL fullS; simp only []; rw [dgF_nn (by omega), dgF_nn (by omega), dgF_nn (by omega)]
    have f3 : (fullS a b).zd = false := rfl
    have f4 : (fullS a b).zn = 0 := rfl
    unfold St.bad
    simp only [f1, f2, f3, f4]
    rfl
  unfold St.right
  rw [hb, hf]; rfl
theorem fullS_ord (a b c d : Nat) (ha : a < 3360000) (hb : b < 86400) (hc : c < 3360000) (hd : d < 86400) : Ord (fullS a b).text (fullS c d).text ((a : Int) * 86400 + b) ((c : Int) * 86400 + d) := by
  rw [fullS_text a b ha hb, fullS_text c d hc hd]
  have hy := ord_digL 4 ((a : Int) / 336) ((c : Int) / 336) (by omega) (by omega) (by omega) (by omega)
  have hm' := ord_digL 2 (1 + (a : Int) / 28 % 12) (1 + (c : Int) / 28 % 12) (by omega) (by omega) (by omega) (by omega)
  have hd' := ord_digL 2 (1 + (a : Int) % 28) (1 + (c : Int) % 28) (by omega) (by omega) (by omega) (by omega)
  have hh := ord_digL 2 ((b : Int) / 3600) ((d : Int) / 3600) (by omega) (by omega) (by omega) (by omega)
  have hn := ord_digL 2 ((b : Int) / 60 % 60) ((d : Int) / 60 % 60) (by omega) (by omega) (by omega) (by omega)
  have hs := ord_digL 2 ((b : Int) % 60) ((d : Int) % 60) (by omega) (by omega) (by omega) (by omega)
  have j1 := (hn.join hs (M := 60) ⟨by omega, by omega⟩ ⟨by omega, by omega⟩)
  have j2 := hh.join j1 (M := 3600) ⟨by omega, by omega⟩ ⟨by omega, by omega⟩
  have j3 := (Ord.same [84]).join j2 (M := 86400) ⟨by omega, by omega⟩ ⟨by omega, by omega⟩
  have k1 := (hm'.shift ((a : Int) / 28 % 12) ((c : Int) / 28 % 12) ⟨1, by omega, by omega⟩).join (hd'.shift ((a : Int) % 28) ((c : Int) % 28) ⟨1, by omega, by omega⟩) (M := 28) ⟨by omega, by omega⟩ ⟨by omega, by omega⟩
  have k2 := hy.join k1 (M := 336) ⟨by omega, by omega⟩ ⟨by omega, by omega⟩
  have r := k2.join j3 (M := 86400) ⟨by omega, by omega⟩ ⟨by omega, by omega⟩
  have q1 : ((a : Int) / 336 * 336 + ((a : Int) / 28 % 12 * 28 + (a : Int) % 28)) = a := by omega
  have q2 : ((c : Int) / 336 * 336 + ((c : Int) / 28 % 12 * 28 + (c : Int) % 28)) = c := by omega
  have q3 : ((b : Int) / 3600 * 3600 + ((b : Int) / 60 % 60 * 60 + (b : Int) % 60)) = b := by omega
  have q4 : ((d : Int) / 3600 * 3600 + ((d : Int) / 60 % 60 * 60 + (d : Int) % 60)) = d := by omega
  rw [q1, q2, q3, q4, Int.zero_mul, Int.zero_add, Int.zero_add] at r
  exact r
theorem fullS_len (a b : Nat) (ha : a < 3360000) (hb : b < 86400) : (fullS a b).text.length = 15 := by
  rw [fullS_text a b ha hb]; simp [digL_length]

set_option maxRecDepth 100000 in
set_option maxHeartbeats 2000000 in
theorem full_any (a b : Int) (w : World) : Gives 15 #[.int .i64 a, .int .i64 b] w (fullS (pickV a 3360000) (pickV b 86400)).v := by
  have ha := pickV_lt a (n := 3360000) (by decide)
  have hb := pickV_lt b (n := 86400) (by decide)
  have h1 := pick_any a 3360000
  have h2 := pick_any b 86400
  obtain ⟨x, hx⟩ : ∃ x, pickV a 3360000 = x := ⟨_, rfl⟩
  obtain ⟨y, hy⟩ : ∃ y, pickV b 86400 = y := ⟨_, rfl⟩
  rw [hx] at ha h1
  rw [hy] at hb h2
  rw [hx, hy]
  clear hx hy
  have H1 := hid h1
  have H2 := hid h2
  clear h1 h2
  go_enter Tryd.func15, Tryd.ntmps15
  go_wp2_with fail
  refine (H1.out _ (by decide) (by decide)).use ?_
  go_wp2_with fail
  refine (H2.out _ (by decide) (by decide)).use ?_
  go_wp2_with fail
  have hr := heap_alloc_new w (.cells #[.int .i64 ((x : Int) / 336), .int .i64 (1 + (x : Int) / 28 % 12), .int .i64 (1 + (x : Int) % 28), .int .i64 ((y : Int) / 3600), .int .i64 ((y : Int) / 60 % 60), .int .i64 ((y : Int) % 60), .bool false, .int .i64 0] 23)
  have gf : G w (w.alloc (.cells #[.int .i64 ((x : Int) / 336), .int .i64 (1 + (x : Int) / 28 % 12), .int .i64 (1 + (x : Int) % 28), .int .i64 ((y : Int) / 3600), .int .i64 ((y : Int) / 60 % 60), .int .i64 ((y : Int) % 60), .bool false, .int .i64 0] 23)) := (G.refl _).alloc _
  generalize w.alloc (.cells #[.int .i64 ((x : Int) / 336), .int .i64 (1 + (x : Int) / 28 % 12), .int .i64 (1 + (x : Int) % 28), .int .i64 ((y : Int) / 3600), .int .i64 ((y : Int) / 60 % 60), .int .i64 ((y : Int) % 60), .bool false, .int .i64 0] 23) = WF at hr gf ⊢
  have e0 : WF.cell? ⟨w.heap.size, 0, none⟩ = some (.int .i64 ((x : Int) / 336)) := by rw [cell_of_row WF w.heap.size 0 _ _ _ hr]; rfl
  have e1 : WF.cell? ⟨w.heap.size, 1, none⟩ = some (.int .i64 (1 + (x : Int) / 28 % 12)) := by rw [cell_of_row WF w.heap.size 1 _ _ _ hr]; rfl
  have e2 : WF.cell? ⟨w.heap.size, 2, none⟩ = some (.int .i64 (1 + (x : Int) % 28)) := by rw [cell_of_row WF w.heap.size 2 _ _ _ hr]; rfl
  have e3 : WF.cell? ⟨w.heap.size, 3, none⟩ = some (.int .i64 ((y : Int) / 3600)) := by rw [cell_of_row WF w.heap.size 3 _ _ _ hr]; rfl
  have e4 : WF.cell? ⟨w.heap.size, 4, none⟩ = some (.int .i64 ((y : Int) / 60 % 60)) := by rw [cell_of_row WF w.heap.size 4 _ _ _ hr]; rfl
  have e5 : WF.cell? ⟨w.heap.size, 5, none⟩ = some (.int .i64 ((y : Int) % 60)) := by rw [cell_of_row WF w.heap.size 5 _ _ _ hr]; rfl
  have e6 : WF.cell? ⟨w.heap.size, 6, none⟩ = some (.bool false) := by rw [cell_of_row WF w.heap.size 6 _ _ _ hr]; rfl
  have e7 : WF.cell? ⟨w.heap.size, 7, none⟩ = some (.int .i64 0) := by rw [cell_of_row WF w.heap.size 7 _ _ _ hr]; rfl
  exact bodyPost_ret (v := (fullS x y).v) (by simp [results, Tryd.results15, go_sem, e0, e1, e2, e3, e4, e5, e6, e7, fullS, St.v]) rfl ⟨rfl, gf⟩

end Go.Proofs.YtkhnghcecnghmaaDoor
