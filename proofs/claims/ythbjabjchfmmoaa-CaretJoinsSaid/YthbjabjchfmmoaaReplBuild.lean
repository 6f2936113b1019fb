/-
  strings.Replacer's build, at single bytes that are replaced by two bytes each: a byteStringReplacer.
-/
import Derived.Test.YthbjabjchfmmoaaReplLen
import Derived.Test.YthbjabjchfmmoaaRow
import Derived.OwnWalk
import Derived.Deep.AppendLies
import Derived.Deep.OwnRows
import Derived.Deep.WholeRow
import Derived.Lib.BufferMore
namespace Go.Proofs.Ythbjabjchfmmoaa
open Go.RowKit
set_option linter.unusedVariables false
set_option linter.unusedSimpArgs false

/-- the pairs lie in block o, one string behind the other -/
def PairsAt (w : World) (o : Nat) (ps : List (UInt8 × List UInt8)) : Prop :=
  o < w.heap.size ∧ ∀ (j : Nat) (h : j < ps.length), w.cell? ⟨o, 2 * j, none⟩ = some (.string (S [ps[j].1])) ∧ w.cell? ⟨o, 2 * j + 1, none⟩ = some (.string (S ps[j].2))
theorem PairsAt.grow {w w' : World} {o : Nat} {ps : List (UInt8 × List UInt8)} (h : PairsAt w o ps) (g : G w w') : PairsAt w' o ps :=
  ⟨Nat.lt_of_lt_of_le h.1 g.size, fun j hj => by rw [g.cell h.1, g.cell h.1]; exact h.2 j hj⟩

theorem ownsRow_kept' {w w' : World} {base : Nat} {e : TypeId} {size : Nat} {v : Value} {n : Nat} {xs : List Value} (h : w.ownsRow base e size v n xs) (g : G w w') : w'.ownsRow base e size v n xs := by
  refine ⟨h.1, ?_⟩
  rcases h.2 with hn | ⟨q, cap, cur, rfl, hbg, hgg, rest⟩
  · exact .inl hn
  · have hq : q < w.heap.size := by
      rcases Nat.lt_or_ge q w.heap.size with h' | h'
      · exact h'
      · rw [Array.getElem?_eq_none h'] at hgg; cases hgg
    exact .inr ⟨q, cap, cur, rfl, hbg, by rw [g.below.block q hq]; exact hgg, rest⟩
theorem addZ (b j : Nat) : (⟨b, 0, none⟩ : Addr).add j = ⟨b, j, none⟩ := by unfold Addr.add; split <;> simp_all
/-- the first pair of a key -/
def lookP : List (UInt8 × List UInt8) → UInt8 → Option (List UInt8)
  | [], _ => none
  | p :: r, c => if p.1 = c then some p.2 else lookP r c
theorem grownBy_set (w : World) (a : Addr) (v : Value) : w.grownBy (w.setCell a v) (some a.block) :=
  ⟨rfl, rfl, rfl, by simp [World.setCell], fun k hk hne => by
    show (w.heap.modify _ _)[k]? = _
    rw [Array.getElem?_modify]
    rw [if_neg (fun h => hne (by rw [h]))]⟩

/-- a byteStringReplacer that is being built: its cells lie in block C, its keys in the row tv -/
structure BState (w0 w : World) (C : Nat) (tv : Value) (f : UInt8 → Option (List UInt8)) (keys : List UInt8) : Prop where
  g : G w0 w
  cl : w0.heap.size ≤ C
  ch : C < w.heap.size
  fz : ∀ k, w.frozen? ⟨C, k, none⟩ = false
  own : w.ownsRow w0.heap.size 9 1 tv keys.length (keys.map fun k => .string (S [k]))
  ne : tv.ownBlock ≠ some C
  top : w.cell? ⟨C, 256, none⟩ = some tv
  slots : ∀ c : UInt8, (f c = none ∧ w.cell? ⟨C, c.toNat, none⟩ = some (.slice none 0 0)) ∨ ∃ l b cap, f c = some l ∧ w.cell? ⟨C, c.toNat, none⟩ = some (.slice (some ⟨b, 0, none⟩) l.length cap) ∧ b < w.heap.size ∧ b ≠ C ∧ tv.ownBlock ≠ some b ∧ ∀ j (h : j < l.length), w.cell? ⟨b, j, none⟩ = some (.int .u8 (l[j].toNat : Int))
theorem BState.keyed {w0 w w2 w3 : World} {C : Nat} {tv : Value} {f : UInt8 → Option (List UInt8)} {keys : List UInt8} (h : BState w0 w C tv f keys) (g2 : G w w2) (hgrow : w2.grownBy w3 tv.ownBlock) (k : UInt8) (g cap : Nat) (hH : tv.ownBlock = some g ∨ g = w2.heap.size)
    (hown : w3.ownsRow w0.heap.size 9 1 (.slice (some ⟨g, 0, none⟩) (keys.length + 1) cap) (keys.length + 1) ((keys.map fun k => Value.string (S [k])) ++ [.string (S [k])])) :
    BState w0 (w3.setCell ⟨C, 256, none⟩ (.slice (some ⟨g, 0, none⟩) (keys.length + 1) cap)) C (.slice (some ⟨g, 0, none⟩) (keys.length + 1) cap) f (keys ++ [k]) := by
  have hC2 : C < w2.heap.size := Nat.lt_of_lt_of_le h.ch g2.size
  have hgC : g ≠ C := by
    rcases hH with e | e
    · exact fun e2 => h.ne (by rw [e, e2])
    · omega
  have far : ∀ (b j : Nat), b < w.heap.size → tv.ownBlock ≠ some b → w3.cell? ⟨b, j, none⟩ = w.cell? ⟨b, j, none⟩ := fun b j hb hne => by
    rw [hgrow.cell_far ⟨b, j, none⟩ (Nat.lt_of_lt_of_le hb g2.size) (fun e => hne e.symm), g2.cell hb]
  have hC3 : C < w3.heap.size := Nat.lt_of_lt_of_le hC2 hgrow.size
  have hsz : ∀ v, (w3.setCell ⟨C, 256, none⟩ v).heap.size = w3.heap.size := fun v => by simp [World.setCell]
  refine ⟨?_, h.cl, by rw [hsz]; exact hC3, fun j => ?_, ?_, ?_, ?_, fun c => ?_⟩
  · exact (Below.grown (h.g.trans g2) hgrow (by have := h.g.size; have := g2.size; omega) (fun j hj => (h.own.lt j hj).1)).setCell (p := ⟨C, 256, none⟩) h.cl _
  · rw [World.frozen?_setCell, hgrow.frozen_far ⟨C, j, none⟩ hC2 (fun e => h.ne e.symm), Below.frozen g2 (p := ⟨C, j, none⟩) h.ch]
    exact h.fz j
  · have := hown.kept (grownBy_set w3 ⟨C, 256, none⟩ (.slice (some ⟨g, 0, none⟩) (keys.length + 1) cap)) (.inr (by simp [Value.ownBlock, hgC]))
    simpa using this
  · simp [Value.ownBlock, hgC]
  · exact World.cell?_setCell_same _ _ _ ((far C 256 h.ch h.ne).trans h.top)
  · have h256 : (c.toNat : Nat) ≠ 256 := by have := c.toNat_lt; omega
    have e : ∀ v, (w3.setCell ⟨C, 256, none⟩ v).cell? ⟨C, c.toNat, none⟩ = w.cell? ⟨C, c.toNat, none⟩ := fun v => by
      rw [World.cell?_setCell_other _ _ _ _ (by first | (simp; done) | (simp; omega))]; exact far C _ h.ch h.ne
    rcases h.slots c with ⟨h1, h2⟩ | ⟨l, b, cap', h1, h2, h3, h4, h5, h6⟩
    · exact .inl ⟨h1, (e _).trans h2⟩
    · refine .inr ⟨l, b, cap', h1, (e _).trans h2, ?_, h4, ?_, fun j hj => ?_⟩
      · rw [hsz]; have := hgrow.size; have := g2.size; omega
      · rcases hH with e | e
        · intro e2; have : g = b := by simpa [Value.ownBlock] using e2
          exact h5 (by rw [e, this])
        · intro e2; have : g = b := by simpa [Value.ownBlock] using e2
          have := g2.size; omega
      · rw [World.cell?_setCell_other _ _ _ _ (by first | (simp; done) | (simp; omega))]
        rw [far b j h3 h5]; exact h6 j hj
theorem BState.slot {w0 w w2 : World} {C : Nat} {tv : Value} {f : UInt8 → Option (List UInt8)} {keys : List UInt8} (h : BState w0 w C tv f keys) (g2 : G w w2) (k : UInt8) (l : List UInt8) (cap : Nat) (hlt : w.heap.size < w2.heap.size)
    (hc : ∀ j (h : j < l.length), w2.cell? ⟨w.heap.size, j, none⟩ = some (.int .u8 (l[j].toNat : Int))) :
    BState w0 (w2.setCell ⟨C, k.toNat, none⟩ (.slice (some ⟨w.heap.size, 0, none⟩) l.length cap)) C tv (fun c => if k = c then some l else f c) keys := by
  have hC2 : C < w2.heap.size := Nat.lt_of_lt_of_le h.ch g2.size
  have hsz : ∀ v, (w2.setCell ⟨C, k.toNat, none⟩ v).heap.size = w2.heap.size := fun v => by simp [World.setCell]
  have hk256 : k.toNat ≠ 256 := by have := k.toNat_lt; omega
  have hown2 := ownsRow_kept' h.own g2
  refine ⟨(h.g.trans g2).below.setCell (p := ⟨C, k.toNat, none⟩) h.cl _, h.cl, by rw [hsz]; exact hC2, fun j => ?_, ?_, h.ne, ?_, fun c => ?_⟩
  · rw [World.frozen?_setCell, Below.frozen g2 (p := ⟨C, j, none⟩) h.ch]; exact h.fz j
  · exact hown2.kept (grownBy_set w2 ⟨C, k.toNat, none⟩ _) (.inr h.ne)
  · rw [World.cell?_setCell_other _ _ _ _ (by first | (simp; done) | (simp; omega)), g2.cell h.ch]; exact h.top
  · by_cases e : k = c
    · subst e
      right
      refine ⟨l, w.heap.size, cap, by simp, ?_, by rw [hsz]; exact hlt, by have := h.ch; omega, ?_, fun j hj => ?_⟩
      · rcases h.slots k with ⟨_, h2⟩ | ⟨_, _, _, _, h2, _⟩
        all_goals exact World.cell?_setCell_same _ _ _ ((g2.cell h.ch).trans h2)
      · intro e; have := (h.own.lt _ e).2; omega
      · rw [World.cell?_setCell_other _ _ _ _ (by have := h.ch; first | (simp; done) | (simp; omega))]; exact hc j hj
    · have hne : k.toNat ≠ c.toNat := fun h => e (UInt8.toNat_inj.1 h)
      have e1 : ∀ v, (w2.setCell ⟨C, k.toNat, none⟩ v).cell? ⟨C, c.toNat, none⟩ = w.cell? ⟨C, c.toNat, none⟩ := fun v => by
        rw [World.cell?_setCell_other _ _ _ _ (by first | (simp; done) | (simp; omega))]; exact g2.cell h.ch
      rcases h.slots c with ⟨h1, h2⟩ | ⟨l', b, cap', h1, h2, h3, h4, h5, h6⟩
      · exact .inl ⟨by simp [e, h1], (e1 _).trans h2⟩
      · refine .inr ⟨l', b, cap', by simp [e, h1], (e1 _).trans h2, by rw [hsz]; have := g2.size; omega, h4, h5, fun j hj => ?_⟩
        rw [World.cell?_setCell_other _ _ _ _ (by first | (simp; done) | (simp; omega)), g2.cell h3]; exact h6 j hj

theorem info_bsr : (Try.prog.info? 75).map (·.size) = some 257 := by kernel_rfl
theorem zbs_eq : Try.zeroCells75 = Array.replicate 257 (.slice none 0 0) := by kernel_rfl
theorem zbs_size : Try.zeroCells75.size = 257 := by rw [zbs_eq]; simp
theorem zbs_one (V : Value) (hV : V.oneCell' = true) : ((Try.zeroCells75.toList.set 256 V).toArray).all (·.oneCell') = true := by
  rw [zbs_eq]
  simp only [List.all_toArray, List.all_eq_true]
  intro x hx
  rcases List.mem_or_eq_of_mem_set hx with h | rfl
  · rw [Array.toList_replicate] at h
    rw [List.eq_of_mem_replicate h]; rfl
  · exact hV
theorem info_string : (Try.prog.info? 9).map (fun i => (i.zero, i.size, i.bytes)) = some (some (.string ⟨#[]⟩), 1, 16) := by kernel_rfl

set_option maxRecDepth 100000 in
set_option maxHeartbeats 4000000 in
theorem build_any (b o cap n : Nat) (ps : List (UInt8 × List UInt8)) (w : World) (hr : w.cell? ⟨b, 4, none⟩ = some (.slice (some ⟨o, 0, none⟩) n cap)) (hb : b < w.heap.size) (hn : n = 2 * ps.length) (hp : PairsAt w o ps) (hv : ∀ p ∈ ps, p.2.length = 2) (h2 : 2 ≤ ps.length) (h3 : ps.length ≤ 100) (hd : ∀ (m : Nat) (h : m < ps.length), lookP (ps.drop (m + 1)) ps[m].1 = none) :
    Makes 20 #[.pointer (some ⟨b, 0, none⟩)] w fun v w' => ∃ C tv, v = .iface 76 (.pointer (some ⟨C, 0, none⟩)) ∧ BState w w' C tv (lookP ps) (ps.reverse.map (·.1)) := by
  have HP := hid hp
  have HV := hid hv
  have HN := hid hn
  have hn4 : 4 ≤ n := by omega
  have hn2 : ((n : Int) == 2) = false := beq_eq_false_iff_ne.2 (by omega)
  have hnn : n ≤ 200 := by omega
  have HD := hid hd
  clear hp hv hn hd
  obtain ⟨i0, hi, hz0, hz1, hz2⟩ := info_parts info_string
  have hnil : ∀ W, (binOp .eql 72 (.slice none 0 0) (.slice none 0 0)).run Try.prog W = .ok (.bool true) W := fun W => Lib.run_eql_slice_nil_nil W _ _ Try.underlying72
  go_enter Try.func20, Try.ntmps20
  go_wp2_with fail
  go_loopw [4, 5] (fun bv iv wr => ∃ j : Nat, iv = .int .i64 ((2 * j : Nat) : Int) ∧ 2 * j ≤ n ∧ (j = 0 ∧ bv = .bool true ∨ 0 < j ∧ bv = .bool false) ∧ wr = w) (fun bv iv _ => n - (intOf iv).toNat)
  case atStart => exact ⟨0, rfl, Nat.zero_le _, .inl ⟨rfl, rfl⟩, rfl⟩
  case round =>
    obtain ⟨j, rfl, hj, hbv, rfl⟩ := hrel
    by_cases hlt : 2 * j < n
    · have hjp : j < ps.length := by have := HN.out; omega
      have hlt1 : 2 * j + 1 < n := by have := HN.out; omega
      obtain ⟨c1, c2⟩ := HP.out.2 j hjp
      have l2 : ((ps[j]'hjp).2.length : Int) = 2 := by have := HV.out _ (List.getElem_mem hjp); omega
      obtain ⟨x, hx⟩ : ∃ x, (ps[j]'hjp).2 = x := ⟨_, rfl⟩
      obtain ⟨c, hc⟩ : ∃ c, (ps[j]'hjp).1 = c := ⟨_, rfl⟩
      rw [hx] at c2 l2
      rw [hc] at c1
      clear hx hc
      have q2 : ((x.length : Int) != 1) = true := by rw [l2]; rfl
      clear l2
      rcases hbv with ⟨h0, rfl⟩ | ⟨h0, rfl⟩
      · subst h0
        simp only [Nat.mul_zero, Nat.zero_add] at c1 c2 hlt hlt1
        go_wp2_with fail
        go_roundw
        case rel => exact ⟨1, by go_num, by omega, .inr ⟨by omega, rfl⟩, trivial⟩
        case measure => simp [intOf]; omega
      · go_wp2_with fail
        go_roundw
        case rel => exact ⟨j + 1, by go_num, by have := HN.out; omega, .inr ⟨by omega, rfl⟩, trivial⟩
        case measure => simp [intOf]; omega
    · have hje : 2 * j = n := by omega
      rcases hbv with ⟨h0, rfl⟩ | ⟨h0, rfl⟩
      · omega
      clear hlt hj
      obtain ⟨K, hK⟩ : ∃ K, n / 2 = K := ⟨_, rfl⟩
      have hKn : ((n : Int) / 2) = (K : Int) := by omega
      have hKle : K ≤ 100 := by omega
      have HK : Hid (K = ps.length) := hid (by have := HN.out; omega)
      rw [hje]
      clear hje hK
      go_wp2_with (at_make; refine wpList_make_own _ rfl _ _ 29 rfl wr.heap.size 9 i0 _ 1 Try.underlying29 hi hz0 hz1 .i64 .i64 _ K rfl rfl rfl ?m1 ?m2 (Nat.le_refl _) ?_)
      case m1 => rw [hz2]; omega
      case m2 => unfold maxLen; omega
      intro w1 hown hgrow
      have hst := run_storeCells_new (P := Try.prog) w1 75 Try.zeroCells75 (Try.zeroCells75.toList.set 256 (Value.slice (some ⟨wr.heap.size, 0, none⟩) 0 K)).toArray (by simp [info_bsr, zbs_size]) (by simp) (zbs_one _ rfl)
      obtain ⟨w0, rfl⟩ : ∃ z, z = wr := ⟨_, rfl⟩
      have hMlt := (hown.lt w0.heap.size rfl).2
      have HB0 : Hid (BState w0 (w1.alloc (.cells (Try.zeroCells75.toList.set 256 (Value.slice (some ⟨w0.heap.size, 0, none⟩) 0 K)).toArray 75)) w1.heap.size (.slice (some ⟨w0.heap.size, 0, none⟩) 0 K) (fun _ => none) []) := hid (by
        have hg1 : G w0 w1 := Below.grown (G.refl w0) hgrow (Nat.le_refl _) (by simp)
        refine ⟨hg1.alloc _, hg1.size, by simp, fun k => World.frozen?_alloc_at _ _ _ _ rfl, hown.alloc _, ?_, ?_, fun c => .inl ⟨rfl, ?_⟩⟩
        · intro e; have : w0.heap.size = w1.heap.size := by simpa [Value.ownBlock] using e
          omega
        · rw [World.cell?_alloc_new]
          rw [zbs_eq]; simp
        · rw [World.cell?_alloc_new]
          have := c.toNat_lt
          rw [zbs_eq, List.getElem?_toArray, List.getElem?_set_ne (by omega), Array.toList_replicate, List.getElem?_replicate, if_pos (by omega)])
      clear hown hgrow
      go_wp2_with fail
      obtain ⟨wL, hL⟩ : ∃ wL, w1.alloc (.cells (Try.zeroCells75.toList.set 256 (Value.slice (some ⟨w0.heap.size, 0, none⟩) 0 K)).toArray 75) = wL := ⟨_, rfl⟩
      rw [hL] at HB0 ⊢
      clear hL
      obtain ⟨C, hC⟩ : ∃ C, w1.heap.size = C := ⟨_, rfl⟩
      rw [hC] at HB0 ⊢
      clear hC hst hMlt
      go_loopw [12] (fun iv wq => ∃ (m : Nat) (tv : Value), iv = .int .i64 (2 * (m : Int) - 2) ∧ m ≤ ps.length ∧ BState w0 wq C tv (lookP (ps.drop m)) ((ps.drop m).reverse.map (·.1))) (fun iv _ => (intOf iv + 2).toNat)
      case atStart =>
        refine ⟨ps.length, .slice (some ⟨w0.heap.size, 0, none⟩) 0 K, ?_, Nat.le_refl _, ?_⟩
        · have := HN.out; congr 1; omega
        · have := HB0.out
          rw [List.drop_length]; exact this
      case round =>
        obtain ⟨m, tv, rfl, hm, hbs⟩ := hrel
        have HB := hid hbs
        clear hbs
        rcases m with _ | m
        · go_wp2_with fail
          go_ret
          exact ⟨_, rfl, ⟨C, tv, rfl, HB.out⟩, HB.out.g⟩
        · have hmn : 2 * m + 1 < n := by have := HN.out; omega
          have hmn0 : 2 * m < n := by omega
          obtain ⟨c1, c2⟩ := (HP.out.grow HB.out.g).2 m (by omega)
          have hiv : (2 * ((m + 1 : Nat) : Int) - 2) = ((2 * m : Nat) : Int) := by omega
          rw [hiv]
          clear hiv
          obtain ⟨c, hc⟩ : ∃ c, (ps[m]'(by omega)).1 = c := ⟨_, rfl⟩
          obtain ⟨x, hx⟩ : ∃ x, (ps[m]'(by omega)).2 = x := ⟨_, rfl⟩
          rw [hc] at c1
          rw [hx] at c2
          have hno : lookP (ps.drop (m + 1)) c = none := by rw [← hc]; exact HD.out m (by omega)
          have hsl : wr.cell? ⟨C, c.toNat, none⟩ = some (.slice none 0 0) := by
            rcases HB.out.slots c with h | ⟨_, _, _, h, _⟩
            · exact h.2
            · rw [hno] at h; cases h
          have hc256 := c.toNat_lt
          have htop := HB.out.top
          have hfz := HB.out.fz 256
          have HC := hid hc
          have HX := hid hx
          have HNO := hid hno
          clear hc hx hno
          have hkl : ((ps.drop (m + 1)).reverse.map (·.1)).length ≤ 100 := by simp; omega
          obtain ⟨ks, hks⟩ : ∃ ks, (ps.drop (m + 1)).reverse.map (·.1) = ks := ⟨_, rfl⟩
          rw [hks] at HB hkl
          have HKS := hid hks
          clear hks
          go_wp2_with (at_builtin; refine wpList_append_lies _ rfl _ _ 29 rfl w0.heap.size 9 i0 _ 1 16 Try.underlying29 hi hz0 hz1 hz2 rfl (by decide) _ _ _ rfl ((HB.out.own.alloc _).alloc _) ⟨wr.heap.size + 1, 0, none⟩ 1 1 [.string (S [c])] rfl rfl ?c1 ?c2 (by omega) ?c3 ?c4 ?c5 _ rfl ?_)
          case c1 =>
            intro j u hj
            rw [addZ]
            match j, hj with
            | 0, hj => simp at hj; subst hj; simp
          case c2 => intro u hu; simp at hu; subst hu; rfl
          case c3 => unfold maxLen; omega
          case c4 => omega
          case c5 => have := HB.out.g.size; simp; omega
          intro g cap2 w3 hown3 hgrow3 hat hlt3
          have g2 : G wr _ := ((G.refl wr).alloc (.cells #[.int .u8 (c.toNat : Int)] 5)).alloc (.cells #[.string (S [c])] 9)
          have htop3 : w3.cell? ⟨C, 256, none⟩ = some tv := (hgrow3.cell_far ⟨C, 256, none⟩ (Nat.lt_of_lt_of_le HB.out.ch g2.size) (fun e => HB.out.ne e.symm)).trans ((g2.cell HB.out.ch).trans HB.out.top)
          have hfz3 : w3.frozen? ⟨C, 256, none⟩ = false := (hgrow3.frozen_far ⟨C, 256, none⟩ (Nat.lt_of_lt_of_le HB.out.ch g2.size) (fun e => HB.out.ne e.symm)).trans ((Below.frozen g2 (p := ⟨C, 256, none⟩) HB.out.ch).trans (HB.out.fz 256))
          have HB1 : Hid (BState w0 (w3.setCell ⟨C, 256, none⟩ (.slice (some ⟨g, 0, none⟩) (ks.length + 1) cap2)) C (.slice (some ⟨g, 0, none⟩) (ks.length + 1) cap2) (lookP (ps.drop (m + 1))) (ks ++ [c])) := hid (HB.out.keyed g2 hgrow3 c g cap2 (hat.imp id (fun h => by rw [h]; simp)) hown3)
          clear hown3 hgrow3 hat hlt3 g2 htop hfz hsl c1 c2
          go_wp2_with fail
          obtain ⟨w4, h4⟩ : ∃ w4, w3.setCell ⟨C, 256, none⟩ (.slice (some ⟨g, 0, none⟩) (ks.length + 1) cap2) = w4 := ⟨_, rfl⟩
          rw [h4] at HB1 ⊢
          clear h4 htop3 hfz3
          have hconv := run_bytes_of_string (P := Try.prog) w4 9 72 5 (S x) Try.underlying9 Try.underlying72 Try.underlying5
          have hob := OwnB.of_bytes w4 5 (S x)
          obtain ⟨W5, hW5⟩ : ∃ W5, w4.drew.alloc (.cells (bytesRow (S x) (grownCap w4 (S x).size 0 5)) 5 ((bytesRow (S x) (grownCap w4 (S x).size 0 5)).size, (bytesRow (S x) (grownCap w4 (S x).size 0 5)).size + 1)) = W5 := ⟨_, rfl⟩
          have g5 : G w4 W5 := by rw [← hW5]; exact ((G.refl _).drew).alloc _
          have hlt5 : w4.heap.size < W5.heap.size := by rw [← hW5]; simp
          rw [hW5] at hconv hob
          have hsl5 : W5.cell? ⟨C, c.toNat, none⟩ = some (.slice none 0 0) := by
            rw [g5.cell HB1.out.ch]
            rcases HB1.out.slots c with h | ⟨_, _, _, h, _⟩
            · exact h.2
            · rw [HNO.out] at h; cases h
          have hfz5 : W5.frozen? ⟨C, c.toNat, none⟩ = false := (Below.frozen g5 (p := ⟨C, c.toNat, none⟩) HB1.out.ch).trans (HB1.out.fz _)
          have HB2 := hid (HB1.out.slot g5 c x (grownCap w4 x.length 0 5) hlt5 (fun j hj => (hob j hj).1))
          clear hW5 g5 hlt5 hob
          simp only [S_size] at hconv
          rw [hconv]
          simp only [Result.andThen]
          rw [Oper.upon_value]
          clear hconv
          go_wp2_with fail
          go_roundw
          case rel =>
            refine ⟨m, .slice (some ⟨g, 0, none⟩) (ks.length + 1) cap2, rfl, by omega, ?_⟩
            · have e1 : ps.drop m = ps[m]'(by omega) :: ps.drop (m + 1) := List.drop_eq_getElem_cons (by omega)
              have e2 : lookP (ps.drop m) = fun c' => if c = c' then some x else lookP (ps.drop (m + 1)) c' := by
                rw [e1]; funext c'; show (if _ = c' then _ else _) = _; rw [HC.out, HX.out]
              have e3 : (ps.drop m).reverse.map (·.1) = ks ++ [c] := by
                rw [e1, List.reverse_cons, List.map_append, HKS.out]; simp [HC.out]
              rw [e2, e3]
              exact HB2.out
          case measure => simp [intOf]; omega

end Go.Proofs.Ythbjabjchfmmoaa
