/-
  The walks of the laws LangForm and LangJoins: over all texts of at most 2 to the 47 bytes they return true.
-/
import Derived.Test.YtnllmdognnfnhaaDoorLang2
import Derived.Test.YtnllmdognnfnhaaDoorNameF
import Derived.Shelf.LaysM
namespace Go.Proofs.YtnllmdognnfnhaaDoor
open Go.RowKit
set_option linter.unusedVariables false
set_option linter.unusedSimpArgs false

theorem lowerL_append (a b : List UInt8) : lowerL (a ++ b) = lowerL a ++ lowerL b := by simp [lowerL]
theorem lower_lower (l : List UInt8) : lowerL (lowerL l) = lowerL l := by
  conv => lhs; rw [← lower_upper (lowerL l), upper_lower, lower_upper]
theorem lowerL_join (p : List UInt8) (ps : List (List UInt8)) : lowerL (joinS [45] p ps) = joinS [45] (lowerL p) (ps.map lowerL) := by
  induction ps generalizing p with
  | nil => rfl
  | cons q ps ih =>
    show lowerL (p ++ ([45] ++ joinS [45] q ps)) = _
    rw [lowerL_append, lowerL_append, ih]; rfl
theorem lower_canonPiece (q : List UInt8) : lowerL (canonPiece q) = lowerL q := by
  unfold canonPiece
  split
  · exact lower_upper q
  · split
    · rw [lowerL_append, lower_upper, ← lowerL_append, List.take_append_drop]
    · rfl
theorem lower_canon (s : List UInt8) : lowerL (canonL s) = lowerL s := by
  unfold canonL
  rw [lowerL_join, List.map_map]
  have : (lowerL ∘ canonPiece) = lowerL := by funext q; exact lower_canonPiece q
  rw [this, ← lowerL_join, cuts_join, lower_lower]
theorem canon_of_lower {a b : List UInt8} (h : lowerL a = lowerL b) : canonL a = canonL b := by unfold canonL; rw [h]
theorem lower_byte (f : Bool) (c : UInt8) : (turn1 65 90 32 c = 45 ↔ c = 45) ∧ pieceB f (turn1 65 90 32 c) = pieceB f c := by
  have h := byte_all (fun c => decide ((turn1 65 90 32 c = 45 ↔ c = 45) ∧ pieceB true (turn1 65 90 32 c) = pieceB true c ∧ pieceB false (turn1 65 90 32 c) = pieceB false c)) (by decide +kernel) c
  have h := of_decide_eq_true h
  cases f
  · exact ⟨h.1, h.2.2⟩
  · exact ⟨h.1, h.2.1⟩
theorem scan_lower (l : List UInt8) : ∀ f cur, scanL f cur (lowerL l) = scanL f cur l := by
  induction l with
  | nil => intro f cur; rfl
  | cons c t ih =>
    intro f cur
    obtain ⟨h1, h2⟩ := lower_byte f c
    show scanL f cur (turn1 65 90 32 c :: lowerL t) = _
    unfold scanL
    by_cases h : c = 45
    · rw [if_pos (h1.2 h), if_pos h, ih]
    · rw [if_neg (fun e => h (h1.1 e)), if_neg h, ih, h2]
theorem langB_of_lower {a b : List UInt8} (h : lowerL a = lowerL b) : langB a = langB b := by
  unfold langB
  rw [← scan_lower a, h, scan_lower]

theorem canon_yes_to (s t : List UInt8) (m : Int) (w : World) (hs : s.length ≤ 100000) (hb : langB s = true) (hm : w.cell? ⟨1, 0, none⟩ = some (.int .i64 m)) (h : canonL s = t) : Gives 34 #[.string (S s)] w (.tuple #[.string (S t), .nilIface]) := by
  subst h; exact langCanon_yes s m w hs hb hm
theorem right_yes (s : List UInt8) (w : World) (hs : s.length ≤ 100000) (hb : langB s = true) : Gives 35 #[.string (S s)] w .nilIface :=
  Calls.mono (langRight_any s w hs) fun e w' ⟨v, h1, h2, h3⟩ => by
    unfold LangPost at h2
    rw [if_pos hb] at h2
    subst h2; exact ⟨h1, h3⟩
theorem right_no (s : List UInt8) (w : World) (hs : s.length ≤ 100000) (hb : langB s = false) : Makes 35 #[.string (S s)] w (fun v w' => ∃ b, v = .iface 69 (.pointer (some ⟨b, 0, none⟩))) :=
  (langRight_any s w hs).mono fun v w' _ h2 => by
    unfold LangPost at h2
    rw [if_neg (by simp [hb])] at h2
    obtain ⟨e, p, b, h, _⟩ := h2
    exact ⟨b, h⟩

set_option maxRecDepth 100000 in
set_option maxHeartbeats 1000000 in
theorem spoken_any (w : World) (m : Int) (hm : w.cell? ⟨1, 0, none⟩ = some (.int .i64 m)) : Gives 33 #[] w (.bool true) := by
  have HM := hid hm
  clear hm
  go_enter Tryd.func33, Tryd.ntmps33
  go_wp2_with fail
  refine (canon_yes_to [90, 72, 45, 104, 97, 110, 116, 45, 116, 119] [122, 104, 45, 72, 97, 110, 116, 45, 84, 87] m _ (by simp) (by decide) HM.out (by decide)).use ?_; intro w1 g1
  go_wp2_with fail
  refine (right_no [101, 49] _ (by simp) (by decide)).use ?_
  rintro v w2 ⟨b, rfl⟩ g2
  go_wp2_with fail
  refine (right_no [101, 110, 45] _ (by simp) (by decide)).use ?_
  rintro v w3 ⟨b', rfl⟩ g3
  go_wp2_with fail
  go_ret
  exact ⟨rfl, (by repeat (first | exact G.refl _ | assumption | apply G.drew | apply G.alloc | refine G.trans ?_ (by assumption)))⟩

set_option maxRecDepth 100000 in
set_option maxHeartbeats 4000000 in
theorem langForm_walk (s : List UInt8) (w : World) (hsh : w.ShapedOpen Tryd.prog) (zs : s.length ≤ 140737488351232) : Gives 10 #[.string (S s)] w (.bool true) := by
  obtain ⟨mx, hmx⟩ : ∃ m, w.cell? ⟨1, 0, none⟩ = some (.int .i64 m) := Tryd.laysM146.s1_3 w hsh
  have hml : 1 < w.heap.size := World.block_lt_of_cell? w _ hmx
  have HMX := hid hmx
  clear hmx hsh
  have MX : Hid (∀ w', G w w' → w'.cell? ⟨1, 0, none⟩ = some (.int .i64 mx)) := hid (fun w' g => by rw [g.cell hml]; exact HMX.out)
  by_cases hlen : 200 < s.length
  · go_enter Tryd.func10, Tryd.ntmps10
    go_wp2_with fail
    refine (spoken_any _ mx HMX.out).use ?_; intro w1 g1
    go_wp2_with fail
    go_ret
    exact ⟨rfl, g1⟩
  cases hb : langB s with
  | false =>
    have HB := hid hb
    clear hb
    go_enter Tryd.func10, Tryd.ntmps10
    go_wp2_with fail
    refine (spoken_any _ mx HMX.out).use ?_; intro w1 g1
    go_wp2_with fail
    refine (langCanon_no s _ (by omega) HB.out).use ?_
    rintro v w2 ⟨e, c, p, rfl, b, rfl, -, -, -⟩ g2
    go_wp2_with fail
    refine (right_no s _ (by omega) HB.out).use ?_
    rintro v w3 ⟨b', rfl⟩ g3
    go_wp2_with fail
    go_ret
    exact ⟨rfl, (by repeat (first | exact G.refl _ | assumption | apply G.drew | apply G.alloc | refine G.trans ?_ (by assumption)))⟩
  | true =>
    have hcl := canonL_length s
    have hlc := lower_canon s
    have bU : Hid (langB (upperL s) = true) := hid (by rw [langB_of_lower (lower_upper s)]; exact hb)
    have bL : Hid (langB (lowerL s) = true) := hid (by rw [langB_of_lower (lower_lower s)]; exact hb)
    have bC : Hid (langB (canonL s) = true) := hid (by rw [langB_of_lower hlc]; exact hb)
    obtain ⟨a, ha⟩ : ∃ a, canonL s = a := ⟨_, rfl⟩
    have cU : Hid (canonL (upperL s) = a) := hid (by rw [canon_of_lower (lower_upper s), ha])
    have cL : Hid (canonL (lowerL s) = a) := hid (by rw [canon_of_lower (lower_lower s), ha])
    rw [ha] at hcl hlc bC
    have cC : Hid (canonL a = a) := hid (by rw [canon_of_lower hlc, ha])
    have hsame : Hid (sameL a s = true) := hid (by rw [same_iff_lower, hlc]; simp)
    have HA := hid ha
    have HB := hid hb
    have hal : a.length ≤ 200 := by omega
    clear ha hb hcl hlc
    go_enter Tryd.func10, Tryd.ntmps10
    go_wp2_with fail
    refine (spoken_any _ mx HMX.out).use ?_; intro w1 g1
    go_wp2_with fail
    refine (canon_yes_to s a mx _ (by omega) HB.out (MX.out _ g1) HA.out).use ?_; intro w2 g2
    have G2 : Hid (G w w2) := hid (g1.trans g2)
    clear g1 g2
    go_wp2_with fail
    refine (upper_any s _ (by omega)).use ?_; intro w3 g3
    have G3 : Hid (G w w3) := hid (G2.out.trans g3)
    clear g3
    go_wp2_with fail
    refine (canon_yes_to (upperL s) a mx _ (by simp; omega) bU.out (MX.out _ G3.out) cU.out).use ?_; intro w4 g4
    have G4 : Hid (G w w4) := hid (G3.out.trans g4)
    clear g4
    go_wp2_with fail
    refine (lower_any s _ (by omega)).use ?_; intro w5 g5
    have G5 : Hid (G w w5) := hid (G4.out.trans g5)
    clear g5
    go_wp2_with fail
    refine (canon_yes_to (lowerL s) a mx _ (by simp; omega) bL.out (MX.out _ G5.out) cL.out).use ?_; intro w6 g6
    have G6 : Hid (G w w6) := hid (G5.out.trans g6)
    clear g6
    go_wp2_with fail
    refine (canon_yes_to a a mx _ (by omega) bC.out (MX.out _ G6.out) cC.out).use ?_; intro w7 g7
    have G7 : Hid (G w w7) := hid (G6.out.trans g7)
    clear g7
    go_wp2_with fail
    refine (same_any a s _ (by omega) (by omega)).use ?_; intro w8 g8
    rw [hsame.out]
    have G8 : Hid (G w w8) := hid (G7.out.trans g8)
    clear g8
    go_wp2_with fail
    refine (right_yes a _ (by omega) bC.out).use ?_; intro w9 g9
    go_wp2_with fail
    go_ret
    exact ⟨ret_bool (by simp), G8.out.trans g9⟩

/-! ## one piece more -/
theorem scan_more (s more : List UInt8) : ∀ f cur, scanL f cur (s ++ 45 :: more) = (scanL f cur s && scanL false 0 more) := by
  induction s with
  | nil => intro f cur; show scanL f cur (45 :: more) = _; unfold scanL; rw [if_pos rfl]; cases more <;> rfl
  | cons c t ih =>
    intro f cur
    rw [List.cons_append, scanL, scanL]
    by_cases h : c = 45
    · rw [if_pos h, if_pos h, ih, Bool.and_assoc]
    · rw [if_neg h, if_neg h, ih, Bool.and_assoc]
theorem scan_last (more : List UInt8) (h : (45 : UInt8) ∉ more) : ∀ cur, scanL false cur more = (more.all (fun c => letterB c.toNat) && decide (1 ≤ cur + more.length ∧ cur + more.length ≤ 8)) := by
  induction more with
  | nil => intro cur; simp [scanL]
  | cons c t ih =>
    intro cur
    have hc : c ≠ 45 := fun e => h (e ▸ List.mem_cons_self)
    rw [scanL, if_neg hc, ih fun m => h (List.mem_cons_of_mem _ m)]
    have e : cur + 1 + t.length = cur + (c :: t).length := by simp; omega
    rw [e]
    simp [pieceB, Bool.and_assoc]
theorem lang_more (s more : List UInt8) (hs : langB s = true) (h : (45 : UInt8) ∉ more) : langB (s ++ 45 :: more) = (isNameL more && (!more.isEmpty && decide ((more.length : Int) ≤ 8))) := by
  unfold langB at *
  rw [scan_more, hs, Bool.true_and, scan_last more h, Nat.zero_add]
  unfold isNameL
  cases more with
  | nil => simp
  | cons c t =>
    by_cases h8 : t.length + 1 ≤ 8
    · have h1 : (t.length : Int) + 1 ≤ 8 := by omega
      have h2 : (t.length : Int) + 1 ≤ 40 := by omega
      simp [h8, h1, h2]
    · have h1 : ¬ (t.length : Int) + 1 ≤ 8 := by omega
      simp [h8, h1]
theorem cuts_more (s more : List UInt8) (h : (45 : UInt8) ∉ more) : cutsL (s ++ 45 :: more) = ((cutsL s).1, (cutsL s).2 ++ [more]) := by
  have hm : cutsL more = (more, []) := by
    induction more with
    | nil => rfl
    | cons c t ih =>
      have hc : c ≠ 45 := fun e => h (e ▸ List.mem_cons_self)
      rw [cutsL, if_neg hc, ih fun m => h (List.mem_cons_of_mem _ m)]
  induction s with
  | nil =>
    show cutsL (45 :: more) = _
    unfold cutsL
    rw [if_pos rfl, hm]; rfl
  | cons c t ih =>
    rw [List.cons_append, cutsL, cutsL, ih]
    split <;> rfl
theorem joinS_snoc (sep p q : List UInt8) (ps : List (List UInt8)) : joinS sep p (ps ++ [q]) = joinS sep p ps ++ (sep ++ q) := by
  induction ps generalizing p with
  | nil => rfl
  | cons r ps ih =>
    show p ++ (sep ++ joinS sep r (ps ++ [q])) = p ++ (sep ++ joinS sep r ps) ++ (sep ++ q)
    rw [ih]; simp
theorem canon_more (s more : List UInt8) (h : (45 : UInt8) ∉ more) : canonL (s ++ 45 :: more) = (canonL s ++ [45]) ++ canonPiece (lowerL more) := by
  have hl : lowerL (s ++ 45 :: more) = lowerL s ++ 45 :: lowerL more := by rw [lowerL_append]; rfl
  have hm : (45 : UInt8) ∉ lowerL more := by
    intro hm
    obtain ⟨c, hc, e⟩ := List.mem_map.1 hm
    exact h (((lower_byte true c).1.1 e) ▸ hc)
  unfold canonL
  rw [hl, cuts_more _ _ hm, List.map_append]
  show joinS [45] _ (_ ++ [canonPiece (lowerL more)]) = _
  rw [joinS_snoc, List.append_assoc]

set_option maxRecDepth 100000 in
set_option maxHeartbeats 4000000 in
theorem langJoins_walk (s more : List UInt8) (w : World) (hsh : w.ShapedOpen Tryd.prog) (zs : s.length ≤ 140737488351232) (zm : more.length ≤ 140737488351232) : Gives 11 #[.string (S s), .string (S more)] w (.bool true) := by
  obtain ⟨mx, hmx⟩ : ∃ m, w.cell? ⟨1, 0, none⟩ = some (.int .i64 m) := Tryd.laysM146.s1_3 w hsh
  have hml : 1 < w.heap.size := World.block_lt_of_cell? w _ hmx
  have HMX := hid hmx
  clear hmx hsh
  have MX : Hid (∀ w', G w w' → w'.cell? ⟨1, 0, none⟩ = some (.int .i64 mx)) := hid (fun w' g => by rw [g.cell hml]; exact HMX.out)
  by_cases hlen : 200 < s.length + more.length
  · go_enter Tryd.func11, Tryd.ntmps11
    go_wp2_with fail
    refine (spoken_any _ mx HMX.out).use ?_; intro w1 g1
    go_wp2_with fail
    refine (lettered_any _).use ?_; intro w2 g2
    go_wp2_with fail
    go_ret
    exact ⟨rfl, (by repeat (first | exact G.refl _ | assumption | apply G.drew | apply G.alloc | refine G.trans ?_ (by assumption)))⟩
  cases hb : langB s with
  | false =>
    have HB := hid hb
    clear hb
    go_enter Tryd.func11, Tryd.ntmps11
    go_wp2_with fail
    refine (spoken_any _ mx HMX.out).use ?_; intro w1 g1
    go_wp2_with fail
    refine (lettered_any _).use ?_; intro w2 g2
    go_wp2_with fail
    refine (right_no s _ (by omega) HB.out).use ?_
    rintro v w3 ⟨b', rfl⟩ g3
    go_wp2_with fail
    go_ret
    exact ⟨rfl, (by repeat (first | exact G.refl _ | assumption | apply G.drew | apply G.alloc | refine G.trans ?_ (by assumption)))⟩
  | true =>
    have HB := hid hb
    by_cases h45 : (45 : UInt8) ∈ more
    · have hix : 0 ≤ Lib.indexByte more 45 := by
        obtain ⟨a, r, hs, ha⟩ := (first_split more 45).resolve_left (fun h => h h45)
        rw [hs, indexByte_some a r 45 ha]; omega
      obtain ⟨k, hk⟩ : ∃ k, Lib.indexByte more 45 = k := ⟨_, rfl⟩
      have IX : Hid (∀ w, Pure 40 #[.string (S more), .int .u8 45] w (.int .i64 k)) := hid (fun w => by have := indexByte_any more 45 w; rw [hk] at this; exact this)
      rw [hk] at hix
      clear hk h45 hb
      go_enter Tryd.func11, Tryd.ntmps11
      go_wp2_with fail
      refine (spoken_any _ mx HMX.out).use ?_; intro w1 g1
      go_wp2_with fail
      refine (lettered_any _).use ?_; intro w2 g2
      go_wp2_with fail
      refine (right_yes s _ (by omega) HB.out).use ?_; intro w3 g3
      go_wp2_with fail
      refine (IX.out _).use ?_
      go_wp2_with fail
      go_ret
      exact ⟨rfl, (by repeat (first | exact G.refl _ | assumption | apply G.drew | apply G.alloc | refine G.trans ?_ (by assumption)))⟩
    · have IX : Hid (∀ w, Pure 40 #[.string (S more), .int .u8 45] w (.int .i64 (-1))) := hid (fun w => by have := indexByte_any more 45 w; rw [indexByte_none more 45 h45] at this; exact this)
      have hmore := lang_more s more hb h45
      have hcm := canon_more s more h45
      have hcl := canonL_length s
      obtain ⟨a, ha⟩ : ∃ a, canonL s = a := ⟨_, rfl⟩
      rw [ha] at hcm hcl
      have HA := hid ha
      have HCM := hid hcm
      have hal : a.length ≤ 200 := by omega
      have hap : Hid (hasP (a ++ [45] ++ canonPiece (lowerL more)) (a ++ [45]) = true) := hid (hasP_append _ _)
      have HMORE := hid hmore
      have hml2 : s.length + more.length ≤ 200 := by omega
      clear hcm hcl ha hb hmore hlen
      rcases more with _ | ⟨c, t⟩
      · have hno : Hid (langB (s ++ [45]) = false) := hid (by have := HMORE.out; simpa using this)
        go_enter Tryd.func11, Tryd.ntmps11
        go_wp2_with fail
        refine (spoken_any _ mx HMX.out).use ?_; intro w1 g1
        go_wp2_with fail
        refine (lettered_any _).use ?_; intro w2 g2
        go_wp2_with fail
        refine (right_yes s _ (by omega) HB.out).use ?_; intro w3 g3
        go_wp2_with fail
        refine (IX.out _).use ?_
        go_wp2_with fail
        refine (canon_yes_to s a mx _ (by omega) HB.out (MX.out _ ((g1.trans g2).trans g3)) HA.out).use ?_; intro w4 g4
        go_wp2_with fail
        refine (langCanon_no (s ++ [45]) _ (by simp; omega) hno.out).use ?_
        rintro v w5 ⟨e, c, p, rfl, b, rfl, -, -, -⟩ g5
        go_wp2_with fail
        go_ret
        exact ⟨rfl, (by repeat (first | exact G.refl _ | assumption | apply G.drew | apply G.alloc | refine G.trans ?_ (by assumption)))⟩
      · have hml3 : s.length + (t.length + 1) ≤ 200 := by simpa using hml2
        have hl8 : t.length + 1 ≤ 200 := by omega
        by_cases h8 : t.length + 1 ≤ 8
        · obtain ⟨n, hn⟩ : ∃ n, isNameL (c :: t) = n := ⟨_, rfl⟩
          have IS : Hid (∀ w, Pure 41 #[.string (S (c :: t))] w (.bool n)) := hid (fun w => by have := is_any (c :: t) w (by simp; omega); rw [hn] at this; exact this)
          have hB : langB (s ++ 45 :: c :: t) = n := by
            rw [HMORE.out, hn]
            have : (t.length : Int) + 1 ≤ 8 := by omega
            simp [this]
          cases n with
          | false =>
            have HBB := hid hB
            clear hB hn
            go_enter Tryd.func11, Tryd.ntmps11
            go_wp2_with fail
            refine (spoken_any _ mx HMX.out).use ?_; intro w1 g1
            go_wp2_with fail
            refine (lettered_any _).use ?_; intro w2 g2
            go_wp2_with fail
            refine (right_yes s _ (by omega) HB.out).use ?_; intro w3 g3
            go_wp2_with fail
            refine (IX.out _).use ?_
            go_wp2_with fail
            refine (IS.out _).use ?_
            go_wp2_with fail
            refine (canon_yes_to s a mx _ (by omega) HB.out (MX.out _ ((g1.trans g2).trans g3)) HA.out).use ?_; intro w4 g4
            go_wp2_with fail
            refine (langCanon_no (s ++ 45 :: c :: t) _ (by simp; omega) HBB.out).use ?_
            rintro v w5 ⟨e, c, p, rfl, b, rfl, -, -, -⟩ g5
            go_wp2_with fail
            go_ret
            exact ⟨rfl, (by repeat (first | exact G.refl _ | assumption | apply G.drew | apply G.alloc | refine G.trans ?_ (by assumption)))⟩
          | true =>
            have HBB := hid hB
            have hbl : (a ++ [45] ++ canonPiece (lowerL (c :: t))).length ≤ 1000 := by
              have := canon_le (lowerL (c :: t))
              simp at this
              simp; omega
            obtain ⟨B, hBe⟩ : ∃ B, a ++ [45] ++ canonPiece (lowerL (c :: t)) = B := ⟨_, rfl⟩
            rw [hBe] at hap hbl HCM
            clear hB hn hBe
            go_enter Tryd.func11, Tryd.ntmps11
            go_wp2_with fail
            refine (spoken_any _ mx HMX.out).use ?_; intro w1 g1
            go_wp2_with fail
            refine (lettered_any _).use ?_; intro w2 g2
            go_wp2_with fail
            refine (right_yes s _ (by omega) HB.out).use ?_; intro w3 g3
            go_wp2_with fail
            refine (IX.out _).use ?_
            go_wp2_with fail
            refine (IS.out _).use ?_
            go_wp2_with fail
            refine (canon_yes_to s a mx _ (by omega) HB.out (MX.out _ ((g1.trans g2).trans g3)) HA.out).use ?_; intro w4 g4
            go_wp2_with fail
            refine (canon_yes_to (s ++ 45 :: c :: t) B mx _ (by simp; omega) HBB.out (MX.out _ (((g1.trans g2).trans g3).trans g4)) HCM.out).use ?_; intro w5 g5
            go_wp2_with fail
            refine (hasPrefix_any B (a ++ [45]) _).use ?_
            rw [hap.out]
            go_wp2_with fail
            go_ret
            exact ⟨rfl, (by repeat (first | exact G.refl _ | assumption | apply G.drew | apply G.alloc | refine G.trans ?_ (by assumption)))⟩
        · have hB : langB (s ++ 45 :: c :: t) = false := by
            rw [HMORE.out]
            have : ¬ (t.length : Int) + 1 ≤ 8 := by omega
            simp [this]
          have HBB := hid hB
          clear hB
          go_enter Tryd.func11, Tryd.ntmps11
          go_wp2_with fail
          refine (spoken_any _ mx HMX.out).use ?_; intro w1 g1
          go_wp2_with fail
          refine (lettered_any _).use ?_; intro w2 g2
          go_wp2_with fail
          refine (right_yes s _ (by omega) HB.out).use ?_; intro w3 g3
          go_wp2_with fail
          refine (IX.out _).use ?_
          go_wp2_with fail
          refine (canon_yes_to s a mx _ (by omega) HB.out (MX.out _ ((g1.trans g2).trans g3)) HA.out).use ?_; intro w4 g4
          go_wp2_with fail
          refine (langCanon_no (s ++ 45 :: c :: t) _ (by simp; omega) HBB.out).use ?_
          rintro v w5 ⟨e, c, p, rfl, b, rfl, -, -, -⟩ g5
          go_wp2_with fail
          go_ret
          exact ⟨rfl, (by repeat (first | exact G.refl _ | assumption | apply G.drew | apply G.alloc | refine G.trans ?_ (by assumption)))⟩

end Go.Proofs.YtnllmdognnfnhaaDoor
