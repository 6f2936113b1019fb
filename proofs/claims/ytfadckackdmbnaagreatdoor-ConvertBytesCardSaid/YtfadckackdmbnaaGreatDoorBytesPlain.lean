/-
  What convert.Up makes of a picture that is told by letters. Plain.
-/
import Derived.Test.YtfadckackdmbnaaGreatDoorMB57
import Derived.Test.YtfadckackdmbnaaGreatDoorBytesMore
import Derived.Test.YtfadckackdmbnaaGreatDoorMB55
import Derived.Test.YtfadckackdmbnaaGreatDoorMA56
namespace Go.Proofs.YtfadckackdmbnaaGreatDoor
open Go.RowKit
set_option linter.unusedVariables false
set_option linter.unusedSimpArgs false
def nEnc : List UInt8 := [101, 110, 99, 111, 100, 105, 110, 103]
def kPs (k : List UInt8) : List Pm := if k = [] then [] else [(nTYPE, [k])]
def pIt (n k b : List UInt8) : It := ⟨[], n, (nEnc, [[66]]) :: kPs k, tV 8 (b64E b)⟩
def pKind (n k : List UInt8) : List UInt8 := if k = [] ∨ sameL k wPref = true then octets else kindM n ++ lowerL k
def pPs (k : List UInt8) : List Pm := if k ≠ [] ∧ sameL k wPref = true then [(nPREF, [[49]])] else []
def pY (n k b : List UInt8) : It := ⟨[], n, pPs k, tV 4 (dataU (pKind n k) b)⟩
def pMid (k : List UInt8) : List Pm := if k = [] then [(nEnc, [[66]])] else if sameL k wPref = true then [(nEnc, [[66]]), (nPREF, [[49]])] else [(nEnc, [[66]]), (nTYPE, [k])]
theorem s_encT : sameL nEnc nTYPE = false := by decide +kernel
theorem s_typeT : sameL nTYPE nTYPE = true := by decide +kernel
theorem p_mid (n k b : List UInt8) : prefersL (pIt n k b).ps = pMid k := by
  show prefersL ((nEnc, [[66]]) :: kPs k) = _
  unfold kPs pMid
  by_cases hk : k = []
  · rw [if_pos hk, if_pos hk]; decide +kernel
  · rw [if_neg hk, if_neg hk]
    have f1 : findL [(nEnc, [[66]])] nPREF = none := by decide +kernel
    have e1 : prefStep (nEnc, [[66]]) = [(nEnc, [[66]])] := by unfold prefStep; rw [if_neg (by rw [s_encT]; decide)]
    have o1 : prefOf (nEnc, [[66]]) = false := by unfold prefOf; rw [s_encT]; rfl
    cases hs : sameL k wPref with
    | true =>
      have e2 : prefStep (nTYPE, [k]) = [] := by
        unfold prefStep
        rw [if_pos s_typeT, if_pos (by show keptV [k] = []; unfold keptV; simp [hs])]
      have o2 : prefOf (nTYPE, [k]) = true := by unfold prefOf; rw [s_typeT]; simp [hs]
      have e3 : [(nEnc, [[66]]), (nTYPE, [k])].flatMap prefStep = [(nEnc, [[66]])] := by
        simp only [List.flatMap_cons, List.flatMap_nil, e1, e2]; rfl
      unfold prefersL
      rw [e3, f1, if_pos (by simp [o1, o2]), if_pos rfl]
      rfl
    | false =>
      have e2 : prefStep (nTYPE, [k]) = [(nTYPE, [k])] := by
        unfold prefStep
        have : keptV [k] = [k] := by unfold keptV; simp [hs]
        rw [if_pos s_typeT, if_neg (by show ¬ keptV [k] = []; rw [this]; simp)]
        show [(nTYPE, keptV [k])] = _
        rw [this]
      have o2 : prefOf (nTYPE, [k]) = false := by unfold prefOf; rw [s_typeT]; simp [hs]
      have e3 : [(nEnc, [[66]]), (nTYPE, [k])].flatMap prefStep = [(nEnc, [[66]]), (nTYPE, [k])] := by
        simp only [List.flatMap_cons, List.flatMap_nil, e1, e2]; rfl
      unfold prefersL
      rw [e3, if_neg (by simp [o1, o2]), if_neg (by decide)]
theorem find_cons (p : Pm) (ps : List Pm) (s : List UInt8) : findL (p :: ps) s = if sameL p.1 s = true then some 0 else (findL ps s).map (· + 1) := by
  unfold findL
  rw [List.findIdx?_cons]
theorem p_enc (k : List UInt8) : findL (pMid k) nENC = some 0 ∧ val0 (pMid k) 0 = [66] := by
  have h : ∃ r, pMid k = (nEnc, [[66]]) :: r := by unfold pMid; split; (· exact ⟨_, rfl⟩); split <;> exact ⟨_, rfl⟩
  obtain ⟨r, h⟩ := h
  rw [h]
  exact ⟨by rw [find_cons, if_pos (by show sameL nEnc nENC = true; decide +kernel)], rfl⟩
theorem p_media (n k : List UInt8) : mediaL n (pMid k) = pKind n k := by
  unfold pMid pKind
  by_cases hk : k = []
  · rw [if_pos hk, if_pos (.inl hk)]
    unfold mediaL
    rw [show findL [(nEnc, [[66]])] nTYPE = none by decide +kernel]
  · rw [if_neg hk]
    cases hs : sameL k wPref with
    | true =>
      rw [if_pos rfl, if_pos (.inr rfl)]
      unfold mediaL
      rw [show findL [(nEnc, [[66]]), (nPREF, [[49]])] nTYPE = none by decide +kernel]
    | false =>
      rw [if_neg (by decide), if_neg (by simp [hk])]
      unfold mediaL
      rw [find_cons, if_neg (by show ¬ sameL nEnc nTYPE = true; decide +kernel), find_cons, if_pos (by show sameL nTYPE nTYPE = true; decide +kernel)]
      rfl
theorem p_ps (k : List UInt8) : withoutL (withoutL (withoutL (pMid k) nENC) nTYPE) nVALUE = pPs k := by
  unfold pMid pPs
  by_cases hk : k = []
  · rw [if_pos hk, if_neg (by simp [hk])]; decide +kernel
  · rw [if_neg hk]
    cases hs : sameL k wPref with
    | true => rw [if_pos rfl, if_pos ⟨hk, rfl⟩]; decide +kernel
    | false =>
      rw [if_neg (by decide), if_neg (by simp)]
      have a1 : sameL nEnc nENC = true := by decide +kernel
      have a2 : sameL nTYPE nENC = false := by decide +kernel
      unfold withoutL
      simp [a1, a2, s_typeT]
theorem name_media {k : List UInt8} (n : List UInt8) (h : isNameL k = true) : mediaB (kindM n ++ lowerL k) = true := by
  unfold mediaB
  rw [List.all_append, Bool.and_eq_true]
  refine ⟨?_, ?_⟩
  · unfold kindM; split <;> (try split) <;> decide
  · rw [List.all_eq_true]
    intro c hc
    have := name_chars (n := lowerL k) ((isName_lower k).trans h) c hc
    unfold nameCh letterB at this
    rw [decide_eq_true_iff] at this
    unfold mediaP
    rw [decide_eq_true_iff]
    omega
theorem octets_media : mediaB octets = true := by decide +kernel
theorem p_one {n k b : List UInt8} (hn : PicN n) (hm : mediaB (pKind n k) = true) : oneX (pIt n k b) = (pY n k b, true) := by
  have hb : bigN (upperL n) = true := by rcases hn with rfl | rfl | rfl | rfl <;> decide +kernel
  have hu : upperL n = n := by rcases hn with rfl | rfl | rfl | rfl <;> decide +kernel
  rw [oneX_big (x := pIt n k b) hb, p_mid]
  unfold bigX
  show (match findL (pMid k) nENC with | none => _ | some i => _) = _
  rw [(p_enc k).1]
  simp only
  rw [(p_enc k).2, if_pos ⟨by decide +kernel, rfl⟩, if_neg (by show ¬ (b64E b).length % 4 ≠ 0; rw [b64E_length]; omega)]
  show (match b64D (b64E b) with | .error _ => _ | .ok bs => _) = _
  rw [b64_back]
  simp only
  rw [show upperL (pIt n k b).n = n from hu, p_media, hm, if_pos rfl, p_ps]
  rfl
theorem p_fit {n k b : List UInt8} (h : oneB 3 (pIt n k b) = true) : k = [] ∨ isNameL k = true := by
  by_cases hk : k = []
  · exact .inl hk
  · refine .inr ?_
    obtain ⟨_, _, hp, _⟩ := one_iff.1 h
    have e : (pIt n k b).ps = [(nEnc, [[66]]), (nTYPE, [k])] := by show (nEnc, [[66]]) :: kPs k = _; unfold kPs; rw [if_neg hk]
    rw [e] at hp
    unfold parsB at hp
    rw [List.all_eq_true] at hp
    have h1 := hp 1 (by simp)
    rw [beq_iff_eq, parE_lt (by simp)] at h1
    simp only [List.getElem_cons_succ, List.getElem_cons_zero] at h1
    have hf : fitsU (upperL nTYPE) [k] = true := by
      cases hf : fitsU (upperL nTYPE) [k] with
      | true => rfl
      | false => rw [hf, if_pos rfl] at h1; cases h1
    rw [show upperL nTYPE = nTYPE by decide +kernel] at hf
    unfold fitsU at hf
    rw [if_neg (by decide), if_neg (by decide), if_neg (by decide), if_pos (show nTYPE = [84, 89, 80, 69] from rfl)] at hf
    simpa using hf
theorem p_kind {n k b : List UInt8} (h : oneB 3 (pIt n k b) = true) : mediaB (pKind n k) = true := by
  unfold pKind
  by_cases hc : k = [] ∨ sameL k wPref = true
  · rw [if_pos hc]; exact octets_media
  · rw [if_neg hc]
    exact name_media n ((p_fit h).resolve_left fun e => hc (.inl e))
theorem p_right4 {n k b : List UInt8} (hn : PicN n) (hk : k.length ≤ 30) (hb : b.length ≤ 600) (hm : mediaB (pKind n k) = true) : rightC 4 (annXs ++ [pY n k b]) = true := by
  have hnl : n.length ≤ 5 := by rcases hn with rfl | rfl | rfl | rfl <;> decide
  have hkl : (kindM n).length ≤ 12 := by unfold kindM; split <;> (try split) <;> decide
  have hpl : (pKind n k).length ≤ 50 := by
    unfold pKind; split
    · decide
    · rw [List.length_append, lowerL_length]; omega
  have hdl : (dataU (pKind n k) b).length ≤ 1000 := by
    have e : (dataU (pKind n k) b).length = 5 + (pKind n k).length + 8 + (b64E b).length := by unfold dataU dataP; simp; omega
    rw [e, b64E_length]; omega
  have hu : uriB (dataU (pKind n k) b) = true := by
    have := (dataU_right (pKind n k) b hm).2
    unfold isRight at this
    rw [decide_eq_true_iff] at this
    obtain ⟨h1, h2, h3⟩ := this
    unfold uriB
    rw [badAt_none.2 h2]
    simp [h1, h3]
  have hps : ∃ ps, pPs k = ps ∧ (ps = [] ∨ ps = [(nPREF, [[49]])]) := by
    unfold pPs; split
    · exact ⟨_, rfl, .inr rfl⟩
    · exact ⟨_, rfl, .inl rfl⟩
  obtain ⟨ps, e, hps⟩ := hps
  have hY : pY n k b = ⟨[], n, ps, tV 4 (dataU (pKind n k) b)⟩ := by unfold pY; rw [e]
  rw [hY]
  refine ann_more (.inr rfl) ?_ ?_ ?_
  · rcases hps with rfl | rfl
    · refine one_bare ?_ ?_ ?_ (by rw [ok_uri]; exact hu) (fun q => by cases q.1) ?_
      · rcases hn with rfl | rfl | rfl | rfl <;> decide +kernel
      · rcases hn with rfl | rfl | rfl | rfl <;> decide +kernel
      · show (ruleX 4 n).1 = 4
        rcases hn with rfl | rfl | rfl | rfl <;> decide +kernel
      · show n.length + 1 + (dataU (pKind n k) b).length ≤ 1500
        omega
    · refine one_iff.2 ⟨?_, ?_, by show parsB [(nPREF, [[49]])] = true; decide +kernel, ?_, by show (tV 4 (dataU (pKind n k) b)).ok = true; rw [ok_uri]; exact hu, fun q => (by cases q.1), ?_⟩
      · show (isNameL n && _ && _ && _) = true
        rw [show isNameL n = true by rcases hn with rfl | rfl | rfl | rfl <;> decide +kernel]
        show (true && true && true && List.all [(nPREF, [[49]])] (pmR true)) = true
        decide +kernel
      · show framesB n = false
        rcases hn with rfl | rfl | rfl | rfl <;> decide +kernel
      · show typeOf (ruleX 4 n).1 [(nPREF, [[49]])] = 4
        rcases hn with rfl | rfl | rfl | rfl <;> decide +kernel
      · show (([] ++ n ++ [(nPREF, [[49]])].flatMap (pmW true)) ++ 58 :: dataU (pKind n k) b).length ≤ 1500
        have e2 : ([(nPREF, [[49]])].flatMap (pmW true)).length ≤ 20 := by decide +kernel
        simp only [List.length_append, List.length_cons, List.length_nil]
        omega
  · show mostN 4 [annFN.n, annN.n, n] = true
    rcases hn with rfl | rfl | rfl | rfl <;> decide +kernel
  · show leastN 4 [annFN.n, annN.n, n] = true
    rcases hn with rfl | rfl | rfl | rfl <;> decide +kernel
theorem p_up {n k b : List UInt8} (hn : PicN n) (hk : k.length ≤ 30) (hb : b.length ≤ 600) (h3 : rightC 3 (annXs ++ [pIt n k b]) = true) : upX (annXs ++ [pIt n k b]) = some (annXs ++ [pY n k b]) := by
  have h1 := (rightC_iff.1 h3).2.2.1 (pIt n k b) (by simp)
  have hm := p_kind h1
  refine ann_up h3 ?_ (p_one hn hm) (p_right4 hn hk hb hm)
  show sameL n nLABEL = false
  rcases hn with rfl | rfl | rfl | rfl <;> decide +kernel
end Go.Proofs.YtfadckackdmbnaaGreatDoor
