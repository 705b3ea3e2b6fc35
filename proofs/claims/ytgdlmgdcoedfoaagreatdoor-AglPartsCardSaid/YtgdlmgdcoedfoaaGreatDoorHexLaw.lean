/- AglHex: the plain law. -/
import Derived.Test.YtgdlmgdcoedfoaaGreatDoorSame
namespace Go.Proofs.YtgdlmgdcoedfoaaGreatDoor.Agl
open Go.RowKit Go.Proofs.YtgdlmgdcoedfoaaGreatDoorW.PrintWords Go.Proofs.YtgdlmgdcoedfoaaGreatDoorW.PrintLast Go.Proofs.YtgdlmgdcoedfoaaGreatDoorW.PrintMore
set_option linter.unusedVariables false
set_option linter.unusedSimpArgs false

/-- No name of the list begins so. -/
def badAt : List UInt8 → Bool
  | 117 :: 110 :: 105 :: d :: _ => hexCs.contains d
  | 117 :: d :: _ => hexCs.contains d
  | _ => false
def noU : List UInt8 → Bool
  | [] => true
  | c :: l => (c != 32 || !badAt l) && noU l
theorem list_noU : noU listL = true := by decide +kernel
theorem noU_at : ∀ (l : List UInt8) (p : Nat) (r : List UInt8), noU l = true → l.drop p = 32 :: r → badAt r = false
  | [], p, r, _, h => by simp at h
  | c :: l, 0, r, h, hd => by
    simp only [List.drop_zero, List.cons.injEq] at hd
    obtain ⟨rfl, rfl⟩ := hd
    unfold noU at h
    simpa using (Bool.and_eq_true_iff.1 h).1
  | c :: l, p + 1, r, h, hd => by
    unfold noU at h
    exact noU_at l p r (Bool.and_eq_true_iff.1 h).2 (by simpa using hd)
theorem uniL_none (n : List UInt8) (h : ∀ t, badAt (n ++ 61 :: t) = true) : uniL n = none := by
  unfold uniL
  split
  · rfl
  · split
    · rename_i hc
      exfalso
      unfold Lib.cut at hc
      by_cases hi : 0 ≤ Lib.index listL (32 :: (n ++ [61]))
      · obtain ⟨t, ht⟩ := List.isPrefixOf_iff_prefix.1 (index_occ _ _ hi)
        have this : badAt ((n ++ [61]) ++ t) = false := noU_at listL _ _ list_noU ht.symm
        rw [List.append_assoc] at this
        rw [show ([61] : List UInt8) ++ t = 61 :: t from rfl, h t] at this
        cases this
      · rw [if_neg hi] at hc; cases hc
    · rfl
def hx (n : Nat) : UInt8 := if n < 10 then UInt8.ofNat (48 + n) else UInt8.ofNat (55 + n)
theorem hx_hex : ∀ n : Fin 16, hexCs.contains (hx n.val) = true ∧ dig ((hx n.val).toNat : Int) = n.val ∧ hx n.val ≠ 46 ∧ hx n.val ≠ 95 ∧ hx n.val ≠ 110 := by decide
theorem hx_ok {n : Nat} (h : n < 16) : hexCs.contains (hx n) = true ∧ dig ((hx n).toNat : Int) = n ∧ hx n ≠ 46 ∧ hx n ≠ 95 ∧ hx n ≠ 110 := hx_hex ⟨n, h⟩
def h4 (a b c d : Nat) : List UInt8 := [hx a, hx b, hx c, hx d]
theorem h4_all {a b c d : Nat} (ha : a < 16) (hb : b < 16) (hc : c < 16) (hd : d < 16) : hexAll (h4 a b c d) = true := by
  unfold hexAll h4
  simp only [List.all_cons, List.all_nil, (hx_ok ha).1, (hx_ok hb).1, (hx_ok hc).1, (hx_ok hd).1]; rfl
theorem h4_val {a b c d : Nat} (ha : a < 16) (hb : b < 16) (hc : c < 16) (hd : d < 16) : hexv (bytesOf (asB (h4 a b c d))) = (((a * 16 + b) * 16 + c) * 16 + d : Nat) := by
  have e : bytesOf (asB (h4 a b c d)) = [((hx a).toNat : Int), ((hx b).toNat : Int), ((hx c).toNat : Int), ((hx d).toNat : Int)] := rfl
  rw [e]
  unfold hexv
  simp only [List.foldl_cons, List.foldl_nil, (hx_ok ha).2.1, (hx_ok hb).2.1, (hx_ok hc).2.1, (hx_ok hd).2.1]
  push_cast; omega
theorem asB_list (l : List UInt8) : (asB l).data.toList = l := rfl
theorem asB_size (l : List UInt8) : (asB l).size = l.length := by rw [← data_length]; rfl
theorem h4_num {a b c d : Nat} (ha : a < 16) (hb : b < 16) (hc : c < 16) (hd : d < 16) : numB (asB (h4 a b c d)) = goodB ((((a * 16 + b) * 16 + c) * 16 + d : Nat) : Int) := by
  unfold numB
  rw [h4_val ha hb hc hd, asB_list, h4_all ha hb hc hd, Bool.true_and]
def want (r : Nat) : List Int := if goodB (r : Int) = true then [(r : Int)] else []
theorem one_bad (l : List UInt8) (h : hexAll (110 :: l) = true) : False := by
  unfold hexAll at h
  simp only [List.all_cons, Bool.and_eq_true] at h
  exact absurd h.1 (by decide)
theorem oneB_n (l : List UInt8) : oneB (asB (117 :: 110 :: l)) = false := by
  have e : tailU (asB (117 :: 110 :: l)) = asB (110 :: l) := rfl
  unfold oneB
  rw [e]
  have : numB (asB (110 :: l)) = false := by
    unfold numB
    rw [asB_list]
    cases h : hexAll (110 :: l) with
    | true => exact (one_bad l h).elim
    | false => rfl
  rw [this]
  simp
theorem uniL_u (n : Nat) (h : n < 16) (l : List UInt8) (hl : l ≠ []) : uniL (117 :: hx n :: l) = none := by
  refine uniL_none _ (fun t => ?_)
  obtain ⟨h1, _, _, _, h5⟩ := hx_ok h
  obtain ⟨e, l', rfl⟩ : ∃ e l', l = e :: l' := by
    cases l with
    | nil => exact absurd rfl hl
    | cons e l' => exact ⟨e, l', rfl⟩
  show badAt (117 :: hx n :: e :: (l' ++ 61 :: t)) = true
  unfold badAt
  split
  · rename_i heq
    simp only [List.cons.injEq] at heq
    exact absurd heq.2.1 h5
  · rename_i heq
    simp only [List.cons.injEq] at heq
    rw [← heq.2.1]; exact h1
  · rename_i h6 h7
    exact absurd rfl (h7 _ _)
theorem uniL_uni (n : Nat) (h : n < 16) (l : List UInt8) : uniL (117 :: 110 :: 105 :: hx n :: l) = none := by
  refine uniL_none _ (fun t => ?_)
  show badAt (117 :: 110 :: 105 :: hx n :: (l ++ 61 :: t)) = true
  exact (hx_ok h).1
def val4 (a b c d : Nat) : Nat := ((a * 16 + b) * 16 + c) * 16 + d
theorem part_uni {a b c d : Nat} (ha : a < 16) (hb : b < 16) (hc : c < 16) (hd : d < 16) : partR (asB (117 :: 110 :: 105 :: h4 a b c d)) = want (val4 a b c d) := by
  unfold partR
  rw [asB_list, show (117 :: 110 :: 105 :: h4 a b c d) = 117 :: 110 :: 105 :: hx a :: [hx b, hx c, hx d] from rfl, uniL_uni a ha]
  have e : tailUni (asB (117 :: 110 :: 105 :: hx a :: [hx b, hx c, hx d])) = asB (h4 a b c d) := rfl
  have hf : foursR (asB (117 :: 110 :: 105 :: hx a :: [hx b, hx c, hx d])) = if numB (asB (h4 a b c d)) = true then some [hexv (bytesOf (asB (h4 a b c d)))] else none := by
    unfold foursR
    rw [e, asB_size, show (h4 a b c d).length = 4 from rfl, if_pos ⟨rfl, by decide, by decide⟩]
    show foursL 1 (h4 a b c d) = _
    unfold foursL
    show (if numB (asB (h4 a b c d)) = true then (foursL 0 []).map (hexv (bytesOf (asB (h4 a b c d))) :: ·) else none) = _
    rfl
  rw [hf, h4_num ha hb hc hd, h4_val ha hb hc hd, oneB_n]
  unfold want val4
  split <;> rfl
theorem part_u {a b c d : Nat} (ha : a < 16) (hb : b < 16) (hc : c < 16) (hd : d < 16) : partR (asB (117 :: h4 a b c d)) = want (val4 a b c d) := by
  unfold partR
  rw [asB_list, show (117 :: h4 a b c d) = 117 :: hx a :: [hx b, hx c, hx d] from rfl, uniL_u a ha _ (by simp)]
  have hp : Lib.hasPrefix (117 :: hx a :: [hx b, hx c, hx d]) [117, 110, 105] = false := by
    cases h : Lib.hasPrefix (117 :: hx a :: [hx b, hx c, hx d]) [117, 110, 105] with
    | false => rfl
    | true =>
      unfold Lib.hasPrefix at h
      simp [List.isPrefixOf] at h
      exact absurd h.1.symm (hx_ok ha).2.2.2.2
  have hf : foursR (asB (117 :: hx a :: [hx b, hx c, hx d])) = none := by
    unfold foursR
    rw [asB_list, hp, if_neg (fun h => by cases h.1)]
  have e : tailU (asB (117 :: hx a :: [hx b, hx c, hx d])) = asB (h4 a b c d) := rfl
  have ho : oneB (asB (117 :: hx a :: [hx b, hx c, hx d])) = numB (asB (h4 a b c d)) := by
    unfold oneB
    rw [e, asB_size]
    rfl
  rw [hf, ho, e, h4_num ha hb hc hd, h4_val ha hb hc hd]
  rfl
theorem part_uni3 {b c d : Nat} (hb : b < 16) : partR (asB (117 :: 110 :: 105 :: [hx b, hx c, hx d])) = [] := by
  unfold partR
  rw [asB_list, uniL_uni b hb]
  have hf : foursR (asB (117 :: 110 :: 105 :: [hx b, hx c, hx d])) = none := by
    unfold foursR
    have e : tailUni (asB (117 :: 110 :: 105 :: [hx b, hx c, hx d])) = asB [hx b, hx c, hx d] := rfl
    rw [e, asB_size, if_neg (fun h => absurd h.2.2 (by simp))]
  rw [hf, oneB_n]; rfl
theorem part_u3 {b c d : Nat} (hb : b < 16) : partR (asB (117 :: [hx b, hx c, hx d])) = [] := by
  unfold partR
  rw [asB_list, uniL_u b hb _ (by simp)]
  have hp : Lib.hasPrefix (117 :: [hx b, hx c, hx d]) [117, 110, 105] = false := by
    cases h : Lib.hasPrefix (117 :: [hx b, hx c, hx d]) [117, 110, 105] with
    | false => rfl
    | true =>
      unfold Lib.hasPrefix at h
      simp [List.isPrefixOf] at h
      exact absurd h.1.symm (hx_ok hb).2.2.2.2
  have hf : foursR (asB (117 :: [hx b, hx c, hx d])) = none := by
    unfold foursR
    rw [asB_list, hp, if_neg (fun h => by cases h.1)]
  have ho : oneB (asB (117 :: [hx b, hx c, hx d])) = false := by
    unfold oneB
    have e : tailU (asB (117 :: [hx b, hx c, hx d])) = asB [hx b, hx c, hx d] := rfl
    rw [e, asB_size]
    rfl
  rw [hf, ho]; rfl
theorem takeWhile_all {α : Type} (p : α → Bool) : ∀ l : List α, (∀ x ∈ l, p x = true) → l.takeWhile p = l
  | [], _ => rfl
  | x :: l, h => by rw [List.takeWhile_cons, if_pos (h x (List.mem_cons_self ..)), takeWhile_all p l (fun y hy => h y (List.mem_cons_of_mem _ hy))]
theorem spl_one : ∀ l : List UInt8, (∀ x ∈ l, x ≠ 95) → spl l = [l]
  | [], _ => rfl
  | x :: l, h => by
    unfold spl
    rw [if_neg (h x (List.mem_cons_self ..)), spl_one l (fun y hy => h y (List.mem_cons_of_mem _ hy))]
theorem uni_twice {a b c d : Nat} (ha : a < 16) (hb : b < 16) (hc : c < 16) (hd : d < 16) : uniAll (117 :: 110 :: 105 :: (h4 a b c d ++ h4 a b c d)) = want (val4 a b c d) ++ want (val4 a b c d) := by
  have A := hx_ok ha; have B := hx_ok hb; have C := hx_ok hc; have D := hx_ok hd
  have hb1 : baseL (117 :: 110 :: 105 :: (h4 a b c d ++ h4 a b c d)) = 117 :: 110 :: 105 :: (h4 a b c d ++ h4 a b c d) := by
    refine takeWhile_all _ _ (fun x hx => ?_)
    simp only [h4, List.cons_append, List.nil_append, List.mem_cons, List.not_mem_nil, or_false] at hx
    rw [bne_iff_ne]
    rcases hx with rfl | rfl | rfl | rfl | rfl | rfl | rfl | rfl | rfl | rfl | rfl
    · decide
    · decide
    · decide
    · exact A.2.2.1
    · exact B.2.2.1
    · exact C.2.2.1
    · exact D.2.2.1
    · exact A.2.2.1
    · exact B.2.2.1
    · exact C.2.2.1
    · exact D.2.2.1
  have hs : spl (117 :: 110 :: 105 :: (h4 a b c d ++ h4 a b c d)) = [117 :: 110 :: 105 :: (h4 a b c d ++ h4 a b c d)] := by
    refine spl_one _ (fun x hx => ?_)
    simp only [h4, List.cons_append, List.nil_append, List.mem_cons, List.not_mem_nil, or_false] at hx
    rcases hx with rfl | rfl | rfl | rfl | rfl | rfl | rfl | rfl | rfl | rfl | rfl
    · decide
    · decide
    · decide
    · exact A.2.2.2.1
    · exact B.2.2.2.1
    · exact C.2.2.2.1
    · exact D.2.2.2.1
    · exact A.2.2.2.1
    · exact B.2.2.2.1
    · exact C.2.2.2.1
    · exact D.2.2.2.1
  unfold uniAll partsB partsL
  rw [hb1, if_neg (by simp), hs]
  rw [List.map_cons, List.map_nil, List.flatMap_cons, List.flatMap_nil, List.append_nil]
  unfold partR
  rw [asB_list, show (117 :: 110 :: 105 :: (h4 a b c d ++ h4 a b c d)) = 117 :: 110 :: 105 :: hx a :: [hx b, hx c, hx d, hx a, hx b, hx c, hx d] from rfl, uniL_uni a ha]
  have e : tailUni (asB (117 :: 110 :: 105 :: hx a :: [hx b, hx c, hx d, hx a, hx b, hx c, hx d])) = asB (h4 a b c d ++ h4 a b c d) := rfl
  have hf : foursR (asB (117 :: 110 :: 105 :: hx a :: [hx b, hx c, hx d, hx a, hx b, hx c, hx d])) = if numB (asB (h4 a b c d)) = true then some [hexv (bytesOf (asB (h4 a b c d))), hexv (bytesOf (asB (h4 a b c d)))] else none := by
    unfold foursR
    rw [e, asB_size, show (h4 a b c d ++ h4 a b c d).length = 8 from rfl, if_pos ⟨rfl, by decide, by decide⟩]
    show foursL 2 (h4 a b c d ++ h4 a b c d) = _
    unfold foursL
    show (if numB (asB (h4 a b c d)) = true then (foursL 1 (h4 a b c d)).map (hexv (bytesOf (asB (h4 a b c d))) :: ·) else none) = _
    unfold foursL
    show (if numB (asB (h4 a b c d)) = true then (if numB (asB (h4 a b c d)) = true then (foursL 0 []).map (hexv (bytesOf (asB (h4 a b c d))) :: ·) else none).map (hexv (bytesOf (asB (h4 a b c d))) :: ·) else none) = _
    by_cases hn : numB (asB (h4 a b c d)) = true
    · simp only [if_pos hn]; rfl
    · simp only [if_neg hn]
  rw [hf, h4_num ha hb hc hd, h4_val ha hb hc hd, oneB_n]
  unfold want val4
  split <;> rfl
end Go.Proofs.YtgdlmgdcoedfoaaGreatDoor.Agl
