/- AglParts: the plain law; closer bounds on a name's values. -/
import Derived.Test.YtgdlmgdcoedfoaaGreatDoorLook3
import Derived.Test.YtgdlmgdcoedfoaaGreatDoorTold
namespace Go.Proofs.YtgdlmgdcoedfoaaGreatDoor.Agl
open Go.RowKit Go.Proofs.YtgdlmgdcoedfoaaGreatDoorW.PrintWords Go.Proofs.YtgdlmgdcoedfoaaGreatDoorW.PrintLast Go.Proofs.YtgdlmgdcoedfoaaGreatDoorW.PrintMore
set_option linter.unusedVariables false
set_option linter.unusedSimpArgs false

theorem any_off (chars : List UInt8) : ∀ l : List UInt8, ¬ (0 ≤ Lib.indexAny l chars) → ∀ b ∈ l, chars.contains b = false
  | [], _ => by simp
  | c :: l, h => by
    unfold Lib.indexAny at h
    intro b hb
    by_cases hc : chars.contains c = true
    · rw [if_pos hc] at h; omega
    · have hc2 : chars.contains c = false := by simpa using hc
      rw [if_neg hc] at h
      rcases List.mem_cons.1 hb with rfl | hb
      · exact hc2
      · refine any_off chars l (fun h2 => h ?_) b hb
        have hm : ¬ (Lib.indexAny l chars == -1) = true := by
          rw [beq_iff_eq]; omega
        first | (rw [if_neg hm]; omega) | (simp only []; split <;> omega)
theorem lookup_mem (n : List UInt8) : ∀ (fs : List (List UInt8)) (f : List UInt8), lookup n fs = some f → f ∈ fs ∧ n = eqName f
  | [], f, h => by simp [lookup] at h
  | g :: fs, f, h => by
    unfold lookup at h
    split at h
    · rename_i hn
      obtain rfl := Option.some.inj h
      exact ⟨List.mem_cons_self .., hn⟩
    · obtain ⟨h1, h2⟩ := lookup_mem n fs f h
      exact ⟨List.mem_cons_of_mem _ h1, h2⟩
theorem uniL_field (n : List UInt8) (u : List Int) (h : uniL n = some u) : ∃ f ∈ fieldsL, n = eqName f ∧ u = fvals f := by
  have h0 : n ≠ [] := by
    intro h0; unfold uniL at h; rw [if_pos (.inl h0)] at h; cases h
  have hc : Lib.containsAny n [32, 61] = false := by
    cases hc : Lib.containsAny n [32, 61] with
    | false => rfl
    | true => unfold uniL at h; rw [if_pos (.inr hc)] at h; cases h
  have ho := any_off [32, 61] n (by unfold Lib.containsAny at hc; exact of_decide_eq_false hc)
  have h1 : ∀ b ∈ n, b ≠ 61 := fun b hb e => by have := ho b hb; rw [e] at this; revert this; decide
  have h2 : ∀ b ∈ n, b ≠ 32 := fun b hb e => by have := ho b hb; rw [e] at this; revert this; decide
  rw [uniL_look n h0 h1 h2] at h
  obtain ⟨f, hf, rfl⟩ := Option.map_eq_some_iff.1 h
  obtain ⟨hm, hn⟩ := lookup_mem n _ f hf
  exact ⟨f, hm, hn, rfl⟩
theorem fvals_len (f : List UInt8) (hf : f ∈ fieldsL) : (fvals f).length ≤ 101 := by
  have h1 := List.all_eq_true.1 fields_ok f hf
  rw [Bool.and_eq_true, decide_eq_true_eq] at h1
  unfold fvals valuesL
  rw [List.length_map]
  refine Nat.le_trans (pieces_len _ _) ?_
  have h2 := cut_len f [61]
  have h3 : (asB (eqVal f)).size = (eqVal f).length := asB_size _
  have h4 : (eqVal f).length ≤ f.length := h2
  omega
theorem partR_len2 (s : ByteArray) (hs : s.size ≤ 1000) : (partR s).length ≤ 250 := by
  unfold partR
  cases hu : uniL s.data.toList with
  | some u =>
    show u.length ≤ _
    obtain ⟨f, hf, _, rfl⟩ := uniL_field _ u hu
    have := fvals_len f hf
    omega
  | none =>
    show ((foursR s).getD _).length ≤ _
    cases hf : foursR s with
    | some u =>
      show u.length ≤ _
      unfold foursR at hf
      have hts : (tailUni s).size ≤ s.size := by
        unfold tailUni
        rw [← data_length, ← data_length]
        unfold Lib.trimPrefix
        split <;> simp
      split at hf
      · rw [foursL_len _ _ _ hf]; omega
      · cases hf
    | none =>
      show (if oneB s = true then [hexv (bytesOf (tailU s))] else []).length ≤ _
      split <;> simp
theorem uniAll_len2 (n : List UInt8) (hn : n.length ≤ 1000) : (uniAll n).length ≤ 250250 := by
  obtain ⟨h1, h2⟩ := partsB_len n
  unfold uniAll
  have : ∀ l : List ByteArray, (∀ p ∈ l, p.size ≤ 1000) → (l.flatMap partR).length ≤ l.length * 250 := by
    intro l
    induction l with
    | nil => intro _; simp
    | cons p l ih =>
      intro h
      rw [List.flatMap_cons, List.length_append, List.length_cons]
      have h1 := partR_len2 p (h p (List.mem_cons_self ..))
      have h2 := ih (fun q hq => h q (List.mem_cons_of_mem _ hq))
      omega
  have h3 := this _ (fun p hp => by have := (h2 p hp).1; omega)
  omega
theorem base_point (a r : List UInt8) : baseL (a ++ 46 :: r) = baseL a := by
  unfold baseL
  induction a with
  | nil => rfl
  | cons c a ih =>
    rw [List.cons_append, List.takeWhile_cons, List.takeWhile_cons]
    split
    · rw [ih]
    · rfl
theorem uni_point (a r : List UInt8) : uniAll (a ++ 46 :: r) = uniAll a := by
  unfold uniAll partsB partsL
  rw [base_point]
theorem takeWhile_app {α : Type} (p : α → Bool) : ∀ (l m : List α), l.takeWhile p = l → (l ++ m).takeWhile p = l ++ m.takeWhile p
  | [], m, _ => rfl
  | c :: l, m, h => by
    rw [List.takeWhile_cons] at h
    rw [List.cons_append, List.takeWhile_cons]
    split at h
    · rename_i hp
      rw [if_pos hp, takeWhile_app p l m (List.cons.inj h).2]; rfl
    · cases h
theorem base_both (a b : List UInt8) (ha : baseL a = a) : baseL (a ++ 95 :: b) = a ++ 95 :: baseL b := by
  unfold baseL at ha ⊢
  rw [takeWhile_app _ a _ ha]
  rfl
theorem spl_both : ∀ a b : List UInt8, spl (a ++ 95 :: b) = spl a ++ spl b
  | [], b => by simp [spl]
  | c :: a, b => by
    have ih := spl_both a b
    rw [List.cons_append]
    by_cases hc : c = 95
    · subst hc
      simp [spl, ih]
    · have hp := spl_pos a
      rw [spl, if_neg hc, ih, spl, if_neg hc]
      cases hs : spl a with
      | nil => exact absurd hs hp
      | cons x y => rfl
theorem parts_both (a b : List UInt8) (ha : baseL a = a) (h0 : a ≠ []) (hb : baseL b ≠ []) : partsB (a ++ 95 :: b) = partsB a ++ partsB b := by
  unfold partsB partsL
  rw [base_both a b ha, ha, if_neg h0, if_neg hb, if_neg (by simp), spl_both, List.map_append]
theorem uni_both (a b : List UInt8) (ha : baseL a = a) (h0 : a ≠ []) (hb : baseL b ≠ []) : uniAll (a ++ 95 :: b) = uniAll a ++ uniAll b := by
  unfold uniAll
  rw [parts_both a b ha h0 hb, List.flatMap_append]
theorem told_all (s : ByteArray) (hs : s.size ≤ 100000) : ∀ p ∈ partsB s.data.toList, Told p := fun p hp => by
  have h := ((partsB_len s.data.toList).2 p hp).1
  rw [data_length] at h
  exact told p (by omega)
end Go.Proofs.YtgdlmgdcoedfoaaGreatDoor.Agl
