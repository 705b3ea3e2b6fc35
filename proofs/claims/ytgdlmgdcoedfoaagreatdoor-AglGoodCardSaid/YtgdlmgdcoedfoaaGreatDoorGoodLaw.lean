/- AglGood: the plain law. -/
import Derived.Test.YtgdlmgdcoedfoaaGreatDoorPartsLaw
import Derived.Lib.ValidU
import Derived.Lib.TrimUEq
namespace Go.Proofs.YtgdlmgdcoedfoaaGreatDoor.Agl
open Go.RowKit Go.Proofs.YtgdlmgdcoedfoaaGreatDoorW.PrintWords Go.Proofs.YtgdlmgdcoedfoaaGreatDoorW.PrintLast Go.Proofs.YtgdlmgdcoedfoaaGreatDoorW.PrintMore
set_option linter.unusedVariables false
set_option linter.unusedSimpArgs false

theorem byte_nat (z : Int) (h0 : 0 ≤ z) (h1 : z < 256) : (z.toNat.toUInt8).toNat = z.toNat := by
  rw [Nat.toUInt8, UInt8.toNat_ofNat']
  omega
/-- A scalar value's bytes are read as that value. -/
theorem enc_dec (r : Int) (h : goodB r = true) (t : List UInt8) : ∃ k, (Lib.encodeRune r).length = k ∧ 1 ≤ k ∧ (Lib.decodeL (Lib.encodeRune r ++ t)).2 = k ∧ (((Lib.decodeL (Lib.encodeRune r ++ t)).1 : Nat) : Int) = r ∧ (k = 1 → r ≤ 127) := by
  unfold goodB at h
  have hr := of_decide_eq_true h
  rw [Lib.decodeL_N]
  by_cases h1 : r ≤ 127
  · have e : Lib.encodeRune r = [r.toNat.toUInt8] := by unfold Lib.encodeRune; rw [Lib.encodeRuneZ_one hr.1 h1]; rfl
    rw [e]
    have b := byte_nat r hr.1 (by omega)
    refine ⟨1, rfl, Nat.le_refl _, ?_⟩
    simp only [List.cons_append, List.nil_append, List.getD_cons_zero, List.length_cons]
    rw [b, Lib.decodeN, if_pos (by omega)]
    exact ⟨rfl, by simp only; omega, fun _ => h1⟩
  · by_cases h2 : r ≤ 2047
    · have e : Lib.encodeRune r = [(192 + r / 64).toNat.toUInt8, (128 + r % 64).toNat.toUInt8] := by unfold Lib.encodeRune; rw [Lib.encodeRuneZ_two (by omega) h2]; rfl
      rw [e]
      have b0 := byte_nat (192 + r / 64) (by omega) (by omega)
      have b1 := byte_nat (128 + r % 64) (by omega) (by omega)
      refine ⟨2, rfl, by omega, ?_⟩
      simp only [List.cons_append, List.nil_append, List.getD_cons_zero, List.getD_cons_succ, List.length_cons]
      rw [b0, b1, Lib.decodeN, if_neg (by omega), if_pos ⟨by omega, by omega, by omega⟩, if_pos (by omega)]
      exact ⟨rfl, by simp only; omega, fun h => by omega⟩
    · by_cases h3 : r ≤ 65535
      · have e : Lib.encodeRune r = [(224 + r / 4096).toNat.toUInt8, (128 + r / 64 % 64).toNat.toUInt8, (128 + r % 64).toNat.toUInt8] := by unfold Lib.encodeRune; rw [Lib.encodeRuneZ_three (by omega)]; rfl
        rw [e]
        have b0 := byte_nat (224 + r / 4096) (by omega) (by omega)
        have b1 := byte_nat (128 + r / 64 % 64) (by omega) (by omega)
        have b2 := byte_nat (128 + r % 64) (by omega) (by omega)
        refine ⟨3, rfl, by omega, ?_⟩
        simp only [List.cons_append, List.nil_append, List.getD_cons_zero, List.getD_cons_succ, List.length_cons]
        rw [b0, b1, b2, Lib.decodeN, if_neg (by omega), if_neg (by omega), if_pos ⟨by omega, ⟨by omega, by omega⟩, by omega, by omega⟩, if_pos (by omega)]
        exact ⟨rfl, by simp only; omega, fun h => by omega⟩
      · have e : Lib.encodeRune r = [(240 + r / 262144).toNat.toUInt8, (128 + r / 4096 % 64).toNat.toUInt8, (128 + r / 64 % 64).toNat.toUInt8, (128 + r % 64).toNat.toUInt8] := by unfold Lib.encodeRune; rw [Lib.encodeRuneZ_four (by omega) (by omega)]; rfl
        rw [e]
        have b0 := byte_nat (240 + r / 262144) (by omega) (by omega)
        have b1 := byte_nat (128 + r / 4096 % 64) (by omega) (by omega)
        have b2 := byte_nat (128 + r / 64 % 64) (by omega) (by omega)
        have b3 := byte_nat (128 + r % 64) (by omega) (by omega)
        refine ⟨4, rfl, by omega, ?_⟩
        simp only [List.cons_append, List.nil_append, List.getD_cons_zero, List.getD_cons_succ, List.length_cons]
        rw [b0, b1, b2, b3, Lib.decodeN, if_neg (by omega), if_neg (by omega), if_neg (by omega), if_pos ⟨by omega, ⟨by omega, by omega⟩, ⟨by omega, by omega⟩, by omega, by omega⟩, if_pos (by omega)]
        exact ⟨rfl, by simp only; omega, fun h => by omega⟩
theorem text_valid : ∀ (L : List Int) (n : Nat), (textL L).length ≤ n → Lib.validGoD n (textL L) = true
  | [], n, _ => by cases n <;> simp [textL, Lib.validGoD]
  | r :: L, n, h => by
    have e : textL (r :: L) = Lib.encodeRune (goodV r) ++ textL L := by unfold textL; rw [List.flatMap_cons]
    obtain ⟨k, hk, h1, hd2, hd1, hs⟩ := enc_dec (goodV r) (goodB_V r) (textL L)
    rw [e, List.length_append, hk] at h
    rw [e]
    cases n with
    | zero => omega
    | succ n =>
      have hne : ¬ Lib.encodeRune (goodV r) ++ textL L = [] := by
        intro h0
        have := congrArg List.length h0
        rw [List.length_append, hk, List.length_nil] at this
        omega
      rw [Lib.validGoD, if_neg hne, if_neg (by rintro ⟨x1, x2⟩; rw [hd2] at x2; have := hs x2; omega), hd2, ← hk, List.drop_left]
      exact text_valid L n (by omega)
theorem text_valid' (L : List Int) : Lib.validD (textL L) = true := text_valid L _ (Nat.le_refl _)
theorem fvals_good : (fieldsL.all fun f => (fvals f).all goodB) = true := by decide +kernel
theorem foursL_good : ∀ (n : Nat) (l : List UInt8) (ys : List Int), foursL n l = some ys → ∀ y ∈ ys, goodB y = true
  | 0, l, ys, h => by simp [foursL] at h; subst h; simp
  | n + 1, l, ys, h => by
    unfold foursL at h
    split at h
    · rename_i hb
      obtain ⟨zs, hz, rfl⟩ := Option.map_eq_some_iff.1 h
      intro y hy
      rcases List.mem_cons.1 hy with rfl | hy
      · unfold numB at hb
        exact (Bool.and_eq_true_iff.1 hb).2
      · exact foursL_good n _ zs hz y hy
    · cases h
theorem partR_good (s : ByteArray) : ∀ y ∈ partR s, goodB y = true := by
  intro y hy
  unfold partR at hy
  cases hu : uniL s.data.toList with
  | some u =>
    rw [hu] at hy
    obtain ⟨f, hf, _, rfl⟩ := uniL_field _ u hu
    exact List.all_eq_true.1 (List.all_eq_true.1 fvals_good f hf) y hy
  | none =>
    rw [hu] at hy
    cases hf : foursR s with
    | some u =>
      rw [hf] at hy
      unfold foursR at hf
      split at hf
      · exact foursL_good _ _ _ hf y hy
      · cases hf
    | none =>
      rw [hf] at hy
      simp only [Option.getD_none] at hy
      split at hy
      · rename_i ho
        obtain rfl := List.mem_singleton.1 hy
        unfold oneB numB at ho
        simp only [Bool.and_eq_true] at ho
        exact ho.2.2.2.2
      · cases hy
theorem uniAll_good (n : List UInt8) : ∀ y ∈ uniAll n, goodB y = true := by
  intro y hy
  obtain ⟨p, _, hp⟩ := List.mem_flatMap.1 hy
  exact partR_good p y hp
theorem name_look (f : List UInt8) (hf : f ∈ fieldsL) : uniL (eqName f) = some (fvals f) := by
  obtain ⟨_, h0, h1, _⟩ := good_parts (List.all_eq_true.1 fields_good f hf)
  rw [uniL_look _ h0 (fun b hb => (h1 b hb).2.1) (fun b hb => (h1 b hb).1)]
  exact of_decide_eq_true (List.all_eq_true.1 names_once f hf)
theorem name_part (f : List UInt8) (hf : f ∈ fieldsL) : partR (asB (eqName f)) = fvals f := by
  unfold partR
  rw [asB_list, name_look f hf]; rfl
theorem name_uni (f : List UInt8) (hf : f ∈ fieldsL) : uniAll (eqName f) = fvals f := by
  obtain ⟨_, h0, h1, _⟩ := good_parts (List.all_eq_true.1 fields_good f hf)
  have hb : baseL (eqName f) = eqName f := takeWhile_all _ _ (fun b hb => by have := (h1 b hb).2.2.1; simpa using this)
  unfold uniAll partsB partsL
  rw [hb, if_neg h0, spl_one _ (fun b hb => (h1 b hb).2.2.2.1)]
  simp only [List.map_cons, List.map_nil, List.flatMap_cons, List.flatMap_nil, List.append_nil]
  exact name_part f hf
theorem name_len (f : List UInt8) (hf : f ∈ fieldsL) : (eqName f).length ≤ 100 := by
  have h1 := List.all_eq_true.1 fields_ok f hf
  rw [Bool.and_eq_true, decide_eq_true_eq] at h1
  exact Nat.le_trans (List.takeWhile_sublist _).length_le h1.2
theorem fields_some : fieldsL ≠ [] := by
  intro h
  have := text_valid' []
  have h2 : (fieldsL.length == 0) = false := by decide +kernel
  rw [h] at h2; cases h2
end Go.Proofs.YtgdlmgdcoedfoaaGreatDoor.Agl
