/- glyph.Uni as a look-up in the list's fields; what is written is read back. -/
import Derived.Test.YtgdlmgdcoedfoaaGreatDoorHexLaw
namespace Go.Proofs.YtgdlmgdcoedfoaaGreatDoor.Agl
open Go.RowKit Go.Proofs.YtgdlmgdcoedfoaaGreatDoorW.PrintWords Go.Proofs.YtgdlmgdcoedfoaaGreatDoorW.PrintLast Go.Proofs.YtgdlmgdcoedfoaaGreatDoorW.PrintMore
set_option linter.unusedVariables false
set_option linter.unusedSimpArgs false

/-- What follows the first instance of a key. -/
def after (key : List UInt8) : List UInt8 → Option (List UInt8)
  | [] => none
  | b :: l => if key.isPrefixOf (b :: l) = true then some ((b :: l).drop key.length) else after key l
theorem after_cut (key : List UInt8) (hk : key ≠ []) : ∀ s : List UInt8, (Lib.cut s key).2.2 = (after key s).isSome ∧ (Lib.cut s key).2.1 = (after key s).getD []
  | [] => by
    cases key with
    | nil => exact absurd rfl hk
    | cons a t => exact ⟨rfl, rfl⟩
  | b :: l => by
    have ih := after_cut key hk l
    have hg := Lib.index_ge l key
    unfold Lib.cut at ih ⊢
    have e : Lib.index (b :: l) key = if key.isPrefixOf (b :: l) = true then 0 else if Lib.index l key == -1 then -1 else Lib.index l key + 1 := rfl
    rw [e]
    unfold after
    by_cases hb : key.isPrefixOf (b :: l) = true
    · simp only [if_pos hb]
      rw [if_pos (Int.le_refl 0)]
      refine ⟨rfl, ?_⟩
      simp
    · simp only [if_neg hb]
      by_cases hm : (Lib.index l key == -1) = true
      · have hm2 : Lib.index l key = -1 := by simpa using hm
        rw [if_pos hm, if_neg (by decide)]
        rw [if_neg (by omega)] at ih
        exact ih
      · have hm2 : Lib.index l key ≠ -1 := fun h => hm (by rw [h]; rfl)
        rw [if_neg hm, if_pos (by omega)]
        rw [if_pos (by omega)] at ih
        refine ⟨ih.1, ?_⟩
        rw [← ih.2]
        show (b :: l).drop ((Lib.index l key + 1).toNat + key.length) = l.drop ((Lib.index l key).toNat + key.length)
        rw [show (Lib.index l key + 1).toNat + key.length = ((Lib.index l key).toNat + key.length) + 1 by omega]; rfl
def textOf (fs : List (List UInt8)) : List UInt8 := fs.flatMap (fun f => 32 :: f) ++ [32]
def listEq : List UInt8 → List UInt8 → Bool
  | [], [] => true
  | a :: l, b :: m => a == b && listEq l m
  | _, _ => false
theorem listEq_sound : ∀ l m : List UInt8, listEq l m = true → l = m
  | [], [], _ => rfl
  | [], b :: m, h => by simp [listEq] at h
  | a :: l, [], h => by simp [listEq] at h
  | a :: l, b :: m, h => by
    unfold listEq at h
    rw [Bool.and_eq_true, beq_iff_eq] at h
    rw [h.1, listEq_sound l m h.2]
theorem listL_text : listL = textOf fieldsL := listEq_sound _ _ (by decide +kernel)
/-- A field is a name, "=", a value; no name is empty; none bears a blank, "=", "." or "_". -/
def fieldGood (f : List UInt8) : Bool := listEq f (eqName f ++ 61 :: eqVal f) && (!(eqName f).isEmpty && ((eqName f).all (fun b => b != 32 && b != 61 && b != 46 && b != 95 && decide (b.toNat < 128)) && (eqVal f).all (· != 32)))
theorem fields_good : fieldsL.all fieldGood = true := by decide +kernel
theorem skip32 (key : List UInt8) (t : List UInt8) : ∀ f : List UInt8, (∀ b ∈ f, b ≠ 32) → after (32 :: key) (f ++ t) = after (32 :: key) t
  | [], _ => rfl
  | b :: f, h => by
    have hb := h b (List.mem_cons_self ..)
    have e : (32 :: key).isPrefixOf (b :: (f ++ t)) = false := by
      have : ((32 : UInt8) == b) = false := by rw [beq_eq_false_iff_ne]; exact fun e => hb e.symm
      simp [List.isPrefixOf, this]
    show after (32 :: key) (b :: (f ++ t)) = _
    rw [after, e, if_neg (by decide)]
    exact skip32 key t f (fun c hc => h c (List.mem_cons_of_mem _ hc))
theorem pre61 (n nm v : List UInt8) (h1 : ∀ b ∈ n, b ≠ 61) (h2 : ∀ b ∈ nm, b ≠ 61) : (n ++ [61]).isPrefixOf (nm ++ 61 :: v) = decide (n = nm) := by
  induction n generalizing nm with
  | nil =>
    cases nm with
    | nil => simp [List.isPrefixOf]
    | cons c m =>
      have := h2 c (List.mem_cons_self ..)
      have e : ((61 : UInt8) == c) = false := by rw [beq_eq_false_iff_ne]; exact fun e => this e.symm
      simp [List.isPrefixOf, e]
  | cons a n ih =>
    have ha := h1 a (List.mem_cons_self ..)
    cases nm with
    | nil =>
      have e : (a == (61 : UInt8)) = false := by rw [beq_eq_false_iff_ne]; exact ha
      simp [List.isPrefixOf, e]
    | cons c m =>
      have := ih m (fun b hb => h1 b (List.mem_cons_of_mem _ hb)) (fun b hb => h2 b (List.mem_cons_of_mem _ hb))
      simp only [List.cons_append, List.isPrefixOf, this]
      rw [Bool.eq_iff_iff]
      simp
theorem good_parts {f : List UInt8} (h : fieldGood f = true) : f = eqName f ++ 61 :: eqVal f ∧ eqName f ≠ [] ∧ (∀ b ∈ eqName f, b ≠ 32 ∧ b ≠ 61 ∧ b ≠ 46 ∧ b ≠ 95 ∧ b.toNat < 128) ∧ ∀ b ∈ eqVal f, b ≠ 32 := by
  unfold fieldGood at h
  simp only [Bool.and_eq_true] at h
  obtain ⟨h1, h2, h3, h4⟩ := h
  refine ⟨listEq_sound _ _ h1, (fun e => (by rw [e] at h2; cases h2)), fun b hb => ?_, fun b hb => ?_⟩
  · have := List.all_eq_true.1 h3 b hb
    simp only [Bool.and_eq_true, bne_iff_ne, decide_eq_true_eq] at this
    exact ⟨this.1.1.1.1, this.1.1.1.2, this.1.1.2, this.1.2, this.2⟩
  · have := List.all_eq_true.1 h4 b hb
    simpa using this
def lookup (n : List UInt8) : List (List UInt8) → Option (List UInt8)
  | [] => none
  | f :: fs => if n = eqName f then some f else lookup n fs
theorem after_text (n : List UInt8) (hn : ∀ b ∈ n, b ≠ 61) (hn0 : ∀ b ∈ n, b ≠ 32) : ∀ fs : List (List UInt8), (∀ f ∈ fs, fieldGood f = true) →
    (after (32 :: (n ++ [61])) (textOf fs)).map (fun r => r.takeWhile (· != 32)) = (lookup n fs).map eqVal
  | [], _ => by
    show (after (32 :: (n ++ [61])) [32]).map _ = none
    have e : (32 :: (n ++ [61])).isPrefixOf [32] = false := by
      cases n with
      | nil => rfl
      | cons a t => simp [List.isPrefixOf]
    rw [after, e, if_neg (by decide)]; rfl
  | f :: fs, h => by
    have ih := after_text n hn hn0 fs (fun g hg => h g (List.mem_cons_of_mem _ hg))
    obtain ⟨h1, h2, h3, h4⟩ := good_parts (h f (List.mem_cons_self ..))
    have e0 : textOf (f :: fs) = 32 :: (f ++ textOf fs) := by
      unfold textOf; simp
    have e1 : (32 :: (n ++ [61])).isPrefixOf (32 :: (f ++ textOf fs)) = decide (n = eqName f) := by
      have := pre61 n (eqName f) (eqVal f ++ textOf fs) hn (fun b hb => (h3 b hb).2.1)
      rw [← this]
      conv => lhs; rw [h1]
      simp [List.isPrefixOf]
    rw [e0, after, e1]
    unfold lookup
    by_cases hnm : n = eqName f
    · rw [if_pos (decide_eq_true hnm), if_pos hnm]
      show some _ = some _
      congr 1
      have e2 : (32 :: (f ++ textOf fs)).drop (32 :: (n ++ [61])).length = eqVal f ++ textOf fs := by
        conv => lhs; rw [h1]
        rw [hnm]
        simp
      rw [e2]
      show (eqVal f ++ textOf fs).takeWhile (· != 32) = eqVal f
      rw [List.takeWhile_append_of_pos (fun b hb => (by rw [bne_iff_ne]; exact h4 b hb))]
      have e3 : ∃ t, textOf fs = 32 :: t := by
        unfold textOf
        cases fs with
        | nil => exact ⟨_, rfl⟩
        | cons g gs => exact ⟨_, rfl⟩
      obtain ⟨t, e3⟩ := e3
      rw [e3]
      simp
    · rw [if_neg (by simpa using hnm), if_neg hnm]
      have hf32 : ∀ b ∈ f, b ≠ 32 := by
        rw [h1]
        intro b hb
        rcases List.mem_append.1 hb with hb | hb
        · exact (h3 b hb).1
        · rcases List.mem_cons.1 hb with rfl | hb
          · decide
          · exact h4 b hb
      rw [skip32 _ _ f hf32]
      exact ih
end Go.Proofs.YtgdlmgdcoedfoaaGreatDoor.Agl
