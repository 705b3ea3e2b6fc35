/- glyph.Uni as a look-up in the list's fields; what is written is read back. What is written is read back: one name. What is written is read back: a name of one value; names with "_" between. -/
import Derived.Test.YtgdlmgdcoedfoaaGreatDoorHexWalk
namespace Go.Proofs.YtgdlmgdcoedfoaaGreatDoor.Agl
open Go.RowKit Go.Proofs.YtgdlmgdcoedfoaaGreatDoorW.PrintWords Go.Proofs.YtgdlmgdcoedfoaaGreatDoorW.PrintLast Go.Proofs.YtgdlmgdcoedfoaaGreatDoorW.PrintMore
set_option linter.unusedVariables false
set_option linter.unusedSimpArgs false

/-- What follows the first instance of a key. -/
def after (key : List UInt8) : List UInt8 → Option (List UInt8)
  | [] => none
  | b :: l => if key.isPrefixOf (b :: l) = true then some ((b :: l).drop key.length) else after key l
theorem after_cut (key : List UInt8) (hk : key ≠ []) : ∀ s : List UInt8, (Lib.cut s key).2.2 = (after key s).isSome ∧ (Lib.cut s key).2.1 = (after key s).getD []
  | [] => by
    cases key with
    | nil => exact absurd rfl hk
    | cons a t => exact ⟨rfl, rfl⟩
  | b :: l => by
    have ih := after_cut key hk l
    have hg := Lib.index_ge l key
    unfold Lib.cut at ih ⊢
    have e : Lib.index (b :: l) key = if key.isPrefixOf (b :: l) = true then 0 else if Lib.index l key == -1 then -1 else Lib.index l key + 1 := rfl
    rw [e]
    unfold after
    by_cases hb : key.isPrefixOf (b :: l) = true
    · simp only [if_pos hb]
      rw [if_pos (Int.le_refl 0)]
      refine ⟨rfl, ?_⟩
      simp
    · simp only [if_neg hb]
      by_cases hm : (Lib.index l key == -1) = true
      · have hm2 : Lib.index l key = -1 := by simpa using hm
        rw [if_pos hm, if_neg (by decide)]
        rw [if_neg (by omega)] at ih
        exact ih
      · have hm2 : Lib.index l key ≠ -1 := fun h => hm (by rw [h]; rfl)
        rw [if_neg hm, if_pos (by omega)]
        rw [if_pos (by omega)] at ih
        refine ⟨ih.1, ?_⟩
        rw [← ih.2]
        show (b :: l).drop ((Lib.index l key + 1).toNat + key.length) = l.drop ((Lib.index l key).toNat + key.length)
        rw [show (Lib.index l key + 1).toNat + key.length = ((Lib.index l key).toNat + key.length) + 1 by omega]; rfl
def textOf (fs : List (List UInt8)) : List UInt8 := fs.flatMap (fun f => 32 :: f) ++ [32]
def listEq : List UInt8 → List UInt8 → Bool
  | [], [] => true
  | a :: l, b :: m => a == b && listEq l m
  | _, _ => false
theorem listEq_sound : ∀ l m : List UInt8, listEq l m = true → l = m
  | [], [], _ => rfl
  | [], b :: m, h => by simp [listEq] at h
  | a :: l, [], h => by simp [listEq] at h
  | a :: l, b :: m, h => by
    unfold listEq at h
    rw [Bool.and_eq_true, beq_iff_eq] at h
    rw [h.1, listEq_sound l m h.2]
theorem listL_text : listL = textOf fieldsL := listEq_sound _ _ (by decide +kernel)
/-- A field is a name, "=", a value; no name is empty; none bears a blank, "=", "." or "_". -/
def fieldGood (f : List UInt8) : Bool := listEq f (eqName f ++ 61 :: eqVal f) && (!(eqName f).isEmpty && ((eqName f).all (fun b => b != 32 && b != 61 && b != 46 && b != 95 && decide (b.toNat < 128)) && (eqVal f).all (· != 32)))
theorem fields_good : fieldsL.all fieldGood = true := by decide +kernel
theorem skip32 (key : List UInt8) (t : List UInt8) : ∀ f : List UInt8, (∀ b ∈ f, b ≠ 32) → after (32 :: key) (f ++ t) = after (32 :: key) t
  | [], _ => rfl
  | b :: f, h => by
    have hb := h b (List.mem_cons_self ..)
    have e : (32 :: key).isPrefixOf (b :: (f ++ t)) = false := by
      have : ((32 : UInt8) == b) = false := by rw [beq_eq_false_iff_ne]; exact fun e => hb e.symm
      simp [List.isPrefixOf, this]
    show after (32 :: key) (b :: (f ++ t)) = _
    rw [after, e, if_neg (by decide)]
    exact skip32 key t f (fun c hc => h c (List.mem_cons_of_mem _ hc))
theorem pre61 (n nm v : List UInt8) (h1 : ∀ b ∈ n, b ≠ 61) (h2 : ∀ b ∈ nm, b ≠ 61) : (n ++ [61]).isPrefixOf (nm ++ 61 :: v) = decide (n = nm) := by
  induction n generalizing nm with
  | nil =>
    cases nm with
    | nil => simp [List.isPrefixOf]
    | cons c m =>
      have := h2 c (List.mem_cons_self ..)
      have e : ((61 : UInt8) == c) = false := by rw [beq_eq_false_iff_ne]; exact fun e => this e.symm
      simp [List.isPrefixOf, e]
  | cons a n ih =>
    have ha := h1 a (List.mem_cons_self ..)
    cases nm with
    | nil =>
      have e : (a == (61 : UInt8)) = false := by rw [beq_eq_false_iff_ne]; exact ha
      simp [List.isPrefixOf, e]
    | cons c m =>
      have := ih m (fun b hb => h1 b (List.mem_cons_of_mem _ hb)) (fun b hb => h2 b (List.mem_cons_of_mem _ hb))
      simp only [List.cons_append, List.isPrefixOf, this]
      rw [Bool.eq_iff_iff]
      simp
theorem good_parts {f : List UInt8} (h : fieldGood f = true) : f = eqName f ++ 61 :: eqVal f ∧ eqName f ≠ [] ∧ (∀ b ∈ eqName f, b ≠ 32 ∧ b ≠ 61 ∧ b ≠ 46 ∧ b ≠ 95 ∧ b.toNat < 128) ∧ ∀ b ∈ eqVal f, b ≠ 32 := by
  unfold fieldGood at h
  simp only [Bool.and_eq_true] at h
  obtain ⟨h1, h2, h3, h4⟩ := h
  refine ⟨listEq_sound _ _ h1, (fun e => (by rw [e] at h2; cases h2)), fun b hb => ?_, fun b hb => ?_⟩
  · have := List.all_eq_true.1 h3 b hb
    simp only [Bool.and_eq_true, bne_iff_ne, decide_eq_true_eq] at this
    exact ⟨this.1.1.1.1, this.1.1.1.2, this.1.1.2, this.1.2, this.2⟩
  · have := List.all_eq_true.1 h4 b hb
    simpa using this
def lookup (n : List UInt8) : List (List UInt8) → Option (List UInt8)
  | [] => none
  | f :: fs => if n = eqName f then some f else lookup n fs
theorem after_text (n : List UInt8) (hn : ∀ b ∈ n, b ≠ 61) (hn0 : ∀ b ∈ n, b ≠ 32) : ∀ fs : List (List UInt8), (∀ f ∈ fs, fieldGood f = true) →
    (after (32 :: (n ++ [61])) (textOf fs)).map (fun r => r.takeWhile (· != 32)) = (lookup n fs).map eqVal
  | [], _ => by
    show (after (32 :: (n ++ [61])) [32]).map _ = none
    have e : (32 :: (n ++ [61])).isPrefixOf [32] = false := by
      cases n with
      | nil => rfl
      | cons a t => simp [List.isPrefixOf]
    rw [after, e, if_neg (by decide)]; rfl
  | f :: fs, h => by
    have ih := after_text n hn hn0 fs (fun g hg => h g (List.mem_cons_of_mem _ hg))
    obtain ⟨h1, h2, h3, h4⟩ := good_parts (h f (List.mem_cons_self ..))
    have e0 : textOf (f :: fs) = 32 :: (f ++ textOf fs) := by
      unfold textOf; simp
    have e1 : (32 :: (n ++ [61])).isPrefixOf (32 :: (f ++ textOf fs)) = decide (n = eqName f) := by
      have := pre61 n (eqName f) (eqVal f ++ textOf fs) hn (fun b hb => (h3 b hb).2.1)
      rw [← this]
      conv => lhs; rw [h1]
      simp [List.isPrefixOf]
    rw [e0, after, e1]
    unfold lookup
    by_cases hnm : n = eqName f
    · rw [if_pos (decide_eq_true hnm), if_pos hnm]
      show some _ = some _
      congr 1
      have e2 : (32 :: (f ++ textOf fs)).drop (32 :: (n ++ [61])).length = eqVal f ++ textOf fs := by
        conv => lhs; rw [h1]
        rw [hnm]
        simp
      rw [e2]
      show (eqVal f ++ textOf fs).takeWhile (· != 32) = eqVal f
      rw [List.takeWhile_append_of_pos (fun b hb => (by rw [bne_iff_ne]; exact h4 b hb))]
      have e3 : ∃ t, textOf fs = 32 :: t := by
        unfold textOf
        cases fs with
        | nil => exact ⟨_, rfl⟩
        | cons g gs => exact ⟨_, rfl⟩
      obtain ⟨t, e3⟩ := e3
      rw [e3]
      simp
    · rw [if_neg (by simpa using hnm), if_neg hnm]
      have hf32 : ∀ b ∈ f, b ≠ 32 := by
        rw [h1]
        intro b hb
        rcases List.mem_append.1 hb with hb | hb
        · exact (h3 b hb).1
        · rcases List.mem_cons.1 hb with rfl | hb
          · decide
          · exact h4 b hb
      rw [skip32 _ _ f hf32]
      exact ih
end Go.Proofs.YtgdlmgdcoedfoaaGreatDoor.Agl
namespace Go.Proofs.YtgdlmgdcoedfoaaGreatDoor.Agl
open Go.RowKit Go.Proofs.YtgdlmgdcoedfoaaGreatDoorW.PrintWords Go.Proofs.YtgdlmgdcoedfoaaGreatDoorW.PrintLast Go.Proofs.YtgdlmgdcoedfoaaGreatDoorW.PrintMore
set_option linter.unusedVariables false
set_option linter.unusedSimpArgs false

theorem any_none (chars : List UInt8) : ∀ l : List UInt8, (∀ b ∈ l, chars.contains b = false) → Lib.indexAny l chars = -1
  | [], _ => rfl
  | b :: l, h => by
    have hb := h b (List.mem_cons_self ..)
    unfold Lib.indexAny
    rw [hb, any_none chars l (fun c hc => h c (List.mem_cons_of_mem _ hc))]; rfl
theorem uniL_look (n : List UInt8) (h0 : n ≠ []) (h1 : ∀ b ∈ n, b ≠ 61) (h2 : ∀ b ∈ n, b ≠ 32) : uniL n = (lookup n fieldsL).map fvals := by
  have hc : Lib.containsAny n [32, 61] = false := by
    unfold Lib.containsAny
    rw [any_none _ n (fun b hb => by
      have a := h1 b hb; have c := h2 b hb
      simp [a, c])]
    rfl
  have ht := after_text n h1 h2 fieldsL (List.all_eq_true.1 fields_good)
  obtain ⟨c1, c2⟩ := after_cut (32 :: (n ++ [61])) (by simp) (textOf fieldsL)
  unfold uniL
  rw [if_neg (by rintro (h | h)
                 · exact h0 h
                 · rw [hc] at h; cases h), listL_text, c1, c2]
  cases ha : after (32 :: (n ++ [61])) (textOf fieldsL) with
  | none =>
    rw [ha] at ht
    cases hl : lookup n fieldsL with
    | none => rfl
    | some f => rw [hl] at ht; cases ht
  | some r =>
    rw [ha] at ht
    cases hl : lookup n fieldsL with
    | none => rw [hl] at ht; cases ht
    | some f =>
      rw [hl] at ht
      have ht2 : r.takeWhile (· != 32) = eqVal f := Option.some.inj ht
      show some (valuesL ⟨(r.takeWhile (· != 32)).toArray⟩) = some (fvals f)
      rw [ht2]; rfl
theorem names_once : (fieldsL.all fun f => decide ((lookup (eqName f) fieldsL).map fvals = some (fvals f))) = true := by decide +kernel
/-- The digits of a number at base 16. -/
def dl : Nat → Nat → List Nat → List Nat
  | 0, v, acc => v :: acc
  | f + 1, v, acc => if v < 16 then v :: acc else dl f (v / 16) (v % 16 :: acc)
theorem hexlow_dl : ∀ (f v : Nat) (acc : List Nat), hexlow f (v : Int) (acc.map fun d : Nat => lowc (d : Int)) = (dl f v acc).map fun d : Nat => lowc (d : Int)
  | 0, v, acc => rfl
  | f + 1, v, acc => by
    unfold hexlow dl
    by_cases h : v < 16
    · rw [if_pos (by omega), if_pos h]; rfl
    · rw [if_neg (by omega), if_neg h]
      have := hexlow_dl f (v / 16) (v % 16 :: acc)
      rw [← this]
      simp only [List.map_cons, Int.natCast_ediv, Int.natCast_emod]
      rfl
theorem dl_rng : ∀ (f v : Nat) (acc : List Nat), v < 16 ^ (f + 1) → (∀ d ∈ acc, d < 16) → ∀ d ∈ dl f v acc, d < 16
  | 0, v, acc, h, ha => by
    intro d hd
    rcases List.mem_cons.1 hd with rfl | hd
    · simpa using h
    · exact ha d hd
  | f + 1, v, acc, h, ha => by
    unfold dl
    split
    · intro d hd
      rcases List.mem_cons.1 hd with rfl | hd
      · assumption
      · exact ha d hd
    · refine dl_rng f (v / 16) _ ?_ ?_
      · have e : (16 : Nat) ^ (f + 1 + 1) = 16 ^ (f + 1) * 16 := Nat.pow_succ ..
        omega
      · intro d hd
        rcases List.mem_cons.1 hd with rfl | hd
        · omega
        · exact ha d hd
theorem dl_len : ∀ (f v : Nat) (acc : List Nat), v < 16 ^ (f + 1) → 1 + acc.length ≤ (dl f v acc).length ∧ (dl f v acc).length ≤ f + 1 + acc.length
  | 0, v, acc, _ => by simp [dl]; omega
  | f + 1, v, acc, h => by
    unfold dl
    split
    · simp; omega
    · have := dl_len f (v / 16) (v % 16 :: acc) (by
        have e : (16 : Nat) ^ (f + 1 + 1) = 16 ^ (f + 1) * 16 := Nat.pow_succ ..
        omega)
      simp at this ⊢; omega
def valN (l : List Nat) : Nat := l.foldl (fun a d => a * 16 + d) 0
theorem valN_from : ∀ (l : List Nat) (a : Nat), l.foldl (fun a d => a * 16 + d) a = a * 16 ^ l.length + valN l
  | [], a => by simp [valN]
  | d :: l, a => by
    unfold valN
    rw [List.foldl_cons, List.foldl_cons, valN_from l, valN_from l (0 * 16 + d), List.length_cons, Nat.pow_succ]
    rw [Nat.zero_mul, Nat.zero_add, Nat.add_mul, Nat.mul_assoc, Nat.mul_comm 16, Nat.add_assoc]
theorem valN_cons (d : Nat) (l : List Nat) : valN (d :: l) = d * 16 ^ l.length + valN l := by
  have := valN_from l d
  unfold valN at this ⊢
  rw [List.foldl_cons, Nat.zero_mul, Nat.zero_add]; exact this
theorem valN_dl : ∀ (f v : Nat) (acc : List Nat), valN (dl f v acc) = v * 16 ^ acc.length + valN acc
  | 0, v, acc => valN_cons v acc
  | f + 1, v, acc => by
    unfold dl
    split
    · exact valN_cons v acc
    · rw [valN_dl f, valN_cons, List.length_cons, Nat.pow_succ]
      have h := Nat.div_add_mod v 16
      have e : v / 16 * (16 ^ acc.length * 16) + v % 16 * 16 ^ acc.length = (16 * (v / 16) + v % 16) * 16 ^ acc.length := by
        rw [Nat.add_mul, Nat.mul_comm 16 (v / 16), Nat.mul_assoc (v / 16), Nat.mul_comm 16]
      rw [h] at e
      omega
theorem valN_zeros (l : List Nat) : ∀ k, valN (List.replicate k 0 ++ l) = valN l
  | 0 => rfl
  | k + 1 => by
    rw [List.replicate_succ, List.cons_append, valN_cons, valN_zeros l k]; simp
theorem hx_low : ∀ n : Fin 16, Lib.upperB (UInt8.ofNat (lowc (n.val : Int)).toNat) = hx n.val := by decide
theorem hexU_dl (v : Nat) (h : v < 16777216) : hexU (v : Int) = (dl 6 v []).map hx := by
  have e := hexlow_dl 6 v []
  rw [List.map_nil] at e
  unfold hexU Lib.toUpperA
  rw [e, strOfNums_data, List.map_map, List.map_map]
  apply List.map_congr_left
  intro d hd
  have hr := dl_rng 6 v [] (by omega) (by simp) d hd
  exact hx_low ⟨d, hr⟩
theorem hexv_hx : ∀ (l : List Nat), (∀ d ∈ l, d < 16) → ∀ a : Nat, (bytesOf (asB (l.map hx))).foldl (fun v c => v * 16 + dig c) (a : Int) = ((l.foldl (fun a d => a * 16 + d) a : Nat) : Int)
  | [], _, a => rfl
  | d :: l, h, a => by
    have hd := (hx_ok (h d (List.mem_cons_self ..))).2.1
    show (bytesOf (asB (l.map hx))).foldl (fun v c => v * 16 + dig c) ((a : Int) * 16 + dig ((hx d).toNat : Int)) = _
    rw [hd, show (a : Int) * 16 + (d : Int) = ((a * 16 + d : Nat) : Int) by push_cast; rfl, hexv_hx l (fun c hc => h c (List.mem_cons_of_mem _ hc))]
    rfl
theorem hexAll_hx (l : List Nat) (h : ∀ d ∈ l, d < 16) : hexAll (l.map hx) = true := by
  unfold hexAll
  rw [List.all_eq_true]
  intro b hb
  obtain ⟨d, hd, rfl⟩ := List.mem_map.1 hb
  exact (hx_ok (h d hd)).1
theorem goodB_V (r : Int) : goodB (goodV r) = true := by
  unfold goodV
  split
  · assumption
  · decide
end Go.Proofs.YtgdlmgdcoedfoaaGreatDoor.Agl
namespace Go.Proofs.YtgdlmgdcoedfoaaGreatDoor.Agl
open Go.RowKit Go.Proofs.YtgdlmgdcoedfoaaGreatDoorW.PrintWords Go.Proofs.YtgdlmgdcoedfoaaGreatDoorW.PrintLast Go.Proofs.YtgdlmgdcoedfoaaGreatDoorW.PrintMore
set_option linter.unusedVariables false
set_option linter.unusedSimpArgs false

theorem dl_short : ∀ (f v : Nat) (acc : List Nat) (k : Nat), v < 16 ^ (k + 1) → k ≤ f → (dl f v acc).length ≤ k + 1 + acc.length
  | 0, v, acc, k, _, _ => by simp [dl]; omega
  | f + 1, v, acc, k, h, hk => by
    unfold dl
    split
    · simp; omega
    · cases k with
      | zero => simp at h; omega
      | succ k =>
        have := dl_short f (v / 16) (v % 16 :: acc) k (by
          have e : (16 : Nat) ^ (k + 1 + 1) = 16 ^ (k + 1) * 16 := Nat.pow_succ ..
          omega) (by omega)
        simp at this ⊢; omega
theorem rep48 : ∀ k, Lib.repeatL [48] k = (List.replicate k 0).map hx
  | 0 => rfl
  | k + 1 => by
    show [48] ++ Lib.repeatL [48] k = _
    rw [rep48 k, List.replicate_succ, List.map_cons]; rfl
/-- A name in digits. -/
theorem named_digits (r : Int) (h : backF (goodV r) fieldsL = none) : ∃ ds : List Nat, namedL r = 117 :: ds.map hx ∧ 4 ≤ ds.length ∧ ds.length ≤ 6 ∧ (∀ d ∈ ds, d < 16) ∧ ((valN ds : Nat) : Int) = goodV r := by
  obtain ⟨g0, g1⟩ := goodV_rng r
  obtain ⟨v, hv⟩ : ∃ v : Nat, goodV r = (v : Int) := ⟨(goodV r).toNat, by omega⟩
  have hv1 : v < 16 ^ 6 := by omega
  have hd := hexU_dl v (by omega)
  have l1 := dl_short 6 v [] 5 hv1 (by omega)
  have l0 := (dl_len 6 v [] (by omega)).1
  simp only [List.length_nil, Nat.add_zero] at l1 l0
  refine ⟨List.replicate (4 - (dl 6 v []).length) 0 ++ dl 6 v [], ?_, ?_, ?_, ?_, ?_⟩
  · unfold namedL
    rw [h, hv, hd, rep48, List.map_append, List.length_map]; rfl
  · rw [List.length_append, List.length_replicate]; omega
  · rw [List.length_append, List.length_replicate]; omega
  · intro d hm
    rcases List.mem_append.1 hm with hm | hm
    · rw [(List.mem_replicate.1 hm).2]; omega
    · exact dl_rng 6 v [] (by omega) (by simp) d hm
  · rw [valN_zeros, valN_dl, hv]; simp [valN]
theorem named_name (r : Int) (nm : List UInt8) (h : backF (goodV r) fieldsL = some nm) : ∃ f ∈ fieldsL, namedL r = eqName f ∧ fvals f = [goodV r] := by
  obtain ⟨f, hf, rfl, hv⟩ := backF_mem _ _ _ h
  exact ⟨f, hf, by unfold namedL; rw [h]; rfl, hv⟩
theorem named_bytes (r : Int) : namedL r ≠ [] ∧ ∀ b ∈ namedL r, b ≠ 46 ∧ b ≠ 95 ∧ b.toNat < 128 := by
  cases h : backF (goodV r) fieldsL with
  | some nm =>
    obtain ⟨f, hf, e, _⟩ := named_name r nm h
    obtain ⟨_, h2, h3, _⟩ := good_parts (List.all_eq_true.1 fields_good f hf)
    rw [e]
    exact ⟨h2, fun b hb => ⟨(h3 b hb).2.2.1, (h3 b hb).2.2.2.1, (h3 b hb).2.2.2.2⟩⟩
  | none =>
    obtain ⟨ds, e, _, _, hd, _⟩ := named_digits r h
    rw [e]
    refine ⟨by simp, fun b hb => ?_⟩
    rcases List.mem_cons.1 hb with rfl | hb
    · decide
    · obtain ⟨d, hm, rfl⟩ := List.mem_map.1 hb
      have := hx_ok (hd d hm)
      have h2 : ∀ n : Fin 16, (hx n.val).toNat < 128 := by decide
      exact ⟨this.2.2.1, this.2.2.2.1, h2 ⟨d, hd d hm⟩⟩
theorem named_part (r : Int) : partR (asB (namedL r)) = [goodV r] := by
  cases h : backF (goodV r) fieldsL with
  | some nm =>
    obtain ⟨f, hf, e, hv⟩ := named_name r nm h
    obtain ⟨_, h2, h3, _⟩ := good_parts (List.all_eq_true.1 fields_good f hf)
    have hl := uniL_look (eqName f) h2 (fun b hb => (h3 b hb).2.1) (fun b hb => (h3 b hb).1)
    have ho := of_decide_eq_true (List.all_eq_true.1 names_once f hf)
    unfold partR
    rw [asB_list, e, hl, ho, hv]; rfl
  | none =>
    obtain ⟨ds, e, h4, h6, hd, hv⟩ := named_digits r h
    obtain ⟨d, rest, rfl⟩ : ∃ d rest, ds = d :: rest := by
      cases ds with
      | nil => simp at h4
      | cons d rest => exact ⟨d, rest, rfl⟩
    have hd0 := hd d (List.mem_cons_self ..)
    have hr : rest.map hx ≠ [] := by
      intro hh
      have := List.map_eq_nil_iff.1 hh
      rw [this] at h4; simp at h4
    have hu := uniL_u d hd0 (rest.map hx) hr
    have hp : Lib.hasPrefix (117 :: hx d :: rest.map hx) [117, 110, 105] = false := by
      cases h : Lib.hasPrefix (117 :: hx d :: rest.map hx) [117, 110, 105] with
      | false => rfl
      | true =>
        unfold Lib.hasPrefix at h
        simp [List.isPrefixOf] at h
        exact absurd h.1.symm (hx_ok hd0).2.2.2.2
    have hf : foursR (asB (117 :: hx d :: rest.map hx)) = none := by
      unfold foursR
      rw [asB_list, hp, if_neg (fun h => by cases h.1)]
    have ht : tailU (asB (117 :: hx d :: rest.map hx)) = asB ((d :: rest).map hx) := rfl
    have hval : hexv (bytesOf (asB ((d :: rest).map hx))) = goodV r := by
      rw [← hv]
      exact hexv_hx (d :: rest) hd 0
    have ho : oneB (asB (117 :: hx d :: rest.map hx)) = true := by
      unfold oneB
      rw [ht, asB_size, List.length_map, decide_eq_true h4, decide_eq_true h6]
      have hn : numB (asB ((d :: rest).map hx)) = true := by
        unfold numB
        rw [hval, goodB_V, asB_list, hexAll_hx _ hd]; rfl
      rw [hn]; rfl
    unfold partR
    rw [e, asB_list, show (117 :: (d :: rest).map hx) = 117 :: hx d :: rest.map hx from rfl, hu, hf, ho, ht, hval]
    rfl
/-- Names with "_" between them are these names. -/
theorem spl_app (l : List UInt8) (h : ∀ b ∈ l, b ≠ 95) (m : List UInt8) : spl (l ++ 95 :: m) = l :: spl m := by
  induction l with
  | nil => simp [spl]
  | cons c l ih =>
    have hc := h c (List.mem_cons_self ..)
    rw [List.cons_append, spl, if_neg hc, ih (fun b hb => h b (List.mem_cons_of_mem _ hb))]
theorem spl_join : ∀ (xs : List (List UInt8)), xs ≠ [] → (∀ x ∈ xs, ∀ b ∈ x, b ≠ 95) → spl (Lib.join xs [95]) = xs
  | [], h, _ => absurd rfl h
  | [x], _, h => by
    rw [Lib.join_one]; exact spl_one x (h x (List.mem_cons_self ..))
  | x :: y :: xs, _, h => by
    have e : Lib.join (x :: y :: xs) [95] = x ++ 95 :: Lib.join (y :: xs) [95] := by
      rw [Lib.join_cons, Lib.join_cons]
      simp [Lib.joinTail]
    rw [e, spl_app x (h x (List.mem_cons_self ..)), spl_join (y :: xs) (by simp) (fun z hz => h z (List.mem_cons_of_mem _ hz))]
theorem join_mem (sep : List UInt8) : ∀ (xs : List (List UInt8)) (b : UInt8), b ∈ Lib.join xs sep → b ∈ sep ∨ ∃ x ∈ xs, b ∈ x
  | [], b, h => by simp [Lib.join_nil] at h
  | x :: xs, b, h => by
    rw [Lib.join_cons] at h
    rcases List.mem_append.1 h with h | h
    · exact .inr ⟨x, List.mem_cons_self .., h⟩
    · unfold Lib.joinTail at h
      rw [List.mem_flatten] at h
      obtain ⟨y, hy, hb⟩ := h
      obtain ⟨z, hz, rfl⟩ := List.mem_map.1 hy
      rcases List.mem_append.1 hb with hb | hb
      · exact .inl hb
      · exact .inr ⟨z, List.mem_cons_of_mem _ hz, hb⟩
theorem write_bytes (l : List Int) : ∀ b ∈ writeL l, b ≠ 46 ∧ b.toNat < 128 := by
  intro b hb
  rcases join_mem _ _ b hb with hb | ⟨x, hx, hb⟩
  · simp at hb; subst hb; decide
  · obtain ⟨r, _, rfl⟩ := List.mem_map.1 hx
    have := (named_bytes r).2 b hb
    exact ⟨this.1, this.2.2⟩
theorem base_write (l : List Int) : baseL (writeL l) = writeL l :=
  takeWhile_all _ _ (fun b hb => by rw [bne_iff_ne]; exact (write_bytes l b hb).1)
theorem base_write_alt (l : List Int) (t : List UInt8) : baseL (writeL l ++ 46 :: t) = writeL l := by
  unfold baseL
  rw [List.takeWhile_append_of_pos (fun b hb => by rw [bne_iff_ne]; exact (write_bytes l b hb).1)]
  simp
theorem parts_of (l : List Int) (n : List UInt8) (h : baseL n = writeL l) : partsL n = l.map namedL := by
  unfold partsL
  rw [h]
  cases l with
  | nil => rfl
  | cons r l =>
    have hne : writeL (r :: l) ≠ [] := by
      unfold writeL
      rw [List.map_cons, Lib.join_cons]
      intro hh
      exact (named_bytes r).1 (List.append_eq_nil_iff.1 hh).1
    rw [if_neg hne]
    refine spl_join _ (by simp) (fun x hx b hb => ?_)
    obtain ⟨q, _, rfl⟩ := List.mem_map.1 hx
    exact ((named_bytes q).2 b hb).2.1
theorem uni_of (l : List Int) (n : List UInt8) (h : baseL n = writeL l) : uniAll n = l.map goodV := by
  unfold uniAll partsB
  rw [parts_of l n h]
  clear h
  induction l with
  | nil => rfl
  | cons r l ih =>
    rw [List.map_cons, List.map_cons, List.flatMap_cons, named_part, ih]; rfl
end Go.Proofs.YtgdlmgdcoedfoaaGreatDoor.Agl
