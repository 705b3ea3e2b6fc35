/- What is written is read back: one name. -/
import Derived.Test.YtgdlmgdcoedfoaaGreatDoorLook
namespace Go.Proofs.YtgdlmgdcoedfoaaGreatDoor.Agl
open Go.RowKit Go.Proofs.YtgdlmgdcoedfoaaGreatDoorW.PrintWords Go.Proofs.YtgdlmgdcoedfoaaGreatDoorW.PrintLast Go.Proofs.YtgdlmgdcoedfoaaGreatDoorW.PrintMore
set_option linter.unusedVariables false
set_option linter.unusedSimpArgs false

theorem any_none (chars : List UInt8) : ∀ l : List UInt8, (∀ b ∈ l, chars.contains b = false) → Lib.indexAny l chars = -1
  | [], _ => rfl
  | b :: l, h => by
    have hb := h b (List.mem_cons_self ..)
    unfold Lib.indexAny
    rw [hb, any_none chars l (fun c hc => h c (List.mem_cons_of_mem _ hc))]; rfl
theorem uniL_look (n : List UInt8) (h0 : n ≠ []) (h1 : ∀ b ∈ n, b ≠ 61) (h2 : ∀ b ∈ n, b ≠ 32) : uniL n = (lookup n fieldsL).map fvals := by
  have hc : Lib.containsAny n [32, 61] = false := by
    unfold Lib.containsAny
    rw [any_none _ n (fun b hb => by
      have a := h1 b hb; have c := h2 b hb
      simp [a, c])]
    rfl
  have ht := after_text n h1 h2 fieldsL (List.all_eq_true.1 fields_good)
  obtain ⟨c1, c2⟩ := after_cut (32 :: (n ++ [61])) (by simp) (textOf fieldsL)
  unfold uniL
  rw [if_neg (by rintro (h | h)
                 · exact h0 h
                 · rw [hc] at h; cases h), listL_text, c1, c2]
  cases ha : after (32 :: (n ++ [61])) (textOf fieldsL) with
  | none =>
    rw [ha] at ht
    cases hl : lookup n fieldsL with
    | none => rfl
    | some f => rw [hl] at ht; cases ht
  | some r =>
    rw [ha] at ht
    cases hl : lookup n fieldsL with
    | none => rw [hl] at ht; cases ht
    | some f =>
      rw [hl] at ht
      have ht2 : r.takeWhile (· != 32) = eqVal f := Option.some.inj ht
      show some (valuesL ⟨(r.takeWhile (· != 32)).toArray⟩) = some (fvals f)
      rw [ht2]; rfl
theorem names_once : (fieldsL.all fun f => decide ((lookup (eqName f) fieldsL).map fvals = some (fvals f))) = true := by decide +kernel
/-- The digits of a number at base 16. -/
def dl : Nat → Nat → List Nat → List Nat
  | 0, v, acc => v :: acc
  | f + 1, v, acc => if v < 16 then v :: acc else dl f (v / 16) (v % 16 :: acc)
theorem hexlow_dl : ∀ (f v : Nat) (acc : List Nat), hexlow f (v : Int) (acc.map fun d : Nat => lowc (d : Int)) = (dl f v acc).map fun d : Nat => lowc (d : Int)
  | 0, v, acc => rfl
  | f + 1, v, acc => by
    unfold hexlow dl
    by_cases h : v < 16
    · rw [if_pos (by omega), if_pos h]; rfl
    · rw [if_neg (by omega), if_neg h]
      have := hexlow_dl f (v / 16) (v % 16 :: acc)
      rw [← this]
      simp only [List.map_cons, Int.natCast_ediv, Int.natCast_emod]
      rfl
theorem dl_rng : ∀ (f v : Nat) (acc : List Nat), v < 16 ^ (f + 1) → (∀ d ∈ acc, d < 16) → ∀ d ∈ dl f v acc, d < 16
  | 0, v, acc, h, ha => by
    intro d hd
    rcases List.mem_cons.1 hd with rfl | hd
    · simpa using h
    · exact ha d hd
  | f + 1, v, acc, h, ha => by
    unfold dl
    split
    · intro d hd
      rcases List.mem_cons.1 hd with rfl | hd
      · assumption
      · exact ha d hd
    · refine dl_rng f (v / 16) _ ?_ ?_
      · have e : (16 : Nat) ^ (f + 1 + 1) = 16 ^ (f + 1) * 16 := Nat.pow_succ ..
        omega
      · intro d hd
        rcases List.mem_cons.1 hd with rfl | hd
        · omega
        · exact ha d hd
theorem dl_len : ∀ (f v : Nat) (acc : List Nat), v < 16 ^ (f + 1) → 1 + acc.length ≤ (dl f v acc).length ∧ (dl f v acc).length ≤ f + 1 + acc.length
  | 0, v, acc, _ => by simp [dl]; omega
  | f + 1, v, acc, h => by
    unfold dl
    split
    · simp; omega
    · have := dl_len f (v / 16) (v % 16 :: acc) (by
        have e : (16 : Nat) ^ (f + 1 + 1) = 16 ^ (f + 1) * 16 := Nat.pow_succ ..
        omega)
      simp at this ⊢; omega
def valN (l : List Nat) : Nat := l.foldl (fun a d => a * 16 + d) 0
theorem valN_from : ∀ (l : List Nat) (a : Nat), l.foldl (fun a d => a * 16 + d) a = a * 16 ^ l.length + valN l
  | [], a => by simp [valN]
  | d :: l, a => by
    unfold valN
    rw [List.foldl_cons, List.foldl_cons, valN_from l, valN_from l (0 * 16 + d), List.length_cons, Nat.pow_succ]
    rw [Nat.zero_mul, Nat.zero_add, Nat.add_mul, Nat.mul_assoc, Nat.mul_comm 16, Nat.add_assoc]
theorem valN_cons (d : Nat) (l : List Nat) : valN (d :: l) = d * 16 ^ l.length + valN l := by
  have := valN_from l d
  unfold valN at this ⊢
  rw [List.foldl_cons, Nat.zero_mul, Nat.zero_add]; exact this
theorem valN_dl : ∀ (f v : Nat) (acc : List Nat), valN (dl f v acc) = v * 16 ^ acc.length + valN acc
  | 0, v, acc => valN_cons v acc
  | f + 1, v, acc => by
    unfold dl
    split
    · exact valN_cons v acc
    · rw [valN_dl f, valN_cons, List.length_cons, Nat.pow_succ]
      have h := Nat.div_add_mod v 16
      have e : v / 16 * (16 ^ acc.length * 16) + v % 16 * 16 ^ acc.length = (16 * (v / 16) + v % 16) * 16 ^ acc.length := by
        rw [Nat.add_mul, Nat.mul_comm 16 (v / 16), Nat.mul_assoc (v / 16), Nat.mul_comm 16]
      rw [h] at e
      omega
theorem valN_zeros (l : List Nat) : ∀ k, valN (List.replicate k 0 ++ l) = valN l
  | 0 => rfl
  | k + 1 => by
    rw [List.replicate_succ, List.cons_append, valN_cons, valN_zeros l k]; simp
theorem hx_low : ∀ n : Fin 16, Lib.upperB (UInt8.ofNat (lowc (n.val : Int)).toNat) = hx n.val := by decide
theorem hexU_dl (v : Nat) (h : v < 16777216) : hexU (v : Int) = (dl 6 v []).map hx := by
  have e := hexlow_dl 6 v []
  rw [List.map_nil] at e
  unfold hexU Lib.toUpperA
  rw [e, strOfNums_data, List.map_map, List.map_map]
  apply List.map_congr_left
  intro d hd
  have hr := dl_rng 6 v [] (by omega) (by simp) d hd
  exact hx_low ⟨d, hr⟩
theorem hexv_hx : ∀ (l : List Nat), (∀ d ∈ l, d < 16) → ∀ a : Nat, (bytesOf (asB (l.map hx))).foldl (fun v c => v * 16 + dig c) (a : Int) = ((l.foldl (fun a d => a * 16 + d) a : Nat) : Int)
  | [], _, a => rfl
  | d :: l, h, a => by
    have hd := (hx_ok (h d (List.mem_cons_self ..))).2.1
    show (bytesOf (asB (l.map hx))).foldl (fun v c => v * 16 + dig c) ((a : Int) * 16 + dig ((hx d).toNat : Int)) = _
    rw [hd, show (a : Int) * 16 + (d : Int) = ((a * 16 + d : Nat) : Int) by push_cast; rfl, hexv_hx l (fun c hc => h c (List.mem_cons_of_mem _ hc))]
    rfl
theorem hexAll_hx (l : List Nat) (h : ∀ d ∈ l, d < 16) : hexAll (l.map hx) = true := by
  unfold hexAll
  rw [List.all_eq_true]
  intro b hb
  obtain ⟨d, hd, rfl⟩ := List.mem_map.1 hb
  exact (hx_ok (h d hd)).1
theorem goodB_V (r : Int) : goodB (goodV r) = true := by
  unfold goodV
  split
  · assumption
  · decide
end Go.Proofs.YtgdlmgdcoedfoaaGreatDoor.Agl
