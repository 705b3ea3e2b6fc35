/- What is written is read back: a name of one value; names with "_" between. -/
import Derived.Test.YtgdlmgdcoedfoaaGreatDoorLook2
namespace Go.Proofs.YtgdlmgdcoedfoaaGreatDoor.Agl
open Go.RowKit Go.Proofs.YtgdlmgdcoedfoaaGreatDoorW.PrintWords Go.Proofs.YtgdlmgdcoedfoaaGreatDoorW.PrintLast Go.Proofs.YtgdlmgdcoedfoaaGreatDoorW.PrintMore
set_option linter.unusedVariables false
set_option linter.unusedSimpArgs false

theorem dl_short : ∀ (f v : Nat) (acc : List Nat) (k : Nat), v < 16 ^ (k + 1) → k ≤ f → (dl f v acc).length ≤ k + 1 + acc.length
  | 0, v, acc, k, _, _ => by simp [dl]; omega
  | f + 1, v, acc, k, h, hk => by
    unfold dl
    split
    · simp; omega
    · cases k with
      | zero => simp at h; omega
      | succ k =>
        have := dl_short f (v / 16) (v % 16 :: acc) k (by
          have e : (16 : Nat) ^ (k + 1 + 1) = 16 ^ (k + 1) * 16 := Nat.pow_succ ..
          omega) (by omega)
        simp at this ⊢; omega
theorem rep48 : ∀ k, Lib.repeatL [48] k = (List.replicate k 0).map hx
  | 0 => rfl
  | k + 1 => by
    show [48] ++ Lib.repeatL [48] k = _
    rw [rep48 k, List.replicate_succ, List.map_cons]; rfl
/-- A name in digits. -/
theorem named_digits (r : Int) (h : backF (goodV r) fieldsL = none) : ∃ ds : List Nat, namedL r = 117 :: ds.map hx ∧ 4 ≤ ds.length ∧ ds.length ≤ 6 ∧ (∀ d ∈ ds, d < 16) ∧ ((valN ds : Nat) : Int) = goodV r := by
  obtain ⟨g0, g1⟩ := goodV_rng r
  obtain ⟨v, hv⟩ : ∃ v : Nat, goodV r = (v : Int) := ⟨(goodV r).toNat, by omega⟩
  have hv1 : v < 16 ^ 6 := by omega
  have hd := hexU_dl v (by omega)
  have l1 := dl_short 6 v [] 5 hv1 (by omega)
  have l0 := (dl_len 6 v [] (by omega)).1
  simp only [List.length_nil, Nat.add_zero] at l1 l0
  refine ⟨List.replicate (4 - (dl 6 v []).length) 0 ++ dl 6 v [], ?_, ?_, ?_, ?_, ?_⟩
  · unfold namedL
    rw [h, hv, hd, rep48, List.map_append, List.length_map]; rfl
  · rw [List.length_append, List.length_replicate]; omega
  · rw [List.length_append, List.length_replicate]; omega
  · intro d hm
    rcases List.mem_append.1 hm with hm | hm
    · rw [(List.mem_replicate.1 hm).2]; omega
    · exact dl_rng 6 v [] (by omega) (by simp) d hm
  · rw [valN_zeros, valN_dl, hv]; simp [valN]
theorem named_name (r : Int) (nm : List UInt8) (h : backF (goodV r) fieldsL = some nm) : ∃ f ∈ fieldsL, namedL r = eqName f ∧ fvals f = [goodV r] := by
  obtain ⟨f, hf, rfl, hv⟩ := backF_mem _ _ _ h
  exact ⟨f, hf, by unfold namedL; rw [h]; rfl, hv⟩
theorem named_bytes (r : Int) : namedL r ≠ [] ∧ ∀ b ∈ namedL r, b ≠ 46 ∧ b ≠ 95 ∧ b.toNat < 128 := by
  cases h : backF (goodV r) fieldsL with
  | some nm =>
    obtain ⟨f, hf, e, _⟩ := named_name r nm h
    obtain ⟨_, h2, h3, _⟩ := good_parts (List.all_eq_true.1 fields_good f hf)
    rw [e]
    exact ⟨h2, fun b hb => ⟨(h3 b hb).2.2.1, (h3 b hb).2.2.2.1, (h3 b hb).2.2.2.2⟩⟩
  | none =>
    obtain ⟨ds, e, _, _, hd, _⟩ := named_digits r h
    rw [e]
    refine ⟨by simp, fun b hb => ?_⟩
    rcases List.mem_cons.1 hb with rfl | hb
    · decide
    · obtain ⟨d, hm, rfl⟩ := List.mem_map.1 hb
      have := hx_ok (hd d hm)
      have h2 : ∀ n : Fin 16, (hx n.val).toNat < 128 := by decide
      exact ⟨this.2.2.1, this.2.2.2.1, h2 ⟨d, hd d hm⟩⟩
theorem named_part (r : Int) : partR (asB (namedL r)) = [goodV r] := by
  cases h : backF (goodV r) fieldsL with
  | some nm =>
    obtain ⟨f, hf, e, hv⟩ := named_name r nm h
    obtain ⟨_, h2, h3, _⟩ := good_parts (List.all_eq_true.1 fields_good f hf)
    have hl := uniL_look (eqName f) h2 (fun b hb => (h3 b hb).2.1) (fun b hb => (h3 b hb).1)
    have ho := of_decide_eq_true (List.all_eq_true.1 names_once f hf)
    unfold partR
    rw [asB_list, e, hl, ho, hv]; rfl
  | none =>
    obtain ⟨ds, e, h4, h6, hd, hv⟩ := named_digits r h
    obtain ⟨d, rest, rfl⟩ : ∃ d rest, ds = d :: rest := by
      cases ds with
      | nil => simp at h4
      | cons d rest => exact ⟨d, rest, rfl⟩
    have hd0 := hd d (List.mem_cons_self ..)
    have hr : rest.map hx ≠ [] := by
      intro hh
      have := List.map_eq_nil_iff.1 hh
      rw [this] at h4; simp at h4
    have hu := uniL_u d hd0 (rest.map hx) hr
    have hp : Lib.hasPrefix (117 :: hx d :: rest.map hx) [117, 110, 105] = false := by
      cases h : Lib.hasPrefix (117 :: hx d :: rest.map hx) [117, 110, 105] with
      | false => rfl
      | true =>
        unfold Lib.hasPrefix at h
        simp [List.isPrefixOf] at h
        exact absurd h.1.symm (hx_ok hd0).2.2.2.2
    have hf : foursR (asB (117 :: hx d :: rest.map hx)) = none := by
      unfold foursR
      rw [asB_list, hp, if_neg (fun h => by cases h.1)]
    have ht : tailU (asB (117 :: hx d :: rest.map hx)) = asB ((d :: rest).map hx) := rfl
    have hval : hexv (bytesOf (asB ((d :: rest).map hx))) = goodV r := by
      rw [← hv]
      exact hexv_hx (d :: rest) hd 0
    have ho : oneB (asB (117 :: hx d :: rest.map hx)) = true := by
      unfold oneB
      rw [ht, asB_size, List.length_map, decide_eq_true h4, decide_eq_true h6]
      have hn : numB (asB ((d :: rest).map hx)) = true := by
        unfold numB
        rw [hval, goodB_V, asB_list, hexAll_hx _ hd]; rfl
      rw [hn]; rfl
    unfold partR
    rw [e, asB_list, show (117 :: (d :: rest).map hx) = 117 :: hx d :: rest.map hx from rfl, hu, hf, ho, ht, hval]
    rfl
/-- Names with "_" between them are these names. -/
theorem spl_app (l : List UInt8) (h : ∀ b ∈ l, b ≠ 95) (m : List UInt8) : spl (l ++ 95 :: m) = l :: spl m := by
  induction l with
  | nil => simp [spl]
  | cons c l ih =>
    have hc := h c (List.mem_cons_self ..)
    rw [List.cons_append, spl, if_neg hc, ih (fun b hb => h b (List.mem_cons_of_mem _ hb))]
theorem spl_join : ∀ (xs : List (List UInt8)), xs ≠ [] → (∀ x ∈ xs, ∀ b ∈ x, b ≠ 95) → spl (Lib.join xs [95]) = xs
  | [], h, _ => absurd rfl h
  | [x], _, h => by
    rw [Lib.join_one]; exact spl_one x (h x (List.mem_cons_self ..))
  | x :: y :: xs, _, h => by
    have e : Lib.join (x :: y :: xs) [95] = x ++ 95 :: Lib.join (y :: xs) [95] := by
      rw [Lib.join_cons, Lib.join_cons]
      simp [Lib.joinTail]
    rw [e, spl_app x (h x (List.mem_cons_self ..)), spl_join (y :: xs) (by simp) (fun z hz => h z (List.mem_cons_of_mem _ hz))]
theorem join_mem (sep : List UInt8) : ∀ (xs : List (List UInt8)) (b : UInt8), b ∈ Lib.join xs sep → b ∈ sep ∨ ∃ x ∈ xs, b ∈ x
  | [], b, h => by simp [Lib.join_nil] at h
  | x :: xs, b, h => by
    rw [Lib.join_cons] at h
    rcases List.mem_append.1 h with h | h
    · exact .inr ⟨x, List.mem_cons_self .., h⟩
    · unfold Lib.joinTail at h
      rw [List.mem_flatten] at h
      obtain ⟨y, hy, hb⟩ := h
      obtain ⟨z, hz, rfl⟩ := List.mem_map.1 hy
      rcases List.mem_append.1 hb with hb | hb
      · exact .inl hb
      · exact .inr ⟨z, List.mem_cons_of_mem _ hz, hb⟩
theorem write_bytes (l : List Int) : ∀ b ∈ writeL l, b ≠ 46 ∧ b.toNat < 128 := by
  intro b hb
  rcases join_mem _ _ b hb with hb | ⟨x, hx, hb⟩
  · simp at hb; subst hb; decide
  · obtain ⟨r, _, rfl⟩ := List.mem_map.1 hx
    have := (named_bytes r).2 b hb
    exact ⟨this.1, this.2.2⟩
theorem base_write (l : List Int) : baseL (writeL l) = writeL l :=
  takeWhile_all _ _ (fun b hb => by rw [bne_iff_ne]; exact (write_bytes l b hb).1)
theorem base_write_alt (l : List Int) (t : List UInt8) : baseL (writeL l ++ 46 :: t) = writeL l := by
  unfold baseL
  rw [List.takeWhile_append_of_pos (fun b hb => by rw [bne_iff_ne]; exact (write_bytes l b hb).1)]
  simp
theorem parts_of (l : List Int) (n : List UInt8) (h : baseL n = writeL l) : partsL n = l.map namedL := by
  unfold partsL
  rw [h]
  cases l with
  | nil => rfl
  | cons r l =>
    have hne : writeL (r :: l) ≠ [] := by
      unfold writeL
      rw [List.map_cons, Lib.join_cons]
      intro hh
      exact (named_bytes r).1 (List.append_eq_nil_iff.1 hh).1
    rw [if_neg hne]
    refine spl_join _ (by simp) (fun x hx b hb => ?_)
    obtain ⟨q, _, rfl⟩ := List.mem_map.1 hx
    exact ((named_bytes q).2 b hb).2.1
theorem uni_of (l : List Int) (n : List UInt8) (h : baseL n = writeL l) : uniAll n = l.map goodV := by
  unfold uniAll partsB
  rw [parts_of l n h]
  clear h
  induction l with
  | nil => rfl
  | cons r l ih =>
    rw [List.map_cons, List.map_cons, List.flatMap_cons, named_part, ih]; rfl
end Go.Proofs.YtgdlmgdcoedfoaaGreatDoor.Agl
