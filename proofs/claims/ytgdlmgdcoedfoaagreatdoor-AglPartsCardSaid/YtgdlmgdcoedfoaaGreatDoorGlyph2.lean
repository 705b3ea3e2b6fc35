/- glyph.Uni: the plain part and the walk. -/
import Derived.Test.YtgdlmgdcoedfoaaGreatDoorGlyph1
import Derived.Test.YtgdlmgdcoedfoaaGreatDoorValues2
namespace Go.Proofs.YtgdlmgdcoedfoaaGreatDoor.Agl
open Go.RowKit Go.Proofs.YtgdlmgdcoedfoaaGreatDoorW.PrintWords Go.Proofs.YtgdlmgdcoedfoaaGreatDoorW.PrintLast Go.Proofs.YtgdlmgdcoedfoaaGreatDoorW.PrintMore
set_option linter.unusedVariables false
set_option linter.unusedSimpArgs false

/-- What lies in the program's variables. -/
structure Laid (w : World) : Prop where
  size : 10 < w.heap.size
  maxLen : ∃ m, w.cell? ⟨4, 0, none⟩ = some (.int .i64 m)
  tz : w.cell? ⟨10, 15, none⟩ = some (.int .u8 4)
  space : Lib.TabIs Tryz.prog w "strings.asciiSpace" .u8 Lib.asciiSpaceTab
theorem cell_below {w w' : World} {a : Addr} {v : Value} (h : w.cell? a = some v) (hb : Below w.heap.size w w') : w'.cell? a = some v := by
  have lt : a.block < w.heap.size := by
    rcases Nat.lt_or_ge a.block w.heap.size with h' | h'
    · exact h'
    · simp [World.cell?, Array.getElem?_eq_none h'] at h
  exact (hb.cell lt).trans h
theorem tab_below {w w' : World} {n : String} {g : Nat} {k : IntKind} {zs : List Int} (hg : Tryz.prog.globalNamed n = some g) (h : Lib.TabIs Tryz.prog w n k zs) (hb : Below w.heap.size w w') : Lib.TabIs Tryz.prog w' n k zs := by
  have h2 : w.var? Tryz.prog n = some (zs.map fun z => Value.int k z).toArray := h
  show w'.var? Tryz.prog n = _
  unfold World.var? at h2 ⊢
  simp only [hg, Option.bind_some] at h2 ⊢
  rw [hb.block g (by
    rcases Nat.lt_or_ge g w.heap.size with h' | h'
    · exact h'
    · simp [Array.getElem?_eq_none h'] at h2)]
  exact h2
theorem Laid.below {w w' : World} (h : Laid w) (hb : Below w.heap.size w w') : Laid w' :=
  ⟨Nat.lt_of_lt_of_le h.size hb.size, h.maxLen.elim fun m hm => ⟨m, cell_below hm hb⟩, cell_below h.tz hb, tab_below (g := 0) (by kernel_rfl) h.space hb⟩

theorem cut_one (c : UInt8) : ∀ s : List UInt8, (Lib.cut s [c]).1 = s.takeWhile (· != c)
  | [] => rfl
  | b :: l => by
    have ih := cut_one c l
    have hg := Lib.index_ge l [c]
    unfold Lib.cut at ih ⊢
    have e : Lib.index (b :: l) [c] = if (c == b) = true then 0 else if Lib.index l [c] == -1 then -1 else Lib.index l [c] + 1 := by
      simp [Lib.index, List.isPrefixOf]
    rw [e, List.takeWhile_cons]
    by_cases hb : (c == b) = true
    · have : (b != c) = false := by rw [beq_iff_eq] at hb; subst hb; simp
      rw [if_pos hb, if_pos (Int.le_refl 0), this]; rfl
    · have h2 : (b != c) = true := by
        rw [bne_iff_ne]; intro h; exact hb (by rw [h]; simp)
      rw [if_neg hb, h2]
      by_cases hm : (Lib.index l [c] == -1) = true
      · have hm2 : Lib.index l [c] = -1 := by simpa using hm
        rw [if_pos hm, if_neg (by decide)]
        rw [if_neg (by omega)] at ih
        simp only [if_true]
        rw [← ih]
      · have hm2 : Lib.index l [c] ≠ -1 := fun h => hm (by rw [h]; rfl)
        rw [if_neg hm, if_pos (by omega)]
        rw [if_pos (by omega)] at ih
        simp only [if_true]
        rw [← ih]
        show (b :: l).take (Lib.index l [c] + 1).toNat = b :: l.take (Lib.index l [c]).toNat
        rw [show (Lib.index l [c] + 1).toNat = (Lib.index l [c]).toNat + 1 by omega]; rfl
theorem index_occ : ∀ (s sub : List UInt8), 0 ≤ Lib.index s sub → sub.isPrefixOf (s.drop (Lib.index s sub).toNat) = true
  | [], sub, h => by
    unfold Lib.index at h ⊢
    cases sub with
    | nil => rfl
    | cons a t => simp at h
  | b :: l, sub, h => by
    have ih := index_occ l sub
    have hg := Lib.index_ge l sub
    unfold Lib.index at h ⊢
    by_cases hb : sub.isPrefixOf (b :: l) = true
    · rw [if_pos hb]; simpa using hb
    · rw [if_neg hb] at h ⊢
      by_cases hm : (Lib.index l sub == -1) = true
      · rw [if_pos hm] at h; omega
      · have hm2 : Lib.index l sub ≠ -1 := fun h => hm (by rw [h]; rfl)
        rw [if_neg hm] at h ⊢
        rw [show (Lib.index l sub + 1).toNat = (Lib.index l sub).toNat + 1 by omega, List.drop_succ_cons]
        exact ih (by omega)
def okVal (l : List UInt8) : Bool := (pieces l.length l).all fun p => decide (1 ≤ p.length) && decide (p.length ≤ 7) && hexAll p
def okAfter : List UInt8 → Bool
  | [] => true
  | c :: l => (c != 61 || okVal (l.takeWhile (· != 32))) && okAfter l
theorem list_ok : okAfter listL = true := by decide +kernel
theorem listL_len : listL.length ≤ 10002 := by
  have := parts_len.2
  unfold listL
  simp only [List.length_cons, List.length_append, List.length_nil]; omega
theorem okAfter_at : ∀ (l : List UInt8) (p : Nat) (r : List UInt8), okAfter l = true → l.drop p = 61 :: r → okVal (r.takeWhile (· != 32)) = true
  | [], p, r, _, h => by simp at h
  | c :: l, 0, r, h, hd => by
    simp only [List.drop_zero, List.cons.injEq] at hd
    obtain ⟨rfl, rfl⟩ := hd
    unfold okAfter at h
    simpa using (Bool.and_eq_true_iff.1 h).1
  | c :: l, p + 1, r, h, hd => by
    unfold okAfter at h
    exact okAfter_at l p r (Bool.and_eq_true_iff.1 h).2 (by simpa using hd)
def uniL (n : List UInt8) : Option (List Int) :=
  if n = [] ∨ Lib.containsAny n [32, 61] = true then none
  else if (Lib.cut listL (32 :: (n ++ [61]))).2.2 = true then some (valuesL ⟨((Lib.cut listL (32 :: (n ++ [61]))).2.1.takeWhile (· != 32)).toArray⟩) else none
theorem cut_ok (n : List UInt8) (h : (Lib.cut listL (32 :: (n ++ [61]))).2.2 = true) : okVal ((Lib.cut listL (32 :: (n ++ [61]))).2.1.takeWhile (· != 32)) = true := by
  unfold Lib.cut at h ⊢
  by_cases hi : 0 ≤ Lib.index listL (32 :: (n ++ [61]))
  · rw [if_pos hi]
    have ho := index_occ _ _ hi
    obtain ⟨t, ht⟩ := List.isPrefixOf_iff_prefix.1 ho
    refine okAfter_at listL ((Lib.index listL (32 :: (n ++ [61]))).toNat + (n.length + 1)) _ list_ok ?_
    rw [← List.drop_drop, ← ht]
    have e : ∀ k, List.drop ((Lib.index listL (32 :: (n ++ [61]))).toNat + k) listL = (32 :: (n ++ [61]) ++ t).drop k := fun k => by rw [← List.drop_drop, ← ht]
    simp only [e]
    simp
  · rw [if_neg hi] at h; cases h
theorem ok_pieces {s : ByteArray} (h : okVal s.data.toList = true) : ∀ p ∈ pieces s.size s.data.toList, 1 ≤ p.length ∧ p.length ≤ 7 ∧ hexAll p = true := by
  intro p hp
  unfold okVal at h
  rw [data_length] at h
  have := List.all_eq_true.1 h p hp
  simp only [Bool.and_eq_true, decide_eq_true_eq] at this
  exact ⟨this.1.1, this.1.2, this.2⟩
theorem cut_len (s sep : List UInt8) : (Lib.cut s sep).2.1.length ≤ s.length := by
  unfold Lib.cut
  split
  · simp
  · simp
end Go.Proofs.YtgdlmgdcoedfoaaGreatDoor.Agl
