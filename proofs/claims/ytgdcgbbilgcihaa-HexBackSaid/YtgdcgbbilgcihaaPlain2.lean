/- Plain laws on hex digits, second part: texts joined, digits of bytes. -/
import Derived.Test.YtgdcgbbilgcihaaPlain
namespace Go.Proofs.Ytgdcgbbilgcihaa.Plain
open Go.RowKit Go.Proofs.Ytgdcgbbilgcihaa.Print Go.Proofs.YtgdcgbbilgcihaaW.PrintWords Go.Proofs.YtgdcgbbilgcihaaW.PrintLast

theorem bytesOf_append (a b : ByteArray) : bytesOf (a ++ b) = bytesOf a ++ bytesOf b := by
  unfold bytesOf; rw [ByteArray.data_append]; simp
theorem scan_append_none (l r : List Int) (i : Nat) (h : (scan i l).2 = none) : scan i (l ++ r) = ((scan i l).1 ++ (scan (i + l.length) r).1, (scan (i + l.length) r).2) := by
  induction l generalizing i with
  | nil => simp [scan]
  | cons c l ih =>
    simp only [scan, List.cons_append] at h ⊢
    by_cases hd : (digB c).2 = true
    · rw [if_pos hd] at h
      rw [if_pos hd, if_pos hd, ih (i + 1) h]
      simp only [List.length_cons, List.cons_append, Nat.add_assoc, Nat.add_comm 1]
    · rw [if_neg hd] at h
      rw [if_neg hd, if_neg hd]
      by_cases hw : whiteB c = true
      · rw [if_pos hw] at h
        rw [if_pos hw, if_pos hw, ih (i + 1) h]
        simp only [List.length_cons, Nat.add_assoc, Nat.add_comm 1]
      · rw [if_neg hw] at h; cases h
theorem scan_append_some (l r : List Int) (i j : Nat) (h : (scan i l).2 = some j) : scan i (l ++ r) = scan i l := by
  induction l generalizing i with
  | nil => simp [scan] at h
  | cons c l ih =>
    simp only [scan, List.cons_append] at h ⊢
    by_cases hd : (digB c).2 = true
    · rw [if_pos hd] at h
      rw [if_pos hd, if_pos hd, ih (i + 1) h]
    · rw [if_neg hd] at h
      rw [if_neg hd, if_neg hd]
      by_cases hw : whiteB c = true
      · rw [if_pos hw] at h
        rw [if_pos hw, if_pos hw, ih (i + 1) h]
      · rw [if_neg hw, if_neg hw]
theorem scan_shift (l : List Int) (i n : Nat) : scan (i + n) l = ((scan i l).1, (scan i l).2.map (· + n)) := by
  induction l generalizing i with
  | nil => simp [scan]
  | cons c l ih =>
    simp only [scan]
    have e : i + n + 1 = (i + 1) + n := by omega
    by_cases hd : (digB c).2 = true
    · rw [if_pos hd, if_pos hd, e, ih (i + 1)]
    · rw [if_neg hd, if_neg hd]
      by_cases hw : whiteB c = true
      · rw [if_pos hw, if_pos hw, e, ih (i + 1)]
      · rw [if_neg hw, if_neg hw]; simp
def nibs (a : List Int) : List Int := a.flatMap fun x => [x / 16, x % 16]
theorem digB_hex (v : Nat) (h : v < 16) : digB ((hexDig v).toNat : Int) = ((v : Int), true) := by
  have key : ∀ n : Fin 16, digB ((hexDig n.val).toNat : Int) = ((n.val : Int), true) := by decide +kernel
  exact key ⟨v, h⟩
theorem scan_hex (a : List Int) (hr : ∀ x ∈ a, 0 ≤ x ∧ x < 256) (i : Nat) : scan i (bytesOf ⟨(hexOf a).toArray⟩) = (nibs a, none) := by
  have e : bytesOf ⟨(hexOf a).toArray⟩ = (hexOf a).map (fun b => (b.toNat : Int)) := rfl
  rw [e]
  induction a generalizing i with
  | nil => rfl
  | cons x a ih =>
    obtain ⟨h0, h1⟩ := hr x (List.mem_cons_self ..)
    have e1 : (hexOf (x :: a)).map (fun b => (b.toNat : Int)) = ((hexDig (x.toNat / 16)).toNat : Int) :: ((hexDig (x.toNat % 16)).toNat : Int) :: (hexOf a).map (fun b => (b.toNat : Int)) := by
      simp [hexOf]
    rw [e1]
    simp only [scan, digB_hex _ (show x.toNat / 16 < 16 by omega), digB_hex _ (show x.toNat % 16 < 16 by omega), if_true]
    rw [ih (fun y hy => hr y (List.mem_cons_of_mem _ hy)) _ rfl]
    have e2 : nibs (x :: a) = x / 16 :: x % 16 :: nibs a := by simp [nibs]
    rw [e2]
    congr 2
    · omega
    · congr 1; omega
theorem pack_nibs (a l : List Int) : pack (nibs a ++ l) = a ++ pack l := by
  induction a with
  | nil => simp [nibs]
  | cons x a ih =>
    have e2 : nibs (x :: a) = x / 16 :: x % 16 :: nibs a := by simp [nibs]
    rw [e2]
    simp only [List.cons_append, pack]
    rw [ih]
    congr 1; omega
theorem pack_len (l : List Int) : (pack l).length = (l.length + 1) / 2 := by
  match l with
  | [] => rfl
  | [a] => simp [pack]
  | a :: b :: r => simp only [pack, List.length_cons, pack_len r]; omega
theorem scan_len (l : List Int) (i : Nat) : (scan i l).1.length ≤ l.length := by
  induction l generalizing i with
  | nil => simp [scan]
  | cons c r ih =>
    simp only [scan]
    split
    · simp only [List.length_cons]; have := ih (i + 1); omega
    · split
      · simp only [List.length_cons]; have := ih (i + 1); omega
      · simp
/-- A place that is told: within, no digit, no blank; what is ahead of it can be read. -/
theorem scan_bad (l : List Int) (i j : Nat) (h : (scan i l).2 = some j) : i ≤ j ∧ ∃ hj : j - i < l.length, (digB l[j - i]).2 = false ∧ whiteB l[j - i] = false ∧ (scan i (l.take (j - i))).2 = none := by
  induction l generalizing i with
  | nil => simp [scan] at h
  | cons c r ih =>
    simp only [scan] at h
    by_cases hd : (digB c).2 = true
    · rw [if_pos hd] at h
      obtain ⟨h1, hj, h2, h3, h4⟩ := ih (i + 1) h
      have e : j - i = (j - (i + 1)) + 1 := by omega
      refine ⟨by omega, by simp only [List.length_cons]; omega, ?_⟩
      simp only [e, List.getElem_cons_succ, List.take_succ_cons, scan, if_pos hd]
      exact ⟨h2, h3, h4⟩
    · rw [if_neg hd] at h
      by_cases hw : whiteB c = true
      · rw [if_pos hw] at h
        obtain ⟨h1, hj, h2, h3, h4⟩ := ih (i + 1) h
        have e : j - i = (j - (i + 1)) + 1 := by omega
        refine ⟨by omega, by simp only [List.length_cons]; omega, ?_⟩
        simp only [e, List.getElem_cons_succ, List.take_succ_cons, scan, if_neg hd, if_pos hw]
        exact ⟨h2, h3, h4⟩
      · rw [if_neg hw] at h
        obtain rfl : i = j := by simpa using h
        refine ⟨Nat.le_refl _, by simp, ?_⟩
        simp only [Nat.sub_self, List.getElem_cons_zero, List.take_zero, scan]
        exact ⟨by simpa using hd, by simpa using hw, trivial⟩
theorem bytesOf_extract (s : ByteArray) (j : Nat) : bytesOf (s.extract 0 j) = (bytesOf s).take j := by
  unfold bytesOf
  rw [ByteArray.data_extract]
  simp [List.map_take]

end Go.Proofs.Ytgdcgbbilgcihaa.Plain
