/- Plain laws on hex digits: what the program's and the reference's functions compute, as functions on lists. -/
import Derived.Test.YtgdcgbbilgcihaaPrint5
import Derived.Lib.LazyBuf
namespace Go.Proofs.Ytgdcgbbilgcihaa.Plain
open Go.RowKit Go.Proofs.Ytgdcgbbilgcihaa.Print Go.Proofs.YtgdcgbbilgcihaaW.PrintWords Go.Proofs.YtgdcgbbilgcihaaW.PrintLast

/-- A digit's value, and whether it is one. -/
def digB (c : Int) : Int × Bool := if 48 ≤ c ∧ c ≤ 57 then (c - 48, true) else if 65 ≤ c ∧ c ≤ 70 then (c - 55, true) else if 97 ≤ c ∧ c ≤ 102 then (c - 87, true) else (0, false)

theorem Ev.all {α : Type} {g : Nat → Option α} {r : α} (h : ∀ k, g (k + 1) = some r) : Ev g r := ⟨1, fun k hk => by obtain ⟨m, rfl⟩ : ∃ m, k = m + 1 := ⟨k - 1, by omega⟩; exact h m⟩

theorem idx_dig : ∀ n : Fin 23, (strings_IndexByte.f (⟨#[48, 49, 50, 51, 52, 53, 54, 55, 56, 57, 65, 66, 67, 68, 69, 70]⟩ : ByteArray) (((n.val : Int) + 48) % 256)).bind (fun t => some (mx t 0, decide (t ≥ 0))) = some (digB ((n.val : Int) + 48)) := by decide +kernel

theorem digit_one (k : Nat) (c : Int) : hex_Digit.f (k + 1) c = some (digB c) := by
  have key : ∀ c : Int, 48 ≤ c → c ≤ 70 → (strings_IndexByte.f (⟨#[48, 49, 50, 51, 52, 53, 54, 55, 56, 57, 65, 66, 67, 68, 69, 70]⟩ : ByteArray) (c % 256)).bind (fun t => some (mx t 0, decide (t ≥ 0))) = some (digB c) := by
    intro c h0 h1
    have h := idx_dig ⟨(c - 48).toNat, by omega⟩
    have e : (((⟨(c - 48).toNat, by omega⟩ : Fin 23).val : Int) + 48) = c := by simp; omega
    rw [e] at h; exact h
  unfold hex_Digit.f
  by_cases h1 : c ≥ 97
  · rw [if_pos h1]
    by_cases h2 : c ≤ 102
    · simp only [hex_Digit.j0, decide_eq_true h2, if_true]
      have ew : wrap64 (c - 32) = c - 32 := by unfold wrap64; omega
      rw [ew, if_neg (by omega), if_neg (by omega), key _ (by omega) (by omega)]
      unfold digB
      rw [if_neg (by omega), if_pos (by omega), if_neg (by omega), if_neg (by omega), if_pos (by omega)]
      simp; omega
    · simp only [hex_Digit.j0, decide_eq_false h2]
      rw [if_neg (by decide), if_neg (by omega), if_pos (by omega)]
      unfold digB
      rw [if_neg (by omega), if_neg (by omega), if_neg (by omega)]
  · rw [if_neg h1]
    simp only [hex_Digit.j0]
    rw [if_neg (by decide)]
    by_cases h2 : c < 48
    · rw [if_pos h2]; unfold digB; rw [if_neg (by omega), if_neg (by omega), if_neg (by omega)]
    · rw [if_neg h2]
      by_cases h3 : c > 70
      · rw [if_pos h3]; unfold digB; rw [if_neg (by omega), if_neg (by omega), if_neg (by omega)]
      · rw [if_neg h3]; exact key c (by omega) (by omega)
theorem digit_ev (c : Int) : Ev (fun k => hex_Digit.f k c) (digB c) := Ev.all fun k => digit_one k c

theorem ref_step (k : Nat) (c : Int) (v : Int) (h0 : 0 ≤ v) (h1 : v < 16) :
    hornbookref01_Digit.l0 (k + 1) c v = if c = (if v < 10 then 48 + v else 55 + v) ∨ (v > 9 ∧ c = 87 + v) then some (v, true) else hornbookref01_Digit.l0 k c (v + 1) := by
  have key : ∀ n : Fin 16, bt (⟨#[48, 49, 50, 51, 52, 53, 54, 55, 56, 57, 65, 66, 67, 68, 69, 70]⟩ : ByteArray) (n.val : Int) = if (n.val : Int) < 10 then 48 + (n.val : Int) else 55 + (n.val : Int) := by decide +kernel
  have e : bt (⟨#[48, 49, 50, 51, 52, 53, 54, 55, 56, 57, 65, 66, 67, 68, 69, 70]⟩ : ByteArray) v = if v < 10 then 48 + v else 55 + v := by
    have h := key ⟨v.toNat, by omega⟩
    have e : (((⟨v.toNat, by omega⟩ : Fin 16).val : Int)) = v := by simp; omega
    rw [e] at h; exact h
  have ew : wrap64 (v + 1) = v + 1 := by unfold wrap64; omega
  simp only [hornbookref01_Digit.l0]
  rw [if_pos h1, if_pos h0, e, ew]
  by_cases h9 : v < 10
  · simp only [if_pos h9]
    rw [show wrap64 (48 + v) = 48 + v by unfold wrap64; omega, if_neg (show ¬ v > 9 by omega)]
    by_cases hc : c = 48 + v
    · rw [if_pos hc, if_pos (.inl hc)]
    · rw [if_neg hc, if_neg (by omega)]
  · simp only [if_neg h9]
    rw [show wrap64 (55 + v) = 55 + v by unfold wrap64; omega, show wrap64 (55 + v + 32) = 87 + v by unfold wrap64; omega, if_pos (show v > 9 by omega)]
    by_cases hc : c = 55 + v
    · rw [if_pos hc, if_pos (.inl hc)]
    · rw [if_neg hc]
      by_cases hd : c = 87 + v
      · rw [if_pos hd, if_pos (.inr ⟨by omega, hd⟩)]
      · rw [if_neg hd, if_neg (by omega)]
theorem ref_from (c : Int) (d : Nat) : ∀ (k : Nat) (v : Int), 0 ≤ v → 16 - v = d → d < k →
    hornbookref01_Digit.l0 k c v = some (if (v ≤ c - 48 ∧ c ≤ 57 ∧ v < 16) then (c - 48, true) else if (65 ≤ c ∧ v ≤ c - 55 ∧ c ≤ 70) then (c - 55, true) else if (97 ≤ c ∧ v ≤ c - 87 ∧ c ≤ 102) then (c - 87, true) else (0, false)) := by
  induction d with
  | zero =>
    intro k v h0 hd hk
    obtain ⟨k, rfl⟩ : ∃ m, k = m + 1 := ⟨k - 1, by omega⟩
    simp only [hornbookref01_Digit.l0]
    rw [if_neg (by omega), if_neg (by omega), if_neg (by omega), if_neg (by omega)]
  | succ d ih =>
    intro k v h0 hd hk
    obtain ⟨k, rfl⟩ : ∃ m, k = m + 1 := ⟨k - 1, by omega⟩
    rw [ref_step k c v h0 (by omega)]
    by_cases hc : c = (if v < 10 then 48 + v else 55 + v) ∨ (v > 9 ∧ c = 87 + v)
    · rw [if_pos hc]
      by_cases h9 : v < 10
      · rw [if_pos h9] at hc
        have : c = 48 + v := by omega
        rw [if_pos (by omega)]; subst this; congr 2; omega
      · rw [if_neg h9] at hc
        rcases hc with hc | ⟨_, hc⟩
        · rw [if_neg (by omega), if_pos (by omega)]; subst hc; congr 2; omega
        · rw [if_neg (by omega), if_neg (by omega), if_pos (by omega)]; subst hc; congr 2; omega
    · rw [if_neg hc, ih k (v + 1) (by omega) (by omega) (by omega)]
      by_cases h9 : v < 10
      · rw [if_pos h9] at hc
        by_cases a : v + 1 ≤ c - 48 ∧ c ≤ 57 ∧ v + 1 < 16
        · rw [if_pos a, if_pos (by omega)]
        · rw [if_neg a, if_neg (show ¬ (v ≤ c - 48 ∧ c ≤ 57 ∧ v < 16) by omega)]
          by_cases b : 65 ≤ c ∧ v + 1 ≤ c - 55 ∧ c ≤ 70
          · rw [if_pos b, if_pos (by omega)]
          · rw [if_neg b, if_neg (show ¬ (65 ≤ c ∧ v ≤ c - 55 ∧ c ≤ 70) by omega)]
            by_cases e : 97 ≤ c ∧ v + 1 ≤ c - 87 ∧ c ≤ 102
            · rw [if_pos e, if_pos (by omega)]
            · rw [if_neg e, if_neg (by omega)]
      · rw [if_neg h9] at hc
        rw [if_neg (show ¬ (v + 1 ≤ c - 48 ∧ c ≤ 57 ∧ v + 1 < 16) by omega), if_neg (show ¬ (v ≤ c - 48 ∧ c ≤ 57 ∧ v < 16) by omega)]
        by_cases b : 65 ≤ c ∧ v + 1 ≤ c - 55 ∧ c ≤ 70
        · rw [if_pos b, if_pos (by omega)]
        · rw [if_neg b, if_neg (show ¬ (65 ≤ c ∧ v ≤ c - 55 ∧ c ≤ 70) by omega)]
          by_cases e : 97 ≤ c ∧ v + 1 ≤ c - 87 ∧ c ≤ 102
          · rw [if_pos e, if_pos (by omega)]
          · rw [if_neg e, if_neg (by omega)]
theorem ref_digit (c : Int) (k : Nat) (hk : 17 ≤ k) : hornbookref01_Digit.f k c = some (digB c) := by
  unfold hornbookref01_Digit.f
  rw [ref_from c 16 k 0 (by omega) (by omega) (by omega)]
  congr 1
  unfold digB
  by_cases a : 48 ≤ c ∧ c ≤ 57
  · rw [if_pos a, if_pos (by omega)]
  · rw [if_neg a, if_neg (by omega)]
    by_cases b : 65 ≤ c ∧ c ≤ 70
    · rw [if_pos b, if_pos (by omega)]
    · rw [if_neg b, if_neg (by omega)]
      by_cases e : 97 ≤ c ∧ c ≤ 102
      · rw [if_pos e, if_pos (by omega)]
      · rw [if_neg e, if_neg (by omega)]
theorem ref_digit_ev (c : Int) : Ev (fun k => hornbookref01_Digit.f k c) (digB c) := ⟨17, fun k hk => ref_digit c k hk⟩
theorem ref_white (c : Int) : hornbookref01_White.f c = some (whiteB c) := by
  unfold hornbookref01_White.f whiteB
  by_cases h0 : c = 0
  · rw [if_pos h0]; simp [h0]
  rw [if_neg h0]
  by_cases h1 : c = 9
  · rw [if_pos h1]; simp [h1]
  rw [if_neg h1]
  by_cases h2 : c = 10
  · rw [if_pos h2]; simp [h2]
  rw [if_neg h2]
  by_cases h3 : c = 12
  · rw [if_pos h3]; simp [h3]
  rw [if_neg h3]
  by_cases h4 : c = 13
  · rw [if_pos h4]; simp [h4]
  rw [if_neg h4]
  by_cases h5 : c = 32
  · simp [h5]
  simp [h0, h1, h2, h3, h4, h5]
theorem digB_range (c : Int) : 0 ≤ (digB c).1 ∧ (digB c).1 < 16 := by
  unfold digB; split
  · simp; omega
  · split
    · simp; omega
    · split
      · simp; omega
      · simp

/-- The digits ahead of the first byte that is neither digit nor blank, and that byte's place. -/
def scan : Nat → List Int → List Int × Option Nat
  | _, [] => ([], none)
  | i, c :: r => if (digB c).2 = true then ((digB c).1 :: (scan (i + 1) r).1, (scan (i + 1) r).2) else if whiteB c = true then scan (i + 1) r else ([], some i)
def pack : List Int → List Int
  | [] => []
  | [a] => [16 * a]
  | a :: b :: r => (16 * a + b) :: pack r
def unhexL (s : ByteArray) : List Int × Int × Int :=
  match (scan 0 (bytesOf s)).2 with
  | none => (pack (scan 0 (bytesOf s)).1, (s.size : Int), 0)
  | some j => ([], (j : Int), 1)

theorem bits_or (a d : Int) (h0 : 0 ≤ a) (h1 : a < 16) (h2 : 0 ≤ d) (h3 : d < 16) : Go.bits .or .u8 (16 * a) (d % 256) = 16 * a + d := by
  have key : ∀ a d : Fin 16, Go.bits .or .u8 (16 * (a.val : Int)) ((d.val : Int) % 256) = 16 * (a.val : Int) + (d.val : Int) := by decide +kernel
  have h := key ⟨a.toNat, by omega⟩ ⟨d.toNat, by omega⟩
  have ea : (((⟨a.toNat, by omega⟩ : Fin 16).val : Int)) = a := by simp; omega
  have ed : (((⟨d.toNat, by omega⟩ : Fin 16).val : Int)) = d := by simp; omega
  rw [ea, ed] at h; exact h
theorem bt_drop (s : ByteArray) (i : Nat) (h : i < s.size) : (bytesOf s).drop i = bt s i :: (bytesOf s).drop (i + 1) := by
  have hl : i < (bytesOf s).length := by rw [bytesOf_length]; exact h
  rw [List.drop_eq_getElem_cons hl, ← rd_bytesOf]
  congr 1
  unfold rd; rw [List.getD_eq_getElem?_getD, Int.toNat_natCast, List.getElem?_eq_getElem hl]; rfl
theorem wrap_bt (s : ByteArray) (i : Int) : wrap64 (bt s i) = bt s i := by have := bt_range s i; unfold wrap64; omega

/-- What the loop of the program comes to: digits that are still to come behind those that are packed. -/
def rest (r : List Int × Option Nat) (n : Nat) (o : List Int) : List Int × Int × Int :=
  match r.2 with
  | none => (o ++ pack r.1, (n : Int), 0)
  | some j => ([], (j : Int), 1)
def restA (r : List Int × Option Nat) (n : Nat) (o : List Int) (a : Int) : List Int × Int × Int :=
  match r.2 with
  | none => (o ++ pack (a :: r.1), (n : Int), 0)
  | some j => ([], (j : Int), 1)
theorem rest_cons (x : Int) (l : List Int) (m : Option Nat) (n : Nat) (o : List Int) : rest (x :: l, m) n o = restA (l, m) n o x := by
  unfold rest restA; cases m <;> rfl
theorem restA_cons (x : Int) (l : List Int) (m : Option Nat) (n : Nat) (o : List Int) (a : Int) : restA (x :: l, m) n o a = rest (l, m) n (o ++ [16 * a + x]) := by
  unfold rest restA; cases m
  · simp [pack]
  · rfl

theorem unhex_loop (s : ByteArray) (hs : s.size ≤ 1000000000) (d : Nat) : ∀ (i : Nat), i + d = s.size → 
    (∀ o : List Int, o.length ≤ i → Ev (fun k => hex_UnHex.l0 k s o true (s.size : Int) (i : Int)) (rest (scan i ((bytesOf s).drop i)) s.size o)) ∧
    (∀ (o : List Int) (a : Int), o.length ≤ i → 0 ≤ a → a < 16 → Ev (fun k => hex_UnHex.l0 k s (o ++ [16 * a]) false (s.size : Int) (i : Int)) (restA (scan i ((bytesOf s).drop i)) s.size o a)) := by
  induction d with
  | zero =>
    intro i hi
    have e : (bytesOf s).drop i = [] := by rw [List.drop_eq_nil_iff, bytesOf_length]; omega
    rw [e]
    constructor
    · intro o ho
      refine Ev.all fun k => ?_
      simp only [hex_UnHex.l0]; rw [if_neg (by omega)]; simp [rest, scan, pack]
    · intro o a ho h0 h1
      refine Ev.all fun k => ?_
      simp only [hex_UnHex.l0]; rw [if_neg (by omega)]; simp [restA, scan, pack]
  | succ d ih =>
    intro i hi
    have hlt : i < s.size := by omega
    obtain ⟨ih1, ih2⟩ := ih (i + 1) (by omega)
    rw [bt_drop s i hlt]
    have ew : wrap64 ((i : Int) + 1) = ((i + 1 : Nat) : Int) := by unfold wrap64; omega
    have hr := digB_range (bt s i)
    simp only [scan]
    constructor
    · intro o ho
      refine Ev.step (fun k => by simp only [hex_UnHex.l0]; rw [if_pos (by omega), if_pos (by omega), if_pos (by omega), wrap_bt]) ?_
      refine Ev.bind (digit_ev (bt s i)) ?_
      by_cases hd : (digB (bt s i)).2 = true
      · simp only [hd, if_true]
        refine Ev.step (fun k => by simp only [hex_UnHex.j1]; rw [if_neg (by decide), if_pos trivial, if_pos trivial, if_pos (by omega), ew]) ?_
        rw [rest_cons]
        have e1 : (wrap64 ((digB (bt s i)).1 * 16)) % 256 = 16 * (digB (bt s i)).1 := by unfold wrap64; omega
        rw [e1]
        exact ih2 o _ (by omega) hr.1 hr.2
      · simp only [if_neg hd]
        refine Ev.bind (Ev.now (whiteB (bt s i))) ?_
        by_cases hw : whiteB (bt s i) = true
        · rw [if_pos hw]
          refine Ev.step (fun k => by simp only [hex_UnHex.j1]; rw [if_pos hw, ew]) ?_
          exact ih1 o (by omega)
        · rw [if_neg hw]
          refine Ev.step (fun k => by simp only [hex_UnHex.j1]; rw [if_neg hw, if_neg hd]) ?_
          exact Ev.now _
    · intro o a ho h0 h1
      refine Ev.step (fun k => by simp only [hex_UnHex.l0]; rw [if_pos (by omega), if_pos (by omega), if_pos (by omega), wrap_bt]) ?_
      refine Ev.bind (digit_ev (bt s i)) ?_
      by_cases hd : (digB (bt s i)).2 = true
      · simp only [hd, if_true]
        have el : wrap64 ((((o ++ [16 * a]).length : Nat) : Int) - 1) = (o.length : Int) := by rw [List.length_append]; simp only [List.length_cons, List.length_nil]; unfold wrap64; omega
        have er : rd (o ++ [16 * a]) (o.length : Int) = 16 * a := by simp [rd]
        have es : ∀ x : Int, (o ++ [16 * a]).set ((o.length : Int)).toNat x = o ++ [x] := by intro x; simp
        refine Ev.step (fun k => by simp only [hex_UnHex.j1]; rw [if_neg (by decide), if_pos trivial, if_neg (by decide), el, if_pos (by omega), if_pos (by rw [List.length_append]; simp only [List.length_cons, List.length_nil]; omega), er, es, bits_or a _ h0 h1 hr.1 hr.2, ew]) ?_
        rw [restA_cons]
        exact ih1 (o ++ [16 * a + (digB (bt s i)).1]) (by rw [List.length_append]; simp only [List.length_cons, List.length_nil]; omega)
      · simp only [if_neg hd]
        refine Ev.bind (Ev.now (whiteB (bt s i))) ?_
        by_cases hw : whiteB (bt s i) = true
        · rw [if_pos hw]
          refine Ev.step (fun k => by simp only [hex_UnHex.j1]; rw [if_pos hw, ew]) ?_
          exact ih2 o a (by omega) h0 h1
        · rw [if_neg hw]
          refine Ev.step (fun k => by simp only [hex_UnHex.j1]; rw [if_neg hw, if_neg hd]) ?_
          exact Ev.now _
theorem unhex_ev (s : ByteArray) (hs : s.size ≤ 1000000000) : Ev (fun k => hex_UnHex.f k s) (unhexL s) := by
  have h := (unhex_loop s hs s.size 0 (by omega)).1 [] (by simp)
  unfold hex_UnHex.f unhexL
  have e : rest (scan 0 ((bytesOf s).drop 0)) s.size [] = (match (scan 0 (bytesOf s)).2 with
    | none => (pack (scan 0 (bytesOf s)).1, (s.size : Int), 0)
    | some j => ([], (j : Int), 1)) := by unfold rest; simp
  rw [← e]; exact h

theorem rd_at (l : List Int) (i : Nat) (h : i < l.length) : rd l (i : Int) = l[i] := by
  unfold rd; rw [List.getD_eq_getElem?_getD, Int.toNat_natCast, List.getElem?_eq_getElem h]; rfl
/-- The reference's packing, of an even number of digits. -/
theorem ref_pack (s : ByteArray) (l : List Int) (hl : l.length ≤ 1000000000) (hr : ∀ x ∈ l, 0 ≤ x ∧ x < 16) (he : l.length % 2 = 0) (d : Nat) : ∀ (i : Nat) (o : List Int), i + 2 * d = l.length → o.length ≤ i →
    Ev (fun k => hornbookref01_UnHex.l1 k s l o (i : Int)) (o ++ pack (l.drop i), (s.size : Int), 0) := by
  induction d with
  | zero =>
    intro i o hi ho
    refine Ev.all fun k => ?_
    simp only [hornbookref01_UnHex.l1]
    rw [if_neg (by unfold wrap64; omega), List.drop_of_length_le (by omega)]
    simp [pack]
  | succ d ih =>
    intro i o hi ho
    have h1 : i < l.length := by omega
    have h2 : i + 1 < l.length := by omega
    have ew : wrap64 ((i : Int) + 1) = ((i + 1 : Nat) : Int) := by unfold wrap64; omega
    have ew2 : wrap64 ((i : Int) + 2) = ((i + 2 : Nat) : Int) := by unfold wrap64; omega
    have b1 := hr _ (List.getElem_mem h1)
    have b2 := hr _ (List.getElem_mem h2)
    have e3 : (wrap64 (wrap64 (16 * rd l (i : Int)) + rd l ((i + 1 : Nat) : Int))) % 256 = 16 * l[i] + l[i + 1] := by rw [rd_at l i h1, rd_at l (i + 1) h2]; unfold wrap64; omega
    refine Ev.step (fun k => by simp only [hornbookref01_UnHex.l1]; rw [ew, if_pos (by omega), if_pos (by omega), if_pos (by omega), if_pos (by omega), if_pos (by omega), e3, ew2]) ?_
    have e4 : o ++ pack (l.drop i) = (o ++ [16 * l[i] + l[i + 1]]) ++ pack (l.drop (i + 2)) := by
      rw [List.drop_eq_getElem_cons h1, List.drop_eq_getElem_cons h2]; simp [pack]
    rw [e4]
    exact ih (i + 2) _ (by omega) (by rw [List.length_append]; simp only [List.length_cons, List.length_nil]; omega)
theorem pack_zero (l : List Int) : l.length % 2 = 1 → pack (l ++ [0]) = pack l := by
  match l with
  | [] => intro h; simp at h
  | [a] => intro _; simp [pack]
  | a :: b :: r => intro h; simp only [List.cons_append, pack, pack_zero r (by simp only [List.length_cons] at h; omega)]
theorem ref_end (s : ByteArray) (l : List Int) (hl : l.length ≤ 100000000) (hr : ∀ x ∈ l, 0 ≤ x ∧ x < 16) :
    Ev (fun k => (if ((l.length : Int) % 2) = 1 then (if l.length < 17592186044416 then (hornbookref01_UnHex.j2 k s (l ++ [0])) else (none)) else (hornbookref01_UnHex.j2 k s l))) (pack l, (s.size : Int), 0) := by
  by_cases ho : ((l.length : Int) % 2) = 1
  · refine Ev.congr (fun k => by rw [if_pos ho, if_pos (by omega)]) ?_
    refine Ev.step (fun k => by simp only [hornbookref01_UnHex.j2]; rfl) ?_
    have h := ref_pack s (l ++ [0]) (by rw [List.length_append]; simp only [List.length_cons, List.length_nil]; omega) (fun x hx => by
      rcases List.mem_append.1 hx with hx | hx
      · exact hr x hx
      · simp at hx; subst hx; omega) (by rw [List.length_append]; simp only [List.length_cons, List.length_nil]; omega) ((l.length + 1) / 2) 0 [] (by rw [List.length_append]; simp only [List.length_cons, List.length_nil]; omega) (by simp)
    rw [List.drop_zero, pack_zero l (by omega), List.nil_append] at h
    exact h
  · refine Ev.congr (fun k => by rw [if_neg ho]) ?_
    refine Ev.step (fun k => by simp only [hornbookref01_UnHex.j2]; rfl) ?_
    have h := ref_pack s l (by omega) hr (by omega) (l.length / 2) 0 [] (by omega) (by simp)
    rw [List.drop_zero, List.nil_append] at h
    exact h
def refRest (r : List Int × Option Nat) (n : Nat) (l : List Int) : List Int × Int × Int :=
  match r.2 with
  | none => (pack (l ++ r.1), (n : Int), 0)
  | some j => ([], (j : Int), 1)
theorem ref_loop (s : ByteArray) (hs : s.size ≤ 10000000) (d : Nat) : ∀ (i : Nat) (l : List Int), i + d = s.size → l.length ≤ i → (∀ x ∈ l, 0 ≤ x ∧ x < 16) →
    Ev (fun k => hornbookref01_UnHex.l0 k s l (i : Int)) (refRest (scan i ((bytesOf s).drop i)) s.size l) := by
  induction d with
  | zero =>
    intro i l hi hl hr
    have e : (bytesOf s).drop i = [] := by rw [List.drop_eq_nil_iff, bytesOf_length]; omega
    rw [e]
    refine Ev.step (fun k => by simp only [hornbookref01_UnHex.l0]; rw [if_neg (by omega)]) ?_
    have h := ref_end s l (by omega) hr
    simpa [refRest, scan] using h
  | succ d ih =>
    intro i l hi hl hr
    have hlt : i < s.size := by omega
    have ew : wrap64 ((i : Int) + 1) = ((i + 1 : Nat) : Int) := by unfold wrap64; omega
    have hb := digB_range (bt s i)
    rw [bt_drop s i hlt]
    simp only [scan]
    refine Ev.step (fun k => by simp only [hornbookref01_UnHex.l0]; rw [if_pos (by omega), if_pos (by omega), wrap_bt]) ?_
    refine Ev.bind (ref_digit_ev (bt s i)) ?_
    by_cases hd : (digB (bt s i)).2 = true
    · simp only [hd, if_true]
      refine Ev.step (fun k => by simp only [hornbookref01_UnHex.j1]; rw [if_neg (by decide), if_pos trivial, if_pos (by omega), ew]) ?_
      have h := ih (i + 1) (l ++ [(digB (bt s i)).1]) (by omega) (by rw [List.length_append]; simp only [List.length_cons, List.length_nil]; omega) (fun x hx => by
        rcases List.mem_append.1 hx with hx | hx
        · exact hr x hx
        · simp at hx; subst hx; exact hb)
      have e : refRest ((digB (bt s i)).1 :: (scan (i + 1) ((bytesOf s).drop (i + 1))).1, (scan (i + 1) ((bytesOf s).drop (i + 1))).2) s.size l = refRest (scan (i + 1) ((bytesOf s).drop (i + 1))) s.size (l ++ [(digB (bt s i)).1]) := by
        unfold refRest; simp only; split <;> simp
      rw [e]; exact h
    · simp only [if_neg hd]
      refine Ev.bind (f := fun k t => hornbookref01_UnHex.j1 k s l i (digB (bt s i)).1 (digB (bt s i)).2 (!t)) (a := whiteB (bt s i)) ?_ ?_
      · exact Ev.congr (fun k => ref_white _) (Ev.now _)
      by_cases hw : whiteB (bt s i) = true
      · rw [if_pos hw]
        refine Ev.step (fun k => by simp only [hornbookref01_UnHex.j1, hw, Bool.not_true]; rw [if_neg (by decide), if_neg hd, ew]) ?_
        exact ih (i + 1) l (by omega) (by omega) hr
      · rw [if_neg hw]
        have hw' : whiteB (bt s i) = false := by simpa using hw
        refine Ev.step (fun k => by simp only [hornbookref01_UnHex.j1, hw', Bool.not_false, if_true]; rfl) ?_
        exact Ev.now _
theorem ref_unhex_ev (s : ByteArray) (hs : s.size ≤ 10000000) : Ev (fun k => hornbookref01_UnHex.f k s) (unhexL s) := by
  have h := ref_loop s hs s.size 0 [] (by omega) (by simp) (by simp)
  have e : refRest (scan 0 ((bytesOf s).drop 0)) s.size [] = unhexL s := by unfold refRest unhexL; simp
  rw [e] at h; exact h

theorem ref_hex_loop (l : List Int) (hl : l.length ≤ 1000000) (hr : ∀ x ∈ l, 0 ≤ x ∧ x < 256) (d : Nat) : ∀ (i : Nat) (o : List Int), i + d = l.length → o.length = 2 * i → o = (hexOf (l.take i)).map (fun b => (b.toNat : Int)) →
    Ev (fun k => hornbookref01_Hex.l0 k l o (i : Int)) (strOfNums ((hexOf l).map (fun b => (b.toNat : Int)))) := by
  induction d with
  | zero =>
    intro i o hi ho he
    refine Ev.all fun k => ?_
    simp only [hornbookref01_Hex.l0]
    rw [if_neg (by omega), he, List.take_of_length_le (by omega)]
  | succ d ih =>
    intro i o hi ho he
    have h1 : i < l.length := by omega
    have b1 := hr _ (List.getElem_mem h1)
    have ew : wrap64 ((i : Int) + 1) = ((i + 1 : Nat) : Int) := by unfold wrap64; omega
    have eq1 : (Int.tdiv (rd l (i : Int)) 16) % 256 = l[i] / 16 := by rw [rd_at l i h1, Int.tdiv_eq_ediv_of_nonneg b1.1]; omega
    have eq2 : Int.tmod (rd l (i : Int)) 16 = l[i] % 16 := by rw [rd_at l i h1, Int.tmod_eq_emod_of_nonneg b1.1]
    have q1 : 0 ≤ l[i] / 16 := by omega
    have q2 : l[i] / 16 < 16 := by omega
    have q3 : 0 ≤ l[i] % 16 := by omega
    have q4 : l[i] % 16 < 16 := by omega
    refine Ev.step (fun k => by simp only [hornbookref01_Hex.l0, eq1, eq2]; rw [if_pos (by omega), if_pos (by omega), if_pos q1, if_pos q2, if_pos q3, if_pos q4, Option.bind_some, if_pos (by simp only [List.length_cons, List.length_nil]; omega), ew]) ?_
    refine ih (i + 1) _ (by omega) (by rw [List.length_append]; simp only [List.length_cons, List.length_nil]; omega) ?_
    rw [he, bt_dig _ q1 q2, bt_dig _ q3 q4, List.take_succ_eq_append_getElem h1, hexOf_append, List.map_append]
    congr 1
    have t1 : (l[i] / 16).toNat = l[i].toNat / 16 := by omega
    have t2 : (l[i] % 16).toNat = l[i].toNat % 16 := by omega
    rw [t1, t2]; simp [hexOf]
theorem ref_hex_ev (l : List Int) (hl : l.length ≤ 1000000) (hr : ∀ x ∈ l, 0 ≤ x ∧ x < 256) : Ev (fun k => hornbookref01_Hex.f k l) ⟨(hexOf l).toArray⟩ := by
  have h := ref_hex_loop l hl hr l.length 0 [] (by omega) (by simp) (by simp [hexOf])
  rw [Lib.Lz.strOfNums_map] at h
  exact h
theorem hex_ev (l : List Int) (hl : l.length ≤ 1000000) (hr : ∀ x ∈ l, 0 ≤ x ∧ x < 256) : hex_Hex.f l = some ⟨(hexOf l).toArray⟩ := by
  unfold hex_Hex.f; rw [if_pos ⟨hr, hl⟩]
theorem wf_u8 {x : Int} (h : (Lit.int .u8 x).wf = true) : 0 ≤ x ∧ x < 256 := by
  simp [Lit.wf, IntKind.min, IntKind.max, IntKind.bits, IntKind.signed] at h; omega
end Go.Proofs.Ytgdcgbbilgcihaa.Plain
