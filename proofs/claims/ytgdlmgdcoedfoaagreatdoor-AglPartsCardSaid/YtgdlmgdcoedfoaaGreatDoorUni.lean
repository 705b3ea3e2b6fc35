/- agl.Base, Parts, Uni, Text. -/
import Derived.Test.YtgdlmgdcoedfoaaGreatDoorWays
import Derived.Test.YtgdlmgdcoedfoaaGreatDoorText2
import Derived.Lib.SplitLaws
namespace Go.Proofs.YtgdlmgdcoedfoaaGreatDoor.Agl
open Go.RowKit Go.Proofs.YtgdlmgdcoedfoaaGreatDoorW.PrintWords Go.Proofs.YtgdlmgdcoedfoaaGreatDoorW.PrintLast Go.Proofs.YtgdlmgdcoedfoaaGreatDoorW.PrintMore
set_option linter.unusedVariables false
set_option linter.unusedSimpArgs false

/-- The pieces between "_". -/
def spl : List UInt8 → List (List UInt8)
  | [] => [[]]
  | c :: l => if c = 95 then [] :: spl l else match spl l with | [] => [[c]] | h :: t => (c :: h) :: t
theorem spl_pos : ∀ l, spl l ≠ []
  | [] => by simp [spl]
  | c :: l => by
    unfold spl
    split
    · simp
    · split <;> simp
theorem index95_cons (c : UInt8) (l : List UInt8) (h : c ≠ 95) : Lib.index (c :: l) [95] = if Lib.index l [95] == -1 then -1 else Lib.index l [95] + 1 := by
  have : ¬ ([95] : List UInt8).isPrefixOf (c :: l) = true := by
    intro hp; simp [List.isPrefixOf] at hp; exact h hp.symm
  rw [Lib.index, if_neg this]
theorem splitK_spl : ∀ l : List UInt8, Lib.splitK [95] 0 (l.count 95) l = spl l
  | [] => rfl
  | c :: l => by
    have ih := splitK_spl l
    by_cases h : c = 95
    · subst h
      rw [List.count_cons_self, Lib.splitK]
      have : Lib.index (95 :: l) [95] = 0 := by rw [Lib.index, if_pos (by simp [List.isPrefixOf])]
      rw [this, if_neg (by decide)]
      unfold spl
      rw [if_pos rfl, ← ih]; rfl
    · have hc : List.count 95 (c :: l) = List.count 95 l := List.count_cons_of_ne h
      rw [hc]
      unfold spl
      rw [if_neg h, ← ih]
      cases hk : List.count 95 l with
      | zero => rfl
      | succ k =>
        rw [Lib.splitK, Lib.splitK, index95_cons c l h]
        by_cases hm : (Lib.index l [95] == -1) = true
        · simp only [if_pos hm]; rfl
        · have hg := Lib.index_ge l [95]
          have hm2 : Lib.index l [95] ≠ -1 := fun h => hm (by rw [h]; rfl)
          simp only [if_neg hm]
          rw [if_neg (by rw [beq_iff_eq]; omega)]
          rw [show (Lib.index l [95] + 1).toNat = (Lib.index l [95]).toNat + 1 by omega]
          rfl
def baseL (n : List UInt8) : List UInt8 := n.takeWhile (· != 46)
def partsL (n : List UInt8) : List (List UInt8) := if baseL n = [] then [] else spl (baseL n)
def asB (l : List UInt8) : ByteArray := ⟨l.toArray⟩
def partsB (n : List UInt8) : List ByteArray := (partsL n).map asB
theorem splitB_spl (s : ByteArray) : Lib.splitB ⟨#[95]⟩ 0 (Lib.countB s ⟨#[95]⟩) s = (spl s.data.toList).map asB := by
  have h := Lib.splitB_data ⟨#[95]⟩ 0 (Lib.countB s ⟨#[95]⟩) s
  have hc : Lib.countB s ⟨#[95]⟩ = s.data.toList.count 95 := Lib.count_one 95 s.data.toList
  rw [hc, show (⟨#[95]⟩ : ByteArray).data.toList = [95] from rfl, splitK_spl] at h
  rw [hc, ← h, List.map_map]
  conv => lhs; rw [← List.map_id (Lib.splitB _ _ _ _)]
  apply List.map_congr_left
  intro x _
  rfl
theorem row_new (W : World) (l : List ByteArray) (hl : l.length ≤ 9223372036854775807) : Kd.R Kd.string 9 (W.alloc (.cells (l.map Value.string).toArray 9)) W.heap.size (fun _ => True) (.slice (some ⟨W.heap.size, 0, none⟩) l.length l.length) l := by
  refine ⟨fun _ _ => trivial, l.map Value.string, ?_, reps_str _ _⟩
  have h := World.ownsRow_lit (base := W.heap.size) (e := 9) (size := 1) W (l.map Value.string).toArray l.length (Nat.le_refl _) (by simpa [maxLen] using hl) (by simp)
  simp only [List.toList_toArray] at h
  exact h
theorem cut30 (t sep : ByteArray) (W : World) (hl : Laid W) (ht : t.size < 4294967281) : Calls Tryz.prog 30 #[.string t, .string sep] W fun e w' => e = .returned (.tuple #[.string ⟨(Lib.cut t.data.toList sep.data.toList).1.toArray⟩, .string ⟨(Lib.cut t.data.toList sep.data.toList).2.1.toArray⟩, .bool (Lib.cut t.data.toList sep.data.toList).2.2]) ∧ Below W.heap.size W w' := by
  obtain ⟨m, hm⟩ := hl.maxLen
  refine (Tryz.strings_Cut t sep m W ht hm).mono ?_
  rintro e w' ⟨rfl, n, rfl⟩
  exact ⟨rfl, pw_below_drewN (Below.refl _ _) n⟩
theorem split31 (s : ByteArray) (W : World) (hl : Laid W) (hs : s.size ≤ 100000) : Calls Tryz.prog 31 #[.string s, .string ⟨#[95]⟩] W fun e w' => ∃ v, e = .returned v ∧ Kd.R Kd.string 9 w' W.heap.size (fun _ => True) v ((spl s.data.toList).map asB) ∧ Below W.heap.size W w' := by
  obtain ⟨m, hm⟩ := hl.maxLen
  have hlen := Lib.splitB_all ⟨#[95]⟩ (by decide) 0 _ s rfl
  have hcl := Lib.countB_le ⟨#[95]⟩ (by decide) s.size s (Nat.le_refl _)
  refine (Tryz.strings_Split s ⟨#[95]⟩ m W (by omega) hm (by decide)).mono ?_
  rintro e w' ⟨rfl, rfl⟩
  refine ⟨_, rfl, ?_, Below.alloc (Below.refl _ _) (Nat.le_refl _) _⟩
  have h := row_new W (Lib.splitB ⟨#[95]⟩ 0 (Lib.countB s ⟨#[95]⟩) s) (by rw [hlen]; omega)
  rw [hlen] at h
  rw [← splitB_spl]
  exact h
set_option maxHeartbeats 400000 in
set_option maxRecDepth 100000 in
theorem base10 (s : ByteArray) (w : World) (hs : s.size ≤ 100000) (hL : Laid w) :
    Calls Tryz.prog 10 #[.string s] w fun e W' => e = .returned (.string (asB (baseL s.data.toList))) ∧ Below w.heap.size w W' := by
  have C := Aside0.mk (cut30 s ⟨#[46]⟩ w hL (by omega))
  rw [show (⟨#[46]⟩ : ByteArray).data.toList = [46] from rfl, cut_one] at C
  have hb : (⟨(s.data.toList.takeWhile (· != 46)).toArray⟩ : ByteArray) = asB (baseL s.data.toList) := rfl
  rw [hb] at C
  obtain ⟨b, hb⟩ : ∃ b, asB (baseL s.data.toList) = b := ⟨_, rfl⟩
  obtain ⟨b2, hb2⟩ : ∃ b : ByteArray, (⟨(Lib.cut s.data.toList [46]).2.1.toArray⟩ : ByteArray) = b := ⟨_, rfl⟩
  obtain ⟨b3, hb3⟩ : ∃ b, (Lib.cut s.data.toList [46]).2.2 = b := ⟨_, rfl⟩
  rw [hb, hb2, hb3] at C
  rw [hb]
  clear hb hb2 hb3 hL hs
  go_enter Tryz.func10, Tryz.ntmps10
  go_wp2_with (go_at_call 30; refine C.out.mono ?_; rintro e W1 ⟨rfl, hb⟩; have HB := Aside0.mk hb; clear hb)
  go_ret
  exact ⟨rfl, HB.out⟩
theorem baseL_len (n : List UInt8) : (baseL n).length ≤ n.length := (List.takeWhile_sublist _).length_le
set_option maxHeartbeats 400000 in
set_option maxRecDepth 100000 in
theorem parts13 (s : ByteArray) (w : World) (hs : s.size ≤ 100000) (hL : Laid w) :
    Calls Tryz.prog 13 #[.string s] w fun e W' => ∃ v, e = .returned v ∧ Kd.R Kd.string 9 W' w.heap.size (fun _ => True) v (partsB s.data.toList) ∧ Below w.heap.size w W' := by
  have B := Aside0.mk (base10 s w hs hL)
  have HL := Aside0.mk hL
  have hP : partsB s.data.toList = (if baseL s.data.toList = [] then [] else spl (baseL s.data.toList)).map asB := rfl
  have hbl := baseL_len s.data.toList
  rw [data_length] at hbl
  obtain ⟨b, hb⟩ : ∃ b, asB (baseL s.data.toList) = b := ⟨_, rfl⟩
  have hbd : baseL s.data.toList = b.data.toList := by rw [← hb]; rfl
  rw [hbd] at hP hbl
  rw [hb] at B
  obtain ⟨P, hPP⟩ : ∃ P, partsB s.data.toList = P := ⟨_, rfl⟩
  rw [hPP] at hP ⊢
  have S := Aside0.mk (fun W hl => split31 b W hl (by rw [← data_length]; omega))
  clear hb hbd hbl hPP hL hs
  go_enter Tryz.func13, Tryz.ntmps13
  by_cases h0 : b.data.toList = []
  · have he : b.toList.isEmpty = true := by
      rw [List.isEmpty_iff, ByteArray.toList_eq]; exact h0
    rw [if_pos h0] at hP
    have HP := Aside0.mk hP
    clear hP h0 S
    go_wp2_with (go_at_call 10; refine B.out.mono ?_; rintro e W1 ⟨rfl, hb⟩; have HB := Aside0.mk hb; clear hb)
    go_ret
    rw [HP.out]
    exact ⟨_, rfl, Kd.R_nil _ _ _ _ _, HB.out⟩
  · have he : b.toList.isEmpty = false := by
      rw [List.isEmpty_eq_false_iff, ByteArray.toList_eq]; exact h0
    rw [if_neg h0] at hP
    have HP := Aside0.mk hP
    clear hP h0
    go_wp2_with (first
      | (go_at_call 10; refine B.out.mono ?_; rintro e W1 ⟨rfl, hb⟩; have HB := Aside0.mk hb; clear hb)
      | (go_at_call 31; refine (S.out W1 (HL.out.below HB.out)).mono ?_; rintro e W2 ⟨v, rfl, hR, hb⟩; have HR := Aside0.mk hR; have HB2 := Aside0.mk hb; clear hR hb))
    go_ret
    rw [HP.out]
    exact ⟨_, rfl, Kd.R_lower HR.out HB.out.size, below_step HB.out HB2.out⟩
end Go.Proofs.YtgdlmgdcoedfoaaGreatDoor.Agl
