/- Plain laws on scripts: few things; plans. -/
import Derived.Test.YtojfhlbchiaccaaPlain
import Derived.Test.YtojfhlbchiaccaaPrint4
import Derived.Test.YtojfhlbchiaccaaPrint5
namespace Go.Proofs.Ytojfhlbchiaccaa.Plain
open Go.RowKit Go.Proofs.Ytojfhlbchiaccaa.Print Go.Proofs.YtojfhlbchiaccaaW.PrintWords Go.Proofs.YtojfhlbchiaccaaW.PrintLast
set_option linter.unusedVariables false
set_option linter.unusedSimpArgs false

/-- Something is told; if it is 'true', Q. -/
def Tells (g : Nat → Option Bool) (Q : Prop) : Prop := ∃ b, Ev g b ∧ (b = true → Q)
theorem Tells.step {g f : Nat → Option Bool} {Q : Prop} (h : ∀ k, g (k + 1) = f k) (t : Tells f Q) : Tells g Q := by
  obtain ⟨b, e, q⟩ := t
  exact ⟨b, Ev.step h e, q⟩
theorem Tells.no {g : Nat → Option Bool} {Q : Prop} (h : ∀ k, g (k + 1) = some false) : Tells g Q := ⟨false, ⟨1, fun k hk => by obtain ⟨m, rfl⟩ : ∃ m, k = m + 1 := ⟨k - 1, by omega⟩; exact h m⟩, fun h => by cases h⟩
theorem Tells.congr {g f : Nat → Option Bool} {Q : Prop} (h : ∀ k, g k = f k) (t : Tells f Q) : Tells g Q := by
  obtain ⟨b, e, q⟩ := t
  exact ⟨b, Ev.congr h e, q⟩
theorem few10 (l : List S54) (d : Nat) : ∀ (i : Nat) (x : Int), i + d = min l.length 20 → Tells (fun k => hornbookref10_Few.l0 k l x (i : Int)) (l.length ≤ 12) := by
  induction d with
  | zero =>
    intro i x hi
    have hend : Tells (fun k => hornbookref10_Few.j1 k l x (i : Int) false) (l.length ≤ 12) := by
      by_cases h : (l.length : Int) ≤ 12
      · refine ⟨decide (x ≤ 2500), ⟨1, fun k hk => ?_⟩, fun _ => by omega⟩
        obtain ⟨m, rfl⟩ : ∃ m, k = m + 1 := ⟨k - 1, by omega⟩
        simp only [hornbookref10_Few.j1]
        rw [if_neg (by decide), if_pos h]
      · refine Tells.no fun k => ?_
        simp only [hornbookref10_Few.j1]
        rw [if_neg (by decide), if_neg h]
    by_cases hx : (i : Int) < (l.length : Int)
    · refine Tells.step (fun k => ?_) hend
      simp only [hornbookref10_Few.l0]
      rw [if_pos hx, show decide ((i : Int) < 20) = false from decide_eq_false (by omega)]
    · refine Tells.step (fun k => ?_) hend
      simp only [hornbookref10_Few.l0]
      rw [if_neg hx]
  | succ d ih =>
    intro i x hi
    have h1 : Tells (fun k => hornbookref10_Few.j1 k l x (i : Int) true) (l.length ≤ 12) := by
      by_cases ha : (((rd_T54 l (i : Int)).f1).size : Int) > 600
      · refine Tells.no fun k => ?_
        simp only [hornbookref10_Few.j1]
        rw [if_pos trivial, if_pos (by omega), if_pos (by omega), if_pos ha]
      · by_cases hb : (((rd_T54 l (i : Int)).f0).size : Int) > 100
        · refine Tells.no fun k => ?_
          simp only [hornbookref10_Few.j1]
          rw [if_pos trivial, if_pos (by omega), if_pos (by omega), if_neg ha, if_pos hb]
        · refine Tells.step (fun k => ?_) (ih (i + 1) (wrap64 (x + (((rd_T54 l (i : Int)).f1).size : Int))) (by omega))
          simp only [hornbookref10_Few.j1]
          rw [if_pos trivial, if_pos (by omega), if_pos (by omega), if_neg ha, if_neg hb, wrap_nat i (by omega)]
    refine Tells.step (fun k => ?_) h1
    simp only [hornbookref10_Few.l0]
    rw [if_pos (by omega), show decide ((i : Int) < 20) = true from decide_eq_true (by omega)]
section
variable (l0 : List S54) (f1 : Bool) (b : Int) (s3 s4 s5 s6 : ByteArray) (f2 f4 f8 : Bool) (l10 l11 : List (List Int))
theorem short22 : Tells (fun k => hornbookref22_Short.f k f1 b s3 s4 s5 s6 f2 f4 f8 l0) (l0.length ≤ 12) := by
  by_cases c3 : (s3.size : Int) ≤ 600
  · by_cases c4 : (s4.size : Int) ≤ 600
    · by_cases c5 : (s5.size : Int) ≤ 600
      · by_cases c6 : (s6.size : Int) ≤ 600
        · obtain ⟨r, e, q⟩ := few10 l0 (min l0.length 20) 0 0 (by omega)
          refine ⟨r, Ev.congr (fun k => ?_) (Ev.bind e (Ev.now r)), q⟩
          unfold hornbookref22_Short.f hornbookref10_Few.f
          rw [if_pos c3, if_pos c4, if_pos c5, if_pos c6]; rfl
        · exact Tells.no fun k => by unfold hornbookref22_Short.f; rw [if_pos c3, if_pos c4, if_pos c5, if_neg c6]
      · exact Tells.no fun k => by unfold hornbookref22_Short.f; rw [if_pos c3, if_pos c4, if_neg c5]
    · exact Tells.no fun k => by unfold hornbookref22_Short.f; rw [if_pos c3, if_neg c4]
  · exact Tells.no fun k => by unfold hornbookref22_Short.f; rw [if_neg c3]
def FewQ : Prop := l0.length ≤ 12 ∧ l10.length ≤ 10 ∧ l11.length ≤ 10
theorem few_end (i : Int) : Tells (fun k => hornbookref23_Few.j3 k i false l0 f1 b s3 s4 s5 s6 f2 f4 f8 l10 l11) (FewQ l0 l10 l11) := by
  by_cases c1 : (l10.length : Int) ≤ 10
  · by_cases c2 : (l11.length : Int) ≤ 10
    · obtain ⟨r, e, q⟩ := short22 l0 f1 b s3 s4 s5 s6 f2 f4 f8
      refine ⟨r, Ev.step (fun k => ?_) (Ev.bind e (Ev.now r)), fun h => ⟨q h, by omega, by omega⟩⟩
      simp only [hornbookref23_Few.j3]
      rw [if_neg (by decide), if_pos c1, if_pos c2]
    · exact Tells.no fun k => by simp only [hornbookref23_Few.j3]; rw [if_neg (by decide), if_pos c1, if_neg c2]
  · exact Tells.no fun k => by simp only [hornbookref23_Few.j3]; rw [if_neg (by decide), if_neg c1]
theorem few_b (d : Nat) : ∀ i : Nat, i + d = min l11.length 50 → Tells (fun k => hornbookref23_Few.l1 k (i : Int) l0 f1 b s3 s4 s5 s6 f2 f4 f8 l10 l11) (FewQ l0 l10 l11) := by
  induction d with
  | zero =>
    intro i hi
    have hend := few_end l0 f1 b s3 s4 s5 s6 f2 f4 f8 l10 l11 (i : Int)
    by_cases hx : (i : Int) < (l11.length : Int)
    · refine Tells.step (fun k => ?_) hend
      simp only [hornbookref23_Few.l1]
      rw [if_pos hx, show decide ((i : Int) < 50) = false from decide_eq_false (by omega)]
    · refine Tells.step (fun k => ?_) hend
      simp only [hornbookref23_Few.l1]
      rw [if_neg hx]
  | succ d ih =>
    intro i hi
    have h1 : Tells (fun k => hornbookref23_Few.j3 k (i : Int) true l0 f1 b s3 s4 s5 s6 f2 f4 f8 l10 l11) (FewQ l0 l10 l11) := by
      by_cases ha : ((rd_L7 l11 (i : Int)).length : Int) > 60
      · refine Tells.no fun k => ?_
        simp only [hornbookref23_Few.j3]
        rw [if_pos trivial, if_pos (by omega), if_pos (by omega), if_pos ha]
      · refine Tells.step (fun k => ?_) (ih (i + 1) (by omega))
        simp only [hornbookref23_Few.j3]
        rw [if_pos trivial, if_pos (by omega), if_pos (by omega), if_neg ha, wrap_nat i (by omega)]
    refine Tells.step (fun k => ?_) h1
    simp only [hornbookref23_Few.l1]
    rw [if_pos (by omega), show decide ((i : Int) < 50) = true from decide_eq_true (by omega)]
theorem few_a (d : Nat) : ∀ i : Nat, i + d = min l10.length 50 → Tells (fun k => hornbookref23_Few.l0 k (i : Int) l0 f1 b s3 s4 s5 s6 f2 f4 f8 l10 l11) (FewQ l0 l10 l11) := by
  induction d with
  | zero =>
    intro i hi
    have hnext : Tells (fun k => hornbookref23_Few.j1 k (i : Int) false l0 f1 b s3 s4 s5 s6 f2 f4 f8 l10 l11) (FewQ l0 l10 l11) := by
      refine Tells.step (fun k => ?_) (few_b l0 f1 b s3 s4 s5 s6 f2 f4 f8 l10 l11 (min l11.length 50) 0 (by omega))
      simp only [hornbookref23_Few.j1]
      rw [if_neg (by decide)]; rfl
    by_cases hx : (i : Int) < (l10.length : Int)
    · refine Tells.step (fun k => ?_) hnext
      simp only [hornbookref23_Few.l0]
      rw [if_pos hx, show decide ((i : Int) < 50) = false from decide_eq_false (by omega)]
    · refine Tells.step (fun k => ?_) hnext
      simp only [hornbookref23_Few.l0]
      rw [if_neg hx]
  | succ d ih =>
    intro i hi
    have h1 : Tells (fun k => hornbookref23_Few.j1 k (i : Int) true l0 f1 b s3 s4 s5 s6 f2 f4 f8 l10 l11) (FewQ l0 l10 l11) := by
      by_cases ha : ((rd_L7 l10 (i : Int)).length : Int) > 60
      · refine Tells.no fun k => ?_
        simp only [hornbookref23_Few.j1]
        rw [if_pos trivial, if_pos (by omega), if_pos (by omega), if_pos ha]
      · refine Tells.step (fun k => ?_) (ih (i + 1) (by omega))
        simp only [hornbookref23_Few.j1]
        rw [if_pos trivial, if_pos (by omega), if_pos (by omega), if_neg ha, wrap_nat i (by omega)]
    refine Tells.step (fun k => ?_) h1
    simp only [hornbookref23_Few.l0]
    rw [if_pos (by omega), show decide ((i : Int) < 50) = true from decide_eq_true (by omega)]
theorem few_ev : Tells (fun k => hornbookref23_Few.f k l0 f1 b s3 s4 s5 s6 f2 f4 f8 l10 l11) (FewQ l0 l10 l11) :=
  Tells.congr (fun k => rfl) (few_a l0 f1 b s3 s4 s5 s6 f2 f4 f8 l10 l11 (min l10.length 50) 0 (by omega))
end
def to48 (l : List S54) : List S48 := l.map fun x => ⟨x.f0, x.f1⟩
theorem rd54 (l : List S54) (i : Nat) (h : i < l.length) : rd_T54 l (i : Int) = l[i] := by
  unfold rd_T54; rw [Int.toNat_natCast, List.getD_eq_getElem?_getD, List.getElem?_eq_getElem h]; rfl
theorem some_from (l : List S54) (hl : l.length ≤ 1000000) (d : Nat) : ∀ (k i : Nat) (o : List S48), i + d = l.length → o = to48 (l.take i) → d < k → hornbooklaw23_some.l0 k l o (i : Int) = some (to48 l) := by
  induction d with
  | zero =>
    intro k i o hi ho hk
    obtain ⟨k, rfl⟩ : ∃ m, k = m + 1 := ⟨k - 1, by omega⟩
    simp only [hornbooklaw23_some.l0]
    rw [if_neg (by omega), ho, List.take_of_length_le (by omega)]
  | succ d ih =>
    intro k i o hi ho hk
    obtain ⟨k, rfl⟩ : ∃ m, k = m + 1 := ⟨k - 1, by omega⟩
    have hlt : i < l.length := by omega
    have hol : o.length = i := by rw [ho]; unfold to48; rw [List.length_map, List.length_take]; omega
    simp only [hornbooklaw23_some.l0]
    rw [if_pos (by omega), if_pos (by omega), if_pos (by omega), wrap_nat i (by omega), rd54 l i hlt]
    refine ih k (i + 1) _ (by omega) ?_ (by omega)
    rw [ho]; unfold to48
    rw [List.take_succ_eq_append_getElem hlt, List.map_append]; rfl
theorem plan_ev (l0 : List S54) (f1 : Bool) (b : Int) (s3 s4 s5 s6 : ByteArray) (f2 f4 f8 : Bool) (l10 l11 : List (List Int)) (hl : l0.length ≤ 1000000) (k : Nat) (hk : l0.length < k) :
    hornbooklaw23_plan.f k l0 f1 b s3 s4 s5 s6 f2 f4 f8 l10 l11 = some (to48 l0, f1, b, s3, s4, s5, s6, f2, f4, f8, l10, l11) := by
  unfold hornbooklaw23_plan.f hornbooklaw23_some.f hornbooklaw23_desc.f
  rw [show (0 : Int) = ((0 : Nat) : Int) from rfl, some_from l0 hl l0.length k 0 [] (by omega) rfl hk]
  rfl
end Go.Proofs.Ytojfhlbchiaccaa.Plain
