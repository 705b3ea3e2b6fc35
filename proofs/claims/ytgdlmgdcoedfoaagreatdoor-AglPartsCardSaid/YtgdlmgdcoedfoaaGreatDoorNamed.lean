/- agl.named, Write. -/
import Derived.Test.YtgdlmgdcoedfoaaGreatDoorBack
import Derived.Test.YtgdlmgdcoedfoaaGreatDoorFmt2
namespace Go.Proofs.YtgdlmgdcoedfoaaGreatDoor.Agl
open Go.RowKit Go.Proofs.YtgdlmgdcoedfoaaGreatDoorW.PrintWords Go.Proofs.YtgdlmgdcoedfoaaGreatDoorW.PrintLast Go.Proofs.YtgdlmgdcoedfoaaGreatDoorW.PrintMore
set_option linter.unusedVariables false
set_option linter.unusedSimpArgs false

/-- Capital hex digits, none before the first. -/
def hexU (g : Int) : List UInt8 := Lib.toUpperA (strOfNums (hexlow 6 g [])).data.toList
def namedL (r : Int) : List UInt8 := (backF (goodV r) fieldsL).getD (117 :: (Lib.repeatL [48] (4 - (hexU (goodV r)).length) ++ hexU (goodV r)))
theorem hexlow_len : ∀ (f : Nat) (u : Int) (acc : List Int), 1 ≤ (hexlow f u acc).length ∧ (hexlow f u acc).length ≤ f + 1 + acc.length := by
  intro f
  induction f with
  | zero => intro u acc; simp [hexlow]; omega
  | succ f ih =>
    intro u acc
    unfold hexlow
    split
    · simp; omega
    · have := ih (u / 16) (lowc (u % 16) :: acc)
      simp at this ⊢; omega
theorem lowc_rng {d : Int} (h0 : 0 ≤ d) (h1 : d < 16) : 48 ≤ lowc d ∧ lowc d ≤ 102 := by unfold lowc; split <;> omega
theorem hexlow_rng : ∀ (f : Nat) (u : Int) (acc : List Int), 0 ≤ u → u < (16 : Int) ^ (f + 1) → (∀ x ∈ acc, 48 ≤ x ∧ x ≤ 102) → ∀ x ∈ hexlow f u acc, 48 ≤ x ∧ x ≤ 102
  | 0, u, acc, h0, h1, ha => by
    intro x hx
    rcases List.mem_cons.1 hx with rfl | hx
    · exact lowc_rng h0 (by simpa using h1)
    · exact ha x hx
  | f + 1, u, acc, h0, h1, ha => by
    unfold hexlow
    split
    · intro x hx
      rcases List.mem_cons.1 hx with rfl | hx
      · exact lowc_rng h0 (by assumption)
      · exact ha x hx
    · refine hexlow_rng f (u / 16) _ (by omega) ?_ ?_
      · have e : (16 : Int) ^ (f + 1 + 1) = 16 ^ (f + 1) * 16 := Int.pow_succ ..
        omega
      · intro x hx
        rcases List.mem_cons.1 hx with rfl | hx
        · exact lowc_rng (by omega) (by omega)
        · exact ha x hx
theorem strOfNums_list (l : List Int) : (strOfNums l).data.toList = l.map fun x => x.toNat.toUInt8 := by simp [strOfNums]
theorem hex_ascii (u : Int) (h0 : 0 ≤ u) (h1 : u < 16777216) : ∀ (j : Nat) b, (strOfNums (hexlow 6 u [])).data.toList[j]? = some b → b.toNat < 128 := by
  intro j b hj
  rw [strOfNums_list] at hj
  have hm := List.mem_of_getElem? hj
  obtain ⟨x, hx, rfl⟩ := List.mem_map.1 hm
  have := hexlow_rng 6 u [] h0 (by omega) (by simp) x hx
  rw [show x.toNat.toUInt8 = UInt8.ofNat x.toNat from rfl, UInt8.toNat_ofNat']
  omega
theorem hexU_len (u : Int) : 1 ≤ (hexU u).length ∧ (hexU u).length ≤ 7 := by
  have h := hexlow_len 6 u []
  unfold hexU Lib.toUpperA
  rw [List.length_map, strOfNums_list, List.length_map]
  simpa using h
end Go.Proofs.YtgdlmgdcoedfoaaGreatDoor.Agl
