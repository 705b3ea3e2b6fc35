/- strconv.ParseInt at base 16, 32 bits, of one to seven capital hex digits. -/
import Derived.Test.YtgdlmgdcoedfoaaGreatDoorWMore
import Derived.Test.YtgdlmgdcoedfoaaGreatDoorWApart
import Derived.Test.YtgdlmgdcoedfoaaGreatDoorProg
import Derived.WalkKit
import Derived.BigCall
import Derived.IntWalk
import Derived.Outline
import Derived.OneCell
import Derived.KernelRfl
import Derived.Lib.ConvBytes
namespace Go.Proofs.YtgdlmgdcoedfoaaGreatDoor.Agl
open Go.RowKit Go.Proofs.YtgdlmgdcoedfoaaGreatDoorW.PrintWords Go.Proofs.YtgdlmgdcoedfoaaGreatDoorW.PrintLast Go.Proofs.YtgdlmgdcoedfoaaGreatDoorW.PrintMore
set_option linter.unusedVariables false
set_option linter.unusedSimpArgs false

/-- A capital hex digit; what it counts; what digits count. -/
def isHexU (c : Int) : Prop := (48 ≤ c ∧ c ≤ 57) ∨ (65 ≤ c ∧ c ≤ 70)
instance (c : Int) : Decidable (isHexU c) := by unfold isHexU; infer_instance
def dig (c : Int) : Int := if c ≤ 57 then c - 48 else c - 55
def hexv (l : List Int) : Int := l.foldl (fun v c => v * 16 + dig c) 0
theorem hexv_snoc (l : List Int) (c : Int) : hexv (l ++ [c]) = hexv l * 16 + dig c := by unfold hexv; rw [List.foldl_append]; rfl
theorem dig_rng {c : Int} (h : isHexU c) : 0 ≤ dig c ∧ dig c < 16 := by unfold isHexU at h; unfold dig; split <;> omega
theorem hexv_rng (l : List Int) (h : ∀ c ∈ l, isHexU c) : ∀ k, k ≤ l.length → 0 ≤ hexv (l.take k) ∧ hexv (l.take k) < (16 : Int) ^ k
  | 0, _ => by simp [hexv]
  | k + 1, hk => by
    obtain ⟨h0, h1⟩ := hexv_rng l h k (by omega)
    obtain ⟨d0, d1⟩ := dig_rng (h l[k] (List.getElem_mem _))
    rw [List.take_succ_eq_append_getElem (by omega), hexv_snoc, Int.pow_succ]
    omega
theorem pow16 : ∀ k : Nat, k ≤ 7 → (16 : Int) ^ k ≤ 268435456 := by decide
theorem or32 (c : Int) (h0 : 65 ≤ c) (h1 : c ≤ 70) : Go.bits .or .u8 c 32 = c + 32 := by
  have : c = 65 ∨ c = 66 ∨ c = 67 ∨ c = 68 ∨ c = 69 ∨ c = 70 := by omega
  rcases this with rfl | rfl | rfl | rfl | rfl | rfl <;> decide +kernel
set_option maxHeartbeats 4000000 in
set_option maxRecDepth 100000 in
theorem lower150 (c : Int) (W : World) : Calls Tryz.prog 150 #[.int .u8 c] W fun e W' => e = .returned (.int .u8 (Go.bits .or .u8 c 32)) ∧ W = W' := by
  go_enter Tryz.func150, Tryz.ntmps150
  go_wp2
  go_ret
  exact ⟨rfl, rfl⟩
set_option maxHeartbeats 8000000 in
set_option maxRecDepth 100000 in
theorem puint (s : ByteArray) (w : World) (h0 : 1 ≤ s.size) (h7 : s.size ≤ 7) (hx : ∀ c ∈ bytesOf s, isHexU c) :
    Calls Tryz.prog 134 #[.string s, .int .i64 16, .int .i64 32] w fun e W' => e = .returned (.tuple #[.int .u64 (hexv (bytesOf s)), .nilIface]) ∧ Below w.heap.size w W' := by
  have hl := bytesOf_length s
  have hne : s.toList.isEmpty = false := by
    rw [List.isEmpty_eq_false_iff, ByteArray.toList_eq]
    intro h
    have := data_length s
    rw [h] at this
    simp at this
    omega
  have kb := fun W => print_bytes (P := Tryz.prog) 9 54 5 Tryz.underlying9 Tryz.underlying54 Tryz.underlying5 s W
  have HX := Aside0.mk hx
  have HL := Aside0.mk hl
  clear hx hl
  go_enter Tryz.func134, Tryz.ntmps134
  go_wp2_with fail
  have hrd := bytes_reads w 5 s (by omega)
  have hbel := bytes_below (Below.refl w.heap.size w) (Nat.le_refl _) 5 s
  obtain ⟨W, hW⟩ : ∃ W, Lib.bytesWorld w 5 s = W := ⟨_, rfl⟩
  rw [hW] at hrd hbel ⊢
  have HRD := Aside0.mk hrd; have HBEL := Aside0.mk hbel
  clear hrd hbel hW kb
  go_loopw [12, 13, 101] (fun q n i wr => ∃ k : Nat, k ≤ s.size ∧ i = .int .i64 k ∧ n = .int .u64 (hexv ((bytesOf s).take k)) ∧ q = .bool false ∧ wr = W) (fun _ _ i _ => s.size - (intOf i).toNat)
  case atStart => exact ⟨0, Nat.zero_le _, rfl, rfl, rfl, rfl⟩
  case round =>
    obtain ⟨k, hk, rfl, rfl, rfl, rfl⟩ := hrel
    obtain ⟨v0, v1⟩ := hexv_rng (bytesOf s) HX.out k (by rw [HL.out]; exact hk)
    have v2 := pow16 k (by omega)
    by_cases hlt : k < s.size
    · have hkl : k < (bytesOf s).length := by rw [HL.out]; exact hlt
      have hc := HX.out (bytesOf s)[k] (List.getElem_mem _)
      have hst : hexv ((bytesOf s).take (k + 1)) = hexv ((bytesOf s).take k) * 16 + dig (bytesOf s)[k] := by rw [List.take_succ_eq_append_getElem hkl, hexv_snoc]
      have v3 := pow16 (k + 1) (by omega)
      obtain ⟨_, v4⟩ := hexv_rng (bytesOf s) HX.out (k + 1) (by omega)
      obtain ⟨ad, had, hcell⟩ := HRD.out.2.2 (by omega)
      cases had
      have cK : wr.cell? ⟨w.heap.size, k, none⟩ = some (.int .u8 (bytesOf s)[k]) := by
        have := hcell k hlt
        rw [add_plain] at this
        simpa [List.getD_eq_getElem?_getD, List.getElem?_eq_getElem hkl] using this
      obtain ⟨c, hcc⟩ : ∃ c, (bytesOf s)[k] = c := ⟨_, rfl⟩
      rw [hcc] at hc hst cK
      obtain ⟨v, hv⟩ : ∃ v, hexv ((bytesOf s).take k) = v := ⟨_, rfl⟩
      rw [hv] at hst v0 v1 ⊢
      have HV := Aside0.mk hv; have HST := Aside0.mk hst
      have v5 : v < 268435456 := by omega
      have v6 : v * 16 + dig c < 268435456 := by rw [← hst]; omega
      clear hv hst hcell hkl v1 v2 v3 v4 hcc
      by_cases h57 : c ≤ 57
      · have h48 : 48 ≤ c := by unfold isHexU at hc; omega
        have hd : dig c = c - 48 := by unfold dig; rw [if_pos h57]
        rw [hd] at v6
        clear hc
        go_wp2
        refine ⟨⟨k + 1, by omega, by go_num, by rw [HST.out, hd], rfl, trivial⟩, by simp [intOf]; omega⟩
      · have h65 : 65 ≤ c := by unfold isHexU at hc; omega
        have h70 : c ≤ 70 := by unfold isHexU at hc; omega
        have hd : dig c = c - 55 := by unfold dig; rw [if_neg h57]
        have ho := or32 c h65 h70
        rw [hd] at v6
        clear hc
        go_wp2_with (go_at_call 150; refine (lower150 c wr).mono ?_; rw [ho]; rintro e W' ⟨rfl, rfl⟩)
        refine ⟨⟨k + 1, by omega, by go_num, by rw [HST.out, hd]; congr 1; omega, rfl, trivial⟩, by simp [intOf]; omega⟩
    · obtain rfl : k = s.size := by omega
      have hall : (bytesOf s).take s.size = bytesOf s := List.take_of_length_le (by rw [HL.out]; exact Nat.le_refl _)
      rw [hall]
      go_wp2
      go_ret2
      exact ⟨rfl, HBEL.out⟩
end Go.Proofs.YtgdlmgdcoedfoaaGreatDoor.Agl
