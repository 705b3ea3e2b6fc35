/- strconv.ParseInt at base 16: the outer calls. -/
import Derived.Test.YtgdlmgdcoedfoaaGreatDoorNum
namespace Go.Proofs.YtgdlmgdcoedfoaaGreatDoor.Agl
open Go.RowKit Go.Proofs.YtgdlmgdcoedfoaaGreatDoorW.PrintWords Go.Proofs.YtgdlmgdcoedfoaaGreatDoorW.PrintLast Go.Proofs.YtgdlmgdcoedfoaaGreatDoorW.PrintMore
set_option linter.unusedVariables false
set_option linter.unusedSimpArgs false

set_option maxHeartbeats 400000 in
set_option maxRecDepth 100000 in
theorem pint (s : ByteArray) (w : World) (h0 : 1 ≤ s.size) (h7 : s.size ≤ 7) (hx : ∀ c ∈ bytesOf s, isHexU c) :
    Calls Tryz.prog 102 #[.string s, .int .i64 16, .int .i64 32] w fun e W' => e = .returned (.tuple #[.int .i64 (hexv (bytesOf s)), .nilIface]) ∧ Below w.heap.size w W' := by
  have hne : s.toList.isEmpty = false := by
    rw [List.isEmpty_eq_false_iff, ByteArray.toList_eq]
    intro h
    have := data_length s
    rw [h] at this
    simp at this
    omega
  have hl := bytesOf_length s
  obtain ⟨v0, v1⟩ := hexv_rng (bytesOf s) hx (bytesOf s).length (Nat.le_refl _)
  rw [List.take_length] at v0 v1
  have v2 := pow16 (bytesOf s).length (by omega)
  have PU := Aside0.mk (puint s w h0 h7 hx)
  have hlt : 0 < s.size := by omega
  have hc0 : ((s[0].toNat : Nat) : Int) = (bytesOf s)[0] := by simp [bytesOf]; rfl
  have hc := hx (bytesOf s)[0] (List.getElem_mem (by omega))
  rw [← hc0] at hc
  have h43 : ¬ ((s[0].toNat : Nat) : Int) = 43 := by intro h; rw [h] at hc; exact absurd hc (by decide)
  have h45 : ¬ ((s[0].toNat : Nat) : Int) = 45 := by intro h; rw [h] at hc; exact absurd hc (by decide)
  clear hc hc0 hx
  obtain ⟨v, hv⟩ : ∃ v, hexv (bytesOf s) = v := ⟨_, rfl⟩
  rw [hv] at PU v0 v1 ⊢
  clear hv hl
  have v3 : v < 268435456 := by omega
  clear v1 v2
  go_enter Tryz.func102, Tryz.ntmps102
  obtain ⟨c, hcc⟩ : ∃ c : Int, ((s[0].toNat : Nat) : Int) = c := ⟨_, rfl⟩
  go_upto_region 5 with fail
  rw [hcc] at h43 h45
  clear hcc hlt
  go_upto_region 11 with fail
  go_upto_region 12 with (go_at_call 134; refine PU.out.mono ?_; rintro e W' ⟨rfl, hb⟩)
  have HB := Aside0.mk hb
  clear hb PU h0 h7 hne h43 h45
  go_upto_region 14 with fail
  go_wp2
  go_ret2
  exact ⟨rfl, HB.out⟩
set_option maxHeartbeats 400000 in
set_option maxRecDepth 100000 in
/-- strconv.ParseInt(s, 16, 32). -/
theorem parse16 (s : ByteArray) (w : World) (h0 : 1 ≤ s.size) (h7 : s.size ≤ 7) (hx : ∀ c ∈ bytesOf s, isHexU c) :
    Calls Tryz.prog 76 #[.string s, .int .i64 16, .int .i64 32] w fun e W' => e = .returned (.tuple #[.int .i64 (hexv (bytesOf s)), .nilIface]) ∧ Below w.heap.size w W' := by
  have PI := Aside0.mk (pint s w h0 h7 hx)
  clear h0 h7 hx
  obtain ⟨v, hv⟩ : ∃ v, hexv (bytesOf s) = v := ⟨_, rfl⟩
  rw [hv] at PI ⊢
  clear hv
  go_enter Tryz.func76, Tryz.ntmps76
  go_wp2_with (go_at_call 102; refine PI.out.mono ?_; rintro e W' ⟨rfl, hb⟩; have HB := Aside0.mk hb; clear hb)
  go_ret2
  exact ⟨rfl, HB.out⟩
end Go.Proofs.YtgdlmgdcoedfoaaGreatDoor.Agl
