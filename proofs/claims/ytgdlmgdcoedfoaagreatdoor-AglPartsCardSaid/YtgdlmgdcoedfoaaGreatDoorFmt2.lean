/- strconv.FormatInt at base 16: the outer calls. -/
import Derived.Test.YtgdlmgdcoedfoaaGreatDoorFmt
namespace Go.Proofs.YtgdlmgdcoedfoaaGreatDoor.Agl
open Go.RowKit Go.Proofs.YtgdlmgdcoedfoaaGreatDoorW.PrintWords Go.Proofs.YtgdlmgdcoedfoaaGreatDoorW.PrintLast Go.Proofs.YtgdlmgdcoedfoaaGreatDoorW.PrintMore
set_option linter.unusedVariables false
set_option linter.unusedSimpArgs false

set_option maxHeartbeats 400000 in
set_option maxRecDepth 100000 in
theorem fmt88 (u : Int) (w : World) (h0 : 0 ≤ u) (h1 : u < 16777216) (hT : w.cell? ⟨10, 15, none⟩ = some (.int .u8 4)) (hsz : 10 < w.heap.size) :
    Calls Tryz.prog 88 #[.int .i64 u, .int .i64 16] w fun e W' => e = .returned (.string (strOfNums (hexlow 6 u []))) ∧ Below w.heap.size w W' := by
  have FB := Aside0.mk (fbits125 u w h0 h1 hT hsz)
  obtain ⟨s, hs⟩ : ∃ s, strOfNums (hexlow 6 u []) = s := ⟨_, rfl⟩
  rw [hs] at FB ⊢
  clear hs
  clear hT hsz
  go_enter Tryz.func88, Tryz.ntmps88
  have hn : ¬ u < 0 := by omega
  go_upto_region 14 with fail
  go_upto_region 15 with fail
  refine FB.out.mono ?_
  rintro e W' ⟨rfl, hb⟩
  have HB := Aside0.mk hb
  clear hb FB
  go_wp2
  go_ret
  exact ⟨rfl, HB.out⟩
set_option maxHeartbeats 400000 in
set_option maxRecDepth 100000 in
/-- strconv.FormatInt(u, 16). -/
theorem fmt62 (u : Int) (w : World) (h0 : 0 ≤ u) (h1 : u < 16777216) (hT : w.cell? ⟨10, 15, none⟩ = some (.int .u8 4)) (hsz : 10 < w.heap.size) :
    Calls Tryz.prog 62 #[.int .i64 u, .int .i64 16] w fun e W' => e = .returned (.string (strOfNums (hexlow 6 u []))) ∧ Below w.heap.size w W' := by
  have FB := Aside0.mk (fmt88 u w h0 h1 hT hsz)
  obtain ⟨s, hs⟩ : ∃ s, strOfNums (hexlow 6 u []) = s := ⟨_, rfl⟩
  rw [hs] at FB ⊢
  clear hs
  clear hT hsz h0 h1
  go_enter Tryz.func62, Tryz.ntmps62
  go_wp2_with (go_at_call 88; refine FB.out.mono ?_; rintro e W' ⟨rfl, hb⟩; have HB := Aside0.mk hb; clear hb)
  go_ret
  exact ⟨rfl, HB.out⟩
end Go.Proofs.YtgdlmgdcoedfoaaGreatDoor.Agl
