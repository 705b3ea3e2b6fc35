/- utf.Whole; the tables that it reads. -/
import Derived.Test.YtgdlmgdcoedfoaaGreatDoorShelfB
import Derived.Test.YtgdlmgdcoedfoaaGreatDoorLaidOf
import Derived.Lib.LaidU8T
namespace Go.Proofs.YtgdlmgdcoedfoaaGreatDoor.Agl
open Go.RowKit Go.Proofs.YtgdlmgdcoedfoaaGreatDoorW.PrintWords Go.Proofs.YtgdlmgdcoedfoaaGreatDoorW.PrintLast Go.Proofs.YtgdlmgdcoedfoaaGreatDoorW.PrintMore
set_option linter.unusedVariables false
set_option linter.unusedSimpArgs false

def Tabs (w : World) : Prop := Lib.Utf8Tabs (Tryz.lays196_ren.g 3) (Tryz.lays196_ren.g 4) w
theorem u8extra : U8Extra Tryz.prog Tryz.lays196_ren := {
  n3 := by kernel_rfl
  n4 := by kernel_rfl
  y3 := by kernel_rfl
  y4 := by kernel_rfl
  c5 := by kernel_rfl
  c119 := by kernel_rfl
  c138 := by kernel_rfl }
theorem tabs_of {W : World} (h : laidMetH Tryz.prog ten W) : Tabs W := by
  rw [MakeChecks.laidMetH_plain _ _ _ (by kernel_rfl)] at h
  have e4 : (Rows.laid_unicode_utf8_acceptRanges : DataW Unit) = Lib.acceptData := by kernel_rfl
  have e3 : (Rows.laid_unicode_utf8_first : DataW Unit) = Lib.firstData := by kernel_rfl
  have h4 : laidMet Tryz.prog (("unicode/utf8.acceptRanges", Rows.laid_unicode_utf8_acceptRanges) :: ten.tail.tail.tail.tail) W := h.tail.tail.tail
  have h3 : laidMet Tryz.prog [("unicode/utf8.first", Rows.laid_unicode_utf8_first)] W := h.tail.tail.tail.tail.tail.tail.tail.tail.tail
  rw [e4] at h4
  rw [e3] at h3
  exact utf8Tabs_of_readsT (U8Types.of196 Tryz.lays196) u8extra (Lib.laidMet.reads h3 (List.mem_cons_self ..)) (Lib.laidMet.reads h4 (List.mem_cons_self ..))
theorem Tabs.below (W W' : World) (h : Tabs W) (hb : Below W.heap.size W W') : Tabs W' := Go.Proofs.Utf8Tabs_below h hb
set_option maxHeartbeats 400000 in
set_option maxRecDepth 100000 in
theorem whole29 (s : ByteArray) (W : World) (hT : Tabs W) (hs : s.size ≤ 9223372036854775807) : Calls Tryz.prog 29 #[.string s] W fun e W' => e = .returned (.bool (Lib.validD s.data.toList)) ∧ Below W.heap.size W W' := by
  have V := Aside0.mk (Tryz.utf8_ValidString s W hs hT)
  obtain ⟨b, hb⟩ : ∃ b, Lib.validD s.data.toList = b := ⟨_, rfl⟩
  rw [hb] at V ⊢
  clear hb
  go_enter Tryz.func29, Tryz.ntmps29
  go_wp2_with (go_at_call 51; refine V.out.mono ?_; rintro e w' ⟨rfl, hw⟩)
  go_ret
  exact ⟨rfl, hw⟩
end Go.Proofs.YtgdlmgdcoedfoaaGreatDoor.Agl
