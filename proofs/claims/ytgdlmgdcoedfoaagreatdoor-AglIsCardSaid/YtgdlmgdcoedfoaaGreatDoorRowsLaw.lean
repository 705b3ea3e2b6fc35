/- AglRows: the plain law. -/
import Derived.Test.YtgdlmgdcoedfoaaGreatDoorLook3
namespace Go.Proofs.YtgdlmgdcoedfoaaGreatDoor.Agl
open Go.RowKit Go.Proofs.YtgdlmgdcoedfoaaGreatDoorW.PrintWords Go.Proofs.YtgdlmgdcoedfoaaGreatDoorW.PrintLast Go.Proofs.YtgdlmgdcoedfoaaGreatDoorW.PrintMore
set_option linter.unusedVariables false
set_option linter.unusedSimpArgs false

theorem join_two (sep : List UInt8) : ∀ (xs ys : List (List UInt8)), xs ≠ [] → ys ≠ [] → Lib.join (xs ++ ys) sep = Lib.join xs sep ++ (sep ++ Lib.join ys sep)
  | [], _, h, _ => absurd rfl h
  | x :: xs, [], _, h => absurd rfl h
  | x :: xs, y :: ys, _, _ => by
    rw [List.cons_append, Lib.join_cons, Lib.join_cons, Lib.join_cons]
    simp [Lib.joinTail]
theorem write_two (a b : List Int) (ha : a ≠ []) (hb : b ≠ []) : writeL (a ++ b) = writeL a ++ (95 :: writeL b) := by
  unfold writeL
  rw [List.map_append, join_two [95] (a.map namedL) (b.map namedL) (by simpa using ha) (by simpa using hb)]
  rfl
theorem write_nilL (a b : List Int) (h : a = [] ∨ b = []) : writeL (a ++ b) = writeL a ++ writeL b := by
  rcases h with rfl | rfl
  · rfl
  · rw [List.append_nil]
    show writeL a = writeL a ++ []
    rw [List.append_nil]
end Go.Proofs.YtgdlmgdcoedfoaaGreatDoor.Agl
