/- ScriptGood: every text of bytes is a script; put and got again it is the same. -/
import Derived.Test.YtojfhlbchiaccaaPrint13
import Derived.Test.YtojfhlbchiaccaaPlain
namespace Go.Proofs.Ytojfhlbchiaccaa.Pure
open Go.RowKit Go.Proofs.Ytojfhlbchiaccaa.Print Go.Proofs.Ytojfhlbchiaccaa.Plain Go.Proofs.YtojfhlbchiaccaaW.PrintWords Go.Proofs.YtojfhlbchiaccaaW.PrintLast

theorem wf_u8 {x : Int} (h : (Lit.int .u8 x).wf = true) : 0 ≤ x ∧ x < 256 := by
  simp [Lit.wf, IntKind.min, IntKind.max, IntKind.bits, IntKind.signed] at h; omega
theorem ScriptGood : hornbooklaw23_ScriptGood.Pure := by
  intro l hl hz hwf
  have hB : Reader.B8 l := fun x hx => wf_u8 (hwf x hx)
  refine ⟨1000, ?_⟩
  unfold hornbooklaw23_ScriptGood.f
  rw [show hornbooklaw23_awake.f = some true from rfl, Option.bind_some]
  by_cases h8 : (l.length : Int) > 8000
  · rw [if_pos h8]
  rw [if_neg h8, get_ev l hB, Option.bind_some, if_pos rfl]
  dsimp only
  obtain ⟨hs, hb⟩ := Reader.getS_sane l hB
  obtain ⟨s, hse⟩ : ∃ s, Reader.getS l = s := ⟨_, rfl⟩
  rw [hse] at hs hb ⊢
  obtain ⟨_, hr12, _, ⟨h10, _⟩, ⟨h11, _⟩⟩ := s.sane_iff.1 hs
  have hg := Reader.get_put s [] hs hb
  rw [List.append_nil] at hg
  have hp := Reader.put_B8 s hs
  have hrl : (res48 s.res).length = s.res.length := by unfold res48; rw [List.length_map]
  have h54 : (to54 (res48 s.res)).length = s.res.length := by unfold to54; rw [List.length_map, hrl]
  rw [sane_ev s, Option.bind_some, if_pos hs, put_ev s hs, Option.bind_some, get_ev s.put hp, hg, Option.bind_some]
  dsimp only
  rw [planned_ev _ _ _ _ _ _ _ _ _ _ _ _ (by omega) 1000 (by omega), Option.bind_some, Option.bind_some]
  dsimp only
  rw [same_same _ _ _ _ _ _ _ _ _ _ _ _ (by omega) (by omega) (by omega) 1000 (by omega)]
  rfl
end Go.Proofs.Ytojfhlbchiaccaa.Pure
