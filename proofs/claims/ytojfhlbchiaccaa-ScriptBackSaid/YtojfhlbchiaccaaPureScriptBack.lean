/- ScriptBack: what is put is got again, whatever comes behind it. -/
import Derived.Test.YtojfhlbchiaccaaPrint12
import Derived.Test.YtojfhlbchiaccaaPlain2
namespace Go.Proofs.Ytojfhlbchiaccaa.Pure
open Go.RowKit Go.Proofs.Ytojfhlbchiaccaa.Print Go.Proofs.Ytojfhlbchiaccaa.Plain Go.Proofs.YtojfhlbchiaccaaW.PrintWords Go.Proofs.YtojfhlbchiaccaaW.PrintLast
set_option linter.unusedVariables false
set_option linter.unusedSimpArgs false

theorem wf8 {x : Int} (h : (Lit.int .u8 x).wf = true) : 0 ≤ x ∧ x < 256 := by
  simp [Lit.wf, IntKind.min, IntKind.max, IntKind.bits, IntKind.signed] at h; omega
def res54 (l : List (ByteArray × ByteArray)) : List S54 := l.map fun x => ⟨x.1, x.2⟩
theorem to48_54 (l : List (ByteArray × ByteArray)) : to48 (res54 l) = res48 l := by
  unfold to48 res54 res48; rw [List.map_map]; rfl
theorem to54_48 (l : List (ByteArray × ByteArray)) : to54 (res48 l) = res54 l := by
  unfold to54 res54 res48; rw [List.map_map]; rfl
theorem put_long (s : Reader.Sc) : 4 < s.put.length := by
  unfold Reader.Sc.put Reader.putL
  simp only [List.length_cons, List.length_append, Reader.tbs, Reader.tb_len]
  omega
theorem ScriptBack (s : Reader.Sc) (more : List Int) (hb8 : s.B8s) (hm : Reader.B8 more) :
    ∃ k, hornbooklaw23_ScriptBack.f k (res54 s.res) s.f1 s.b s.s3 s.s4 s.s5 s.s6 s.f2 s.f4 s.f8 s.l10 s.l11 more = some true := by
  have hln : (res54 s.res).length = s.res.length := by unfold res54; rw [List.length_map]
  obtain ⟨r, ⟨K, hK⟩, hQ⟩ := few_ev (res54 s.res) s.f1 s.b s.s3 s.s4 s.s5 s.s6 s.f2 s.f4 s.f8 s.l10 s.l11
  refine ⟨K + 2001, ?_⟩
  have hk1 := hK (K + 2001) (by omega)
  dsimp only at hk1
  unfold hornbooklaw23_ScriptBack.f
  rw [show hornbooklaw23_awake.f = some true from rfl, Option.bind_some, hk1, Option.bind_some]
  cases r with
  | false =>
    rw [if_neg (by decide)]
    simp only [hornbooklaw23_ScriptBack.j0]
    rw [if_pos trivial]
  | true =>
    obtain ⟨q0, q10, q11⟩ := hQ rfl
    rw [hln] at q0
    rw [if_pos rfl]
    by_cases h5 : (more.length : Int) > 500
    · simp only [hornbooklaw23_ScriptBack.j0]
      rw [if_pos (decide_eq_true h5)]
    · simp only [hornbooklaw23_ScriptBack.j0]
      rw [if_neg (by rw [decide_eq_true_eq]; exact h5), plan_ev _ _ _ _ _ _ _ _ _ _ _ _ (by omega) (K + 2000) (by omega), Option.bind_some, to48_54]
      dsimp only
      have h48 : (res48 s.res).length = s.res.length := by unfold res48; rw [List.length_map]
      by_cases hs : s.sane = true
      · have hp8 := Reader.put_B8 s hs
        have hg1 := Reader.get_put s [] hs hb8
        rw [List.append_nil] at hg1
        have hg2 := Reader.get_put s more hs hb8
        have hlong := put_long s
        have hpl : s.put.length ≤ 100000000 := by
          obtain ⟨a1, a2, a3, a4, a5, a6, a7, a8, a9⟩ := Reader.sane_facts s.res s.b s.s3 s.s4 s.s5 s.s6 s.l10 s.l11 hs
          have a5' := a5 s.res.length
          rw [List.take_length] at a5'
          unfold Reader.Sc.put Reader.putL
          simp only [List.length_cons, List.length_append, List.length_nil]
          omega
        rw [put_ev s hs, Option.bind_some, Option.bind_some]
        dsimp only
        rw [sane_ev s, Option.bind_some, if_pos hs, Option.bind_some, if_pos (by simp only [List.length_nil]; omega), Option.bind_some, List.nil_append, if_pos (by omega), if_pos trivial, if_pos (by omega)]
        rw [get_ev s.put hp8, hg1, Option.bind_some]
        dsimp only
        rw [planned_ev _ _ _ _ _ _ _ _ _ _ _ _ (by omega) (K + 2000) (by omega), Option.bind_some, to54_48]
        dsimp only
        rw [same_same _ _ _ _ _ _ _ _ _ _ _ _ (by omega) (by omega) (by omega) (K + 2000) (by omega), Option.bind_some, if_pos rfl]
        rw [get_ev (s.put ++ more) (Reader.B8_app hp8 hm), hg2, Option.bind_some]
        dsimp only
        rw [planned_ev _ _ _ _ _ _ _ _ _ _ _ _ (by omega) (K + 2000) (by omega), Option.bind_some, to54_48]
        dsimp only
        rw [same_same _ _ _ _ _ _ _ _ _ _ _ _ (by omega) (by omega) (by omega) (K + 2000) (by omega)]
        rfl
      · have hs' := Bool.eq_false_iff.2 hs
        rw [put_ev_not s hs', Option.bind_some, Option.bind_some]
        dsimp only
        rw [sane_ev s, Option.bind_some, if_neg hs]
        rfl
end Go.Proofs.Ytojfhlbchiaccaa.Pure
