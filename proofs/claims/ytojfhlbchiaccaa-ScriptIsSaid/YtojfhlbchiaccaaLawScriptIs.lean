-- turned from what wip/tools/xprint.py printed for ScriptGood
import Derived.Test.YtojfhlbchiaccaaRows
import Derived.Test.YtojfhlbchiaccaaPrint11
import Derived.Test.YtojfhlbchiaccaaPureScriptIs
import Derived.Test.YtojfhlbchiaccaaOpens
import Derived.WalkKit
import Derived.ProofKit
import Derived.OpenShut
import Derived.ShutString
import Derived.ChangeOld
import Derived.Below
import Derived.SizedLaws
import Derived.Lib.SmallJoins
import Derived.Test.YtojfhlbchiaccaaWSized
namespace Go.Proofs.Ytojfhlbchiaccaa.scriptIs
open Go.ChangeShapes Go.WideShapes Go.ChangeAt Go.RowKit
open Go.ChangeMaps (open_string shut_string)
set_option linter.unusedVariables false
theorem own : ownKnob Try.prog.godebug = none := by kernel_rfl
theorem laidOut : laidOutB Try.prog = true := by kernel_rfl
def IsRow (k : IntKind) (w : World) (a : Option Addr) (len cap : Nat) (zs : List Int) : Prop :=
  (a = none ∧ len = 0 ∧ cap = 0 ∧ zs = []) ∨
  ∃ x, a = some x ∧ len ≤ cap ∧ cap ≤ maxLen ∧ zs.length = cap ∧ (∀ i, i < zs.length → w.cell? (x.add i) = some (.int k (zs.getD i 0))) ∧ ∀ n ∈ zs, (Lit.int k n).wf = true
set_option maxRecDepth 100000 in
theorem lifted (os : Os) (started : os.Started) (H : Type) (enc : TypeId × Value → H) :
    ReturnsInHanded {} Try.checked os 3 .any (Rows.scriptIsSpec.pre6 enc Try.prog Try.f3 Rows.scriptIsRow.domain false) (Rows.scriptIsSpec.post enc Try.prog Try.f3 false true false false) := by
  refine returnsInHanded_of_change_sized (C := Try.checked) own started (by kernel_rfl) Try.func3
    (ChangeSpec.witness6 (enc := enc) (C := Try.checked) false ⟨#[], #[.agg #[.slice none 0 0, .bool false, .int .i64 0, .string ByteArray.empty, .string ByteArray.empty, .string ByteArray.empty, .string ByteArray.empty, .bool false, .bool false, .bool false, .slice none 0 0, .slice none 0 0], .slice none 0 0], []⟩ 8 (by kernel_rfl) (by kernel_rfl) (by kernel_rfl) (by kernel_rfl)) ?_
  intro W base args ds gs before hval0 hW hcnd hsz0 _
  have hsz : (DataW.weightsEach Try.prog (Try.f3.params.toList ++ Rows.scriptIsSpec.plain.varTypes Try.prog) (ds ++ gs)).all (· ≤ reachBytes) = true := hsz0
  have hval : ∀ (j : Nat) t v, Try.f3.params[j]? = some t → args[j]? = some v → Value.okWide Try.prog W .any base t v := hval0
  have hW' := hW
  obtain ⟨p, q, hA0, hV, rfl, hfz, hnd⟩ := hW
  have hA : DataW.TrodAll enc Try.prog W 0 (fun _ => true) true Try.f3.params.toList args.toList ds p := hA0
  rw [Try.params3] at hA hval hsz
  obtain ⟨v0, vs0, d0, ds0, p0, q0, hargs, rfl, rfl, h0, r0⟩ := trodAll_cons hA
  obtain ⟨v1, vs1, d1, ds1, p1, q1, rfl, rfl, rfl, h1, r1⟩ := trodAll_cons r0
  obtain ⟨rfl, rfl, rfl⟩ := trodAll_nil r1
  obtain rfl : args = #[v0, v1] := by cases args; simp_all
  obtain ⟨rfl, rfl⟩ := trodVars_none hV
  have k0 := h0
  have lt0 : ∀ x ∈ p0, x.block < W.heap.size := by obtain ⟨m, hm⟩ := k0; exact DataW.trod_lt m _ _ _ hm
  have k1 := h1
  have lt1 : ∀ x ∈ p1, x.block < W.heap.size := by obtain ⟨m, hm⟩ := k1; exact DataW.trod_lt m _ _ _ hm
  obtain ⟨A0, l0, c0, f1, b, s3, s4, s5, s6, f2, f4, f8, A10, l10, c10, A11, l11, c11, rfl, hc0, hr0, hc10, hr10, hc11, hr11, w10, w11, wb⟩ := Reader.open_script (fun a b => (⟨a, b⟩ : Print.S54)) Print.k54 rfl (fun w a b => Print.k54_mk w ⟨a, b⟩) (hval 0 27 v0 rfl rfl) h0
  obtain ⟨A1, len1, cap1, rfl⟩ := okWide_slice Try.underlying28 (hval 1 28 v1 rfl rfl)
  obtain ⟨l1, hlen1, hc1, hr1, w1⟩ : ∃ l1 : List Int, len1 = l1.length ∧ l1.length ≤ cap1 ∧ Go.Proofs.YtojfhlbchiaccaaW.PrintWords.Kd.C (Go.Proofs.YtojfhlbchiaccaaW.PrintWords.Kd.int .u8) W A1 l1.length l1 ∧ ∀ x ∈ l1, (Lit.int .u8 x).wf = true := by
    obtain ⟨fuel, hf⟩ := h1
    obtain ⟨A, l, c, hcs, hl, hC, hw⟩ := Reader.open_bytes hf
    simp [Value.cells] at hcs
    obtain ⟨rfl, rfl, rfl⟩ := hcs
    exact ⟨l, rfl, hl, hC, hw⟩
  subst hlen1
  clear hA0 hval0 hsz0 hsz
  have hlm : (Print.refRes l0).length = l0.length := List.length_map _
  obtain ⟨k, hk⟩ := Pure.ScriptIs ⟨l0, f1, b, s3, s4, s5, s6, f2, f4, f8, l10, l11⟩ l1 (fun x hx => Pure.wf8 (w1 x hx))
  dsimp only at hk
  have hcall := Print.hornbooklaw23_ScriptIs.calls k A0 c0 (Print.refRes l0) f1 b s3 s4 s5 s6 f2 f4 f8 A10 c10 l10 A11 c11 l11 A1 cap1 l1 true W (by rw [hlm]; exact hr0) (by rw [hlm]; exact hc0) hr10 hc10 hr11 hc11 hr1 hc1 hk ⟨rfl⟩
  rw [hlm] at hcall
  refine hcall.mono fun e W' ⟨he, bel⟩ => ?_
  subst he
  exact ⟨_, rfl, _, _, _, [], _, [], hW', trodAll_mk1 (shut_bool Try.underlying4 _), (trodAll_cons_mk (Below.trod laidOut (by kernel_rfl) (of_decide_eq_true (by kernel_rfl)) k0 bel lt0) (trodAll_cons_mk (Below.trod laidOut (by kernel_rfl) (of_decide_eq_true (by kernel_rfl)) k1 bel lt1) trodAll_mk0)), rfl, bel.frame _, fun h => by cases h⟩
theorem over : Rows.scriptIsRow.holds Try.pinned (OpenSpec.ofChange Rows.scriptIsSpec) :=
  OpenClaim.holds_of_wide 3 Try.f3 rfl rfl rfl rfl rfl rfl rfl ⟨rfl, rfl, rfl, rfl, rfl⟩ rfl rfl rfl rfl rfl (by kernel_rfl) Try.func3 (by kernel_rfl)
    (of_decide_eq_true (by kernel_rfl)) (by unfold Func.isWrapper; first | (rw [if_pos (by decide +kernel)]; kernel_rfl) | (rw [if_neg (by decide +kernel)]; exact ⟨rfl, rfl⟩))
    (fun os started H enc _ => lifted os started H enc)
theorem proved : Rows.ScriptIsSaid := over
#print axioms proved
end Go.Proofs.Ytojfhlbchiaccaa.scriptIs
namespace Go.Proofs.Ytojfhlbchiaccaa
/-- The row, under a short name, for the claim. -/
theorem scriptIs_holds : Rows.ScriptIsSaid := scriptIs.proved
end Go.Proofs.Ytojfhlbchiaccaa
