/- ScriptFlags: which parts there are is one byte. -/
import Derived.Test.YtojfhlbchiaccaaPrint14
import Derived.Test.YtojfhlbchiaccaaPlain2
namespace Go.Proofs.Ytojfhlbchiaccaa.Pure
open Go.RowKit Go.Proofs.Ytojfhlbchiaccaa.Print Go.Proofs.Ytojfhlbchiaccaa.Plain Go.Proofs.YtojfhlbchiaccaaW.PrintWords Go.Proofs.YtojfhlbchiaccaaW.PrintLast
set_option linter.unusedVariables false
set_option linter.unusedSimpArgs false

theorem wf8 {x : Int} (h : (Lit.int .u8 x).wf = true) : 0 ≤ x ∧ x < 256 := by
  simp [Lit.wf, IntKind.min, IntKind.max, IntKind.bits, IntKind.signed] at h; omega
def res54 (l : List (ByteArray × ByteArray)) : List S54 := l.map fun x => ⟨x.1, x.2⟩
theorem to48_54 (l : List (ByteArray × ByteArray)) : to48 (res54 l) = res48 l := by
  unfold to48 res54 res48; rw [List.map_map]; rfl
theorem to54_48 (l : List (ByteArray × ByteArray)) : to54 (res48 l) = res54 l := by
  unfold to54 res54 res48; rw [List.map_map]; rfl
theorem flags_inj (f1 f2 f4 f8 g1 g2 g4 g8 : Bool) : (Reader.flagsI f1 f2 f4 f8 == Reader.flagsI g1 g2 g4 g8) = (f1 == g1 && (f2 == g2 && (f4 == g4 && f8 == g8))) := by
  cases f1 <;> cases f2 <;> cases f4 <;> cases f8 <;> cases g1 <;> cases g2 <;> cases g4 <;> cases g8 <;> decide +kernel
theorem rd_nat (l : List Int) (i : Nat) (h : i < l.length) : rd l (i : Int) = l[i] := by
  unfold rd; rw [Int.toNat_natCast, List.getD_eq_getElem?_getD, List.getElem?_eq_getElem h]; rfl
theorem rd_mid (P R : List Int) (F G : Int) (i : Nat) (h : i < P.length + 1 + R.length) : rd (P ++ F :: R) (i : Int) = rd (P ++ G :: R) (i : Int) ↔ i ≠ P.length ∨ F = G := by
  rw [rd_nat _ _ (by simp; omega), rd_nat _ _ (by simp; omega)]
  by_cases h1 : i < P.length
  · rw [List.getElem_append_left h1, List.getElem_append_left h1]
    exact ⟨fun _ => .inl (by omega), fun _ => rfl⟩
  · rw [List.getElem_append_right (by omega), List.getElem_append_right (by omega)]
    by_cases h2 : i = P.length
    · subst h2; simp
    · obtain ⟨j, hj⟩ : ∃ j, i - P.length = j + 1 := ⟨i - P.length - 1, by omega⟩
      simp only [hj, List.getElem_cons_succ]
      exact ⟨fun _ => .inl h2, fun _ => trivial⟩
section
variable (s : Reader.Sc) (g1 g2 g4 g8 : Bool)
def alt : Reader.Sc := { s with f1 := g1, f2 := g2, f4 := g4, f8 := g8 }
theorem alt_sane : (alt s g1 g2 g4 g8).sane = s.sane := rfl
def head_ : List Int := (s.res.length : Int) :: Reader.tbs (Reader.pairs s.res)
def rest_ : List Int := s.b :: (Reader.tbs [s.s3, s.s4, s.s5, s.s6] ++ Reader.tlot s.l10 ++ Reader.tlot s.l11)
theorem put_split : s.put = head_ s ++ Reader.flagsI s.f1 s.f2 s.f4 s.f8 :: rest_ s := by
  unfold Reader.Sc.put Reader.putL head_ rest_; simp
theorem put_alt : (alt s g1 g2 g4 g8).put = head_ s ++ Reader.flagsI g1 g2 g4 g8 :: rest_ s := put_split (alt s g1 g2 g4 g8)
end
theorem ScriptFlags (s : Reader.Sc) (n : Int) (hb8 : s.B8s) :
    ∃ k, hornbooklaw23_ScriptFlags.f k (res54 s.res) s.f1 s.b s.s3 s.s4 s.s5 s.s6 s.f2 s.f4 s.f8 s.l10 s.l11 n = some true := by
  have hln : (res54 s.res).length = s.res.length := by unfold res54; rw [List.length_map]
  have h48 : (res48 s.res).length = s.res.length := by unfold res48; rw [List.length_map]
  obtain ⟨r, ⟨K, hK⟩, hQ⟩ := few_ev (res54 s.res) s.f1 s.b s.s3 s.s4 s.s5 s.s6 s.f2 s.f4 s.f8 s.l10 s.l11
  obtain ⟨M, hM⟩ : ∃ M : Nat, M = 200000000 := ⟨_, rfl⟩
  refine ⟨K + M + 1, ?_⟩
  have hk1 := hK (K + M + 1) (by omega)
  dsimp only at hk1
  unfold hornbooklaw23_ScriptFlags.f
  rw [show hornbooklaw23_awake.f = some true from rfl, Option.bind_some, hk1, Option.bind_some]
  cases r with
  | false =>
    rw [if_neg (by decide)]
    simp only [hornbooklaw23_ScriptFlags.j0]
    rw [if_pos trivial]
  | true =>
    obtain ⟨q0, q10, q11⟩ := hQ rfl
    rw [hln] at q0
    rw [if_pos rfl, plan_ev _ _ _ _ _ _ _ _ _ _ _ _ (by omega) (K + M + 1) (by omega), Option.bind_some, to48_54]
    dsimp only
    rw [sane_ev s, Option.bind_some]
    by_cases hs : s.sane = true
    · rw [hs]
      simp only [hornbooklaw23_ScriptFlags.j0]
      obtain ⟨g1, hg1⟩ : ∃ g, (Go.bits .and .i64 n 1 == 1) = g := ⟨_, rfl⟩
      obtain ⟨g2, hg2⟩ : ∃ g, (Go.bits .and .i64 n 2 == 2) = g := ⟨_, rfl⟩
      obtain ⟨g4, hg4⟩ : ∃ g, (Go.bits .and .i64 n 4 == 4) = g := ⟨_, rfl⟩
      obtain ⟨g8, hg8⟩ : ∃ g, (Go.bits .and .i64 n 8 == 8) = g := ⟨_, rfl⟩
      rw [hg1, hg2, hg4, hg8]
      have hs2 : (alt s g1 g2 g4 g8).sane = true := hs
      have hb82 : (alt s g1 g2 g4 g8).B8s := hb8
      rw [if_neg (by decide), plan_ev _ _ _ _ _ _ _ _ _ _ _ _ (by omega) (K + M) (by omega), Option.bind_some, to48_54]
      dsimp only
      rw [put_ev s hs, Option.bind_some, plan_ev _ _ _ _ _ _ _ _ _ _ _ _ (by omega) (K + M) (by omega), Option.bind_some, to48_54]
      dsimp only
      have hpa := put_ev (alt s g1 g2 g4 g8) hs2
      have hpa' : script_Put.f (res48 s.res) g1 s.b s.s3 s.s4 s.s5 s.s6 g2 g4 g8 s.l10 s.l11 = some (alt s g1 g2 g4 g8).put := hpa
      rw [hpa', Option.bind_some]
      have hpl : s.put.length ≤ 100000000 := by
        obtain ⟨a1, a2, a3, a4, a5, a6, a7, a8, a9⟩ := Reader.sane_facts s.res s.b s.s3 s.s4 s.s5 s.s6 s.l10 s.l11 hs
        have a5' := a5 s.res.length
        rw [List.take_length] at a5'
        unfold Reader.Sc.put Reader.putL
        simp only [List.length_cons, List.length_append, List.length_nil]
        omega
      have hp8 := Reader.put_B8 _ hs2
      have hg := Reader.get_put (alt s g1 g2 g4 g8) [] hs2 hb82
      rw [List.append_nil] at hg
      have e1 := put_split s
      have e2 := put_alt s g1 g2 g4 g8
      obtain ⟨P, hP⟩ : ∃ P, head_ s = P := ⟨_, rfl⟩
      obtain ⟨R, hR⟩ : ∃ R, rest_ s = R := ⟨_, rfl⟩
      obtain ⟨F, hF⟩ : ∃ F, Reader.flagsI s.f1 s.f2 s.f4 s.f8 = F := ⟨_, rfl⟩
      obtain ⟨G, hG⟩ : ∃ G, Reader.flagsI g1 g2 g4 g8 = G := ⟨_, rfl⟩
      rw [hP, hR, hF] at e1
      rw [hP, hR, hG] at e2
      have hfl := flags_inj s.f1 s.f2 s.f4 s.f8 g1 g2 g4 g8
      rw [hF, hG] at hfl
      have hgev := get_ev _ hp8
      rw [hg, e2] at hgev
      rw [e1] at hpl
      rw [e1, e2]
      have hlen : (P ++ F :: R).length = P.length + 1 + R.length := by simp; omega
      have hlen2 : (P ++ G :: R).length = P.length + 1 + R.length := by simp; omega
      rw [hlen] at hpl
      rw [if_pos (by rw [hlen, hlen2])]
      have loop : ∀ (d k i : Nat), i + d = P.length + 1 + R.length → d + 2000 < k → hornbooklaw23_ScriptFlags.l0 k true (P ++ F :: R) (P ++ G :: R) (if P.length < i ∧ F ≠ G then 1 else 0) (i : Int) (res54 s.res) s.f1 s.b s.s3 s.s4 s.s5 s.s6 s.f2 s.f4 s.f8 s.l10 s.l11 (res54 s.res) g1 s.b s.s3 s.s4 s.s5 s.s6 g2 g4 g8 s.l10 s.l11 = some true := by
        intro d
        induction d with
        | zero =>
          intro k i hi hk
          obtain ⟨k, rfl⟩ : ∃ m, k = m + 1 := ⟨k - 1, by omega⟩
          simp only [hornbooklaw23_ScriptFlags.l0]
          rw [if_neg (by rw [hlen]; omega), if_pos trivial]
          have hc : (if P.length < i ∧ F ≠ G then (1 : Int) else 0) = if F = G then 0 else 1 := by
            by_cases h : F = G
            · rw [if_neg (by simp [h]), if_pos h]
            · rw [if_pos ⟨by omega, h⟩, if_neg h]
          rw [hc]
          have hcle : (if F = G then (0 : Int) else 1) ≤ 1 := by split <;> omega
          have hcz : ((if F = G then (0 : Int) else 1) == 0) = (F == G) := by
            by_cases h : F = G
            · rw [if_pos h, h]; simp
            · rw [if_neg h]; simp [h]
          rw [if_pos hcle, if_pos (by rw [hcz, hfl]; simp), hgev, Option.bind_some]
          dsimp only
          have hpe := planned_ev (res48 s.res) g1 s.b s.s3 s.s4 s.s5 s.s6 g2 g4 g8 s.l10 s.l11 (by omega) k (by omega)
          rw [to54_48] at hpe
          have hpe' : hornbooklaw23_planned.f k (res48 (alt s g1 g2 g4 g8).res) (alt s g1 g2 g4 g8).f1 (alt s g1 g2 g4 g8).b (alt s g1 g2 g4 g8).s3 (alt s g1 g2 g4 g8).s4 (alt s g1 g2 g4 g8).s5 (alt s g1 g2 g4 g8).s6 (alt s g1 g2 g4 g8).f2 (alt s g1 g2 g4 g8).f4 (alt s g1 g2 g4 g8).f8 (alt s g1 g2 g4 g8).l10 (alt s g1 g2 g4 g8).l11 = some (res54 s.res, g1, s.b, s.s3, s.s4, s.s5, s.s6, g2, g4, g8, s.l10, s.l11) := hpe
          rw [hpe', Option.bind_some]
          dsimp only
          rw [same_same _ _ _ _ _ _ _ _ _ _ _ _ (by omega) (by omega) (by omega) k (by omega)]
          rfl
        | succ d ih =>
          intro k i hi hk
          obtain ⟨k, rfl⟩ : ∃ m, k = m + 1 := ⟨k - 1, by omega⟩
          simp only [hornbooklaw23_ScriptFlags.l0]
          rw [if_pos (by rw [hlen]; omega), if_pos (by omega), if_pos (by rw [hlen2]; omega), wrap_nat i (by omega)]
          have hm := rd_mid P R F G i (by omega)
          have hi2 := ih k (i + 1) (by omega) (by omega)
          by_cases he : i ≠ P.length ∨ F = G
          · rw [if_pos (hm.2 he)]
            have : (if P.length < i + 1 ∧ F ≠ G then (1 : Int) else 0) = if P.length < i ∧ F ≠ G then 1 else 0 := by
              by_cases hFG : F = G
              · rw [if_neg (by simp [hFG]), if_neg (by simp [hFG])]
              · by_cases hlt : P.length < i
                · rw [if_pos ⟨by omega, hFG⟩, if_pos ⟨hlt, hFG⟩]
                · rw [if_neg (by omega), if_neg (by omega)]
            rw [this] at hi2
            exact hi2
          · rw [if_neg (fun h => he (hm.1 h))]
            have hFG : F ≠ G := fun h => he (.inr h)
            have hip : i = P.length := by omega
            rw [if_pos ⟨by omega, hFG⟩] at hi2
            rw [if_neg (show ¬ (P.length < i ∧ F ≠ G) by omega), show wrap64 ((0 : Int) + 1) = 1 by unfold wrap64; omega]
            exact hi2
      have := loop (P.length + 1 + R.length) (K + M) 0 (by omega) (by omega)
      rw [if_neg (by omega)] at this
      exact this
    · rw [Bool.eq_false_iff.2 hs]
      simp only [hornbooklaw23_ScriptFlags.j0]
      rw [if_pos (by decide)]
end Go.Proofs.Ytojfhlbchiaccaa.Pure
