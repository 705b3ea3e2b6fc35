/- ScriptIs: any script as bytes, any bytes as a script, and whether any may be, are what the reference says. -/
import Derived.Test.YtojfhlbchiaccaaPrint11
import Derived.Test.YtojfhlbchiaccaaPlain2
namespace Go.Proofs.Ytojfhlbchiaccaa.Pure
open Go.RowKit Go.Proofs.Ytojfhlbchiaccaa.Print Go.Proofs.Ytojfhlbchiaccaa.Plain Go.Proofs.YtojfhlbchiaccaaW.PrintWords Go.Proofs.YtojfhlbchiaccaaW.PrintLast
set_option linter.unusedVariables false
set_option linter.unusedSimpArgs false

theorem wf8 {x : Int} (h : (Lit.int .u8 x).wf = true) : 0 ≤ x ∧ x < 256 := by
  simp [Lit.wf, IntKind.min, IntKind.max, IntKind.bits, IntKind.signed] at h; omega
theorem to48_ref (l : List (ByteArray × ByteArray)) : to48 (refRes l) = res48 l := by
  unfold to48 refRes res48; rw [List.map_map]; rfl
theorem to54_ref (l : List (ByteArray × ByteArray)) : to54 (res48 l) = refRes l := by
  unfold to54 refRes res48; rw [List.map_map]; rfl
theorem ref_len (l : List (ByteArray × ByteArray)) : (refRes l).length = l.length := by unfold refRes; rw [List.length_map]
theorem rdL (l : List (List Int)) (i : Nat) (h : i < l.length) : rd_L7 l (i : Int) = l[i] := by
  unfold rd_L7; rw [Int.toNat_natCast, List.getD_eq_getElem?_getD, List.getElem?_eq_getElem h]; rfl
theorem short_from (l : List (List Int)) (hl : l.length ≤ 1000000) (d : Nat) : ∀ (k i : Nat), i + d = l.length → d < k →
    hornbookref23_short.l0 k l (i : Int) = some (decide (l.length ≤ 40) && !(l.drop i).any (fun x => decide (65535 < (x.length : Int))) || (l.drop i).any (fun x => decide (65535 < (x.length : Int))) && false) := by
  induction d with
  | zero =>
    intro k i hi hk
    obtain ⟨k, rfl⟩ : ∃ m, k = m + 1 := ⟨k - 1, by omega⟩
    simp only [hornbookref23_short.l0]
    rw [if_neg (by omega), show l.drop i = [] from List.drop_eq_nil_of_le (by omega)]
    have : decide ((l.length : Int) ≤ 40) = decide (l.length ≤ 40) := decide_eq_decide.2 (by omega)
    simp [this]
  | succ d ih =>
    intro k i hi hk
    obtain ⟨k, rfl⟩ : ∃ m, k = m + 1 := ⟨k - 1, by omega⟩
    have hlt : i < l.length := by omega
    simp only [hornbookref23_short.l0]
    rw [if_pos (by omega), if_pos (by omega), rdL l i hlt, List.drop_eq_getElem_cons hlt, List.any_cons]
    by_cases ha : ((l[i]).length : Int) > 65535
    · rw [if_pos ha, show decide (65535 < ((l[i]).length : Int)) = true from decide_eq_true ha]; simp
    · rw [if_neg ha, wrap_nat i (by omega), ih k (i + 1) (by omega) (by omega), show decide (65535 < ((l[i]).length : Int)) = false from decide_eq_false ha]
      simp
theorem short_ev (l : List (List Int)) (hl : l.length ≤ 1000000) (k : Nat) (hk : l.length < k) : hornbookref23_short.f k l = some (Reader.mayB l) := by
  unfold hornbookref23_short.f
  rw [show (0 : Int) = ((0 : Nat) : Int) from rfl, short_from l hl l.length k 0 (by omega) hk]
  unfold Reader.mayB
  rw [List.drop_zero]; simp
section
variable (l : List (ByteArray × ByteArray)) (f1 : Bool) (b : Int) (s3 s4 s5 s6 : ByteArray) (f2 f4 f8 : Bool) (l10 l11 : List (List Int))
theorem ref_at (i : Nat) (h : i < l.length) : rd_T54 (refRes l) (i : Int) = ⟨(l[i]).1, (l[i]).2⟩ := by
  rw [rd54 (refRes l) i (by rw [ref_len]; exact h)]
  unfold refRes
  rw [List.getElem_map]
theorem sane_from (hl : l.length ≤ 1000000) (h10 : l10.length ≤ 1000000) (h11 : l11.length ≤ 1000000) (d : Nat) : ∀ (k i : Nat), i + d = l.length → d + l10.length + l11.length + 1 < k →
    hornbookref23_Sane.l0 k (i : Int) (refRes l) f1 b s3 s4 s5 s6 f2 f4 f8 l10 l11 = some (!(l.drop i).any (fun x => Reader.longS x.1 x.2) && (decide (l.length ≤ 12) && (Reader.mayB l10 && (Reader.mayB l11 && Reader.partsB b s3 s4 s5 s6)))) := by
  induction d with
  | zero =>
    intro k i hi hk
    obtain ⟨k, rfl⟩ : ∃ m, k = m + 1 := ⟨k - 1, by omega⟩
    simp only [hornbookref23_Sane.l0]
    rw [ref_len, if_neg (by omega), show l.drop i = [] from List.drop_eq_nil_of_le (by omega), List.any_nil, Bool.not_false, Bool.true_and]
    by_cases c0 : l.length ≤ 12
    · rw [if_pos (by omega), short_ev l10 h10 k (by omega), Option.bind_some, decide_eq_true c0, Bool.true_and]
      cases Reader.mayB l10 with
      | false => rfl
      | true =>
        rw [if_pos rfl, short_ev l11 h11 k (by omega), Option.bind_some, Bool.true_and]
        cases Reader.mayB l11 with
        | false => rfl
        | true =>
          rw [if_pos rfl, Bool.true_and]
          unfold Reader.partsB
          by_cases c3 : s3.size ≤ 65535
          · rw [if_pos (by omega)]
            by_cases c4 : s4.size ≤ 65535
            · rw [if_pos (by omega)]
              by_cases c5 : s5.size ≤ 65535
              · rw [if_pos (by omega)]
                by_cases c6 : s6.size ≤ 65535
                · rw [if_pos (by omega)]
                  by_cases cb : b ≥ 0
                  · rw [if_pos cb]
                    congr 1
                    exact decide_eq_decide.2 ⟨fun h => ⟨c3, c4, c5, c6, cb, h⟩, fun h => h.2.2.2.2.2⟩
                  · rw [if_neg cb]; congr 1; exact (decide_eq_false (fun h => cb h.2.2.2.2.1)).symm
                · rw [if_neg (by omega)]; congr 1; exact (decide_eq_false (fun h => c6 h.2.2.2.1)).symm
              · rw [if_neg (by omega)]; congr 1; exact (decide_eq_false (fun h => c5 h.2.2.1)).symm
            · rw [if_neg (by omega)]; congr 1; exact (decide_eq_false (fun h => c4 h.2.1)).symm
          · rw [if_neg (by omega)]; congr 1; exact (decide_eq_false (fun h => c3 h.1)).symm
    · rw [if_neg (by omega), decide_eq_false c0]; rfl
  | succ d ih =>
    intro k i hi hk
    obtain ⟨k, rfl⟩ : ∃ m, k = m + 1 := ⟨k - 1, by omega⟩
    have hlt : i < l.length := by omega
    simp only [hornbookref23_Sane.l0]
    rw [ref_len, if_pos (by omega), if_pos (by omega), ref_at l i hlt, List.drop_eq_getElem_cons hlt, List.any_cons]
    dsimp only
    unfold Reader.longS
    by_cases ha : (((l[i]).1.size : Nat) : Int) > 65535
    · rw [if_pos ha, show decide (65535 < (((l[i]).1.size : Nat) : Int)) = true from decide_eq_true ha]; simp
    · rw [if_neg ha, show decide (65535 < (((l[i]).1.size : Nat) : Int)) = false from decide_eq_false ha]
      by_cases hb : (((l[i]).2.size : Nat) : Int) > 65535
      · rw [if_pos hb, show decide (65535 < (((l[i]).2.size : Nat) : Int)) = true from decide_eq_true hb]; simp
      · rw [if_neg hb, wrap_nat i (by omega), ih k (i + 1) (by omega) (by omega), show decide (65535 < (((l[i]).2.size : Nat) : Int)) = false from decide_eq_false hb]
        simp [Reader.longS]
theorem rsane_ev (hl : l.length ≤ 1000000) (h10 : l10.length ≤ 1000000) (h11 : l11.length ≤ 1000000) (k : Nat) (hk : l.length + l10.length + l11.length + 1 < k) :
    hornbookref23_Sane.f k (refRes l) f1 b s3 s4 s5 s6 f2 f4 f8 l10 l11 = some (Reader.saneB l b s3 s4 s5 s6 l10 l11) := by
  unfold hornbookref23_Sane.f
  rw [show (0 : Int) = ((0 : Nat) : Int) from rfl, sane_from l f1 b s3 s4 s5 s6 f2 f4 f8 l10 l11 hl h10 h11 l.length k 0 (by omega) (by omega), List.drop_zero]
  congr 1
  unfold Reader.saneB
  cases Reader.partsB b s3 s4 s5 s6 <;> cases decide (l.length ≤ 12) <;> cases l.any (fun x => Reader.longS x.1 x.2) <;> cases Reader.mayB l10 <;> cases Reader.mayB l11 <;> rfl
end
theorem text_ev (acc : List Int) (s : ByteArray) (h : acc.length + (Reader.tb s).length ≤ 100000000) : hornbookref23_text.f acc s = some (acc ++ Reader.tb s) := by
  unfold hornbookref23_text.f
  rw [Reader.tb_len] at h
  rw [if_pos (by omega)]
theorem texts_from (l : List (List Int)) (hl : l.length ≤ 1000000) (d : Nat) : ∀ (k i : Nat) (acc : List Int), i + d = l.length → d < k → acc.length + (Reader.tbs ((l.drop i).map strOfNums)).length ≤ 100000000 →
    hornbookref23_texts.l0 k acc l (i : Int) = some (acc ++ Reader.tbs ((l.drop i).map strOfNums)) := by
  induction d with
  | zero =>
    intro k i acc hi hk _
    obtain ⟨k, rfl⟩ : ∃ m, k = m + 1 := ⟨k - 1, by omega⟩
    simp only [hornbookref23_texts.l0]
    rw [if_neg (by omega), show l.drop i = [] from List.drop_eq_nil_of_le (by omega)]
    simp [Reader.tbs]
  | succ d ih =>
    intro k i acc hi hk hz
    obtain ⟨k, rfl⟩ : ∃ m, k = m + 1 := ⟨k - 1, by omega⟩
    have hlt : i < l.length := by omega
    have e : Reader.tbs ((l.drop i).map strOfNums) = Reader.tb (strOfNums l[i]) ++ Reader.tbs ((l.drop (i + 1)).map strOfNums) := by
      rw [List.drop_eq_getElem_cons hlt]; rfl
    rw [e, List.length_append] at hz
    simp only [hornbookref23_texts.l0]
    rw [if_pos (by omega), if_pos (by omega), rdL l i hlt, text_ev acc _ (by omega), Option.bind_some, wrap_nat i (by omega), ih k (i + 1) _ (by omega) (by omega) (by rw [List.length_append]; omega), e, List.append_assoc]
theorem texts_ev (l : List (List Int)) (hl : l.length ≤ 40) (acc : List Int) (k : Nat) (hk : l.length < k) (hz : acc.length + (Reader.tlot l).length ≤ 100000000) : hornbookref23_texts.f k acc l = some (acc ++ Reader.tlot l) := by
  have e : Reader.tlot l = [(l.length : Int)] ++ Reader.tbs (l.map strOfNums) := rfl
  rw [e, List.length_append] at hz
  simp only [List.length_cons, List.length_nil] at hz
  unfold hornbookref23_texts.f
  rw [if_pos (by omega), show ((l.length : Int)) % 256 = l.length by omega, show (0 : Int) = ((0 : Nat) : Int) from rfl, texts_from l (by omega) l.length k 0 _ (by omega) hk (by rw [List.length_append, List.drop_zero]; simp only [List.length_cons, List.length_nil]; omega), List.drop_zero, e, List.append_assoc]
section
variable (l : List (ByteArray × ByteArray)) (f1 : Bool) (b : Int) (s3 s4 s5 s6 : ByteArray) (f2 f4 f8 : Bool) (l10 l11 : List (List Int))
theorem flags_ev : wrap64 (wrap64 (wrap64 ((if f1 then 1 else 0) + (if f2 then 2 else 0)) + (if f4 then 4 else 0)) + (if f8 then 8 else 0)) % 256 = Reader.flagsI f1 f2 f4 f8 := by
  cases f1 <;> cases f2 <;> cases f4 <;> cases f8 <;> decide +kernel
theorem flag_ev (f : Bool) (n : Int) : hornbookref23_flag.f f n = some (if f then n else 0) := by
  unfold hornbookref23_flag.f; cases f <;> rfl
theorem put_from (hl : l.length ≤ 12) (hb0 : 0 ≤ b) (hb1 : b ≤ 255) (h10 : l10.length ≤ 40) (h11 : l11.length ≤ 40) (d : Nat) : ∀ (k i : Nat) (acc : List Int), i + d = l.length → d + l10.length + l11.length + 1 < k →
    acc.length + (Reader.tbs (Reader.pairs (l.drop i))).length + 2 + (Reader.tbs [s3, s4, s5, s6]).length + (Reader.tlot l10).length + (Reader.tlot l11).length ≤ 100000000 →
    hornbookref23_Put.l0 k acc (i : Int) (refRes l) f1 b s3 s4 s5 s6 f2 f4 f8 l10 l11 = some (acc ++ (Reader.tbs (Reader.pairs (l.drop i)) ++ [Reader.flagsI f1 f2 f4 f8, b] ++ Reader.tbs [s3, s4, s5, s6] ++ Reader.tlot l10 ++ Reader.tlot l11)) := by
  have e4 : Reader.tbs [s3, s4, s5, s6] = Reader.tb s3 ++ (Reader.tb s4 ++ (Reader.tb s5 ++ Reader.tb s6)) := by simp [Reader.tbs]
  induction d with
  | zero =>
    intro k i acc hi hk hz
    obtain ⟨k, rfl⟩ : ∃ m, k = m + 1 := ⟨k - 1, by omega⟩
    simp only [hornbookref23_Put.l0]
    rw [ref_len, if_neg (by omega), show l.drop i = [] from List.drop_eq_nil_of_le (by omega)]
    rw [show l.drop i = [] from List.drop_eq_nil_of_le (by omega), e4] at hz
    have e0 : Reader.tbs (Reader.pairs ([] : List (ByteArray × ByteArray))) = [] := rfl
    rw [e0] at hz ⊢
    simp only [List.length_append, List.length_nil] at hz
    rw [flag_ev, Option.bind_some, flag_ev, Option.bind_some, flag_ev, Option.bind_some, flag_ev, Option.bind_some, Option.bind_some, flags_ev, show b % 256 = b by omega]
    simp only [List.length_cons, List.length_nil]
    rw [if_pos (by omega)]
    rw [text_ev _ s3 (by simp only [List.length_append, List.length_cons, List.length_nil]; omega), Option.bind_some]
    rw [text_ev _ s4 (by simp only [List.length_append, List.length_cons, List.length_nil]; omega), Option.bind_some]
    rw [text_ev _ s5 (by simp only [List.length_append, List.length_cons, List.length_nil]; omega), Option.bind_some]
    rw [text_ev _ s6 (by simp only [List.length_append, List.length_cons, List.length_nil]; omega), Option.bind_some]
    rw [texts_ev l10 h10 _ k (by omega) (by simp only [List.length_append, List.length_cons, List.length_nil]; omega), Option.bind_some]
    rw [texts_ev l11 h11 _ k (by omega) (by simp only [List.length_append, List.length_cons, List.length_nil]; omega), Option.bind_some, e4]
    congr 1
    simp only [List.append_assoc, List.nil_append]
  | succ d ih =>
    intro k i acc hi hk hz
    obtain ⟨k, rfl⟩ : ∃ m, k = m + 1 := ⟨k - 1, by omega⟩
    have hlt : i < l.length := by omega
    have e : Reader.tbs (Reader.pairs (l.drop i)) = Reader.tb (l[i]).1 ++ (Reader.tb (l[i]).2 ++ Reader.tbs (Reader.pairs (l.drop (i + 1)))) := by
      rw [List.drop_eq_getElem_cons hlt]; rfl
    rw [e] at hz
    simp only [List.length_append] at hz
    simp only [hornbookref23_Put.l0]
    rw [ref_len, if_pos (by omega), if_pos (by omega), ref_at l i hlt]
    dsimp only
    rw [text_ev acc _ (by omega), Option.bind_some, text_ev _ _ (by rw [List.length_append]; omega), Option.bind_some, wrap_nat i (by omega), ih k (i + 1) _ (by omega) (by omega) (by simp only [List.length_append]; omega), e]
    congr 1
    simp only [List.append_assoc]
end
theorem rput_ev (s : Reader.Sc) (h10 : s.l10.length ≤ 1000000) (h11 : s.l11.length ≤ 1000000) (hl : s.res.length ≤ 1000000) (k : Nat) (hk : s.res.length + s.l10.length + s.l11.length + 2 < k) :
    hornbookref23_Put.f k (refRes s.res) s.f1 s.b s.s3 s.s4 s.s5 s.s6 s.f2 s.f4 s.f8 s.l10 s.l11 = some (if s.sane = true then s.put else []) := by
  unfold hornbookref23_Put.f
  rw [rsane_ev s.res s.f1 s.b s.s3 s.s4 s.s5 s.s6 s.f2 s.f4 s.f8 s.l10 s.l11 hl h10 h11 k (by omega), Option.bind_some]
  by_cases hs : s.sane = true
  · rw [if_pos (show Reader.saneB s.res s.b s.s3 s.s4 s.s5 s.s6 s.l10 s.l11 = true from hs), if_pos hs]
    obtain ⟨a1, a2, a3, a4, a5, a6, a7, a8, a9⟩ := Reader.sane_facts s.res s.b s.s3 s.s4 s.s5 s.s6 s.l10 s.l11 hs
    have a5' := a5 s.res.length
    rw [List.take_length] at a5'
    rw [ref_len, show (s.res.length : Int) % 256 = s.res.length by omega, show (0 : Int) = ((0 : Nat) : Int) from rfl, put_from s.res s.f1 s.b s.s3 s.s4 s.s5 s.s6 s.f2 s.f4 s.f8 s.l10 s.l11 a1 a2 a3 a6 a8 s.res.length k 0 _ (by omega) (by omega) (by rw [List.drop_zero]; simp only [List.length_cons, List.length_nil]; omega), List.drop_zero]
    rfl
  · rw [if_neg (show ¬ Reader.saneB s.res s.b s.s3 s.s4 s.s5 s.s6 s.l10 s.l11 = true from hs), if_neg hs]
theorem rget_ev (l : List Int) (h : Reader.B8 l) : hornbookref23_Get.f l = some (refRes (Reader.getS l).res, (Reader.getS l).f1, (Reader.getS l).b, (Reader.getS l).s3, (Reader.getS l).s4, (Reader.getS l).s5, (Reader.getS l).s6, (Reader.getS l).f2, (Reader.getS l).f4, (Reader.getS l).f8, (Reader.getS l).l10, (Reader.getS l).l11) := by
  unfold hornbookref23_Get.f
  rw [if_pos (List.all_eq_true.2 fun x hx => decide_eq_true (h x hx))]
  unfold Reader.getS
  dsimp only
theorem put_any (s : Reader.Sc) : script_Put.f (res48 s.res) s.f1 s.b s.s3 s.s4 s.s5 s.s6 s.f2 s.f4 s.f8 s.l10 s.l11 = some (if s.sane = true then s.put else []) := by
  by_cases hs : s.sane = true
  · rw [put_ev s hs, if_pos hs]
  · rw [put_ev_not s (Bool.eq_false_iff.2 hs), if_neg hs]
theorem getS_len (l : List Int) : (Reader.getS l).res.length ≤ 12 ∧ (Reader.getS l).l10.length ≤ 40 ∧ (Reader.getS l).l11.length ≤ 40 := by
  unfold Reader.getS Reader.lots
  dsimp only
  rw [Reader.resN_len, Reader.txtN_len, Reader.txtN_len]
  unfold Reader.gN
  omega
theorem ScriptIs (s : Reader.Sc) (l : List Int) (hb : Reader.B8 l) :
    ∃ k, hornbooklaw23_ScriptIs.f k (refRes s.res) s.f1 s.b s.s3 s.s4 s.s5 s.s6 s.f2 s.f4 s.f8 s.l10 s.l11 l = some true := by
  obtain ⟨r, ⟨K, hK⟩, hQ⟩ := few_ev (refRes s.res) s.f1 s.b s.s3 s.s4 s.s5 s.s6 s.f2 s.f4 s.f8 s.l10 s.l11
  refine ⟨K + 2001, ?_⟩
  have hk1 := hK (K + 2001) (by omega)
  dsimp only at hk1
  unfold hornbooklaw23_ScriptIs.f
  rw [show hornbooklaw23_awake.f = some true from rfl, Option.bind_some, hk1, Option.bind_some]
  cases r with
  | false =>
    rw [if_neg (by decide)]
    simp only [hornbooklaw23_ScriptIs.j0]
    rw [if_pos trivial]
  | true =>
    obtain ⟨q0, q10, q11⟩ := hQ rfl
    rw [ref_len] at q0
    rw [if_pos rfl]
    by_cases h5 : (l.length : Int) > 8000
    · simp only [hornbooklaw23_ScriptIs.j0]
      rw [if_pos (decide_eq_true h5)]
    · obtain ⟨g0, g10, g11⟩ := getS_len l
      have h48 : (res48 (Reader.getS l).res).length = (Reader.getS l).res.length := by unfold res48; rw [List.length_map]
      simp only [hornbooklaw23_ScriptIs.j0]
      rw [if_neg (by rw [decide_eq_true_eq]; exact h5), if_pos trivial, plan_ev _ _ _ _ _ _ _ _ _ _ _ _ (by rw [ref_len]; omega) (K + 2000) (by rw [ref_len]; omega), Option.bind_some, to48_ref]
      dsimp only
      rw [sane_ev s, Option.bind_some, rsane_ev _ _ _ _ _ _ _ _ _ _ _ _ (by omega) (by omega) (by omega) (K + 2000) (by omega), Option.bind_some, if_pos (show (s.sane == Reader.saneB s.res s.b s.s3 s.s4 s.s5 s.s6 s.l10 s.l11) = true from beq_self_eq_true s.sane), Option.bind_some]
      dsimp only
      rw [put_any s, Option.bind_some, rput_ev s (by omega) (by omega) (by omega) (K + 2000) (by omega), Option.bind_some, if_pos rfl]
      rw [get_ev l hb, Option.bind_some]
      dsimp only
      rw [planned_ev _ _ _ _ _ _ _ _ _ _ _ _ (by omega) (K + 2000) (by omega), Option.bind_some, to54_ref, rget_ev l hb, Option.bind_some]
      dsimp only
      rw [same_same _ _ _ _ _ _ _ _ _ _ _ _ (by rw [ref_len]; omega) (by omega) (by omega) (K + 2000) (by rw [ref_len]; omega)]
      rfl
end Go.Proofs.Ytojfhlbchiaccaa.Pure
