/- glyph.Back. -/
import Derived.Test.YtgdlmgdcoedfoaaGreatDoorUni2
namespace Go.Proofs.YtgdlmgdcoedfoaaGreatDoor.Agl
open Go.RowKit Go.Proofs.YtgdlmgdcoedfoaaGreatDoorW.PrintWords Go.Proofs.YtgdlmgdcoedfoaaGreatDoorW.PrintLast Go.Proofs.YtgdlmgdcoedfoaaGreatDoorW.PrintMore
set_option linter.unusedVariables false
set_option linter.unusedSimpArgs false

theorem cell_zero {W : World} {a : Addr} {v : Value} (h : W.cell? (a.add 0) = some v) : W.cell? a = some v := by
  cases a with
  | mk b o p => cases p <;> exact h
def fieldsL : List (List UInt8) := Lib.fields listL
def eqVal (f : List UInt8) : List UInt8 := (Lib.cut f [61]).2.1
def eqName (f : List UInt8) : List UInt8 := f.takeWhile (· != 61)
def fvals (f : List UInt8) : List Int := valuesL (asB (eqVal f))
def backF (r : Int) : List (List UInt8) → Option (List UInt8)
  | [] => none
  | f :: fs => if fvals f = [r] then some (eqName f) else backF r fs
theorem fields_ok : (fieldsL.all fun f => okVal (eqVal f) && decide (f.length ≤ 100)) = true := by decide +kernel
theorem fields_num : fieldsL.length = 343 ∨ fieldsL.length ≤ 1000 := .inr (by decide +kernel)
theorem list_ascii : listL.all (fun b => decide (b.toNat < 128)) = true := by decide +kernel
theorem fields47 (W : World) (hl : Laid W) : Calls Tryz.prog 47 #[.string listB] W fun e w' => ∃ v, e = .returned v ∧ Kd.R Kd.string 9 w' W.heap.size (fun _ => True) v (fieldsL.map asB) ∧ Below W.heap.size W w' := by
  refine (Tryz.strings_Fields listB W listB_size (ascii_of_all list_ascii) hl.space).mono ?_
  rintro e w' ⟨rfl, rfl⟩
  refine ⟨_, rfl, ?_, Below.alloc (Below.refl _ _) (Nat.le_refl _) _⟩
  have h := row_new W (fieldsL.map asB) (by rw [List.length_map]; rcases fields_num with h | h <;> omega)
  rw [List.length_map] at h
  have e : (fieldsL.map asB).map Value.string = (Lib.fields listB.data.toList).map fun l => Value.string ⟨l.toArray⟩ := by rw [List.map_map]; rfl
  rw [e] at h
  exact h
theorem backF_step (r : Int) (L : List (List UInt8)) (k : Nat) (hk : k < L.length) : backF r (L.drop k) = if fvals L[k] = [r] then some (eqName L[k]) else backF r (L.drop (k + 1)) := by
  rw [List.drop_eq_getElem_cons hk]; rfl
set_option maxHeartbeats 1000000 in
set_option maxRecDepth 100000 in
theorem back60 (r : Int) (w : World) (hL : Laid w) :
    Calls Tryz.prog 60 #[.int .i64 r] w fun e W' => e = .returned (.tuple #[.string (asB ((backF r fieldsL).getD [])), .bool (backF r fieldsL).isSome]) ∧ Below w.heap.size w W' := by
  have HL := Aside0.mk hL
  have L1 := Aside0.mk list48
  have FL := Aside0.mk fields47
  have hfo := List.all_eq_true.1 fields_ok
  obtain ⟨lb, hlb⟩ : ∃ l, listB = l := ⟨_, rfl⟩
  rw [hlb] at L1 FL
  have hn : fieldsL.length ≤ 1000 := by rcases fields_num with h | h <;> omega
  obtain ⟨L, hLL⟩ : ∃ l, fieldsL = l := ⟨_, rfl⟩
  rw [hLL] at FL hfo hn ⊢
  have hlm : (L.map asB).length = L.length := List.length_map ..
  have HFO := Aside0.mk hfo
  obtain ⟨R, hR⟩ : ∃ R, backF r L = R := ⟨_, rfl⟩
  rw [hR]
  have HR0 := Aside0.mk hR
  clear hlb hLL hfo hL hR
  obtain ⟨M, hM⟩ : ∃ M, L.map asB = M := ⟨_, rfl⟩
  rw [hM] at FL hlm
  have HM := Aside0.mk hM
  have HLM := Aside0.mk hlm
  clear hM
  go_enter Tryz.func60, Tryz.ntmps60
  go_wp2_with (first
    | (go_at_call 48; refine (L1.out w).mono ?_; rintro e W1 ⟨rfl, hb⟩; have HB1 := Aside0.mk hb; clear hb)
    | (go_at_call 47; refine (FL.out W1 (HL.out.below HB1.out)).mono ?_; rintro e W2 ⟨v, rfl, hR, hb⟩; obtain ⟨A, c, rfl, hc, hC⟩ := Kd.R_reads hR; have HC := Aside0.mk hC; have HB2 := Aside0.mk hb; clear hR hb hc hC))
  have HB12 := Aside0.mk (below_step HB1.out HB2.out)
  clear hlm
  go_loopw [13] (fun i wr => ∃ k : Nat, k ≤ L.length ∧ i = .int .i64 k ∧ Below W2.heap.size W2 wr ∧ backF r (L.drop k) = R) (fun i _ => L.length - (intOf i).toNat)
  case atStart => exact ⟨0, Nat.zero_le _, rfl, Below.refl _ _, by rw [List.drop_zero]; exact HR0.out⟩
  case round =>
    obtain ⟨k, hk, rfl, hB, hrest⟩ := hrel
    have HB := Aside0.mk hB
    clear hB
    by_cases hlt : k < L.length
    · obtain ⟨ad, rfl, hcell0⟩ := Kd.at_string HC.out k (by omega) (by rw [HLM.out]; omega)
      have hx : rdOf ByteArray.empty M (k : Int) = asB L[k] := by
        unfold rdOf
        rw [List.getD_eq_getElem?_getD, Int.toNat_natCast, ← HM.out, List.getElem?_map, List.getElem?_eq_getElem hlt]; rfl
      rw [hx] at hcell0
      rw [backF_step r L k hlt] at hrest
      have hfo := HFO.out L[k] (List.getElem_mem hlt)
      obtain ⟨f, hf⟩ : ∃ f, L[k] = f := ⟨_, rfl⟩
      rw [hf] at hcell0 hrest hfo
      have hcell1 := cell_below hcell0 HB.out
      rw [Int.toNat_natCast] at hcell1
      rw [Bool.and_eq_true, decide_eq_true_eq] at hfo
      have C := Aside0.mk (fun W hl => cut30 (asB f) ⟨#[61]⟩ W hl (by rw [← data_length]; have := hfo.2; show f.length < _; omega))
      rw [show (asB f).data.toList = f from rfl, show (⟨#[61]⟩ : ByteArray).data.toList = [61] from rfl, cut_one] at C
      have hsz : (asB (eqVal f)).size ≤ 100000 := by
        rw [← data_length]; show (eqVal f).length ≤ _
        have := cut_len f [61]; have := hfo.2; unfold eqVal; omega
      have V := Aside0.mk (fun W => values50 (asB (eqVal f)) W hsz (ok_pieces (s := asB (eqVal f)) hfo.1))
      have e1 : (⟨(f.takeWhile (· != 61)).toArray⟩ : ByteArray) = asB (eqName f) := rfl
      have e2 : (⟨(Lib.cut f [61]).2.1.toArray⟩ : ByteArray) = asB (eqVal f) := rfl
      have e3 : valuesL (asB (eqVal f)) = fvals f := rfl
      rw [e1, e2] at C
      rw [e3] at V
      obtain ⟨b3, hb3⟩ : ∃ b, (Lib.cut f [61]).2.2 = b := ⟨_, rfl⟩
      rw [hb3] at C
      obtain ⟨y, hy⟩ : ∃ y, asB (eqVal f) = y := ⟨_, rfl⟩
      obtain ⟨vs, hvs⟩ : ∃ vs, fvals f = vs := ⟨_, rfl⟩
      obtain ⟨nm, hnm⟩ : ∃ nm, eqName f = nm := ⟨_, rfl⟩
      obtain ⟨fb, hfb⟩ : ∃ fb, asB f = fb := ⟨_, rfl⟩
      rw [hnm, hy, hfb] at C
      rw [hy, hvs] at V
      rw [hvs, hnm] at hrest
      rw [hfb] at hcell1
      clear hsz e1 e2 e3 hb3 hy hvs hnm hfb hf hx hcell0 hfo
      obtain ⟨nb, hnb⟩ : ∃ nb, asB nm = nb := ⟨_, rfl⟩
      rw [hnb] at C
      have HNB := Aside0.mk hnb
      clear hnb
      have HREST := Aside0.mk hrest
      clear hrest
      have HCL := Aside0.mk hcell1
      by_cases h1 : vs.length = 1
      · obtain ⟨x, rfl⟩ := List.length_eq_one_iff.1 h1
        clear h1
        by_cases hxr : x = r
        · subst hxr
          have hh := HREST.out
          rw [if_pos rfl] at hh
          subst hh
          go_wp2_with (first
            | (go_at_call 30; refine (C.out wr (HL.out.below (below_step HB12.out HB.out))).mono ?_; rintro e W3 ⟨rfl, hb⟩; have HB3 := Aside0.mk hb; clear hb)
            | (go_at_call 50; refine (V.out W3).mono ?_; rintro e W4 ⟨v4, rfl, hR, hb⟩; obtain ⟨A4, c4, rfl, hc4, hC4⟩ := Kd.R_reads hR; obtain ⟨ad4, rfl, hcell4⟩ := Kd.at_int hC4 0 (by decide) (by simp); have hcell5 : W4.cell? ad4 = some (.int .i64 x) := (cell_zero hcell4); have HB4 := Aside0.mk hb; clear hR hb hc4 hC4 hcell4))
          go_ret2
          refine ⟨?_, below_step HB12.out (below_step (below_step HB.out HB3.out) HB4.out)⟩
          simp only [Option.getD_some, Option.isSome_some]
          rw [HNB.out]; rfl
        · have hh := HREST.out
          rw [if_neg (by intro h; exact hxr (List.cons.inj h).1)] at hh
          go_wp2_with (first
            | (go_at_call 30; refine (C.out wr (HL.out.below (below_step HB12.out HB.out))).mono ?_; rintro e W3 ⟨rfl, hb⟩; have HB3 := Aside0.mk hb; clear hb)
            | (go_at_call 50; refine (V.out W3).mono ?_; rintro e W4 ⟨v4, rfl, hR, hb⟩; obtain ⟨A4, c4, rfl, hc4, hC4⟩ := Kd.R_reads hR; obtain ⟨ad4, rfl, hcell4⟩ := Kd.at_int hC4 0 (by decide) (by simp); have hcell5 : W4.cell? ad4 = some (.int .i64 x) := (cell_zero hcell4); have HB4 := Aside0.mk hb; clear hR hb hc4 hC4 hcell4))
          exact ⟨⟨k + 1, by omega, by go_num, below_step (below_step HB.out HB3.out) HB4.out, hh⟩, by simp [intOf]; omega⟩
      · have hh := HREST.out
        rw [if_neg (by intro h; rw [h] at h1; exact h1 rfl)] at hh
        obtain ⟨n, hn2⟩ : ∃ n, vs.length = n := ⟨_, rfl⟩
        rw [hn2] at h1
        have h1i : ¬ (n : Int) = 1 := by omega
        have HH := Aside0.mk hh
        have HN2 := Aside0.mk hn2
        clear hh hn2 h1
        go_wp2_with (first
          | (go_at_call 30; refine (C.out wr (HL.out.below (below_step HB12.out HB.out))).mono ?_; rintro e W3 ⟨rfl, hb⟩; have HB3 := Aside0.mk hb; clear hb)
          | (go_at_call 50; refine (V.out W3).mono ?_; rintro e W4 ⟨v4, rfl, hR, hb⟩; obtain ⟨A4, c4, rfl⟩ := Kd.R_slice hR; rw [HN2.out]; have HB4 := Aside0.mk hb; clear hR hb))
        exact ⟨⟨k + 1, by omega, by go_num, below_step (below_step HB.out HB3.out) HB4.out, HH.out⟩, by simp [intOf]; omega⟩
    · obtain rfl : k = L.length := by omega
      rw [List.drop_length] at hrest
      have hh : R = none := hrest.symm
      subst hh
      go_wp2
      go_ret2
      exact ⟨rfl, below_step HB12.out HB.out⟩
end Go.Proofs.YtgdlmgdcoedfoaaGreatDoor.Agl
