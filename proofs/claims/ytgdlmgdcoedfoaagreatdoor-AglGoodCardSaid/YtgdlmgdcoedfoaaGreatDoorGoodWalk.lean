/- AglGood: the walk. -/
import Derived.Test.YtgdlmgdcoedfoaaGreatDoorNames
import Derived.Test.YtgdlmgdcoedfoaaGreatDoorPartsWalk
namespace Go.Proofs.YtgdlmgdcoedfoaaGreatDoor.Agl
open Go.RowKit Go.Proofs.YtgdlmgdcoedfoaaGreatDoorW.PrintWords Go.Proofs.YtgdlmgdcoedfoaaGreatDoorW.PrintLast Go.Proofs.YtgdlmgdcoedfoaaGreatDoorW.PrintMore
set_option linter.unusedVariables false
set_option linter.unusedSimpArgs false

theorem name_size (f : List UInt8) (hf : f ∈ fieldsL) : (nameB f).size ≤ 100 := by
  have := name_len f hf
  unfold nameB; rw [asB_size]; exact this
theorem name_28 (f : List UInt8) (hf : f ∈ fieldsL) (W : World) (hl : Laid W) : Calls Tryz.prog 28 #[.string (nameB f)] W fun e W' => ∃ v, e = .returned (.tuple #[v, .bool true]) ∧ Kd.R (Kd.int .i64) 3 W' W.heap.size (fun _ => True) v (fvals f) ∧ Below W.heap.size W W' := by
  have hs := name_size f hf
  have hn := name_look f hf
  have e : uniL (nameB f).data.toList = some (fvals f) := hn
  refine (uni28 (nameB f) W (by omega) (told _ (by omega)) hl).mono ?_
  rintro e' W' ⟨v, xs, rfl, hR, hx, hb⟩
  rw [e] at hx ⊢
  obtain rfl := hx _ rfl
  exact ⟨v, rfl, hR, hb⟩
theorem name_18 (f : List UInt8) (hf : f ∈ fieldsL) (W : World) (hl : Laid W) : Calls Tryz.prog 18 #[.string (nameB f)] W fun e W' => ∃ v, e = .returned v ∧ Kd.R (Kd.int .i64) 3 W' W.heap.size (fun _ => True) v (fvals f) ∧ Below W.heap.size W W' := by
  have h := uni18a (nameB f) W (by have := name_size f hf; omega) hl
  rwa [show uniAll (nameB f).data.toList = fvals f from name_uni f hf] at h
theorem name_16 (f : List UInt8) (hf : f ∈ fieldsL) (W : World) (hl : Laid W) : Calls Tryz.prog 16 #[.string (nameB f)] W fun e W' => ∃ v, e = .returned v ∧ Kd.R (Kd.int .i64) 3 W' W.heap.size (fun _ => True) v (fvals f) ∧ Below W.heap.size W W' := by
  have hs := name_size f hf
  have h := part16 (nameB f) W (by omega) (told _ (by omega)) hl
  rwa [show partR (nameB f) = fvals f from name_part f hf] at h
set_option maxHeartbeats 2000000 in
set_option maxRecDepth 100000 in
theorem good8 (name : ByteArray) (n : Int) (w : World) (hL : Laid w) (U : World → Prop) (hU : U w) (hUb : ∀ W W', U W → Below W.heap.size W W' → U W')
    (WH : ∀ (s : ByteArray) W, U W → s.size ≤ 9223372036854775807 → Calls Tryz.prog 29 #[.string s] W fun e W' => e = .returned (.bool (Lib.validD s.data.toList)) ∧ Below W.heap.size W W') :
    Calls Tryz.prog 8 #[.string name, .int .i64 n] w fun e W' => e = .returned (.bool true) ∧ Below w.heap.size w W' := by
  have HL := Aside0.mk hL
  have HU := Aside0.mk (fun W hb => hUb w W hU hb)
  have AW := Aside0.mk (awake9 w hL)
  have NM := Aside0.mk names27
  have F1 := Aside0.mk name_28
  have F2 := Aside0.mk name_18
  have F3 := Aside0.mk name_16
  have hlen : (fieldsL.map nameB).length = fieldsL.length := List.length_map ..
  have hat : ∀ j, j < fieldsL.length → ∃ f, f ∈ fieldsL ∧ rdOf ByteArray.empty (fieldsL.map nameB) ((j : Nat) : Int) = nameB f := fun j h => by
    refine ⟨fieldsL[j], List.getElem_mem h, ?_⟩
    unfold rdOf
    rw [List.getD_eq_getElem?_getD, Int.toNat_natCast, List.getElem?_map, List.getElem?_eq_getElem h]; rfl
  have hn0 : 0 < fieldsL.length := List.length_pos_iff.2 fields_some
  have hn1 : fieldsL.length ≤ 1000 := by rcases fields_num with h | h <;> omega
  have FV : Aside0 (∀ f ∈ fieldsL, (fvals f).length ≤ 1000000) := ⟨fun f hf => by have := fvals_len f hf; omega⟩
  obtain ⟨L, hLL⟩ : ∃ l, fieldsL = l := ⟨_, rfl⟩
  rw [hLL] at F1 F2 F3 hlen hn0 hn1 FV NM hat
  obtain ⟨NB, hNB⟩ : ∃ l, L.map nameB = l := ⟨_, rfl⟩
  rw [hNB] at NM hlen hat
  have HAT := Aside0.mk hat
  clear hLL hNB hat hL hU hUb
  have hne : ((L.length : Int) == 0) = false := beq_eq_false_iff_ne.2 (by omega)
  by_cases h300 : (300 : Int) < (name.size : Int)
  · have hpos : (0 : Int) < (L.length : Int) := by omega
    go_enter Tryz.func8, Tryz.ntmps8
    go_wp2_with (first
      | (go_at_call 9; refine AW.out.mono ?_; rintro e W1 ⟨rfl, hb⟩; have HB1 := Aside0.mk hb; clear hb AW)
      | (go_at_call 27; refine (NM.out W1 (HL.out.below HB1.out)).mono ?_; rintro e W2 ⟨v2, rfl, hR, hb⟩; obtain ⟨A2, c2, rfl⟩ := Kd.R_slice hR; rw [hlen]; have HB2 := Aside0.mk (below_step HB1.out hb); clear hR hb))
    go_ret
    exact ⟨rfl, HB2.out⟩
  · have UA := Aside0.mk (fun W hl => uni18a name W (by omega) hl)
    have hM := uniAll_len2 name.data.toList (by rw [data_length]; omega)
    have T20 := Aside0.mk (fun W hl => text20 name W (by omega) (by omega) hl (told_all name (by omega)))
    have hg := uniAll_good name.data.toList
    obtain ⟨M, hMM⟩ : ∃ M, uniAll name.data.toList = M := ⟨_, rfl⟩
    rw [hMM] at UA hM T20 hg
    have htl := textL_len M
    have hv := text_valid' M
    have W29 := Aside0.mk (fun W hu => WH (asB (textL M)) W hu (by rw [asB_size]; omega))
    rw [asB_list, hv] at W29
    obtain ⟨T, hT⟩ : ∃ T, asB (textL M) = T := ⟨_, rfl⟩
    rw [hT] at T20 W29
    have HG := Aside0.mk hg
    have HM := Aside0.mk hM
    have hq := and_rng n
    obtain ⟨q, hqq⟩ : ∃ q, Go.bits .and .i64 n 65535 = q := ⟨_, rfl⟩
    rw [hqq] at hq
    obtain ⟨j, hj, hjl⟩ : ∃ j : Nat, q % (L.length : Int) = j ∧ j < L.length := ⟨(q % (L.length : Int)).toNat, by have := Int.emod_nonneg q (show (L.length : Int) ≠ 0 by omega); omega, by have := Int.emod_lt_of_pos q (show (0 : Int) < L.length by omega); have := Int.emod_nonneg q (show (L.length : Int) ≠ 0 by omega); omega⟩
    obtain ⟨f, hf, hx⟩ := HAT.out j hjl
    have G1 := Aside0.mk (F1.out f hf)
    have G2 := Aside0.mk (F2.out f hf)
    have G3 := Aside0.mk (F3.out f hf)
    have hV := FV.out f hf
    obtain ⟨V, hVV⟩ : ∃ V, fvals f = V := ⟨_, rfl⟩
    obtain ⟨nm, hnm⟩ : ∃ V, nameB f = V := ⟨_, rfl⟩
    rw [hVV] at G1 G2 G3 hV
    rw [hnm] at G1 G2 G3 hx
    have SM := Aside0.mk (fun (A B : Option Addr) (c d : Nat) W => same15b A B c d V W hV)
    have HX := Aside0.mk hx
    clear hM hg htl hv hT hx hf hVV hnm hV F1 F2 F3 FV HAT hMM
    have t1 := Aside0.mk True.intro
    have t2 := Aside0.mk True.intro
    go_enter Tryz.func8, Tryz.ntmps8
    go_wp2_with (first
      | (go_at_call 9; refine AW.out.mono ?_; rintro e W1 ⟨rfl, hb⟩; have HB1 := Aside0.mk hb; clear hb AW)
      | (go_at_call 27; refine (NM.out W1 (HL.out.below HB1.out)).mono ?_; rintro e W2 ⟨v2, rfl, hR, hb⟩; obtain ⟨A2, c2, rfl, hc2, hC2⟩ := Kd.R_reads hR; rw [hlen]; have HK2 := Aside0.mk hC2; have HB2 := Aside0.mk (below_step HB1.out hb); clear hR hb hc2 hC2)
      | (go_at_call 18; have tt := t1; clear tt t1; refine (UA.out W2 (HL.out.below HB2.out)).mono ?_; rintro e W3 ⟨v3, rfl, hR, hb⟩; obtain ⟨A3, c3, rfl, hc3, hC3⟩ := Kd.R_reads hR; have HK3 := Aside0.mk hC3; have HB3 := Aside0.mk (below_step HB2.out hb); have HJ2 := Aside0.mk (Kd.C_below HK2.out hb); clear hR hb hc3 hC3))
    go_loopw [8] (fun i wr => ∃ k : Nat, k ≤ M.length ∧ i = .int .i64 k ∧ Below W3.heap.size W3 wr) (fun i _ => M.length - (intOf i).toNat)
    case atStart => exact ⟨0, Nat.zero_le _, rfl, Below.refl _ _⟩
    case round =>
      obtain ⟨k, hk, rfl, hB⟩ := hrel
      have HB := Aside0.mk hB
      clear hB
      by_cases hlt : k < M.length
      · obtain ⟨ad, rfl, hcell0⟩ := Kd.at_int HK3.out k (by omega) (by omega)
        have hgx : goodB (rd M (k : Int)) = true := by rw [rd_at M k hlt]; exact HG.out _ (List.getElem_mem hlt)
        have G := Aside0.mk (good24 (rd M (k : Int)) wr)
        rw [hgx] at G
        obtain ⟨x, hx⟩ : ∃ x, rd M (k : Int) = x := ⟨_, rfl⟩
        rw [hx] at hcell0 G
        have hcell1 := cell_below hcell0 HB.out
        rw [Int.toNat_natCast] at hcell1
        have hM2 := HM.out
        clear hcell0 hgx hx
        go_wp2_with (go_at_call 24; refine G.out.mono ?_; rintro e W4 ⟨rfl, hb⟩; have HB4 := Aside0.mk hb; clear hb)
        exact ⟨⟨k + 1, by omega, by go_num, below_step HB.out HB4.out⟩, by simp [intOf]; omega⟩
      · have HBr := Aside0.mk (below_step HB3.out HB.out)
        have HJr := Aside0.mk (Kd.C_below HJ2.out HB.out)
        obtain ⟨ad, rfl, hcell0⟩ := Kd.at_string HJr.out j (by omega) (by rw [hlen]; omega)
        rw [HX.out, Int.toNat_natCast] at hcell0
        have hqj : Int.tmod q (L.length : Int) = (j : Int) := by rw [Int.tmod_eq_emod_of_nonneg hq.1]; exact hj
        have hL0 : (L.length : Int) ≠ 0 := by omega
        clear hj
        go_wp2_with (first
          | (go_at_call 28; refine (G1.out wr (HL.out.below HBr.out)).mono ?_; rintro e W5 ⟨v5, rfl, hR, hb⟩; obtain ⟨A5, c5, rfl, hc5, hC5⟩ := Kd.R_reads hR; have HK5 := Aside0.mk (And.intro hc5 hC5); have HB5 := Aside0.mk (below_step HBr.out hb); clear hR hb hc5 hC5)
          | (go_at_call 20; refine (T20.out W5 (HL.out.below HB5.out)).mono ?_; rintro e W6 ⟨rfl, hb⟩; have HB6 := Aside0.mk (below_step HB5.out hb); have HJ6 := Aside0.mk (Kd.C_below HK5.out.2 hb); clear hb)
          | (go_at_call 29; refine (W29.out W6 (HU.out W6 HB6.out)).mono ?_; rintro e W7 ⟨rfl, hb⟩; have HB7 := Aside0.mk (below_step HB6.out hb); have HJ7 := Aside0.mk (Kd.C_below HJ6.out hb); clear hb)
          | (go_at_call 18; refine (G2.out W7 (HL.out.below HB7.out)).mono ?_; rintro e W8 ⟨v8, rfl, hR, hb⟩; obtain ⟨A8, c8, rfl, hc8, hC8⟩ := Kd.R_reads hR; have HK8 := Aside0.mk (And.intro hc8 hC8); have HB8 := Aside0.mk (below_step HB7.out hb); have HJ8 := Aside0.mk (Kd.C_below HJ7.out hb); clear hR hb hc8 hC8)
          | (go_at_call 15; have tt := t2; clear tt t2; refine (SM.out A8 A5 c8 c5 W8 HK8.out.2 HK8.out.1 HJ8.out HK5.out.1).mono ?_; rintro e W9 ⟨rfl, hb⟩; have HB9 := Aside0.mk (below_step HB8.out hb); have HJ9 := Aside0.mk (Kd.C_below HJ8.out hb); clear hb)
          | (go_at_call 16; refine (G3.out W9 (HL.out.below HB9.out)).mono ?_; rintro e W10 ⟨v10, rfl, hR, hb⟩; obtain ⟨A10, c10, rfl, hc10, hC10⟩ := Kd.R_reads hR; have HK10 := Aside0.mk (And.intro hc10 hC10); have HB10 := Aside0.mk (below_step HB9.out hb); have HJ10 := Aside0.mk (Kd.C_below HJ9.out hb); clear hR hb hc10 hC10)
          | (go_at_call 15; refine (SM.out A10 A5 c10 c5 W10 HK10.out.2 HK10.out.1 HJ10.out HK5.out.1).mono ?_; rintro e W11 ⟨rfl, hb⟩; have HB11 := Aside0.mk (below_step HB10.out hb); clear hb))
        go_ret
        exact ⟨rfl, HB11.out⟩
end Go.Proofs.YtgdlmgdcoedfoaaGreatDoor.Agl
