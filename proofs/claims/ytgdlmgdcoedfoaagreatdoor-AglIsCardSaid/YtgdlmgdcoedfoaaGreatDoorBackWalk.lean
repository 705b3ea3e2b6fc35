/- AglBack: the walk. -/
import Derived.Test.YtgdlmgdcoedfoaaGreatDoorLook3
import Derived.Test.YtgdlmgdcoedfoaaGreatDoorHexWalk
namespace Go.Proofs.YtgdlmgdcoedfoaaGreatDoor.Agl
open Go.RowKit Go.Proofs.YtgdlmgdcoedfoaaGreatDoorW.PrintWords Go.Proofs.YtgdlmgdcoedfoaaGreatDoorW.PrintLast Go.Proofs.YtgdlmgdcoedfoaaGreatDoorW.PrintMore
set_option linter.unusedVariables false
set_option linter.unusedSimpArgs false

set_option maxHeartbeats 1000000 in
set_option maxRecDepth 100000 in
theorem back4 (A : Option Addr) (c : Nat) (l : List Int) (w : World) (hC : Kd.C (Kd.int .i64) w A l.length l) (hc : l.length ≤ c) (hL : Laid w) :
    Calls Tryz.prog 4 #[.slice A l.length c] w fun e W' => e = .returned (.bool true) ∧ Below w.heap.size w W' := by
  have HL := Aside0.mk hL; have HC := Aside0.mk hC; have HCC := Aside0.mk hc
  have AW := Aside0.mk (awake9 w hL)
  clear hL hC hc
  by_cases h20 : (20 : Int) < (l.length : Int)
  · go_enter Tryz.func4, Tryz.ntmps4
    go_wp2_with (go_at_call 9; refine AW.out.mono ?_; rintro e W1 ⟨rfl, hb⟩; have HB1 := Aside0.mk hb; clear hb AW)
    go_ret
    exact ⟨rfl, HB1.out⟩
  · have hl20 : l.length ≤ 20 := by omega
    have hb := write_bytes l
    have hwl := writeL_len l
    have asc : ∀ b ∈ (asB (writeL l)).data.toList, b.toNat < 128 := fun b h => (hb b h).2
    have e1 : asB (writeL l) ++ ⟨#[46, 97, 108, 116]⟩ = asB (writeL l ++ 46 :: [97, 108, 116]) := asB_app _ [46, 97, 108, 116]
    have asc2 : ∀ b ∈ (asB (writeL l) ++ ⟨#[46, 97, 108, 116]⟩).data.toList, b.toNat < 128 := fun b h => by
      rw [e1, asB_list] at h
      rcases List.mem_append.1 h with h | h
      · exact (hb b h).2
      · have hh : ∀ x ∈ ([46, 97, 108, 116] : List UInt8), x.toNat < 128 := by decide
        exact hh b h
    have z1 : (asB (writeL l)).size ≤ 2220 := by rw [asB_size]; omega
    have z2 : (asB (writeL l) ++ ⟨#[46, 97, 108, 116]⟩).size ≤ 100000 := by rw [e1, asB_size, List.length_append]; simp; omega
    have U1 := Aside0.mk (fun W hl => uni18 (asB (writeL l)) W (by omega) hl (told_parts _ (by omega) asc))
    have U2 := Aside0.mk (fun W hl => uni18 (asB (writeL l) ++ ⟨#[46, 97, 108, 116]⟩) W z2 hl (told_parts _ z2 asc2))
    have T1 := Aside0.mk (fun W hl => text20 (asB (writeL l)) W (by omega) (by rw [asB_list, uni_of l _ (base_write l), List.length_map]; omega) hl (told_parts _ (by omega) asc))
    have P1 := Aside0.mk (fun W hl => parts13 (asB (writeL l)) W (by omega) hl)
    have hpl : (partsB (writeL l)).length = l.length := by
      unfold partsB
      rw [parts_of l _ (base_write l), List.length_map, List.length_map]
    rw [asB_list, uni_of l _ (base_write l)] at U1 T1
    rw [asB_list] at P1
    have U2' : Aside0 (∀ W : World, Laid W → Calls Tryz.prog 18 #[.string (asB (writeL l) ++ ⟨#[46, 97, 108, 116]⟩)] W fun e W' => ∃ v, e = .returned v ∧ Kd.R (Kd.int .i64) 3 W' W.heap.size (fun _ => True) v (l.map goodV) ∧ Below W.heap.size W W') := ⟨fun W hl => by
      have h := U2.out W hl
      rwa [show uniAll (asB (writeL l) ++ ⟨#[46, 97, 108, 116]⟩).data.toList = l.map goodV by rw [e1, asB_list]; exact uni_of l _ (base_write_alt l [97, 108, 116])] at h⟩
    have WR := Aside0.mk (fun W (hC : Kd.C (Kd.int .i64) W A l.length l) hl => write22 A c l W hC HCC.out (by omega) hl)
    have TX := Aside0.mk (fun (A : Option Addr) (c : Nat) W (hC : Kd.C (Kd.int .i64) W A (l.map goodV).length (l.map goodV)) hc => text25 A c (l.map goodV) W hC hc (by rw [List.length_map]; omega))
    rw [show (⟨(textL (l.map goodV)).toArray⟩ : ByteArray) = asB (textL (l.map goodV)) from rfl] at TX
    have hml : (l.map goodV).length = l.length := List.length_map ..
    have SM := Aside0.mk (fun (A B : Option Addr) (c d : Nat) W hA hc hB hd => same15e A B c d (l.map goodV) W hA hc hB hd (by rw [hml]; omega))
    have HMAP : Aside0 (∀ k, k < l.length → (l.take (k + 1)).map goodV = (l.take k).map goodV ++ [goodV (rd l (k : Int))]) := ⟨fun k hk => by
      rw [List.take_succ_eq_append_getElem hk, List.map_append, rd_at l k hk]; rfl⟩
    have HTK : Aside0 ((l.take l.length).map goodV = l.map goodV) := ⟨by rw [List.take_length]⟩
    have hz1 : ¬ 9223372036854775807 < (asB (writeL l)).size + 4 := by omega
    obtain ⟨S, hS⟩ : ∃ S, asB (writeL l) = S := ⟨_, rfl⟩
    obtain ⟨TT, hTT⟩ : ∃ T, asB (textL (l.map goodV)) = T := ⟨_, rfl⟩
    rw [hS] at U1 T1 P1 U2' WR hz1
    rw [hTT] at T1 TX
    have HM := Aside0.mk hml
    have HPL := Aside0.mk hpl
    have HL20 := Aside0.mk hl20
    clear U2 e1 asc asc2 z1 z2 hb hwl hS hTT hml hpl hl20
    obtain ⟨M, hM⟩ : ∃ M, l.map goodV = M := ⟨_, rfl⟩
    rw [hM] at U1 U2' TX SM HM HTK
    obtain ⟨PB, hPB⟩ : ∃ P, partsB (writeL l) = P := ⟨_, rfl⟩
    rw [hPB] at P1 HPL
    clear hM hPB
    go_enter Tryz.func4, Tryz.ntmps4
    go_wp2_with (go_at_call 9; refine AW.out.mono ?_; rintro e W1 ⟨rfl, hb⟩; have HB1 := Aside0.mk hb; clear hb AW)
    go_loopw [4, 5] (fun v i wr => ∃ k : Nat, k ≤ l.length ∧ i = .int .i64 k ∧ Kd.R (Kd.int .i64) 3 wr W1.heap.size (fun _ => True) v ((l.take k).map goodV) ∧ Below W1.heap.size W1 wr) (fun _ i _ => l.length - (intOf i).toNat)
    case atStart => exact ⟨0, Nat.zero_le _, rfl, Kd.R_nil _ _ _ _ _, Below.refl _ _⟩
    case round =>
      obtain ⟨k, hk, rfl, hR, hB⟩ := hrel
      obtain ⟨v4, hv4⟩ : ∃ v4, u4 = v4 := ⟨_, rfl⟩
      rw [hv4] at hR ⊢
      have HO := Aside0.mk hR; have HB := Aside0.mk hB
      clear hR hB hv4
      by_cases hlt : k < l.length
      · obtain ⟨ad, rfl, hcell0⟩ := Kd.at_int HC.out k (by omega) (by omega)
        have hsn := HMAP.out k hlt
        obtain ⟨x, hx⟩ : ∃ x, rd l (k : Int) = x := ⟨_, rfl⟩
        rw [hx] at hcell0 hsn
        have hcell1 := cell_below (cell_below hcell0 HB1.out) HB.out
        rw [Int.toNat_natCast] at hcell1
        have hlk : ((l.take k).map goodV).length ≤ 20 := by rw [List.length_map]; have := List.length_take_le k l; have := HL20.out; omega
        obtain ⟨ys, hys⟩ : ∃ ys, (l.take k).map goodV = ys := ⟨_, rfl⟩
        rw [hys] at hsn HO hlk
        have HSN := Aside0.mk hsn; have HLK := Aside0.mk hlk
        have G := Aside0.mk (good24 x wr)
        have hgv : goodV x = if goodB x = true then x else 65533 := rfl
        obtain ⟨g, hg⟩ : ∃ g, goodV x = g := ⟨_, rfl⟩
        rw [hg] at hgv HSN
        obtain ⟨b, hb⟩ : ∃ b, goodB x = b := ⟨_, rfl⟩
        rw [hb] at hgv G
        have hgc : (b = true ∧ g = x) ∨ (b = false ∧ g = 65533) := by
          cases b with
          | true => exact .inl ⟨rfl, hgv.trans (if_pos rfl)⟩
          | false => exact .inr ⟨rfl, hgv.trans (if_neg (by decide))⟩
        clear hcell0 hx hys hsn hlk hg hb hgv U1 U2' T1 P1 WR TX SM hz1
        rcases hgc with ⟨rfl, hg⟩ | ⟨rfl, hg⟩
        · subst hg
          go_wp2_with (first
            | (go_at_call 24; refine G.out.mono ?_; rintro e W2 ⟨rfl, hb2⟩; have HB2 := Aside0.mk hb2; clear hb2)
            | ((with_reducible refine gate_builtin (b := .append) (xs := #[.tmp 26, .tmp 28]) rfl ?_); at_builtin; go_loud (refine Kd.R_append (Kd.int .i64) (w0 := W1) W1.heap.size rfl (.tmp 26) (.tmp 28) 22 3 (.int .i64 0) 8 rfl Tryz.underlying22 info3 rfl (by decide) (by omega) v4 ys g [.int .i64 g] (fun _ => True) (fun _ => False) rfl rfl ?aP (fun _ hk => hk.elim) ?aF ?aO ?aB ?aS ?aL ?_; (case aP => rfl); (case aF => exact fun _ _ => trivial); (case aO => exact Kd.R_below HO.out HB2.out); (case aB => exact below_step HB.out HB2.out); (case aS => exact Nat.le_trans HB.out.size HB2.out.size); (case aL => have := HLK.out; omega); intro v8 w8 ho8 hb8 hg8 hat8; have HO8 := Aside0.mk ho8; have HB8 := Aside0.mk hb8; clear ho8 hb8 hg8 hat8)))
          exact ⟨⟨k + 1, by omega, by go_num, by rw [HSN.out]; exact HO8.out, HB8.out⟩, by simp [intOf]; omega⟩
        · subst hg
          go_wp2_with (first
            | (go_at_call 24; refine G.out.mono ?_; rintro e W2 ⟨rfl, hb2⟩; have HB2 := Aside0.mk hb2; clear hb2)
            | ((with_reducible refine gate_builtin (b := .append) (xs := #[.tmp 26, .tmp 28]) rfl ?_); at_builtin; go_loud (refine Kd.R_append (Kd.int .i64) (w0 := W1) W1.heap.size rfl (.tmp 26) (.tmp 28) 22 3 (.int .i64 0) 8 rfl Tryz.underlying22 info3 rfl (by decide) (by omega) v4 ys 65533 [.int .i64 65533] (fun _ => True) (fun _ => False) rfl rfl ?aP (fun _ hk => hk.elim) ?aF ?aO ?aB ?aS ?aL ?_; (case aP => rfl); (case aF => exact fun _ _ => trivial); (case aO => exact Kd.R_below HO.out HB2.out); (case aB => exact below_step HB.out HB2.out); (case aS => exact Nat.le_trans HB.out.size HB2.out.size); (case aL => have := HLK.out; omega); intro v8 w8 ho8 hb8 hg8 hat8; have HO8 := Aside0.mk ho8; have HB8 := Aside0.mk hb8; clear ho8 hb8 hg8 hat8)))
          exact ⟨⟨k + 1, by omega, by go_num, by rw [HSN.out]; exact HO8.out, HB8.out⟩, by simp [intOf]; omega⟩
      · obtain rfl : k = l.length := by omega
        rw [HTK.out] at HO
        obtain ⟨A4, c4, rfl, hc4, hC4⟩ := Kd.R_reads HO.out
        have HK0 := Aside0.mk (And.intro hc4 hC4)
        have hm := HM.out
        rw [hm]
        have HB0 := Aside0.mk (below_step HB1.out HB.out)
        have HCW := Aside0.mk (Kd.C_below (Kd.C_below HC.out HB1.out) HB.out)
        have t1 := Aside0.mk True.intro; have t2 := Aside0.mk True.intro; have s1 := Aside0.mk True.intro
        clear hc4 hC4 hm
        go_wp2_with (first
          | (go_at_call 22; refine (WR.out wr HCW.out (HL.out.below HB0.out)).mono ?_; rintro e W2 ⟨rfl, hb⟩; have HB2 := Aside0.mk (below_step HB0.out hb); have HK2 := Aside0.mk (Kd.C_below HK0.out.2 hb); clear hb)
          | (go_at_call 18; have tt := t1; clear tt t1; refine (U1.out W2 (HL.out.below HB2.out)).mono ?_; rintro e W3 ⟨v3, rfl, hR, hb⟩; obtain ⟨A3, c3, rfl, hc3, hC3⟩ := Kd.R_reads hR; have HC3 := Aside0.mk (And.intro hc3 hC3); rw [HM.out]; have HB3 := Aside0.mk (below_step HB2.out hb); have HK3 := Aside0.mk (Kd.C_below HK2.out hb); clear hR hb hc3 hC3)
          | (go_at_call 15; have tt := s1; clear tt s1; rw [← HM.out]; go_loud (refine (SM.out A3 A4 c3 c4 W3 HC3.out.2 HC3.out.1 HK3.out HK0.out.1).mono ?_; rintro e W5 ⟨rfl, hb⟩; have HB5 := Aside0.mk (below_step HB3.out hb); have HK5 := Aside0.mk (Kd.C_below HK3.out hb); clear hb))
          | (go_at_call 18; have tt := t2; clear tt t2; refine (U2'.out W5 (HL.out.below HB5.out)).mono ?_; rintro e W6 ⟨v6, rfl, hR, hb⟩; obtain ⟨A6, c6, rfl, hc6, hC6⟩ := Kd.R_reads hR; have HC6 := Aside0.mk (And.intro hc6 hC6); rw [HM.out]; have HB6 := Aside0.mk (below_step HB5.out hb); have HK6 := Aside0.mk (Kd.C_below HK5.out hb); clear hR hb hc6 hC6)
          | (go_at_call 15; rw [← HM.out]; go_loud (refine (SM.out A6 A4 c6 c4 W6 HC6.out.2 HC6.out.1 HK6.out HK0.out.1).mono ?_; rintro e W7 ⟨rfl, hb⟩; have HB7 := Aside0.mk (below_step HB6.out hb); have HK7 := Aside0.mk (Kd.C_below HK6.out hb); clear hb))
          | (go_at_call 20; refine (T1.out W7 (HL.out.below HB7.out)).mono ?_; rintro e W8 ⟨rfl, hb⟩; have HB8 := Aside0.mk (below_step HB7.out hb); have HK8 := Aside0.mk (Kd.C_below HK7.out hb); clear hb)
          | (go_at_call 25; go_loud ((try rw [← HM.out]); refine (TX.out A4 c4 W8 HK8.out HK0.out.1).mono ?_; rintro e W9 ⟨rfl, hb⟩; rw [HM.out]; have HB9 := Aside0.mk (below_step HB8.out hb); clear hb))
          | (go_at_call 13; go_loud (refine (P1.out W9 (HL.out.below HB9.out)).mono ?_; rintro e W10 ⟨v10, rfl, hR, hb⟩; obtain ⟨A10, c10, rfl⟩ := Kd.R_slice hR; rw [HPL.out]; have HB10 := Aside0.mk (below_step HB9.out hb); clear hR hb)))
        go_ret
        exact ⟨rfl, HB10.out⟩
end Go.Proofs.YtgdlmgdcoedfoaaGreatDoor.Agl
