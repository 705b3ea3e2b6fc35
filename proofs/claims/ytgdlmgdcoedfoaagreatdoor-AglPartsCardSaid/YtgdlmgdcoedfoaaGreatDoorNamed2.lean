/- agl.named, Write: the walks. -/
import Derived.Test.YtgdlmgdcoedfoaaGreatDoorNamed
namespace Go.Proofs.YtgdlmgdcoedfoaaGreatDoor.Agl
open Go.RowKit Go.Proofs.YtgdlmgdcoedfoaaGreatDoorW.PrintWords Go.Proofs.YtgdlmgdcoedfoaaGreatDoorW.PrintLast Go.Proofs.YtgdlmgdcoedfoaaGreatDoorW.PrintMore
attribute [local go_sem] max2_int min2_int max_two min_two max_three min_three max_four min_four
set_option linter.unusedVariables false
set_option linter.unusedSimpArgs false

set_option maxHeartbeats 800000 in
set_option maxRecDepth 100000 in
theorem named40 (r : Int) (w : World) (hL : Laid w) :
    Calls Tryz.prog 40 #[.int .i64 r] w fun e W' => e = .returned (.string (asB (namedL r))) ∧ Below w.heap.size w W' := by
  have HL := Aside0.mk hL
  have hgr := goodV_rng r
  have hnl := hexU_len (goodV r)
  have G := Aside0.mk (good24 r w)
  have hgv : goodV r = if goodB r = true then r else 65533 := rfl
  have hN : namedL r = (backF (goodV r) fieldsL).getD (117 :: (Lib.repeatL [48] (4 - (hexU (goodV r)).length) ++ hexU (goodV r))) := rfl
  have hhx : (⟨(Lib.toUpperA (strOfNums (hexlow 6 (goodV r) [])).data.toList).toArray⟩ : ByteArray) = asB (hexU (goodV r)) := rfl
  have hasc := hex_ascii (goodV r) (by omega) (by omega)
  have hsl : (strOfNums (hexlow 6 (goodV r) [])).size ≤ 140737488355328 := by
    rw [← data_length, strOfNums_list, List.length_map]
    have := (hexlow_len 6 (goodV r) []).2
    simp at this; omega
  obtain ⟨g, hg⟩ : ∃ g, goodV r = g := ⟨_, rfl⟩
  rw [hg] at hgr hnl hgv hN hhx hasc hsl
  obtain ⟨b, hb⟩ : ∃ b, goodB r = b := ⟨_, rfl⟩
  rw [hb] at hgv G
  have BK := Aside0.mk (fun W hl => back60 g W hl)
  have FM := Aside0.mk (fun W (hl : Laid W) => fmt62 g W (by omega) (by omega) hl.tz hl.size)
  have TU := Aside0.mk (fun W => Tryz.strings_ToUpper_ascii (strOfNums (hexlow 6 g [])) W hsl hasc)
  rw [hhx] at TU
  obtain ⟨s, hs⟩ : ∃ s, strOfNums (hexlow 6 g []) = s := ⟨_, rfl⟩
  rw [hs] at TU FM
  obtain ⟨h, hh⟩ : ∃ h, hexU g = h := ⟨_, rfl⟩
  rw [hh] at TU hnl hN
  obtain ⟨F, hF⟩ : ∃ F, backF g fieldsL = F := ⟨_, rfl⟩
  rw [hF] at BK hN
  obtain ⟨N, hNN⟩ : ∃ N, namedL r = N := ⟨_, rfl⟩
  rw [hNN] at hN ⊢
  have hsz : (asB h).size = h.length := by rw [← data_length]; rfl
  obtain ⟨u, hu⟩ : ∃ u, asB h = u := ⟨_, rfl⟩
  rw [hu] at TU hsz
  have HN := Aside0.mk hN; have HU := Aside0.mk hu
  have RP := Aside0.mk (fun W => Tryz.strings_Repeat ⟨#[48]⟩ (4 - h.length) W (by omega) (by show 1 * _ ≤ _; omega))
  rw [show (⟨#[48]⟩ : ByteArray).data.toList = [48] from rfl] at RP
  obtain ⟨n, hn⟩ : ∃ n, h.length = n := ⟨_, rfl⟩
  rw [hn] at hnl hsz RP
  have HNN := Aside0.mk hn
  have HGV := Aside0.mk hgv
  clear hg hb hs hh hF hNN hu hN hn hgv hhx hasc hsl hL
  obtain ⟨z, hz⟩ : ∃ z : ByteArray, (⟨(Lib.repeatL [48] (4 - n)).toArray⟩ : ByteArray) = z := ⟨_, rfl⟩
  have hzs : z.size = 4 - n := by rw [← hz, ← data_length]; simp [Lib.repeatL_length]
  rw [hz] at RP
  have HZ := Aside0.mk hz
  clear hz
  have hz1 : ¬ 9223372036854775807 < 1 + z.size := by omega
  have hz2 : ¬ 9223372036854775807 < 1 + z.size + n := by omega
  go_enter Tryz.func40, Tryz.ntmps40
  cases F with
  | some nm =>
    cases b with
    | true =>
      have := HGV.out
      rw [if_pos rfl] at this
      subst this
      go_wp2_with (first
        | (go_at_call 24; refine G.out.mono ?_; rintro e W1 ⟨rfl, hb⟩; have HB1 := Aside0.mk hb; clear hb)
        | (go_at_call 60; refine (BK.out W1 (HL.out.below HB1.out)).mono ?_; rintro e W2 ⟨rfl, hb⟩; have HB2 := Aside0.mk hb; clear hb))
      go_ret
      exact ⟨by rw [HN.out]; rfl, below_step HB1.out HB2.out⟩
    | false =>
      have := HGV.out
      rw [if_neg (by decide)] at this
      subst this
      go_wp2_with (first
        | (go_at_call 24; refine G.out.mono ?_; rintro e W1 ⟨rfl, hb⟩; have HB1 := Aside0.mk hb; clear hb)
        | (go_at_call 60; refine (BK.out W1 (HL.out.below HB1.out)).mono ?_; rintro e W2 ⟨rfl, hb⟩; have HB2 := Aside0.mk hb; clear hb))
      go_ret
      exact ⟨by rw [HN.out]; rfl, below_step HB1.out HB2.out⟩
  | none =>
    have RPa : Aside0 ((0 : Int) < 4 - (n : Int) → ∀ W : World, Calls Tryz.prog 63 #[.string ⟨#[48]⟩, .int .i64 (4 - (n : Int))] W fun e w' => e = .returned (.string z) ∧ Below W.heap.size W w') := ⟨fun h W => by
      have := RP.out W
      rwa [show ((4 - n : Nat) : Int) = 4 - (n : Int) by omega] at this⟩
    have RPb : Aside0 (¬ (0 : Int) < 4 - (n : Int) → ∀ W : World, Calls Tryz.prog 63 #[.string ⟨#[48]⟩, .int .i64 0] W fun e w' => e = .returned (.string z) ∧ Below W.heap.size W w') := ⟨fun h W => by
      have := RP.out W
      rwa [show ((4 - n : Nat) : Int) = 0 by omega] at this⟩
    have hfin : Aside0 ((⟨#[117]⟩ : ByteArray) ++ z ++ u = asB N) := ⟨by
      rw [HN.out, ← HZ.out, ← HU.out]
      apply ByteArray.ext
      rw [ByteArray.data_append, ByteArray.data_append]
      apply Array.ext'
      show _ = (Option.getD none _)
      simp [asB, HNN.out]⟩
    clear RP HN HZ HU HNN hzs
    have hgc : (b = true ∧ g = r) ∨ (b = false ∧ g = 65533) := by
      cases b with
      | true => exact .inl ⟨rfl, HGV.out.trans (if_pos rfl)⟩
      | false => exact .inr ⟨rfl, HGV.out.trans (if_neg (by decide))⟩
    clear HGV
    rcases hgc with ⟨rfl, hg⟩ | ⟨rfl, hg⟩ <;> subst hg <;> by_cases h4 : (0 : Int) < 4 - (n : Int)
    all_goals
      go_wp2_with (first
        | (go_at_call 24; refine G.out.mono ?_; rintro e W1 ⟨rfl, hb⟩; have HB1 := Aside0.mk hb; clear hb)
        | (go_at_call 60; refine (BK.out W1 (HL.out.below HB1.out)).mono ?_; rintro e W2 ⟨rfl, hb⟩; have HB2 := Aside0.mk hb; clear hb)
        | (go_at_call 62; refine (FM.out W2 ((HL.out.below HB1.out).below HB2.out)).mono ?_; rintro e W3 ⟨rfl, hb⟩; have HB3 := Aside0.mk hb; clear hb)
        | (go_at_call 61; refine (TU.out W3).mono ?_; rintro e W4 ⟨rfl, hb⟩; have HB4 := Aside0.mk hb; clear hb)
        | (go_at_call 63; (first | refine (RPa.out h4 W4).mono ?_ | refine (RPb.out h4 W4).mono ?_); rintro e W5 ⟨rfl, hb⟩; have HB5 := Aside0.mk hb; clear hb))
      go_ret
      exact ⟨by rw [← hfin.out]; rfl, below_step (below_step (below_step (below_step HB1.out HB2.out) HB3.out) HB4.out) HB5.out⟩
end Go.Proofs.YtgdlmgdcoedfoaaGreatDoor.Agl
