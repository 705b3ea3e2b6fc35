/- glyph.Uni: the walk. -/
import Derived.Test.YtgdlmgdcoedfoaaGreatDoorGlyph2
namespace Go.Proofs.YtgdlmgdcoedfoaaGreatDoor.Agl
open Go.RowKit Go.Proofs.YtgdlmgdcoedfoaaGreatDoorW.PrintWords Go.Proofs.YtgdlmgdcoedfoaaGreatDoorW.PrintLast Go.Proofs.YtgdlmgdcoedfoaaGreatDoorW.PrintMore
set_option linter.unusedVariables false
set_option linter.unusedSimpArgs false

/-- A string of which ContainsAny(s, " =") is told. -/
def Told (s : ByteArray) : Prop := ∀ w : World, Calls Tryz.prog 49 #[.string s, .string ⟨#[32, 61]⟩] w fun e w' => e = .returned (.bool (Lib.containsAny s.data.toList [32, 61])) ∧ Below w.heap.size w w'
theorem told_ascii (s : ByteArray) (hs : s.size < 4294967281) (ha : ∀ (j : Nat) b, s.data.toList[j]? = some b → b.toNat < 128) : Told s := fun w =>
  Tryz.strings_ContainsAny_laid s ⟨#[32, 61]⟩ w hs (by decide) ha (by intro j b h; match j, h with | 0, h => simp at h; subst h; decide | 1, h => simp at h; subst h; decide)
theorem listB_size : listB.size < 4294967281 := by
  rw [← data_length]; exact Nat.lt_of_le_of_lt listL_len (by decide)
theorem key_eq (s : ByteArray) : ((⟨#[32]⟩ : ByteArray) ++ s ++ ⟨#[61]⟩).data.toList = 32 :: (s.data.toList ++ [61]) := by
  rw [ByteArray.data_append, ByteArray.data_append]; simp
set_option maxHeartbeats 800000 in
set_option maxRecDepth 100000 in
theorem uni28 (s : ByteArray) (w : World) (hs : s.size ≤ 100000) (hT : Told s) (hL : Laid w) :
    Calls Tryz.prog 28 #[.string s] w fun e W' => ∃ (v : Value) (xs : List Int), e = .returned (.tuple #[v, .bool (uniL s.data.toList).isSome]) ∧ Kd.R (Kd.int .i64) 3 W' w.heap.size (fun _ => True) v xs ∧ (∀ ys, uniL s.data.toList = some ys → xs = ys) ∧ Below w.heap.size w W' := by
  have HT := Aside0.mk hT; have HL := Aside0.mk hL
  clear hT hL
  have CUT1 : Aside0 (∀ (t sep : ByteArray) (W : World), Laid W → t.size < 4294967281 → Calls Tryz.prog 30 #[.string t, .string sep] W fun e w' => e = .returned (.tuple #[.string ⟨(Lib.cut t.data.toList sep.data.toList).1.toArray⟩, .string ⟨(Lib.cut t.data.toList sep.data.toList).2.1.toArray⟩, .bool (Lib.cut t.data.toList sep.data.toList).2.2]) ∧ Below W.heap.size W w') := ⟨fun t sep W hl ht => by
    obtain ⟨m, hm⟩ := hl.maxLen
    refine (Tryz.strings_Cut t sep m W ht hm).mono ?_
    rintro e w' ⟨rfl, n, rfl⟩
    exact ⟨rfl, pw_below_drewN (Below.refl _ _) n⟩⟩
  obtain ⟨F, hF⟩ : ∃ F, uniL s.data.toList = F := ⟨_, rfl⟩
  rw [hF]
  unfold uniL at hF
  go_enter Tryz.func28, Tryz.ntmps28
  by_cases h0 : s.data.toList = []
  · have he : s.toList.isEmpty = true := by
      rw [List.isEmpty_iff, ByteArray.toList_eq]; exact h0
    rw [if_pos (.inl h0)] at hF
    subst hF
    go_wp2
    go_ret2
    exact ⟨_, [], rfl, Kd.R_nil _ _ _ _ _, (fun ys h => by cases h), Below.refl _ _⟩
  · have he : s.toList.isEmpty = false := by
      rw [List.isEmpty_eq_false_iff, ByteArray.toList_eq]; exact h0
    have TT := Aside0.mk (HT.out w)
    obtain ⟨c, hc⟩ : ∃ c, Lib.containsAny s.data.toList [32, 61] = c := ⟨_, rfl⟩
    rw [hc] at TT hF
    clear hc
    cases c with
    | true =>
      rw [if_pos (.inr rfl)] at hF
      subst hF
      go_wp2_with (go_at_call 49; refine TT.out.mono ?_; rintro e W1 ⟨rfl, hb⟩; have HB := Aside0.mk hb; clear hb)
      go_ret2
      exact ⟨_, [], rfl, Kd.R_nil _ _ _ _ _, (fun ys h => by cases h), HB.out⟩
    | false =>
      rw [if_neg (by rintro (h | h); exact h0 h; cases h)] at hF
      obtain ⟨key, hk⟩ : ∃ k : ByteArray, (⟨#[32]⟩ : ByteArray) ++ s ++ ⟨#[61]⟩ = k := ⟨_, rfl⟩
      have hkl : key.data.toList = 32 :: (s.data.toList ++ [61]) := by rw [← hk]; exact key_eq s
      rw [← hkl] at hF
      have hok := cut_ok s.data.toList
      rw [← hkl] at hok
      have hln := cut_len listL key.data.toList
      obtain ⟨K, hK⟩ : ∃ K, Lib.cut listL key.data.toList = K := ⟨_, rfl⟩
      have C1 := Aside0.mk (fun W hl => CUT1.out listB key W hl listB_size)
      rw [show listB.data.toList = listL from rfl, hK] at C1
      rw [hK] at hF hok hln
      obtain ⟨K1, K2, K3⟩ := K
      simp only [] at C1 hF hok hln
      have hz1 : ¬ 9223372036854775807 < 1 + s.size := by omega
      have hz2 : ¬ 9223372036854775807 < 1 + s.size + 1 := by omega
      have HS := Aside0.mk hs
      have HOK := Aside0.mk hok; have HF := Aside0.mk hF
      have L1 := Aside0.mk list48
      have HKK := Aside0.mk hk
      clear hs hK hkl hF hok h0
      obtain ⟨lb, hlb⟩ : ∃ l, listB = l := ⟨_, rfl⟩
      rw [hlb] at C1 L1
      clear hlb
      obtain ⟨k1, hk1⟩ : ∃ k : ByteArray, (⟨K1.toArray⟩ : ByteArray) = k := ⟨_, rfl⟩
      obtain ⟨k2, hk2⟩ : ∃ k : ByteArray, (⟨K2.toArray⟩ : ByteArray) = k := ⟨_, rfl⟩
      rw [hk1, hk2] at C1
      have hk2l : k2.data.toList = K2 := by rw [← hk2]
      cases K3 with
      | false =>
        have hF := HF.out
        rw [if_neg (by decide)] at hF
        subst hF
        clear HF HOK hk1 hk2 hk2l hk
        go_wp2_with (first
          | (go_at_call 49; refine TT.out.mono ?_; rintro e W1 ⟨rfl, hb⟩; have HB1 := Aside0.mk hb; clear hb)
          | (go_at_call 48; refine (L1.out W1).mono ?_; rintro e W2 ⟨rfl, hb⟩; have HB2 := Aside0.mk hb; clear hb)
          | (go_at_call 30; rw [HKK.out]; refine (C1.out W2 ((HL.out.below HB1.out).below HB2.out)).mono ?_; rintro e W3 ⟨rfl, hb⟩; have HB3 := Aside0.mk hb; clear hb))
        go_ret2
        exact ⟨_, [], rfl, Kd.R_nil _ _ _ _ _, (fun ys h => by cases h), below_step (below_step HB1.out HB2.out) HB3.out⟩
      | true =>
        have hF := HF.out
        rw [if_pos rfl] at hF
        have hv := HOK.out rfl
        have C2 := Aside0.mk (fun W hl => CUT1.out k2 ⟨#[32]⟩ W hl (by rw [← data_length, hk2l]; have := listL_len; omega))
        rw [show (⟨#[32]⟩ : ByteArray).data.toList = [32] from rfl, hk2l, cut_one] at C2
        have htk : (K2.takeWhile (· != (32 : UInt8))).length ≤ K2.length := (List.takeWhile_sublist _).length_le
        obtain ⟨y, hy⟩ : ∃ y : ByteArray, (⟨(K2.takeWhile (· != 32)).toArray⟩ : ByteArray) = y := ⟨_, rfl⟩
        have hyl : y.data.toList = K2.takeWhile (· != 32) := by rw [← hy]
        rw [hy] at C2 hF
        rw [← hyl] at hv
        have VA := Aside0.mk (fun W => values50 y W (by rw [← data_length, hyl]; have := listL_len; omega) (ok_pieces hv))
        obtain ⟨vs, hvs⟩ : ∃ vs, valuesL y = vs := ⟨_, rfl⟩
        rw [hvs] at VA hF
        subst hF
        obtain ⟨b2, hb2⟩ : ∃ b : ByteArray, (⟨(Lib.cut K2 [32]).2.1.toArray⟩ : ByteArray) = b := ⟨_, rfl⟩
        obtain ⟨b3, hb3⟩ : ∃ b, (Lib.cut K2 [32]).2.2 = b := ⟨_, rfl⟩
        rw [hb2, hb3] at C2
        clear HF HOK hk1 hk2 hk2l hk hv htk hy hyl hvs hb2 hb3 hln
        go_wp2_with (first
          | (go_at_call 49; refine TT.out.mono ?_; rintro e W1 ⟨rfl, hb⟩; have HB1 := Aside0.mk hb; clear hb; have t1 := True.intro; clear TT)
          | (go_at_call 48; refine (L1.out W1).mono ?_; rintro e W2 ⟨rfl, hb⟩; have HB2 := Aside0.mk hb; clear hb)
          | (go_at_call 30; rw [HKK.out]; refine (C1.out W2 ((HL.out.below HB1.out).below HB2.out)).mono ?_; rintro e W3 ⟨rfl, hb⟩; have HB3 := Aside0.mk hb; clear hb C1)
          | (go_at_call 30; refine (C2.out W3 (((HL.out.below HB1.out).below HB2.out).below HB3.out)).mono ?_; rintro e W4 ⟨rfl, hb⟩; have HB4 := Aside0.mk hb; clear hb)
          | (go_at_call 50; refine (VA.out W4).mono ?_; rintro e W5 ⟨v5, rfl, hR, hb⟩; have HR := Aside0.mk hR; have HB5 := Aside0.mk hb; clear hR hb))
        go_ret2
        have HB := below_step (below_step (below_step HB1.out HB2.out) HB3.out) HB4.out
        exact ⟨_, _, rfl, Kd.R_lower HR.out HB.size, (fun ys h => by cases h; rfl), below_step HB HB5.out⟩
end Go.Proofs.YtgdlmgdcoedfoaaGreatDoor.Agl
