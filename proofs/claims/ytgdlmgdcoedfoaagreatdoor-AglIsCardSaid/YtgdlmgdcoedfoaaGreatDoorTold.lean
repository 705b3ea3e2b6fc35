/- strings.ContainsAny(s, " =") of any string. -/
import Derived.Test.YtgdlmgdcoedfoaaGreatDoorGlyph3
import Derived.Lib.MapLaws
import Derived.WalkMore
import Derived.Laws.RangeAny
import Derived.Lib.OthersKept
namespace Go.Proofs.YtgdlmgdcoedfoaaGreatDoor.Agl
open Go.RowKit Go.Proofs.YtgdlmgdcoedfoaaGreatDoorW.PrintWords Go.Proofs.YtgdlmgdcoedfoaaGreatDoorW.PrintLast Go.Proofs.YtgdlmgdcoedfoaaGreatDoorW.PrintMore
set_option linter.unusedVariables false
set_option linter.unusedSimpArgs false

theorem get_of {s : ByteArray} {j : Nat} {b : UInt8} (h : s.data.toList[j]? = some b) : s.get! j = b := by
  obtain ⟨hl, hb⟩ := List.getElem?_eq_some_iff.1 h
  have hj : j < s.size := by rw [← data_length]; exact hl
  rw [← hb]
  simp [ByteArray.get!, getElem!_pos, hj]
theorem far_off (b : UInt8) (h : 128 ≤ b.toNat) : ([32, 61] : List UInt8).contains b = false := by
  have h1 : b ≠ 32 := by rintro rfl; simp at h
  have h2 : b ≠ 61 := by rintro rfl; simp at h
  simp [h1, h2]
/-- A rune that is not ASCII: none of its bytes is one of " =". -/
theorem step_any (s : ByteArray) (pos : Nat) (h : pos < s.size) (hh : 128 ≤ (s.get! pos).toNat) (hn : Lib.NoAny s.data.toList [32, 61] pos) : Lib.NoAny s.data.toList [32, 61] (pos + (Utf8.decode s pos).2) := by
  intro j b hj hb
  by_cases hlt : j < pos
  · exact hn j b hlt hb
  have hg := get_of hb
  apply far_off
  rw [← hg]
  rw [Lib.decode_at] at hj
  by_cases h0 : j = pos
  · rw [h0]; exact hh
  rcases Lib.decodeN_shape (s.size - pos) (s.get! pos).toNat (s.get! (pos + 1)).toNat (s.get! (pos + 2)).toNat (s.get! (pos + 3)).toNat with ⟨h1, h2⟩ | ⟨h1, h2, h3, h4, h5⟩ | ⟨h1, h2, h3, h4, h5, h6, h7⟩ | ⟨h1, h2, h3, h4, h5, h6, h7, h8⟩ | h1
  · omega
  · rw [h5] at hj
    obtain rfl : j = pos + 1 := by simp only at hj; omega
    omega
  · rw [h7] at hj
    simp only at hj
    rcases (show j = pos + 1 ∨ j = pos + 2 by omega) with rfl | rfl <;> omega
  · rw [h8] at hj
    simp only at hj
    rcases (show j = pos + 1 ∨ j = pos + 2 ∨ j = pos + 3 by omega) with rfl | rfl | rfl <;> omega
  · rw [h1] at hj
    simp only at hj
    omega
theorem enc_shape (r : Int) (h : 128 ≤ r) (hv : Utf8.valid r = true) : 2 ≤ (Utf8.encode r).size ∧ (Utf8.encode r).size ≤ 4 ∧ ((Utf8.encode r).size = 2 → 128 ≤ ((Utf8.encode r).get! 1).toNat) := by
  unfold Utf8.encode
  simp only [hv, if_true]
  have h1 : ¬ r.toNat < 128 := by omega
  rw [if_neg h1]
  split
  · refine ⟨Nat.le_refl 2, by show 2 ≤ 4; omega, fun _ => ?_⟩
    show 128 ≤ (UInt8.ofNat (128 + r.toNat % 64)).toNat
    rw [UInt8.toNat_ofNat']
    omega
  · split
    · exact ⟨by show 2 ≤ 3; omega, by show 3 ≤ 4; omega, fun h => by cases h⟩
    · exact ⟨by show 2 ≤ 4; omega, Nat.le_refl 4, fun h => by cases h⟩
set_option maxHeartbeats 1000000 in
set_option maxRecDepth 100000 in
/-- IndexRune(" =", r) of a rune beyond ASCII. -/
theorem rune97 (r : Int) (W : World) (h : 128 ≤ r) : Calls Tryz.prog 97 #[.string ⟨#[32, 61]⟩, .int .i32 r] W fun e W' => e = .returned (.int .i64 (-1)) ∧ Below W.heap.size W W' := by
  have hz1 : ¬ r < 128 := by omega
  have hz0 : 0 ≤ r := by omega
  have VR := Aside0.mk (fun W => Tryz.utf8_ValidRune r W)
  by_cases h3 : r = 65533
  · subst h3
    clear hz0 hz1 h VR
    go_enter Tryz.func97, Tryz.ntmps97
    go_wp2
    go_loopg [5, 6] 2 (fun g _ _ wx => ∃ i : Nat, i + g = 2 ∧ wx = W.iter ⟨#[32, 61]⟩ i)
    case atStart => exact ⟨0, rfl, rfl⟩
    case round =>
      obtain ⟨i, hi, rfl⟩ := hrel
      rcases (show i = 0 ∨ i = 1 ∨ i = 2 by omega) with rfl | rfl | rfl
      · obtain rfl : gk = 2 := by omega
        have hnx := fun ty => run_next_ascii (P := Tryz.prog) W ⟨#[32, 61]⟩ 0 ty (by decide) (by decide)
        rw [show ((⟨#[32, 61]⟩ : ByteArray)[0]'(by decide)) = 32 from rfl] at hnx
        go_wp2
        go_roundg 1
        case measure => omega
        case rel => exact ⟨1, by omega, rfl⟩
      · obtain rfl : gk = 1 := by omega
        have hnx := fun ty => run_next_ascii (P := Tryz.prog) W ⟨#[32, 61]⟩ 1 ty (by decide) (by decide)
        rw [show ((⟨#[32, 61]⟩ : ByteArray)[1]'(by decide)) = 61 from rfl] at hnx
        go_wp2
        go_roundg 0
        case measure => omega
        case rel => exact ⟨2, by omega, rfl⟩
      · obtain rfl : gk = 0 := by omega
        have hnx := run_next_end (P := Tryz.prog) W ⟨#[32, 61]⟩ 2
        go_wp2
        go_ret
        exact ⟨rfl, (Below.refl _ _).alloc (Nat.le_refl _) _⟩
  · cases hv : Lib.validRune r with
    | false =>
      rw [hv] at VR
      clear hv
      go_enter Tryz.func97, Tryz.ntmps97
      go_wp2_with (go_at_call 132; refine (VR.out _).mono ?_; rintro e w' ⟨rfl, hw⟩; rw [hw])
      go_ret
      exact ⟨rfl, Below.refl _ _⟩
    | true =>
      have hv2 : Utf8.valid r = true := by unfold Lib.validRune at hv; unfold Utf8.valid; simp at hv ⊢; omega
      rw [hv] at VR
      obtain ⟨e1, e2, e3⟩ := enc_shape r h hv2
      obtain ⟨E, hE⟩ : ∃ E, Utf8.encode r = E := ⟨_, rfl⟩
      rw [hE] at e1 e2 e3
      clear hv hv2
      rcases (show E.size = 2 ∨ 2 < E.size by omega) with hs | hs
      · have hb := e3 hs
        have hsI : (E.size : Int) = 2 := by omega
        obtain ⟨b, hbb⟩ : ∃ b, E.get! 1 = b := ⟨_, rfl⟩
        rw [hbb] at hb
        have hx : E[1]'(by omega) = b := by rw [← hbb]; exact (get_at E 1 (by omega)).symm
        clear e1 e2 e3 hbb
        obtain ⟨C, hC⟩ : ∃ C : ByteArray, (⟨#[32, 61]⟩ : ByteArray) = C := ⟨_, rfl⟩
        have hCs : C.size = 2 := by rw [← hC]; rfl
        have hC1 : C[1]'(by omega) = 61 := by subst hC; rfl
        have hCe : (C.extract 2 2).data.toList = [] := by rw [← hC]; rfl
        have hCI : (C.size : Int) = 2 := by omega
        obtain ⟨y, hy⟩ : ∃ y : UInt8, (61 : UInt8) = y := ⟨_, rfl⟩
        rw [hy] at hC1
        have hyb : ((y.toNat : Int) != (b.toNat : Int)) = true := by
          subst hy
          rw [bne_iff_ne]
          show ¬ (61 : Int) = _
          omega
        rw [hC]
        clear hC hy
        go_enter Tryz.func97, Tryz.ntmps97
        go_wp2_with (go_at_call 132; refine (VR.out _).mono ?_; rintro e w' ⟨rfl, hw⟩; rw [hw])
        go_step3
        go_wp2
        go_loopg [9, 10, 11, 12] 1 (fun g s9 s10 _ _ wx => s9 = .int .i64 1 ∧ s10 = .int .i64 0 ∧ wx = W)
        case atStart => exact ⟨rfl, rfl, rfl⟩
        case round =>
          obtain ⟨rfl, rfl, rfl⟩ := hrel
          have IB : Aside0 (∀ (c : Int) (W : World), Calls Tryz.prog 131 #[.string ByteArray.empty, .int .u8 c] W fun e w' => e = .returned (.int .i64 (-1)) ∧ w' = W) := ⟨fun c W => Tryz.strings_IndexByte ByteArray.empty c W⟩
          go_wp2
          go_step3
          go_upto_region 6 with fail
          go_region
          go_wp2
          go_region_with (go_at_call 131; refine (IB.out _ _).mono ?_; rintro e w9 ⟨rfl, hw9⟩; rw [hw9])
          all_goals go_wp2
          all_goals (rw [Exit.noGoto_ret]; go_simp; go_ret; exact ⟨rfl, by repeat first | exact Below.refl _ _ | apply Below.drew⟩)
      · have hz3 : ¬ ((E.size : Int) - 1 < 2) := by omega
        have hE4 : (E.size : Int) ≤ 4 := by omega
        clear e1 e2 e3
        go_enter Tryz.func97, Tryz.ntmps97
        go_wp2_with (go_at_call 132; refine (VR.out _).mono ?_; rintro e w' ⟨rfl, hw⟩; rw [hw])
        go_step3
        go_wp2
        go_loopg [9, 10, 11, 12] 1 (fun g s9 s10 _ _ wx => s9 = .int .i64 ((E.size : Int) - 1) ∧ s10 = .int .i64 0 ∧ wx = W)
        case atStart => exact ⟨rfl, rfl, rfl⟩
        case round =>
          obtain ⟨rfl, rfl, rfl⟩ := hrel
          go_wp2
          rw [Exit.noGoto_ret]
          go_ret
          exact ⟨rfl, Below.refl _ _⟩
set_option maxHeartbeats 1000000 in
set_option maxRecDepth 100000 in
/-- IndexAny(s, " =") of a short string. -/
theorem any74 (s : ByteArray) (w : World) (h8 : s.size ≤ 8) : Calls Tryz.prog 74 #[.string s, .string ⟨#[32, 61]⟩] w fun e w' => e = .returned (.int .i64 (Lib.indexAny s.data.toList [32, 61])) ∧ Below w.heap.size w w' := by
  have h8z : ¬ (8 : Int) < (s.size : Int) := by omega
  have SU := Aside0.mk (fun W => Tryz.strings_shouldUseASCIISet s.size W)
  rw [decide_eq_false h8z] at SU
  have RA := Aside0.mk (fun (r : Int) W h0 h1 => Tryz.strings_IndexRune_ascii ⟨#[32, 61]⟩ r W h0 h1)
  have RN := Aside0.mk rune97
  obtain ⟨C, hC⟩ : ∃ C : ByteArray, (⟨#[32, 61]⟩ : ByteArray) = C := ⟨_, rfl⟩
  have hCl : C.data.toList = [32, 61] := by rw [← hC]
  have hCs : C.size = 2 := by rw [← hC]; rfl
  have hCe : C.toList.isEmpty = false := by rw [List.isEmpty_eq_false_iff, ByteArray.toList_eq, hCl]; exact List.cons_ne_nil _ _
  rw [hC] at RA RN ⊢
  rw [hCl] at RA
  clear hC h8z hCl
  go_enter Tryz.func74, Tryz.ntmps74
  go_wp2_with (go_at_call 98; refine (SU.out _).mono ?_; rintro e w' ⟨rfl, hw⟩; rw [hw])
  have CI : Aside0 (∀ x : UInt8, ([32, 61] : List UInt8).contains x = decide ((0 : Int) ≤ Lib.indexByte [32, 61] x)) := ⟨Lib.contains_iff_indexByte [32, 61]⟩
  go_loopw [9, 10] (fun _ _ wx => ∃ i : Nat, wx.heap[w.heap.size]? = some (.stringIter s i) ∧ Below w.heap.size w wx ∧ Lib.NoAny s.data.toList [32, 61] i) (fun _ _ wx => s.size - wx.iterPos w.heap.size)
  case atStart => exact ⟨0, World.iter_heap w s 0, (Below.refl _ _).alloc (Nat.le_refl _) _, Lib.NoAny.zero _ _⟩
  case round =>
    obtain ⟨i, hit, hB, hno⟩ := hrel
    have HN := Aside0.mk hno; have HB := Aside0.mk hB; have HIT := Aside0.mk hit
    have hpos : wr.iterPos w.heap.size = i := by unfold World.iterPos; rw [hit]
    have HP := Aside0.mk hpos
    clear hno hB hpos
    by_cases hp : i < s.size
    · by_cases ha : (s[i]'hp).toNat < 128
      · have hnx := fun ty => Lib.run_next_ascii_at (P := Tryz.prog) wr w.heap.size s i ty hit hp ha
        obtain ⟨x, hx⟩ : ∃ x : UInt8, s[i]'hp = x := ⟨_, rfl⟩
        have Hx := Aside0.mk (show s.data.toList[i]? = some x by rw [← hx]; exact Lib.data_getElem? s i hp)
        rw [hx] at hnx ha
        have R := Aside0.mk (fun W => RA.out (x.toNat : Int) W (by omega) (by omega))
        rw [show ((x.toNat : Int)).toNat.toUInt8 = x by simp] at R
        have hcon := CI.out x
        have HLT := Aside0.mk (And.intro (Lib.iterAt_heap wr w.heap.size s i (i + 1) hit) (Lib.below_iterAt HB.out (Nat.le_refl w.heap.size) s (i + 1)))
        clear hit hx
        cases hin : ([32, 61] : List UInt8).contains x
        · rw [hin] at hcon
          have hlt : ¬ ((0 : Int) ≤ Lib.indexByte [32, 61] x) := of_decide_eq_false hcon.symm
          obtain ⟨z, hz⟩ : ∃ z, Lib.indexByte [32, 61] x = z := ⟨_, rfl⟩
          rw [hz] at hlt R
          clear hcon hz
          go_wp2_with (go_at_call 97; refine (R.out _).mono ?_; rintro e w' ⟨rfl, hw⟩; rw [hw])
          have e2 : (wr.iterAt w.heap.size s (i + 1)).iterPos w.heap.size = i + 1 := by unfold World.iterPos; rw [HLT.out.1]
          go_roundw
          case measure => rw [HP.out, e2]; omega
          case rel => exact ⟨i + 1, HLT.out.1, HLT.out.2, HN.out.succ Hx.out hin⟩
        · rw [hin] at hcon
          have hge : (0 : Int) ≤ Lib.indexByte [32, 61] x := of_decide_eq_true hcon.symm
          have hhit := Lib.indexAny_hit HN.out Hx.out hin
          obtain ⟨z, hz⟩ : ∃ z, Lib.indexByte [32, 61] x = z := ⟨_, rfl⟩
          rw [hz] at hge R
          have HH := Aside0.mk hhit
          clear hcon hz hhit
          go_wp2_with (go_at_call 97; refine (R.out _).mono ?_; rintro e w' ⟨rfl, hw⟩; rw [hw])
          go_ret
          exact ⟨by rw [HH.out]; rfl, HLT.out.2⟩
      · have hnx := fun ty => Lib.run_next_any_at (P := Tryz.prog) wr w.heap.size s i ty hit hp
        have hd := decode_high s i hp (by omega)
        have hst := step_any s i hp (by rw [show s.get! i = s[i]'hp from get_at s i hp]; omega) HN.out
        obtain ⟨D, hD⟩ : ∃ D, Utf8.decode s i = D := ⟨_, rfl⟩
        rw [hD] at hnx hd hst
        obtain ⟨d1, d2⟩ := D
        simp only at hnx hd hst
        have HST := Aside0.mk hst
        have HLT := Aside0.mk (And.intro (Lib.iterAt_heap wr w.heap.size s i (i + d2) hit) (Lib.below_iterAt HB.out (Nat.le_refl w.heap.size) s (i + d2)))
        have R := Aside0.mk (fun W => RN.out (d1 : Int) W (by omega))
        have hd2 := hd.2
        clear hit hst hD ha hd
        go_wp2_with (go_at_call 97; refine (R.out _).mono ?_; rintro e w' ⟨rfl, hw⟩; have HW := Aside0.mk hw; clear hw)
        have hlt : w.heap.size < (wr.iterAt w.heap.size s (i + d2)).heap.size := by
          have h := HLT.out.1
          exact (Array.getElem?_eq_some_iff.1 h).1
        have hit2 : w'.heap[w.heap.size]? = some (.stringIter s (i + d2)) := by rw [HW.out.block w.heap.size hlt]; exact HLT.out.1
        have e2 : w'.iterPos w.heap.size = i + d2 := by unfold World.iterPos; rw [hit2]
        go_roundw
        case measure => rw [HP.out, e2]; omega
        case rel => exact ⟨i + d2, hit2, HLT.out.2.trans (HW.out.mono (Nat.le_of_lt hlt)), HST.out⟩
    · have hnx := Lib.run_next_end_at (P := Tryz.prog) wr w.heap.size s i
      go_wp2
      go_ret
      refine ⟨by rw [Lib.indexAny_none (fun j b hj hb => HN.out j b (by have := (List.getElem?_eq_some_iff.1 hb).1; rw [← Lib.size_eq] at this; omega) hb)]; rfl, HB.out⟩
set_option maxHeartbeats 1000000 in
set_option maxRecDepth 100000 in
theorem told (s : ByteArray) (hs : s.size < 4294967281) : Told s := by
  intro w
  have A : Aside0 (Calls Tryz.prog 74 #[.string s, .string ⟨#[32, 61]⟩] w fun e w' => e = .returned (.int .i64 (Lib.indexAny s.data.toList [32, 61])) ∧ Below w.heap.size w w') := ⟨by
    by_cases h8 : s.size ≤ 8
    · exact any74 s w h8
    · refine (Tryz.strings_IndexAny_long (zero_of_info (n := 256) (by kernel_rfl)).1 s ⟨#[32, 61]⟩ w (by decide) (by omega) hs (by decide) (by
        intro j b h
        match j, h with
        | 0, h => simp at h; subst h; decide
        | 1, h => simp at h; subst h; decide)).mono ?_
      rintro e w' ⟨rfl, rfl⟩
      exact ⟨rfl, ((Below.refl _ _).alloc (Nat.le_refl _) _).alloc (by simp) _⟩⟩
  have hc : Lib.containsAny s.data.toList [32, 61] = decide (0 ≤ Lib.indexAny s.data.toList [32, 61]) := rfl
  rw [hc]
  obtain ⟨z, hz⟩ : ∃ z, Lib.indexAny s.data.toList [32, 61] = z := ⟨_, rfl⟩
  rw [hz] at A ⊢
  clear hc hz
  go_enter Tryz.func49, Tryz.ntmps49
  go_wp2_with (go_at_call 74; refine A.out.mono ?_; rintro e w' ⟨rfl, hw⟩)
  go_ret
  exact ⟨rfl, hw⟩
end Go.Proofs.YtgdlmgdcoedfoaaGreatDoor.Agl
