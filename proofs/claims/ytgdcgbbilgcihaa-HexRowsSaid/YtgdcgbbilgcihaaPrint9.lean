-- made by wip/tools/xprint.py
import Derived.Test.YtgdcgbbilgcihaaPrint0
import Derived.Test.YtgdcgbbilgcihaaPrint2
import Derived.Test.YtgdcgbbilgcihaaPrint3
namespace Go.Proofs.Ytgdcgbbilgcihaa.Print
open Go.RowKit Go.Proofs.YtgdcgbbilgcihaaW.PrintWords Go.Proofs.YtgdcgbbilgcihaaW.PrintLast Go.Proofs.YtgdcgbbilgcihaaW.PrintMore
attribute [local go_sem] max2_int min2_int max_two min_two max_three min_three max_four min_four   -- for this text's walks alone
set_option linter.unusedVariables false
set_option linter.unusedSimpArgs false

/-! ### hornbooklaw01_HexBad: function 7 -/
def hornbooklaw01_HexBad.j0 : Nat → ByteArray → Bool → Int → Bool → Option (Bool)
  | 0, _, _, _, _ => none
  | k + 1, x0, x3, x5, x57 => if x57 = true then (some false) else (if 0 ≤ x5 then (if x5 < (x0.size : Int) then ((hex_Digit.f k (wrap64 (bt x0 x5))).bind fun bt232 => (if x5 ≤ (x0.size : Int) then ((hex_UnHex.f k (x0.extract 0 (x5 : Int).toNat)).bind fun bt234 => (if x3 = true then (if bt232.2 = true then (some false) else ((hex_White.f (wrap64 (bt x0 x5))).bind fun t239 => (if t239 = true then (some false) else (if bt234.2.2 = 0 then (some (bt234.2.1 == x5)) else (some false))))) else (some false))) else (none))) else (none)) else (none))
def hornbooklaw01_HexBad.f (k : Nat) (a0 : ByteArray) : Option (Bool) := (hornbooklaw01_awake.f).bind fun t226 => (if (a0.size : Int) > 1000 then (some t226) else ((hex_UnHex.f k a0).bind fun bt227 => (if bt227.2.2 = 0 then (if t226 = true then (if bt227.2.1 = (a0.size : Int) then (some (decide ((bt227.1.length : Int) ≤ (wrap64 (Int.tdiv (wrap64 ((a0.size : Int) + 1)) 2))))) else (some false)) else (some false)) else (if bt227.2.2 = 1 then (if bt227.2.1 < 0 then (hornbooklaw01_HexBad.j0 k a0 t226 bt227.2.1 true) else (if bt227.2.1 ≥ (a0.size : Int) then (hornbooklaw01_HexBad.j0 k a0 t226 bt227.2.1 true) else (hornbooklaw01_HexBad.j0 k a0 t226 bt227.2.1 ((bt227.1.length : Int) != 0)))) else (hornbooklaw01_HexBad.j0 k a0 t226 bt227.2.1 true)))))
theorem hornbooklaw01_HexBad.mono_l : ∀ k, (∀ y0 y1 y2 y3, LeO (hornbooklaw01_HexBad.j0 k y0 y1 y2 y3) (hornbooklaw01_HexBad.j0 (k + 1) y0 y1 y2 y3))
  | 0 => fun _ _ _ _ r h => by simp [hornbooklaw01_HexBad.j0] at h
  | k + 1 => by
    have ih0 := hornbooklaw01_HexBad.mono_l k
    · intro y0 y1 y2 y3
      unfold hornbooklaw01_HexBad.j0
      repeat' first
      | (with_reducible exact ih0 _ _ _ _)
      | (with_reducible exact hex_Digit.mono _ _)
      | (with_reducible exact hex_UnHex.mono _ _)
      | (with_reducible exact LeO.refl _)
      | (with_reducible exact LeO.none _)
      | (with_reducible refine LeO.ite ?_ ?_)
      | (with_reducible refine LeO.bind ?_ (fun _ => ?_))
      | exact ih0 _ _ _ _
      | exact hex_Digit.mono _ _
      | exact hex_UnHex.mono _ _
      | exact LeO.none _
      | refine LeO.ite ?_ ?_
      | refine LeO.bind ?_ (fun _ => ?_)
theorem hornbooklaw01_HexBad.mono : ∀ a0 k, LeO (hornbooklaw01_HexBad.f k a0) (hornbooklaw01_HexBad.f (k + 1) a0) := by
  intro a0 k
  have ih0 := hornbooklaw01_HexBad.mono_l k
  unfold hornbooklaw01_HexBad.f
  repeat' first
      | (with_reducible exact ih0 _ _ _ _)
      | (with_reducible exact hex_Digit.mono _ _)
      | (with_reducible exact hex_UnHex.mono _ _)
      | (with_reducible exact LeO.refl _)
      | (with_reducible exact LeO.none _)
      | (with_reducible refine LeO.ite ?_ ?_)
      | (with_reducible refine LeO.bind ?_ (fun _ => ?_))
      | exact ih0 _ _ _ _
      | exact hex_Digit.mono _ _
      | exact hex_UnHex.mono _ _
      | exact LeO.none _
      | refine LeO.ite ?_ ?_
      | refine LeO.bind ?_ (fun _ => ?_)
set_option maxHeartbeats 8000000 in
set_option maxRecDepth 100000 in
theorem hornbooklaw01_HexBad.calls (k : Nat) (a0 : ByteArray) (r : Bool) (w : World) (h : hornbooklaw01_HexBad.f k a0 = some r) (hT : Aside0 (r = true)) :
    Calls Try.prog 7 #[.string a0] w fun e w' => e = .returned (.bool r) ∧ Below w.heap.size w w' := by
  have HB := Aside0.mk (Below.refl w.heap.size w)
  have H : ((hornbooklaw01_awake.f).bind fun t226 => (if (a0.size : Int) > 1000 then (some t226) else ((hex_UnHex.f k a0).bind fun bt227 => (if bt227.2.2 = 0 then (if t226 = true then (if bt227.2.1 = (a0.size : Int) then (some (decide ((bt227.1.length : Int) ≤ (wrap64 (Int.tdiv (wrap64 ((a0.size : Int) + 1)) 2))))) else (some false)) else (some false)) else (if bt227.2.2 = 1 then (if bt227.2.1 < 0 then (hornbooklaw01_HexBad.j0 k a0 t226 bt227.2.1 true) else (if bt227.2.1 ≥ (a0.size : Int) then (hornbooklaw01_HexBad.j0 k a0 t226 bt227.2.1 true) else (hornbooklaw01_HexBad.j0 k a0 t226 bt227.2.1 ((bt227.1.length : Int) != 0)))) else (hornbooklaw01_HexBad.j0 k a0 t226 bt227.2.1 true)))))) = some r := h
  clear h
  replace H := Option.bind_eq_some_iff.mp H
  obtain ⟨t226, A20, H⟩ := H
  replace H : (if (a0.size : Int) > 1000 then (some t226) else ((hex_UnHex.f k a0).bind fun bt227 => (if bt227.2.2 = 0 then (if t226 = true then (if bt227.2.1 = (a0.size : Int) then (some (decide ((bt227.1.length : Int) ≤ (wrap64 (Int.tdiv (wrap64 ((a0.size : Int) + 1)) 2))))) else (some false)) else (some false)) else (if bt227.2.2 = 1 then (if bt227.2.1 < 0 then (hornbooklaw01_HexBad.j0 k a0 t226 bt227.2.1 true) else (if bt227.2.1 ≥ (a0.size : Int) then (hornbooklaw01_HexBad.j0 k a0 t226 bt227.2.1 true) else (hornbooklaw01_HexBad.j0 k a0 t226 bt227.2.1 ((bt227.1.length : Int) != 0)))) else (hornbooklaw01_HexBad.j0 k a0 t226 bt227.2.1 true))))) = some r := H
  have A2 := Aside0.mk A20
  clear A20
  by_cases c3 : (a0.size : Int) > 1000
  · rw [if_pos c3] at H
    have c3b0 : decide (1000 < (a0.size : Int)) = true := decide_eq_true c3
    have c3b1 : decide (1000 < a0.size) = true := decide_eq_true (by omega)
    clear c3
    obtain rfl := Option.some.inj H
    go_enter Try.func7, Try.ntmps7
    go_wp2_with (first | ((with_reducible refine gate_callee (f := 10) rfl ?_); refine goesL_ (some 12) rfl rfl Try.func10 (by kernel_rfl) rfl #[] rfl (by (try simp only [List.map_toArray, List.map_cons, List.map_nil]); first | done | rfl | (simp only [List.length_drop, List.length_take]; rfl)) ?_; (with_reducible refine (hornbooklaw01_awake.calls  t226 _ A2.out).mono ?_); rintro e w4 ⟨rfl, hb⟩; refine ⟨_, rfl, ?_⟩; have n0_ := Aside0.mk (below_step (by repeat (first | (with_reducible first | exact HB.out | apply below_alloc | apply pw_below_drewN | apply below_drew1) | exact HB.out)) hb); clear HB; have HB := n0_; clear n0_; (try clear hb); (try clear hb2); (try clear hk); (try clear hi)))
    go_ret
    exact ⟨by first | rfl | (simp [errW_none, errW_some] <;> rfl) | (simp [*, errW_none, errW_some] <;> rfl), by repeat (first | (with_reducible first | exact HB.out | apply below_alloc | apply pw_below_drewN | apply below_drew1) | exact HB.out)⟩
  · rw [if_neg c3] at H
    have c3b0 : decide (1000 < (a0.size : Int)) = false := decide_eq_false c3
    have c3b1 : decide (1000 < a0.size) = false := decide_eq_false (by omega)
    clear c3
    replace H := Option.bind_eq_some_iff.mp H
    obtain ⟨⟨t227, t228, t229⟩, A50, H⟩ := H
    replace H : (if t229 = 0 then (if t226 = true then (if t228 = (a0.size : Int) then (some (decide ((t227.length : Int) ≤ (wrap64 (Int.tdiv (wrap64 ((a0.size : Int) + 1)) 2))))) else (some false)) else (some false)) else (if t229 = 1 then (if t228 < 0 then (hornbooklaw01_HexBad.j0 k a0 t226 t228 true) else (if t228 ≥ (a0.size : Int) then (hornbooklaw01_HexBad.j0 k a0 t226 t228 true) else (hornbooklaw01_HexBad.j0 k a0 t226 t228 ((t227.length : Int) != 0)))) else (hornbooklaw01_HexBad.j0 k a0 t226 t228 true))) = some r := H
    have A5 := Aside0.mk A50
    clear A50
    by_cases c6 : t229 = 0
    · rw [if_pos c6] at H
      have c6b0 : (t229 == 0) = true := beq_iff_eq.mpr c6
      have c6b1 : (t229 != 0) = false := bne_eq_false_iff_eq.mpr c6
      clear c6
      by_cases c7 : t226 = true
      · subst c7
        have H1 : (if t228 = (a0.size : Int) then (some (decide ((t227.length : Int) ≤ (wrap64 (Int.tdiv (wrap64 ((a0.size : Int) + 1)) 2))))) else (some false)) = some r := by rw [if_pos rfl] at H; exact H
        clear H
        have H := H1
        clear H1
        by_cases c8 : t228 = (a0.size : Int)
        · rw [if_pos c8] at H
          have c8b0 : (t228 == (a0.size : Int)) = true := beq_iff_eq.mpr c8
          have c8b1 : (t228 != (a0.size : Int)) = false := bne_eq_false_iff_eq.mpr c8
          clear c8
          obtain rfl := Option.some.inj H
          go_enter Try.func7, Try.ntmps7
          go_wp2_with (first | ((with_reducible refine gate_callee (f := 10) rfl ?_); refine goesL_ (some 12) rfl rfl Try.func10 (by kernel_rfl) rfl #[] rfl (by (try simp only [List.map_toArray, List.map_cons, List.map_nil]); first | done | rfl | (simp only [List.length_drop, List.length_take]; rfl)) ?_; (with_reducible refine (hornbooklaw01_awake.calls  true _ A2.out).mono ?_); rintro e w9 ⟨rfl, hb⟩; refine ⟨_, rfl, ?_⟩; have n0_ := Aside0.mk (below_step (by repeat (first | (with_reducible first | exact HB.out | apply below_alloc | apply pw_below_drewN | apply below_drew1) | exact HB.out)) hb); clear HB; have HB := n0_; clear n0_; (try clear hb); (try clear hb2); (try clear hk); (try clear hi)) | ((with_reducible refine gate_callee (f := 13) rfl ?_); refine goesL_ (some 19) rfl rfl Try.func13 (by kernel_rfl) rfl #[.string a0] rfl (by (try simp only [List.map_toArray, List.map_cons, List.map_nil]); first | done | rfl | (simp only [List.length_drop, List.length_take]; rfl)) ?_; (with_reducible refine (hex_UnHex.calls k a0 t227 t228 t229 _ A5.out).mono ?_); rintro e w10 ⟨v230, rfl, ho0, hb⟩; refine ⟨_, rfl, ?_⟩; have n0_ := Aside0.mk (Kd.R_lower ho0 (below_size (by repeat (first | (with_reducible first | exact HB.out | apply below_alloc | apply pw_below_drewN | apply below_drew1) | exact HB.out)))); have n1_ := Aside0.mk (below_step (by repeat (first | (with_reducible first | exact HB.out | apply below_alloc | apply pw_below_drewN | apply below_drew1) | exact HB.out)) hb); clear HB; have HO231 := n0_; have HB := n1_; clear n0_ n1_; (try clear hb); (try clear hb2); (try clear hk); (try clear hi); (try clear ho0); obtain ⟨Ao11, co11, eo11⟩ := Kd.R_slice HO231.out; subst eo11))
          go_ret
          exact ⟨by first | rfl | (simp [errW_none, errW_some] <;> rfl) | (simp [*, errW_none, errW_some] <;> rfl), by repeat (first | (with_reducible first | exact HB.out | apply below_alloc | apply pw_below_drewN | apply below_drew1) | exact HB.out)⟩
        · rw [if_neg c8] at H
          have c8b0 : (t228 == (a0.size : Int)) = false := beq_eq_false_iff_ne.mpr c8
          have c8b1 : (t228 != (a0.size : Int)) = true := bne_iff_ne.mpr c8
          exact absurd ((Option.some.inj H).trans hT.out) (by decide)
      · replace c7 := Bool.eq_false_iff.mpr c7
        subst c7
        have H1 : (some false) = some r := by rw [if_neg (show ¬ (false = true) by decide)] at H; exact H
        clear H
        have H := H1
        clear H1
        exact absurd ((Option.some.inj H).trans hT.out) (by decide)
    · rw [if_neg c6] at H
      have c6b0 : (t229 == 0) = false := beq_eq_false_iff_ne.mpr c6
      have c6b1 : (t229 != 0) = true := bne_iff_ne.mpr c6
      have HC12 := Aside0.mk H
      clear H
      go_enter Try.func7, Try.ntmps7
      go_upto_region 7 with (first | ((with_reducible refine gate_callee (f := 10) rfl ?_); refine goesL_ (some 12) rfl rfl Try.func10 (by kernel_rfl) rfl #[] rfl (by (try simp only [List.map_toArray, List.map_cons, List.map_nil]); first | done | rfl | (simp only [List.length_drop, List.length_take]; rfl)) ?_; (with_reducible refine (hornbooklaw01_awake.calls  t226 _ A2.out).mono ?_); rintro e w13 ⟨rfl, hb⟩; refine ⟨_, rfl, ?_⟩; have n0_ := Aside0.mk (below_step (by repeat (first | (with_reducible first | exact HB.out | apply below_alloc | apply pw_below_drewN | apply below_drew1) | exact HB.out)) hb); clear HB; have HB := n0_; clear n0_; (try clear hb); (try clear hb2); (try clear hk); (try clear hi)) | ((with_reducible refine gate_callee (f := 13) rfl ?_); refine goesL_ (some 19) rfl rfl Try.func13 (by kernel_rfl) rfl #[.string a0] rfl (by (try simp only [List.map_toArray, List.map_cons, List.map_nil]); first | done | rfl | (simp only [List.length_drop, List.length_take]; rfl)) ?_; (with_reducible refine (hex_UnHex.calls k a0 t227 t228 t229 _ A5.out).mono ?_); rintro e w14 ⟨v230, rfl, ho0, hb⟩; refine ⟨_, rfl, ?_⟩; have n0_ := Aside0.mk (Kd.R_lower ho0 (below_size (by repeat (first | (with_reducible first | exact HB.out | apply below_alloc | apply pw_below_drewN | apply below_drew1) | exact HB.out)))); have n1_ := Aside0.mk (below_step (by repeat (first | (with_reducible first | exact HB.out | apply below_alloc | apply pw_below_drewN | apply below_drew1) | exact HB.out)) hb); clear HB; have HO231 := n0_; have HB := n1_; clear n0_ n1_; (try clear hb); (try clear hb2); (try clear hk); (try clear hi); (try clear ho0)))
      (try simp only [Act.put, List.setIfInBounds_toArray, List.set_cons_zero, List.set_cons_succ])
      go_cut [57] (fun v57 wc => ∃ (kq : Nat) (x57_11 : Bool), v57 = .bool x57_11 ∧ Aside0 (hornbooklaw01_HexBad.j0 kq a0 t226 t228 x57_11 = some r) ∧ Aside0 (kq ≤ k) ∧ Aside0 (Below w.heap.size w wc))
      case first =>
        have H := HC12.out
        clear HC12
        by_cases c15 : t229 = 1
        · rw [if_pos c15] at H
          have c15b0 : (t229 == 1) = true := beq_iff_eq.mpr c15
          have c15b1 : (t229 != 1) = false := bne_eq_false_iff_eq.mpr c15
          clear c15
          (first | rw [c15b0] | (simp only [i64_w, i32_w]; rw [c15b0]) | skip)
          by_cases c16 : t228 < 0
          · rw [if_pos c16] at H
            have c16b0 : decide (t228 < 0) = true := decide_eq_true c16
            clear c16
            have H' := Aside0.mk H
            clear H
            go_wp2
            go_meet
            case rel => exact ⟨_, (true), (by first | rfl | (simp; done) | (simp [*]; done)), H', ⟨by first | omega | exact Nat.le_refl _⟩, ⟨by repeat (first | (with_reducible first | exact HB.out | apply below_alloc | apply pw_below_drewN | apply below_drew1) | exact HB.out)⟩⟩
          · rw [if_neg c16] at H
            have c16b0 : decide (t228 < 0) = false := decide_eq_false c16
            clear c16
            by_cases c17 : t228 ≥ (a0.size : Int)
            · rw [if_pos c17] at H
              have c17b0 : decide ((a0.size : Int) ≤ t228) = true := decide_eq_true c17
              clear c17
              have H' := Aside0.mk H
              clear H
              go_wp2
              go_meet
              case rel => exact ⟨_, (true), (by first | rfl | (simp; done) | (simp [*]; done)), H', ⟨by first | omega | exact Nat.le_refl _⟩, ⟨by repeat (first | (with_reducible first | exact HB.out | apply below_alloc | apply pw_below_drewN | apply below_drew1) | exact HB.out)⟩⟩
            · rw [if_neg c17] at H
              have c17b0 : decide ((a0.size : Int) ≤ t228) = false := decide_eq_false c17
              clear c17
              have H' := Aside0.mk H
              clear H
              obtain ⟨Ao18, co18, eo18⟩ := Kd.R_slice HO231.out
              subst eo18
              go_wp2
              go_meet
              case rel => exact ⟨_, (((t227.length : Int) != 0)), (by first | rfl | (simp; done) | (simp [*]; done)), H', ⟨by first | omega | exact Nat.le_refl _⟩, ⟨by repeat (first | (with_reducible first | exact HB.out | apply below_alloc | apply pw_below_drewN | apply below_drew1) | exact HB.out)⟩⟩
        · rw [if_neg c15] at H
          have c15b0 : (t229 == 1) = false := beq_eq_false_iff_ne.mpr c15
          have c15b1 : (t229 != 1) = true := bne_iff_ne.mpr c15
          (first | rw [c15b0] | (simp only [i64_w, i32_w]; rw [c15b0]) | skip)
          have H' := Aside0.mk H
          clear H
          go_wp2
          go_meet
          case rel => exact ⟨_, (true), (by first | rfl | (simp; done) | (simp [*]; done)), H', ⟨by first | omega | exact Nat.le_refl _⟩, ⟨by repeat (first | (with_reducible first | exact HB.out | apply below_alloc | apply pw_below_drewN | apply below_drew1) | exact HB.out)⟩⟩
      case rest =>
        clear HC12
        try clear c1
        try clear p2
        try clear c3
        try clear c3b0
        try clear c3b1
        try clear c6
        try clear c6b0
        try clear c6b1
        try clear p6
        try clear c7
        try clear c8
        try clear c8b0
        try clear c8b1
        try clear c10
        try clear c13
        try clear c15
        try clear c15b0
        try clear c15b1
        try clear c16
        try clear c16b0
        try clear c17
        try clear c17b0
        obtain ⟨kq, x57_11, rfl, HA, HJ11, HB⟩ := hcut
        cases kq with
        | zero => exact absurd HA.out (by simp [hornbooklaw01_HexBad.j0])
        | succ kj11 =>
          have H := HA.out
          clear HA
          simp only [hornbooklaw01_HexBad.j0] at H
          by_cases c19 : x57_11 = true
          · subst c19
            have H1 : (some false) = some r := by rw [if_pos rfl] at H; exact H
            clear H
            have H := H1
            clear H1
            exact absurd ((Option.some.inj H).trans hT.out) (by decide)
          · replace c19 := Bool.eq_false_iff.mpr c19
            subst c19
            have H1 : (if 0 ≤ t228 then (if t228 < (a0.size : Int) then ((hex_Digit.f kj11 (wrap64 (bt a0 t228))).bind fun bt232 => (if t228 ≤ (a0.size : Int) then ((hex_UnHex.f kj11 (a0.extract 0 (t228 : Int).toNat)).bind fun bt234 => (if t226 = true then (if bt232.2 = true then (some false) else ((hex_White.f (wrap64 (bt a0 t228))).bind fun t239 => (if t239 = true then (some false) else (if bt234.2.2 = 0 then (some (bt234.2.1 == t228)) else (some false))))) else (some false))) else (none))) else (none)) else (none)) = some r := by rw [if_neg (show ¬ (false = true) by decide)] at H; exact H
            clear H
            have H := H1
            clear H1
            by_cases c20 : 0 ≤ t228
            · rw [if_pos c20] at H
              have c20b0 : decide (0 ≤ t228) = true := decide_eq_true c20
              clear c20
              by_cases c21 : t228 < (a0.size : Int)
              · rw [if_pos c21] at H
                have c21b0 : decide (t228 < (a0.size : Int)) = true := decide_eq_true c21
                clear c21
                replace H := Option.bind_eq_some_iff.mp H
                obtain ⟨⟨t232, t233⟩, A230, H⟩ := H
                replace H : (if t228 ≤ (a0.size : Int) then ((hex_UnHex.f kj11 (a0.extract 0 (t228 : Int).toNat)).bind fun bt234 => (if t226 = true then (if t233 = true then (some false) else ((hex_White.f (wrap64 (bt a0 t228))).bind fun t239 => (if t239 = true then (some false) else (if bt234.2.2 = 0 then (some (bt234.2.1 == t228)) else (some false))))) else (some false))) else (none)) = some r := H
                have A23 := Aside0.mk A230
                clear A230
                have c24b0 := eq_true (of_decide_eq_true (by first | (with_reducible assumption) | assumption) : 0 ≤ t228)
                by_cases c25 : t228 ≤ (a0.size : Int)
                · rw [if_pos c25] at H
                  have c25b0 := eq_true c25
                  have c25b1 : decide (t228 ≤ (a0.size : Int)) = true := decide_eq_true c25
                  clear c25
                  replace H := Option.bind_eq_some_iff.mp H
                  obtain ⟨⟨t234, t235, t236⟩, A260, H⟩ := H
                  replace H : (if t226 = true then (if t233 = true then (some false) else ((hex_White.f (wrap64 (bt a0 t228))).bind fun t239 => (if t239 = true then (some false) else (if t236 = 0 then (some (t235 == t228)) else (some false))))) else (some false)) = some r := H
                  have A26 := Aside0.mk A260
                  clear A260
                  by_cases c27 : t226 = true
                  · subst c27
                    have H1 : (if t233 = true then (some false) else ((hex_White.f (wrap64 (bt a0 t228))).bind fun t239 => (if t239 = true then (some false) else (if t236 = 0 then (some (t235 == t228)) else (some false))))) = some r := by rw [if_pos rfl] at H; exact H
                    clear H
                    have H := H1
                    clear H1
                    by_cases c28 : t233 = true
                    · subst c28
                      have H1 : (some false) = some r := by rw [if_pos rfl] at H; exact H
                      clear H
                      have H := H1
                      clear H1
                      exact absurd ((Option.some.inj H).trans hT.out) (by decide)
                    · replace c28 := Bool.eq_false_iff.mpr c28
                      subst c28
                      have H1 : ((hex_White.f (wrap64 (bt a0 t228))).bind fun t239 => (if t239 = true then (some false) else (if t236 = 0 then (some (t235 == t228)) else (some false)))) = some r := by rw [if_neg (show ¬ (false = true) by decide)] at H; exact H
                      clear H
                      have H := H1
                      clear H1
                      replace H := Option.bind_eq_some_iff.mp H
                      obtain ⟨t239, A300, H⟩ := H
                      replace H : (if t239 = true then (some false) else (if t236 = 0 then (some (t235 == t228)) else (some false))) = some r := H
                      have A30 := Aside0.mk A300
                      clear A300
                      by_cases c31 : t239 = true
                      · subst c31
                        have H1 : (some false) = some r := by rw [if_pos rfl] at H; exact H
                        clear H
                        have H := H1
                        clear H1
                        exact absurd ((Option.some.inj H).trans hT.out) (by decide)
                      · replace c31 := Bool.eq_false_iff.mpr c31
                        subst c31
                        have H1 : (if t236 = 0 then (some (t235 == t228)) else (some false)) = some r := by rw [if_neg (show ¬ (false = true) by decide)] at H; exact H
                        clear H
                        have H := H1
                        clear H1
                        by_cases c32 : t236 = 0
                        · rw [if_pos c32] at H
                          have c32b0 : (t236 == 0) = true := beq_iff_eq.mpr c32
                          have c32b1 : (t236 != 0) = false := bne_eq_false_iff_eq.mpr c32
                          clear c32
                          obtain rfl := Option.some.inj H
                          have p22 : 0 ≤ (t228 : Int) := of_decide_eq_true (by first | (with_reducible assumption) | assumption)
                          have q22 : t228 < (a0.size : Int) := of_decide_eq_true (by first | (with_reducible assumption) | assumption)
                          have hx22 := bt_at a0 t228
                          replace p22 := eq_true p22
                          replace q22 := eq_true q22
                          go_wp2_with (first | ((with_reducible refine gate_callee (f := 11) rfl ?_); refine goesL_ (some 63) rfl rfl Try.func11 (by kernel_rfl) rfl #[.int .i64 (wrap64 (bt a0 t228))] rfl (by (try simp only [List.map_toArray, List.map_cons, List.map_nil]); first | done | rfl | (simp only [List.length_drop, List.length_take]; rfl)) ?_; (with_reducible refine (hex_Digit.calls kj11 (wrap64 (bt a0 t228)) t232 false _ A23.out).mono ?_); rintro e w33 ⟨rfl, hb⟩; refine ⟨_, rfl, ?_⟩; have n0_ := Aside0.mk (below_step (by repeat (first | (with_reducible first | exact HB.out | apply below_alloc | apply pw_below_drewN | apply below_drew1) | exact HB.out)) hb); clear HB; have HB := n0_; clear n0_; (try clear hb); (try clear hb2); (try clear hk); (try clear hi)) | ((with_reducible refine gate_callee (f := 13) rfl ?_); refine goesL_ (some 70) rfl rfl Try.func13 (by kernel_rfl) rfl #[.string (a0.extract 0 (t228 : Int).toNat)] rfl (by (try simp only [List.map_toArray, List.map_cons, List.map_nil]); first | done | rfl | (simp only [List.length_drop, List.length_take]; rfl)) ?_; (with_reducible refine (hex_UnHex.calls kj11 (a0.extract 0 (t228 : Int).toNat) t234 t235 t236 _ A26.out).mono ?_); rintro e w34 ⟨v237, rfl, ho0, hb⟩; refine ⟨_, rfl, ?_⟩; have n0_ := Aside0.mk (Kd.R_lower ho0 (below_size (by repeat (first | (with_reducible first | exact HB.out | apply below_alloc | apply pw_below_drewN | apply below_drew1) | exact HB.out)))); have n1_ := Aside0.mk (below_step (by repeat (first | (with_reducible first | exact HB.out | apply below_alloc | apply pw_below_drewN | apply below_drew1) | exact HB.out)) hb); clear HB; have HO238 := n0_; have HB := n1_; clear n0_ n1_; (try clear hb); (try clear hb2); (try clear hk); (try clear hi); (try clear ho0); have p29 : 0 ≤ (t228 : Int) := of_decide_eq_true (by first | (with_reducible assumption) | assumption); have q29 : t228 < (a0.size : Int) := of_decide_eq_true (by first | (with_reducible assumption) | assumption); have hx29 := bt_at a0 t228; replace p29 := eq_true p29; replace q29 := eq_true q29) | (go_at_call 15; (with_reducible refine (hex_White.calls (wrap64 (bt a0 t228)) false _ A30.out).mono ?_); rintro e w35 ⟨rfl, hb⟩; have n0_ := Aside0.mk (Kd.R_below (by (with_reducible repeat (first | apply Kd.R_alloc | apply Kd.R_drewN | apply Kd.R_drew)); exact HO238.out) hb); have n1_ := Aside0.mk (below_step (by repeat (first | (with_reducible first | exact HB.out | apply below_alloc | apply pw_below_drewN | apply below_drew1) | exact HB.out)) hb); clear HO238; clear HB; have HO238 := n0_; have HB := n1_; clear n0_ n1_; (try clear hb); (try clear hb2); (try clear hk); (try clear hi)))
                          go_ret
                          exact ⟨by first | rfl | (simp [errW_none, errW_some] <;> rfl) | (simp [*, errW_none, errW_some] <;> rfl), by repeat (first | (with_reducible first | exact HB.out | apply below_alloc | apply pw_below_drewN | apply below_drew1) | exact HB.out)⟩
                        · rw [if_neg c32] at H
                          have c32b0 : (t236 == 0) = false := beq_eq_false_iff_ne.mpr c32
                          have c32b1 : (t236 != 0) = true := bne_iff_ne.mpr c32
                          exact absurd ((Option.some.inj H).trans hT.out) (by decide)
                  · replace c27 := Bool.eq_false_iff.mpr c27
                    subst c27
                    have H1 : (some false) = some r := by rw [if_neg (show ¬ (false = true) by decide)] at H; exact H
                    clear H
                    have H := H1
                    clear H1
                    exact absurd ((Option.some.inj H).trans hT.out) (by decide)
                · rw [if_neg c25] at H
                  exact absurd H (by simp)
              · rw [if_neg c21] at H
                exact absurd H (by simp)
            · rw [if_neg c20] at H
              exact absurd H (by simp)

/-- THE ONE PURE STATEMENT of hornbooklaw01_HexBad: yours. -/
def hornbooklaw01_HexBad.Pure : Prop := ∀ (a0 : ByteArray), a0.size ≤ 140737488351232 → ∃ k, hornbooklaw01_HexBad.f k a0 = some true
theorem hornbooklaw01_HexBad.walk (P : hornbooklaw01_HexBad.Pure) (a0 : ByteArray) (w : World) (w0 : a0.size ≤ 140737488351232) :
    Calls Try.prog 7 #[.string a0] w fun e w' => e = .returned (.bool true) ∧ Below w.heap.size w w' := by
  obtain ⟨k, h⟩ := P a0 w0
  refine (hornbooklaw01_HexBad.calls k a0 true w h ⟨rfl⟩).mono ?_
  rintro e w' ⟨rfl, hd⟩
  exact ⟨rfl, hd⟩

/-! ### hornbooklaw01_HexRows: function 8 -/
def hornbooklaw01_HexRows.j0 : Nat → List Int → ByteArray → Bool → Bool → Option (Bool)
  | 0, _, _, _, _ => none
  | k + 1, x0, x1, x5, x23 => if x23 = true then (some x5) else ((hex_UnHex.f k x1).bind fun bt241 => ((hex_Hex.f x0).bind fun t246 => (if t246.size + x1.size ≤ 9223372036854775807 then ((hex_UnHex.f k (t246 ++ x1)).bind fun bt247 => (if x1.size + 1 ≤ 9223372036854775807 then ((hex_UnHex.f k (x1 ++ (⟨#[48]⟩ : ByteArray))).bind fun bt252 => (if bt241.2.2 = 0 then (if x5 = true then (if bt247.2.2 = 0 then (if (strOfNums x0).size + (strOfNums bt241.1).size ≤ 9223372036854775807 then (if (strOfNums bt247.1).toList = ((strOfNums x0) ++ (strOfNums bt241.1)).toList then (if bt252.2.2 = 0 then (if (bt252.1.length : Int) ≥ (bt241.1.length : Int) then (if (bt252.1.length : Int) > (bt241.1.length : Int) then (some true) else (some ((strOfNums bt252.1).toList == (strOfNums bt241.1).toList))) else (some false)) else (some false)) else (some false)) else (none)) else (some false)) else (some false)) else (if x5 = true then (if bt247.2.2 = bt241.2.2 then (if bt247.2.1 = (wrap64 (bt241.2.1 + (wrap64 (2 * (x0.length : Int))))) then (some ((bt247.1.length : Int) == 0)) else (some false)) else (some false)) else (some false)))) else (none))) else (none))))
def hornbooklaw01_HexRows.f (k : Nat) (l0 : List Int) (a1 : ByteArray) : Option (Bool) := (hornbooklaw01_awake.f).bind fun t240 => (if (l0.length : Int) > 200 then (hornbooklaw01_HexRows.j0 k l0 a1 t240 true) else (hornbooklaw01_HexRows.j0 k l0 a1 t240 (decide ((a1.size : Int) > 300))))
theorem hornbooklaw01_HexRows.mono_l : ∀ k, (∀ y0 y1 y2 y3, LeO (hornbooklaw01_HexRows.j0 k y0 y1 y2 y3) (hornbooklaw01_HexRows.j0 (k + 1) y0 y1 y2 y3))
  | 0 => fun _ _ _ _ r h => by simp [hornbooklaw01_HexRows.j0] at h
  | k + 1 => by
    have ih0 := hornbooklaw01_HexRows.mono_l k
    · intro y0 y1 y2 y3
      unfold hornbooklaw01_HexRows.j0
      repeat' first
      | (with_reducible exact ih0 _ _ _ _)
      | (with_reducible exact hex_UnHex.mono _ _)
      | (with_reducible exact LeO.refl _)
      | (with_reducible exact LeO.none _)
      | (with_reducible refine LeO.ite ?_ ?_)
      | (with_reducible refine LeO.bind ?_ (fun _ => ?_))
      | exact ih0 _ _ _ _
      | exact hex_UnHex.mono _ _
      | exact LeO.none _
      | refine LeO.ite ?_ ?_
      | refine LeO.bind ?_ (fun _ => ?_)
theorem hornbooklaw01_HexRows.mono : ∀ a0 a1 k, LeO (hornbooklaw01_HexRows.f k a0 a1) (hornbooklaw01_HexRows.f (k + 1) a0 a1) := by
  intro a0 a1 k
  have ih0 := hornbooklaw01_HexRows.mono_l k
  unfold hornbooklaw01_HexRows.f
  repeat' first
      | (with_reducible exact ih0 _ _ _ _)
      | (with_reducible exact hex_UnHex.mono _ _)
      | (with_reducible exact LeO.refl _)
      | (with_reducible exact LeO.none _)
      | (with_reducible refine LeO.ite ?_ ?_)
      | (with_reducible refine LeO.bind ?_ (fun _ => ?_))
      | exact ih0 _ _ _ _
      | exact hex_UnHex.mono _ _
      | exact LeO.none _
      | refine LeO.ite ?_ ?_
      | refine LeO.bind ?_ (fun _ => ?_)
set_option maxHeartbeats 8000000 in
set_option maxRecDepth 100000 in
theorem hornbooklaw01_HexRows.calls (k : Nat) (A0 : Option Addr) (c0 : Nat) (l0 : List Int) (a1 : ByteArray) (r : Bool) (w : World) (hr0 : Kd.C (Kd.int .u8) w A0 l0.length l0) (hc0 : l0.length ≤ c0) (h : hornbooklaw01_HexRows.f k l0 a1 = some r) (hT : Aside0 (r = true)) :
    Calls Try.prog 8 #[.slice A0 l0.length c0, .string a1] w fun e w' => e = .returned (.bool r) ∧ Below w.heap.size w w' := by
  have HR0 := Aside0.mk hr0
  have HC0 := Aside0.mk hc0
  clear hr0 hc0
  have HB := Aside0.mk (Below.refl w.heap.size w)
  have H : ((hornbooklaw01_awake.f).bind fun t240 => (if (l0.length : Int) > 200 then (hornbooklaw01_HexRows.j0 k l0 a1 t240 true) else (hornbooklaw01_HexRows.j0 k l0 a1 t240 (decide ((a1.size : Int) > 300))))) = some r := h
  clear h
  replace H := Option.bind_eq_some_iff.mp H
  obtain ⟨t240, A30, H⟩ := H
  replace H : (if (l0.length : Int) > 200 then (hornbooklaw01_HexRows.j0 k l0 a1 t240 true) else (hornbooklaw01_HexRows.j0 k l0 a1 t240 (decide ((a1.size : Int) > 300)))) = some r := H
  have A3 := Aside0.mk A30
  clear A30
  have HC4 := Aside0.mk H
  clear H
  go_enter Try.func8, Try.ntmps8
  go_upto_region 2 with (first | ((with_reducible refine gate_callee (f := 10) rfl ?_); refine goesL_ (some 15) rfl rfl Try.func10 (by kernel_rfl) rfl #[] rfl (by (try simp only [List.map_toArray, List.map_cons, List.map_nil]); first | done | rfl | (simp only [List.length_drop, List.length_take]; rfl)) ?_; (with_reducible refine (hornbooklaw01_awake.calls  t240 _ A3.out).mono ?_); rintro e w5 ⟨rfl, hb⟩; refine ⟨_, rfl, ?_⟩; have n0_ := Aside0.mk (below_step (by repeat (first | (with_reducible first | exact HB.out | apply below_alloc | apply pw_below_drewN | apply below_drew1) | exact HB.out)) hb); clear HB; have HB := n0_; clear n0_; (try clear hb); (try clear hb2); (try clear hk); (try clear hi)))
  (try simp only [Act.put, List.setIfInBounds_toArray, List.set_cons_zero, List.set_cons_succ])
  go_cut [23] (fun v23 wc => ∃ (kq : Nat) (x23_3 : Bool), v23 = .bool x23_3 ∧ Aside0 (hornbooklaw01_HexRows.j0 kq l0 a1 t240 x23_3 = some r) ∧ Aside0 (kq ≤ k) ∧ Aside0 (Below w.heap.size w wc))
  case first =>
    have H := HC4.out
    clear HC4
    by_cases c6 : (l0.length : Int) > 200
    · rw [if_pos c6] at H
      have c6b0 : decide (200 < (l0.length : Int)) = true := decide_eq_true c6
      have c6b1 : decide (200 < l0.length) = true := decide_eq_true (by omega)
      clear c6
      (first | rw [c6b0] | (simp only [i64_w, i32_w]; rw [c6b0]) | skip)
      have H' := Aside0.mk H
      clear H
      go_wp2
      go_meet
      case rel => exact ⟨_, (true), (by first | rfl | (simp; done) | (simp [*]; done)), H', ⟨by first | omega | exact Nat.le_refl _⟩, ⟨by repeat (first | (with_reducible first | exact HB.out | apply below_alloc | apply pw_below_drewN | apply below_drew1) | exact HB.out)⟩⟩
    · rw [if_neg c6] at H
      have c6b0 : decide (200 < (l0.length : Int)) = false := decide_eq_false c6
      have c6b1 : decide (200 < l0.length) = false := decide_eq_false (by omega)
      clear c6
      (first | rw [c6b0] | (simp only [i64_w, i32_w]; rw [c6b0]) | skip)
      have H' := Aside0.mk H
      clear H
      go_wp2
      go_meet
      case rel => exact ⟨_, (decide ((a1.size : Int) > 300)), (by first | rfl | (simp; done) | (simp [*]; done)), H', ⟨by first | omega | exact Nat.le_refl _⟩, ⟨by repeat (first | (with_reducible first | exact HB.out | apply below_alloc | apply pw_below_drewN | apply below_drew1) | exact HB.out)⟩⟩
  case rest =>
    clear HC4
    try clear c1
    try clear p2
    try clear c6
    try clear c6b0
    try clear c6b1
    obtain ⟨kq, x23_3, rfl, HA, HJ3, HB⟩ := hcut
    cases kq with
    | zero => exact absurd HA.out (by simp [hornbooklaw01_HexRows.j0])
    | succ kj3 =>
      have H := HA.out
      clear HA
      simp only [hornbooklaw01_HexRows.j0] at H
      by_cases c7 : x23_3 = true
      · subst c7
        have H1 : (some t240) = some r := by rw [if_pos rfl] at H; exact H
        clear H
        have H := H1
        clear H1
        obtain rfl := Option.some.inj H
        go_wp2
        go_ret
        exact ⟨by first | rfl | (simp [errW_none, errW_some] <;> rfl) | (simp [*, errW_none, errW_some] <;> rfl), by repeat (first | (with_reducible first | exact HB.out | apply below_alloc | apply pw_below_drewN | apply below_drew1) | exact HB.out)⟩
      · replace c7 := Bool.eq_false_iff.mpr c7
        subst c7
        have H1 : ((hex_UnHex.f kj3 a1).bind fun bt241 => ((hex_Hex.f l0).bind fun t246 => (if t246.size + a1.size ≤ 9223372036854775807 then ((hex_UnHex.f kj3 (t246 ++ a1)).bind fun bt247 => (if a1.size + 1 ≤ 9223372036854775807 then ((hex_UnHex.f kj3 (a1 ++ (⟨#[48]⟩ : ByteArray))).bind fun bt252 => (if bt241.2.2 = 0 then (if t240 = true then (if bt247.2.2 = 0 then (if (strOfNums l0).size + (strOfNums bt241.1).size ≤ 9223372036854775807 then (if (strOfNums bt247.1).toList = ((strOfNums l0) ++ (strOfNums bt241.1)).toList then (if bt252.2.2 = 0 then (if (bt252.1.length : Int) ≥ (bt241.1.length : Int) then (if (bt252.1.length : Int) > (bt241.1.length : Int) then (some true) else (some ((strOfNums bt252.1).toList == (strOfNums bt241.1).toList))) else (some false)) else (some false)) else (some false)) else (none)) else (some false)) else (some false)) else (if t240 = true then (if bt247.2.2 = bt241.2.2 then (if bt247.2.1 = (wrap64 (bt241.2.1 + (wrap64 (2 * (l0.length : Int))))) then (some ((bt247.1.length : Int) == 0)) else (some false)) else (some false)) else (some false)))) else (none))) else (none)))) = some r := by rw [if_neg (show ¬ (false = true) by decide)] at H; exact H
        clear H
        have H := H1
        clear H1
        replace H := Option.bind_eq_some_iff.mp H
        obtain ⟨⟨t241, t242, t243⟩, A80, H⟩ := H
        replace H : ((hex_Hex.f l0).bind fun t246 => (if t246.size + a1.size ≤ 9223372036854775807 then ((hex_UnHex.f kj3 (t246 ++ a1)).bind fun bt247 => (if a1.size + 1 ≤ 9223372036854775807 then ((hex_UnHex.f kj3 (a1 ++ (⟨#[48]⟩ : ByteArray))).bind fun bt252 => (if t243 = 0 then (if t240 = true then (if bt247.2.2 = 0 then (if (strOfNums l0).size + (strOfNums t241).size ≤ 9223372036854775807 then (if (strOfNums bt247.1).toList = ((strOfNums l0) ++ (strOfNums t241)).toList then (if bt252.2.2 = 0 then (if (bt252.1.length : Int) ≥ (t241.length : Int) then (if (bt252.1.length : Int) > (t241.length : Int) then (some true) else (some ((strOfNums bt252.1).toList == (strOfNums t241).toList))) else (some false)) else (some false)) else (some false)) else (none)) else (some false)) else (some false)) else (if t240 = true then (if bt247.2.2 = t243 then (if bt247.2.1 = (wrap64 (t242 + (wrap64 (2 * (l0.length : Int))))) then (some ((bt247.1.length : Int) == 0)) else (some false)) else (some false)) else (some false)))) else (none))) else (none))) = some r := H
        have A8 := Aside0.mk A80
        clear A80
        replace H := Option.bind_eq_some_iff.mp H
        obtain ⟨t246, A90, H⟩ := H
        replace H : (if t246.size + a1.size ≤ 9223372036854775807 then ((hex_UnHex.f kj3 (t246 ++ a1)).bind fun bt247 => (if a1.size + 1 ≤ 9223372036854775807 then ((hex_UnHex.f kj3 (a1 ++ (⟨#[48]⟩ : ByteArray))).bind fun bt252 => (if t243 = 0 then (if t240 = true then (if bt247.2.2 = 0 then (if (strOfNums l0).size + (strOfNums t241).size ≤ 9223372036854775807 then (if (strOfNums bt247.1).toList = ((strOfNums l0) ++ (strOfNums t241)).toList then (if bt252.2.2 = 0 then (if (bt252.1.length : Int) ≥ (t241.length : Int) then (if (bt252.1.length : Int) > (t241.length : Int) then (some true) else (some ((strOfNums bt252.1).toList == (strOfNums t241).toList))) else (some false)) else (some false)) else (some false)) else (none)) else (some false)) else (some false)) else (if t240 = true then (if bt247.2.2 = t243 then (if bt247.2.1 = (wrap64 (t242 + (wrap64 (2 * (l0.length : Int))))) then (some ((bt247.1.length : Int) == 0)) else (some false)) else (some false)) else (some false)))) else (none))) else (none)) = some r := H
        have A9 := Aside0.mk A90
        clear A90
        by_cases c10 : t246.size + a1.size ≤ 9223372036854775807
        · rw [if_pos c10] at H
          have c10b0 := eq_true c10
          have c10b1 : decide (t246.size + a1.size ≤ 9223372036854775807) = true := decide_eq_true c10
          try have c10b2 : (9223372036854775807 < t246.size + a1.size) = False := eq_false (Nat.not_lt.2 c10)
          replace H := Option.bind_eq_some_iff.mp H
          obtain ⟨⟨t247, t248, t249⟩, A110, H⟩ := H
          replace H : (if a1.size + 1 ≤ 9223372036854775807 then ((hex_UnHex.f kj3 (a1 ++ (⟨#[48]⟩ : ByteArray))).bind fun bt252 => (if t243 = 0 then (if t240 = true then (if t249 = 0 then (if (strOfNums l0).size + (strOfNums t241).size ≤ 9223372036854775807 then (if (strOfNums t247).toList = ((strOfNums l0) ++ (strOfNums t241)).toList then (if bt252.2.2 = 0 then (if (bt252.1.length : Int) ≥ (t241.length : Int) then (if (bt252.1.length : Int) > (t241.length : Int) then (some true) else (some ((strOfNums bt252.1).toList == (strOfNums t241).toList))) else (some false)) else (some false)) else (some false)) else (none)) else (some false)) else (some false)) else (if t240 = true then (if t249 = t243 then (if t248 = (wrap64 (t242 + (wrap64 (2 * (l0.length : Int))))) then (some ((t247.length : Int) == 0)) else (some false)) else (some false)) else (some false)))) else (none)) = some r := H
          have A11 := Aside0.mk A110
          clear A110
          by_cases c12 : a1.size + 1 ≤ 9223372036854775807
          · rw [if_pos c12] at H
            have c12b0 := eq_true c12
            have c12b1 : decide (a1.size + 1 ≤ 9223372036854775807) = true := decide_eq_true c12
            try have c12b2 : (9223372036854775807 < a1.size + 1) = False := eq_false (Nat.not_lt.2 c12)
            replace H := Option.bind_eq_some_iff.mp H
            obtain ⟨⟨t252, t253, t254⟩, A130, H⟩ := H
            replace H : (if t243 = 0 then (if t240 = true then (if t249 = 0 then (if (strOfNums l0).size + (strOfNums t241).size ≤ 9223372036854775807 then (if (strOfNums t247).toList = ((strOfNums l0) ++ (strOfNums t241)).toList then (if t254 = 0 then (if (t252.length : Int) ≥ (t241.length : Int) then (if (t252.length : Int) > (t241.length : Int) then (some true) else (some ((strOfNums t252).toList == (strOfNums t241).toList))) else (some false)) else (some false)) else (some false)) else (none)) else (some false)) else (some false)) else (if t240 = true then (if t249 = t243 then (if t248 = (wrap64 (t242 + (wrap64 (2 * (l0.length : Int))))) then (some ((t247.length : Int) == 0)) else (some false)) else (some false)) else (some false))) = some r := H
            have A13 := Aside0.mk A130
            clear A130
            by_cases c14 : t243 = 0
            · rw [if_pos c14] at H
              have c14b0 : (t243 == 0) = true := beq_iff_eq.mpr c14
              have c14b1 : (t243 != 0) = false := bne_eq_false_iff_eq.mpr c14
              clear c14
              by_cases c15 : t240 = true
              · subst c15
                have H1 : (if t249 = 0 then (if (strOfNums l0).size + (strOfNums t241).size ≤ 9223372036854775807 then (if (strOfNums t247).toList = ((strOfNums l0) ++ (strOfNums t241)).toList then (if t254 = 0 then (if (t252.length : Int) ≥ (t241.length : Int) then (if (t252.length : Int) > (t241.length : Int) then (some true) else (some ((strOfNums t252).toList == (strOfNums t241).toList))) else (some false)) else (some false)) else (some false)) else (none)) else (some false)) = some r := by rw [if_pos rfl] at H; exact H
                clear H
                have H := H1
                clear H1
                by_cases c16 : t249 = 0
                · rw [if_pos c16] at H
                  have c16b0 : (t249 == 0) = true := beq_iff_eq.mpr c16
                  have c16b1 : (t249 != 0) = false := bne_eq_false_iff_eq.mpr c16
                  clear c16
                  by_cases c17 : (strOfNums l0).size + (strOfNums t241).size ≤ 9223372036854775807
                  · rw [if_pos c17] at H
                    have c17b0 := eq_true c17
                    have c17b1 : decide ((strOfNums l0).size + (strOfNums t241).size ≤ 9223372036854775807) = true := decide_eq_true c17
                    try have c17b2 : (9223372036854775807 < (strOfNums l0).size + (strOfNums t241).size) = False := eq_false (Nat.not_lt.2 c17)
                    by_cases c18 : (strOfNums t247).toList = ((strOfNums l0) ++ (strOfNums t241)).toList
                    · rw [if_pos c18] at H
                      have c18b0 : ((strOfNums t247).toList == ((strOfNums l0) ++ (strOfNums t241)).toList) = true := beq_iff_eq.mpr c18
                      have c18b1 : ((strOfNums t247).toList != ((strOfNums l0) ++ (strOfNums t241)).toList) = false := bne_eq_false_iff_eq.mpr c18
                      clear c18
                      by_cases c19 : t254 = 0
                      · rw [if_pos c19] at H
                        have c19b0 : (t254 == 0) = true := beq_iff_eq.mpr c19
                        have c19b1 : (t254 != 0) = false := bne_eq_false_iff_eq.mpr c19
                        clear c19
                        by_cases c20 : (t252.length : Int) ≥ (t241.length : Int)
                        · rw [if_pos c20] at H
                          have c20b0 : decide ((t241.length : Int) ≤ (t252.length : Int)) = true := decide_eq_true c20
                          have c20b1 : decide (t241.length ≤ t252.length) = true := decide_eq_true (Int.ofNat_le.mp c20)
                          clear c20
                          by_cases c21 : (t252.length : Int) > (t241.length : Int)
                          · rw [if_pos c21] at H
                            have c21b0 : decide ((t241.length : Int) < (t252.length : Int)) = true := decide_eq_true c21
                            have c21b1 : decide (t241.length < t252.length) = true := decide_eq_true (Int.ofNat_lt.mp c21)
                            clear c21
                            obtain rfl := Option.some.inj H
                            go_wp2_with (first | ((with_reducible refine gate_callee (f := 13) rfl ?_); refine goesL_ (some 27) rfl rfl Try.func13 (by kernel_rfl) rfl #[.string a1] rfl (by (try simp only [List.map_toArray, List.map_cons, List.map_nil]); first | done | rfl | (simp only [List.length_drop, List.length_take]; rfl)) ?_; (with_reducible refine (hex_UnHex.calls kj3 a1 t241 t242 t243 _ A8.out).mono ?_); rintro e w22 ⟨v244, rfl, ho0, hb⟩; refine ⟨_, rfl, ?_⟩; have n0_ := Aside0.mk (Kd.R_lower ho0 (below_size (by repeat (first | (with_reducible first | exact HB.out | apply below_alloc | apply pw_below_drewN | apply below_drew1) | exact HB.out)))); have n1_ := Aside0.mk (below_step (by repeat (first | (with_reducible first | exact HB.out | apply below_alloc | apply pw_below_drewN | apply below_drew1) | exact HB.out)) hb); clear HB; have HO245 := n0_; have HB := n1_; clear n0_ n1_; (try clear hb); (try clear hb2); (try clear hk); (try clear hi); (try clear ho0)) | ((with_reducible refine gate_callee (f := 17) rfl ?_); refine goesL_ (some 33) rfl rfl Try.func17 (by kernel_rfl) rfl #[.slice A0 l0.length c0] rfl (by (try simp only [List.map_toArray, List.map_cons, List.map_nil]); first | done | rfl | (simp only [List.length_drop, List.length_take]; rfl)) ?_; (with_reducible refine (hex_Hex.calls _ _ l0 t246 _ ?side1 ?side2 A9.out).mono ?_); (case side1 => repeat (first | exact (Kd.C_below HR0.out HB.out) | (with_reducible refine Kd.C_alloc ?_ _) | (with_reducible refine Kd.C_drewN ?_ _) | (with_reducible refine Kd.C_drew ?_))); (case side2 => exact HC0.out); rintro e w23 ⟨rfl, hb⟩; refine ⟨_, rfl, ?_⟩; have n0_ := Aside0.mk (Kd.R_below (by (with_reducible repeat (first | apply Kd.R_alloc | apply Kd.R_drewN | apply Kd.R_drew)); exact HO245.out) hb); have n1_ := Aside0.mk (below_step (by repeat (first | (with_reducible first | exact HB.out | apply below_alloc | apply pw_below_drewN | apply below_drew1) | exact HB.out)) hb); clear HO245; clear HB; have HO245 := n0_; have HB := n1_; clear n0_ n1_; (try clear hb); (try clear hb2); (try clear hk); (try clear hi)) | ((with_reducible refine gate_callee (f := 13) rfl ?_); refine goesL_ (some 36) rfl rfl Try.func13 (by kernel_rfl) rfl #[.string (t246 ++ a1)] rfl (by (try simp only [List.map_toArray, List.map_cons, List.map_nil]); first | done | rfl | (simp only [List.length_drop, List.length_take]; rfl)) ?_; (with_reducible refine (hex_UnHex.calls kj3 (t246 ++ a1) t247 t248 t249 _ A11.out).mono ?_); rintro e w24 ⟨v250, rfl, ho0, hb⟩; refine ⟨_, rfl, ?_⟩; have n0_ := Aside0.mk (Kd.R_elder' (by (with_reducible repeat (first | apply Kd.R_alloc | apply Kd.R_drewN | apply Kd.R_drew)); exact HO245.out) (Kd.R_base ho0) hb); have n1_ := Aside0.mk (Kd.R_lower (Kd.R_new' ho0 (Kd.R_lt (by (with_reducible repeat (first | apply Kd.R_alloc | apply Kd.R_drewN | apply Kd.R_drew)); exact HO245.out))) (below_size (by repeat (first | (with_reducible first | exact HB.out | apply below_alloc | apply pw_below_drewN | apply below_drew1) | exact HB.out)))); have n2_ := Aside0.mk (below_step (by repeat (first | (with_reducible first | exact HB.out | apply below_alloc | apply pw_below_drewN | apply below_drew1) | exact HB.out)) hb); clear HO245; clear HB; have HO245 := n0_; have HO251 := n1_; have HB := n2_; clear n0_ n1_ n2_; (try clear hb); (try clear hb2); (try clear hk); (try clear hi); (try clear ho0)) | ((with_reducible refine gate_callee (f := 13) rfl ?_); refine goesL_ (some 43) rfl rfl Try.func13 (by kernel_rfl) rfl #[.string (a1 ++ (⟨#[48]⟩ : ByteArray))] rfl (by (try simp only [List.map_toArray, List.map_cons, List.map_nil]); first | done | rfl | (simp only [List.length_drop, List.length_take]; rfl)) ?_; (with_reducible refine (hex_UnHex.calls kj3 (a1 ++ (⟨#[48]⟩ : ByteArray)) t252 t253 t254 _ A13.out).mono ?_); rintro e w25 ⟨v255, rfl, ho0, hb⟩; refine ⟨_, rfl, ?_⟩; have n0_ := Aside0.mk (Kd.R_elder' (by (with_reducible repeat (first | apply Kd.R_alloc | apply Kd.R_drewN | apply Kd.R_drew)); exact HO245.out) (Kd.R_base ho0) hb); have n1_ := Aside0.mk (Kd.R_elder' (by (with_reducible repeat (first | apply Kd.R_alloc | apply Kd.R_drewN | apply Kd.R_drew)); exact HO251.out) (Kd.R_base ho0) hb); have n2_ := Aside0.mk (Kd.R_lower (Kd.R_new' (Kd.R_new' ho0 (Kd.R_lt (by (with_reducible repeat (first | apply Kd.R_alloc | apply Kd.R_drewN | apply Kd.R_drew)); exact HO245.out))) (Kd.R_lt (by (with_reducible repeat (first | apply Kd.R_alloc | apply Kd.R_drewN | apply Kd.R_drew)); exact HO251.out))) (below_size (by repeat (first | (with_reducible first | exact HB.out | apply below_alloc | apply pw_below_drewN | apply below_drew1) | exact HB.out)))); have n3_ := Aside0.mk (below_step (by repeat (first | (with_reducible first | exact HB.out | apply below_alloc | apply pw_below_drewN | apply below_drew1) | exact HB.out)) hb); clear HO245; clear HO251; clear HB; have HO245 := n0_; have HO251 := n1_; have HO256 := n2_; have HB := n3_; clear n0_ n1_ n2_ n3_; (try clear hb); (try clear hb2); (try clear hk); (try clear hi); (try clear ho0); have hcv26 := own_string (P := Try.prog) Try.underlying22 Try.underlying5 Try.underlying9 (Kd.own_of_R HO251.out); have hcv27 := Kd.C_string (P := Try.prog) (A := A0) (c := c0) Try.underlying22 Try.underlying5 Try.underlying9 (Kd.C_below HR0.out HB.out); have hcv28 := own_string (P := Try.prog) Try.underlying22 Try.underlying5 Try.underlying9 (Kd.own_of_R HO245.out); obtain ⟨Ao29, co29, eo29⟩ := Kd.R_slice HO256.out; subst eo29; obtain ⟨Ao30, co30, eo30⟩ := Kd.R_slice HO245.out; subst eo30))
                            go_ret
                            exact ⟨by first | rfl | (simp [errW_none, errW_some] <;> rfl) | (simp [*, errW_none, errW_some] <;> rfl), by repeat (first | (with_reducible first | exact HB.out | apply below_alloc | apply pw_below_drewN | apply below_drew1) | exact HB.out)⟩
                          · rw [if_neg c21] at H
                            have c21b0 : decide ((t241.length : Int) < (t252.length : Int)) = false := decide_eq_false c21
                            have c21b1 : decide (t241.length < t252.length) = false := decide_eq_false (fun h => c21 (Int.ofNat_lt.mpr h))
                            clear c21
                            obtain rfl := Option.some.inj H
                            go_wp2_with (first | ((with_reducible refine gate_callee (f := 13) rfl ?_); refine goesL_ (some 27) rfl rfl Try.func13 (by kernel_rfl) rfl #[.string a1] rfl (by (try simp only [List.map_toArray, List.map_cons, List.map_nil]); first | done | rfl | (simp only [List.length_drop, List.length_take]; rfl)) ?_; (with_reducible refine (hex_UnHex.calls kj3 a1 t241 t242 t243 _ A8.out).mono ?_); rintro e w31 ⟨v244, rfl, ho0, hb⟩; refine ⟨_, rfl, ?_⟩; have n0_ := Aside0.mk (Kd.R_lower ho0 (below_size (by repeat (first | (with_reducible first | exact HB.out | apply below_alloc | apply pw_below_drewN | apply below_drew1) | exact HB.out)))); have n1_ := Aside0.mk (below_step (by repeat (first | (with_reducible first | exact HB.out | apply below_alloc | apply pw_below_drewN | apply below_drew1) | exact HB.out)) hb); clear HB; have HO245 := n0_; have HB := n1_; clear n0_ n1_; (try clear hb); (try clear hb2); (try clear hk); (try clear hi); (try clear ho0)) | ((with_reducible refine gate_callee (f := 17) rfl ?_); refine goesL_ (some 33) rfl rfl Try.func17 (by kernel_rfl) rfl #[.slice A0 l0.length c0] rfl (by (try simp only [List.map_toArray, List.map_cons, List.map_nil]); first | done | rfl | (simp only [List.length_drop, List.length_take]; rfl)) ?_; (with_reducible refine (hex_Hex.calls _ _ l0 t246 _ ?side1 ?side2 A9.out).mono ?_); (case side1 => repeat (first | exact (Kd.C_below HR0.out HB.out) | (with_reducible refine Kd.C_alloc ?_ _) | (with_reducible refine Kd.C_drewN ?_ _) | (with_reducible refine Kd.C_drew ?_))); (case side2 => exact HC0.out); rintro e w32 ⟨rfl, hb⟩; refine ⟨_, rfl, ?_⟩; have n0_ := Aside0.mk (Kd.R_below (by (with_reducible repeat (first | apply Kd.R_alloc | apply Kd.R_drewN | apply Kd.R_drew)); exact HO245.out) hb); have n1_ := Aside0.mk (below_step (by repeat (first | (with_reducible first | exact HB.out | apply below_alloc | apply pw_below_drewN | apply below_drew1) | exact HB.out)) hb); clear HO245; clear HB; have HO245 := n0_; have HB := n1_; clear n0_ n1_; (try clear hb); (try clear hb2); (try clear hk); (try clear hi)) | ((with_reducible refine gate_callee (f := 13) rfl ?_); refine goesL_ (some 36) rfl rfl Try.func13 (by kernel_rfl) rfl #[.string (t246 ++ a1)] rfl (by (try simp only [List.map_toArray, List.map_cons, List.map_nil]); first | done | rfl | (simp only [List.length_drop, List.length_take]; rfl)) ?_; (with_reducible refine (hex_UnHex.calls kj3 (t246 ++ a1) t247 t248 t249 _ A11.out).mono ?_); rintro e w33 ⟨v250, rfl, ho0, hb⟩; refine ⟨_, rfl, ?_⟩; have n0_ := Aside0.mk (Kd.R_elder' (by (with_reducible repeat (first | apply Kd.R_alloc | apply Kd.R_drewN | apply Kd.R_drew)); exact HO245.out) (Kd.R_base ho0) hb); have n1_ := Aside0.mk (Kd.R_lower (Kd.R_new' ho0 (Kd.R_lt (by (with_reducible repeat (first | apply Kd.R_alloc | apply Kd.R_drewN | apply Kd.R_drew)); exact HO245.out))) (below_size (by repeat (first | (with_reducible first | exact HB.out | apply below_alloc | apply pw_below_drewN | apply below_drew1) | exact HB.out)))); have n2_ := Aside0.mk (below_step (by repeat (first | (with_reducible first | exact HB.out | apply below_alloc | apply pw_below_drewN | apply below_drew1) | exact HB.out)) hb); clear HO245; clear HB; have HO245 := n0_; have HO251 := n1_; have HB := n2_; clear n0_ n1_ n2_; (try clear hb); (try clear hb2); (try clear hk); (try clear hi); (try clear ho0)) | ((with_reducible refine gate_callee (f := 13) rfl ?_); refine goesL_ (some 43) rfl rfl Try.func13 (by kernel_rfl) rfl #[.string (a1 ++ (⟨#[48]⟩ : ByteArray))] rfl (by (try simp only [List.map_toArray, List.map_cons, List.map_nil]); first | done | rfl | (simp only [List.length_drop, List.length_take]; rfl)) ?_; (with_reducible refine (hex_UnHex.calls kj3 (a1 ++ (⟨#[48]⟩ : ByteArray)) t252 t253 t254 _ A13.out).mono ?_); rintro e w34 ⟨v255, rfl, ho0, hb⟩; refine ⟨_, rfl, ?_⟩; have n0_ := Aside0.mk (Kd.R_elder' (by (with_reducible repeat (first | apply Kd.R_alloc | apply Kd.R_drewN | apply Kd.R_drew)); exact HO245.out) (Kd.R_base ho0) hb); have n1_ := Aside0.mk (Kd.R_elder' (by (with_reducible repeat (first | apply Kd.R_alloc | apply Kd.R_drewN | apply Kd.R_drew)); exact HO251.out) (Kd.R_base ho0) hb); have n2_ := Aside0.mk (Kd.R_lower (Kd.R_new' (Kd.R_new' ho0 (Kd.R_lt (by (with_reducible repeat (first | apply Kd.R_alloc | apply Kd.R_drewN | apply Kd.R_drew)); exact HO245.out))) (Kd.R_lt (by (with_reducible repeat (first | apply Kd.R_alloc | apply Kd.R_drewN | apply Kd.R_drew)); exact HO251.out))) (below_size (by repeat (first | (with_reducible first | exact HB.out | apply below_alloc | apply pw_below_drewN | apply below_drew1) | exact HB.out)))); have n3_ := Aside0.mk (below_step (by repeat (first | (with_reducible first | exact HB.out | apply below_alloc | apply pw_below_drewN | apply below_drew1) | exact HB.out)) hb); clear HO245; clear HO251; clear HB; have HO245 := n0_; have HO251 := n1_; have HO256 := n2_; have HB := n3_; clear n0_ n1_ n2_ n3_; (try clear hb); (try clear hb2); (try clear hk); (try clear hi); (try clear ho0); have hcv35 := own_string (P := Try.prog) Try.underlying22 Try.underlying5 Try.underlying9 (Kd.own_of_R HO251.out); have hcv36 := Kd.C_string (P := Try.prog) (A := A0) (c := c0) Try.underlying22 Try.underlying5 Try.underlying9 (Kd.C_below HR0.out HB.out); have hcv37 := own_string (P := Try.prog) Try.underlying22 Try.underlying5 Try.underlying9 (Kd.own_of_R HO245.out); obtain ⟨Ao38, co38, eo38⟩ := Kd.R_slice HO256.out; subst eo38; obtain ⟨Ao39, co39, eo39⟩ := Kd.R_slice HO245.out; subst eo39; have hcv40 := own_string (P := Try.prog) Try.underlying22 Try.underlying5 Try.underlying9 (Kd.own_of_R HO256.out); have hcv41 := own_string (P := Try.prog) Try.underlying22 Try.underlying5 Try.underlying9 (Kd.own_of_R HO245.out)))
                            go_ret
                            exact ⟨by first | rfl | (simp [errW_none, errW_some] <;> rfl) | (simp [*, errW_none, errW_some] <;> rfl), by repeat (first | (with_reducible first | exact HB.out | apply below_alloc | apply pw_below_drewN | apply below_drew1) | exact HB.out)⟩
                        · rw [if_neg c20] at H
                          have c20b0 : decide ((t241.length : Int) ≤ (t252.length : Int)) = false := decide_eq_false c20
                          have c20b1 : decide (t241.length ≤ t252.length) = false := decide_eq_false (fun h => c20 (Int.ofNat_le.mpr h))
                          clear c20
                          exact absurd ((Option.some.inj H).trans hT.out) (by decide)
                      · rw [if_neg c19] at H
                        have c19b0 : (t254 == 0) = false := beq_eq_false_iff_ne.mpr c19
                        have c19b1 : (t254 != 0) = true := bne_iff_ne.mpr c19
                        exact absurd ((Option.some.inj H).trans hT.out) (by decide)
                    · rw [if_neg c18] at H
                      have c18b0 : ((strOfNums t247).toList == ((strOfNums l0) ++ (strOfNums t241)).toList) = false := beq_eq_false_iff_ne.mpr c18
                      have c18b1 : ((strOfNums t247).toList != ((strOfNums l0) ++ (strOfNums t241)).toList) = true := bne_iff_ne.mpr c18
                      exact absurd ((Option.some.inj H).trans hT.out) (by decide)
                  · rw [if_neg c17] at H
                    exact absurd H (by simp)
                · rw [if_neg c16] at H
                  have c16b0 : (t249 == 0) = false := beq_eq_false_iff_ne.mpr c16
                  have c16b1 : (t249 != 0) = true := bne_iff_ne.mpr c16
                  exact absurd ((Option.some.inj H).trans hT.out) (by decide)
              · replace c15 := Bool.eq_false_iff.mpr c15
                subst c15
                have H1 : (some false) = some r := by rw [if_neg (show ¬ (false = true) by decide)] at H; exact H
                clear H
                have H := H1
                clear H1
                exact absurd ((Option.some.inj H).trans hT.out) (by decide)
            · rw [if_neg c14] at H
              have c14b0 : (t243 == 0) = false := beq_eq_false_iff_ne.mpr c14
              have c14b1 : (t243 != 0) = true := bne_iff_ne.mpr c14
              by_cases c42 : t240 = true
              · subst c42
                have H1 : (if t249 = t243 then (if t248 = (wrap64 (t242 + (wrap64 (2 * (l0.length : Int))))) then (some ((t247.length : Int) == 0)) else (some false)) else (some false)) = some r := by rw [if_pos rfl] at H; exact H
                clear H
                have H := H1
                clear H1
                by_cases c43 : t249 = t243
                · rw [if_pos c43] at H
                  have c43b0 : (t249 == t243) = true := beq_iff_eq.mpr c43
                  have c43b1 : (t249 != t243) = false := bne_eq_false_iff_eq.mpr c43
                  clear c43
                  by_cases c44 : t248 = (wrap64 (t242 + (wrap64 (2 * (l0.length : Int)))))
                  · rw [if_pos c44] at H
                    have c44b0 : (t248 == (wrap64 (t242 + (wrap64 (2 * (l0.length : Int)))))) = true := beq_iff_eq.mpr c44
                    have c44b1 : (t248 != (wrap64 (t242 + (wrap64 (2 * (l0.length : Int)))))) = false := bne_eq_false_iff_eq.mpr c44
                    clear c44
                    obtain rfl := Option.some.inj H
                    go_wp2_with (first | ((with_reducible refine gate_callee (f := 13) rfl ?_); refine goesL_ (some 27) rfl rfl Try.func13 (by kernel_rfl) rfl #[.string a1] rfl (by (try simp only [List.map_toArray, List.map_cons, List.map_nil]); first | done | rfl | (simp only [List.length_drop, List.length_take]; rfl)) ?_; (with_reducible refine (hex_UnHex.calls kj3 a1 t241 t242 t243 _ A8.out).mono ?_); rintro e w45 ⟨v244, rfl, ho0, hb⟩; refine ⟨_, rfl, ?_⟩; have n0_ := Aside0.mk (Kd.R_lower ho0 (below_size (by repeat (first | (with_reducible first | exact HB.out | apply below_alloc | apply pw_below_drewN | apply below_drew1) | exact HB.out)))); have n1_ := Aside0.mk (below_step (by repeat (first | (with_reducible first | exact HB.out | apply below_alloc | apply pw_below_drewN | apply below_drew1) | exact HB.out)) hb); clear HB; have HO245 := n0_; have HB := n1_; clear n0_ n1_; (try clear hb); (try clear hb2); (try clear hk); (try clear hi); (try clear ho0)) | ((with_reducible refine gate_callee (f := 17) rfl ?_); refine goesL_ (some 33) rfl rfl Try.func17 (by kernel_rfl) rfl #[.slice A0 l0.length c0] rfl (by (try simp only [List.map_toArray, List.map_cons, List.map_nil]); first | done | rfl | (simp only [List.length_drop, List.length_take]; rfl)) ?_; (with_reducible refine (hex_Hex.calls _ _ l0 t246 _ ?side1 ?side2 A9.out).mono ?_); (case side1 => repeat (first | exact (Kd.C_below HR0.out HB.out) | (with_reducible refine Kd.C_alloc ?_ _) | (with_reducible refine Kd.C_drewN ?_ _) | (with_reducible refine Kd.C_drew ?_))); (case side2 => exact HC0.out); rintro e w46 ⟨rfl, hb⟩; refine ⟨_, rfl, ?_⟩; have n0_ := Aside0.mk (Kd.R_below (by (with_reducible repeat (first | apply Kd.R_alloc | apply Kd.R_drewN | apply Kd.R_drew)); exact HO245.out) hb); have n1_ := Aside0.mk (below_step (by repeat (first | (with_reducible first | exact HB.out | apply below_alloc | apply pw_below_drewN | apply below_drew1) | exact HB.out)) hb); clear HO245; clear HB; have HO245 := n0_; have HB := n1_; clear n0_ n1_; (try clear hb); (try clear hb2); (try clear hk); (try clear hi)) | ((with_reducible refine gate_callee (f := 13) rfl ?_); refine goesL_ (some 36) rfl rfl Try.func13 (by kernel_rfl) rfl #[.string (t246 ++ a1)] rfl (by (try simp only [List.map_toArray, List.map_cons, List.map_nil]); first | done | rfl | (simp only [List.length_drop, List.length_take]; rfl)) ?_; (with_reducible refine (hex_UnHex.calls kj3 (t246 ++ a1) t247 t248 t249 _ A11.out).mono ?_); rintro e w47 ⟨v250, rfl, ho0, hb⟩; refine ⟨_, rfl, ?_⟩; have n0_ := Aside0.mk (Kd.R_elder' (by (with_reducible repeat (first | apply Kd.R_alloc | apply Kd.R_drewN | apply Kd.R_drew)); exact HO245.out) (Kd.R_base ho0) hb); have n1_ := Aside0.mk (Kd.R_lower (Kd.R_new' ho0 (Kd.R_lt (by (with_reducible repeat (first | apply Kd.R_alloc | apply Kd.R_drewN | apply Kd.R_drew)); exact HO245.out))) (below_size (by repeat (first | (with_reducible first | exact HB.out | apply below_alloc | apply pw_below_drewN | apply below_drew1) | exact HB.out)))); have n2_ := Aside0.mk (below_step (by repeat (first | (with_reducible first | exact HB.out | apply below_alloc | apply pw_below_drewN | apply below_drew1) | exact HB.out)) hb); clear HO245; clear HB; have HO245 := n0_; have HO251 := n1_; have HB := n2_; clear n0_ n1_ n2_; (try clear hb); (try clear hb2); (try clear hk); (try clear hi); (try clear ho0)) | ((with_reducible refine gate_callee (f := 13) rfl ?_); refine goesL_ (some 43) rfl rfl Try.func13 (by kernel_rfl) rfl #[.string (a1 ++ (⟨#[48]⟩ : ByteArray))] rfl (by (try simp only [List.map_toArray, List.map_cons, List.map_nil]); first | done | rfl | (simp only [List.length_drop, List.length_take]; rfl)) ?_; (with_reducible refine (hex_UnHex.calls kj3 (a1 ++ (⟨#[48]⟩ : ByteArray)) t252 t253 t254 _ A13.out).mono ?_); rintro e w48 ⟨v255, rfl, ho0, hb⟩; refine ⟨_, rfl, ?_⟩; have n0_ := Aside0.mk (Kd.R_elder' (by (with_reducible repeat (first | apply Kd.R_alloc | apply Kd.R_drewN | apply Kd.R_drew)); exact HO245.out) (Kd.R_base ho0) hb); have n1_ := Aside0.mk (Kd.R_elder' (by (with_reducible repeat (first | apply Kd.R_alloc | apply Kd.R_drewN | apply Kd.R_drew)); exact HO251.out) (Kd.R_base ho0) hb); have n2_ := Aside0.mk (Kd.R_lower (Kd.R_new' (Kd.R_new' ho0 (Kd.R_lt (by (with_reducible repeat (first | apply Kd.R_alloc | apply Kd.R_drewN | apply Kd.R_drew)); exact HO245.out))) (Kd.R_lt (by (with_reducible repeat (first | apply Kd.R_alloc | apply Kd.R_drewN | apply Kd.R_drew)); exact HO251.out))) (below_size (by repeat (first | (with_reducible first | exact HB.out | apply below_alloc | apply pw_below_drewN | apply below_drew1) | exact HB.out)))); have n3_ := Aside0.mk (below_step (by repeat (first | (with_reducible first | exact HB.out | apply below_alloc | apply pw_below_drewN | apply below_drew1) | exact HB.out)) hb); clear HO245; clear HO251; clear HB; have HO245 := n0_; have HO251 := n1_; have HO256 := n2_; have HB := n3_; clear n0_ n1_ n2_ n3_; (try clear hb); (try clear hb2); (try clear hk); (try clear hi); (try clear ho0); obtain ⟨Ao49, co49, eo49⟩ := Kd.R_slice HO251.out; subst eo49))
                    go_ret
                    exact ⟨by first | rfl | (simp [errW_none, errW_some] <;> rfl) | (simp [*, errW_none, errW_some] <;> rfl), by repeat (first | (with_reducible first | exact HB.out | apply below_alloc | apply pw_below_drewN | apply below_drew1) | exact HB.out)⟩
                  · rw [if_neg c44] at H
                    have c44b0 : (t248 == (wrap64 (t242 + (wrap64 (2 * (l0.length : Int)))))) = false := beq_eq_false_iff_ne.mpr c44
                    have c44b1 : (t248 != (wrap64 (t242 + (wrap64 (2 * (l0.length : Int)))))) = true := bne_iff_ne.mpr c44
                    exact absurd ((Option.some.inj H).trans hT.out) (by decide)
                · rw [if_neg c43] at H
                  have c43b0 : (t249 == t243) = false := beq_eq_false_iff_ne.mpr c43
                  have c43b1 : (t249 != t243) = true := bne_iff_ne.mpr c43
                  exact absurd ((Option.some.inj H).trans hT.out) (by decide)
              · replace c42 := Bool.eq_false_iff.mpr c42
                subst c42
                have H1 : (some false) = some r := by rw [if_neg (show ¬ (false = true) by decide)] at H; exact H
                clear H
                have H := H1
                clear H1
                exact absurd ((Option.some.inj H).trans hT.out) (by decide)
          · rw [if_neg c12] at H
            exact absurd H (by simp)
        · rw [if_neg c10] at H
          exact absurd H (by simp)

/-- THE ONE PURE STATEMENT of hornbooklaw01_HexRows: yours. -/
def hornbooklaw01_HexRows.Pure : Prop := ∀ (l0 : List Int) (a1 : ByteArray), l0.length ≤ maxLen → l0.length * 1 ≤ 140737488351232 → (∀ x ∈ l0, (Lit.int .u8 x).wf = true) → a1.size ≤ 140737488351232 → ∃ k, hornbooklaw01_HexRows.f k l0 a1 = some true
theorem hornbooklaw01_HexRows.walk (P : hornbooklaw01_HexRows.Pure) (a0 : Option Addr) (len0 cap0 : Nat) (z0 : List Int) (a1 : ByteArray) (w : World) (w0 : (a0 = none ∧ len0 = 0 ∧ cap0 = 0 ∧ z0 = []) ∨ ∃ x, a0 = some x ∧ len0 ≤ cap0 ∧ cap0 ≤ maxLen ∧ z0.length = cap0 ∧ (∀ i, i < z0.length → w.cell? (x.add i) = some (.int .u8 (z0.getD i 0))) ∧ ∀ n ∈ z0, (Lit.int .u8 n).wf = true) (y0 : len0 * 1 ≤ 140737488351232) (w1 : a1.size ≤ 140737488351232) :
    Calls Try.prog 8 #[.slice a0 len0 cap0, .string a1] w fun e w' => e = .returned (.bool true) ∧ Below w.heap.size w w' := by
  obtain ⟨l0, rfl, hr0, hm0, hw0, hc0⟩ := ReadsInt.ofRowC w0
  obtain ⟨k, h⟩ := P l0 a1 hm0 y0 hw0 w1
  refine (hornbooklaw01_HexRows.calls k _ _ l0 a1 true w (Kd.C_of_reads (d := (0 : Int)) (h1 := fun _ => rfl) hr0) hc0 h ⟨rfl⟩).mono ?_
  rintro e w' ⟨rfl, hd⟩
  exact ⟨rfl, hd⟩

end Go.Proofs.Ytgdcgbbilgcihaa.Print
