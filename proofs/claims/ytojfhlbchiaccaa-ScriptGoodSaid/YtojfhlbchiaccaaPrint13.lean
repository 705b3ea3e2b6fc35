-- made by wip/tools/xprint.py
import Derived.Test.YtojfhlbchiaccaaPrint0
import Derived.Test.YtojfhlbchiaccaaPrint3
import Derived.Test.YtojfhlbchiaccaaPrint9
import Derived.Test.YtojfhlbchiaccaaPrint10
namespace Go.Proofs.Ytojfhlbchiaccaa.Print
open Go.RowKit Go.Proofs.YtojfhlbchiaccaaW.PrintWords Go.Proofs.YtojfhlbchiaccaaW.PrintLast Go.Proofs.YtojfhlbchiaccaaW.PrintMore
attribute [local go_sem] max2_int min2_int max_two min_two max_three min_three max_four min_four   -- for this text's walks alone
set_option linter.unusedVariables false
set_option linter.unusedSimpArgs false

/-! ### hornbooklaw23_ScriptGood: function 5 -/
def hornbooklaw23_ScriptGood.f (k : Nat) (l0 : List Int) : Option (Bool) := (hornbooklaw23_awake.f).bind fun t439 => (if (l0.length : Int) > 8000 then (some t439) else ((script_Get.f l0).bind fun bt440 => (if t439 = true then ((script_Sane.f bt440.1 bt440.2.1 bt440.2.2.1 bt440.2.2.2.1 bt440.2.2.2.2.1 bt440.2.2.2.2.2.1 bt440.2.2.2.2.2.2.1 bt440.2.2.2.2.2.2.2.1 bt440.2.2.2.2.2.2.2.2.1 bt440.2.2.2.2.2.2.2.2.2.1 bt440.2.2.2.2.2.2.2.2.2.2.1 bt440.2.2.2.2.2.2.2.2.2.2.2).bind fun t459 => (if t459 = true then ((script_Put.f bt440.1 bt440.2.1 bt440.2.2.1 bt440.2.2.2.1 bt440.2.2.2.2.1 bt440.2.2.2.2.2.1 bt440.2.2.2.2.2.2.1 bt440.2.2.2.2.2.2.2.1 bt440.2.2.2.2.2.2.2.2.1 bt440.2.2.2.2.2.2.2.2.2.1 bt440.2.2.2.2.2.2.2.2.2.2.1 bt440.2.2.2.2.2.2.2.2.2.2.2).bind fun t460 => ((script_Get.f t460).bind fun bt463 => ((hornbooklaw23_planned.f k bt463.1 bt463.2.1 bt463.2.2.1 bt463.2.2.2.1 bt463.2.2.2.2.1 bt463.2.2.2.2.2.1 bt463.2.2.2.2.2.2.1 bt463.2.2.2.2.2.2.2.1 bt463.2.2.2.2.2.2.2.2.1 bt463.2.2.2.2.2.2.2.2.2.1 bt463.2.2.2.2.2.2.2.2.2.2.1 bt463.2.2.2.2.2.2.2.2.2.2.2).bind fun bt481 => ((hornbooklaw23_planned.f k bt440.1 bt440.2.1 bt440.2.2.1 bt440.2.2.2.1 bt440.2.2.2.2.1 bt440.2.2.2.2.2.1 bt440.2.2.2.2.2.2.1 bt440.2.2.2.2.2.2.2.1 bt440.2.2.2.2.2.2.2.2.1 bt440.2.2.2.2.2.2.2.2.2.1 bt440.2.2.2.2.2.2.2.2.2.2.1 bt440.2.2.2.2.2.2.2.2.2.2.2).bind fun bt499 => ((hornbookref23_Same.f k bt481.1 bt481.2.1 bt481.2.2.1 bt481.2.2.2.1 bt481.2.2.2.2.1 bt481.2.2.2.2.2.1 bt481.2.2.2.2.2.2.1 bt481.2.2.2.2.2.2.2.1 bt481.2.2.2.2.2.2.2.2.1 bt481.2.2.2.2.2.2.2.2.2.1 bt481.2.2.2.2.2.2.2.2.2.2.1 bt481.2.2.2.2.2.2.2.2.2.2.2 bt499.1 bt499.2.1 bt499.2.2.1 bt499.2.2.2.1 bt499.2.2.2.2.1 bt499.2.2.2.2.2.1 bt499.2.2.2.2.2.2.1 bt499.2.2.2.2.2.2.2.1 bt499.2.2.2.2.2.2.2.2.1 bt499.2.2.2.2.2.2.2.2.2.1 bt499.2.2.2.2.2.2.2.2.2.2.1 bt499.2.2.2.2.2.2.2.2.2.2.2).bind fun t517 => (some t517)))))) else (some false))) else (some false))))
theorem hornbooklaw23_ScriptGood.mono : ∀ a0 k, LeO (hornbooklaw23_ScriptGood.f k a0) (hornbooklaw23_ScriptGood.f (k + 1) a0) := by
  intro a0 k
  unfold hornbooklaw23_ScriptGood.f
  repeat' first
      | (with_reducible exact hornbooklaw23_planned.mono _ _ _ _ _ _ _ _ _ _ _ _ _)
      | (with_reducible exact hornbookref23_Same.mono _ _ _ _ _ _ _ _ _ _ _ _ _ _ _ _ _ _ _ _ _ _ _ _ _)
      | (with_reducible exact LeO.refl _)
      | (with_reducible exact LeO.none _)
      | (with_reducible refine LeO.ite ?_ ?_)
      | (with_reducible refine LeO.bind ?_ (fun _ => ?_))
      | exact hornbooklaw23_planned.mono _ _ _ _ _ _ _ _ _ _ _ _ _
      | exact hornbookref23_Same.mono _ _ _ _ _ _ _ _ _ _ _ _ _ _ _ _ _ _ _ _ _ _ _ _ _
      | exact LeO.none _
      | refine LeO.ite ?_ ?_
      | refine LeO.bind ?_ (fun _ => ?_)
def hornbooklaw23_ScriptGood.T5 : Bool × List (List Nat × List Nat) := (true, [([], []), ([0], [0]), ([1], [1]), ([2, 1, 1], [1, 2]), ([1, 3], [1, 3]), ([4, 3], [4]), ([5], [5]), ([6, 5, 5], [5, 6]), ([7, 7, 5], [5, 7]), ([8, 8, 5], [5, 8]), ([5], [5]), ([10, 9, 5], [5, 10]), ([9, 11, 11, 5], [5, 9, 11]), ([5, 12], [5, 12]), ([13, 12, 0, 1, 2, 3, 4, 5, 6, 7, 8, 9, 10, 11, 12, 13], [13])])
def hornbooklaw23_ScriptGood.B5 : List Nat := [0, 1, 3, 7, 15, 31, 63, 127, 255, 511, 63, 2047, 4095, 8191, 16383]
theorem hornbooklaw23_ScriptGood.tab5 : rtab .any (opsOf Try.f5 5) = hornbooklaw23_ScriptGood.T5 := by kernel_rfl
theorem hornbooklaw23_ScriptGood.bits5 : waitsOk hornbooklaw23_ScriptGood.T5.2 hornbooklaw23_ScriptGood.B5 = true := by kernel_rfl
set_option maxHeartbeats 8000000 in
set_option maxRecDepth 100000 in
theorem hornbooklaw23_ScriptGood.calls (k : Nat) (A0 : Option Addr) (c0 : Nat) (l0 : List Int) (r : Bool) (w : World) (hr0 : Kd.C (Kd.int .u8) w A0 l0.length l0) (hc0 : l0.length ≤ c0) (h : hornbooklaw23_ScriptGood.f k l0 = some r) (hT : Aside0 (r = true)) :
    Calls Try.prog 5 #[.slice A0 l0.length c0] w fun e w' => e = .returned (.bool r) ∧ Below w.heap.size w w' := by
  have hu35 := Try.underlying35
  have HR0 := Aside0.mk hr0
  have HC0 := Aside0.mk hc0
  clear hr0 hc0
  have HB := Aside0.mk (Below.refl w.heap.size w)
  have H : ((hornbooklaw23_awake.f).bind fun t439 => (if (l0.length : Int) > 8000 then (some t439) else ((script_Get.f l0).bind fun bt440 => (if t439 = true then ((script_Sane.f bt440.1 bt440.2.1 bt440.2.2.1 bt440.2.2.2.1 bt440.2.2.2.2.1 bt440.2.2.2.2.2.1 bt440.2.2.2.2.2.2.1 bt440.2.2.2.2.2.2.2.1 bt440.2.2.2.2.2.2.2.2.1 bt440.2.2.2.2.2.2.2.2.2.1 bt440.2.2.2.2.2.2.2.2.2.2.1 bt440.2.2.2.2.2.2.2.2.2.2.2).bind fun t459 => (if t459 = true then ((script_Put.f bt440.1 bt440.2.1 bt440.2.2.1 bt440.2.2.2.1 bt440.2.2.2.2.1 bt440.2.2.2.2.2.1 bt440.2.2.2.2.2.2.1 bt440.2.2.2.2.2.2.2.1 bt440.2.2.2.2.2.2.2.2.1 bt440.2.2.2.2.2.2.2.2.2.1 bt440.2.2.2.2.2.2.2.2.2.2.1 bt440.2.2.2.2.2.2.2.2.2.2.2).bind fun t460 => ((script_Get.f t460).bind fun bt463 => ((hornbooklaw23_planned.f k bt463.1 bt463.2.1 bt463.2.2.1 bt463.2.2.2.1 bt463.2.2.2.2.1 bt463.2.2.2.2.2.1 bt463.2.2.2.2.2.2.1 bt463.2.2.2.2.2.2.2.1 bt463.2.2.2.2.2.2.2.2.1 bt463.2.2.2.2.2.2.2.2.2.1 bt463.2.2.2.2.2.2.2.2.2.2.1 bt463.2.2.2.2.2.2.2.2.2.2.2).bind fun bt481 => ((hornbooklaw23_planned.f k bt440.1 bt440.2.1 bt440.2.2.1 bt440.2.2.2.1 bt440.2.2.2.2.1 bt440.2.2.2.2.2.1 bt440.2.2.2.2.2.2.1 bt440.2.2.2.2.2.2.2.1 bt440.2.2.2.2.2.2.2.2.1 bt440.2.2.2.2.2.2.2.2.2.1 bt440.2.2.2.2.2.2.2.2.2.2.1 bt440.2.2.2.2.2.2.2.2.2.2.2).bind fun bt499 => ((hornbookref23_Same.f k bt481.1 bt481.2.1 bt481.2.2.1 bt481.2.2.2.1 bt481.2.2.2.2.1 bt481.2.2.2.2.2.1 bt481.2.2.2.2.2.2.1 bt481.2.2.2.2.2.2.2.1 bt481.2.2.2.2.2.2.2.2.1 bt481.2.2.2.2.2.2.2.2.2.1 bt481.2.2.2.2.2.2.2.2.2.2.1 bt481.2.2.2.2.2.2.2.2.2.2.2 bt499.1 bt499.2.1 bt499.2.2.1 bt499.2.2.2.1 bt499.2.2.2.2.1 bt499.2.2.2.2.2.1 bt499.2.2.2.2.2.2.1 bt499.2.2.2.2.2.2.2.1 bt499.2.2.2.2.2.2.2.2.1 bt499.2.2.2.2.2.2.2.2.2.1 bt499.2.2.2.2.2.2.2.2.2.2.1 bt499.2.2.2.2.2.2.2.2.2.2.2).bind fun t517 => (some t517)))))) else (some false))) else (some false))))) = some r := h
  clear h
  replace H := Option.bind_eq_some_iff.mp H
  obtain ⟨t439, A20, H⟩ := H
  replace H : (if (l0.length : Int) > 8000 then (some t439) else ((script_Get.f l0).bind fun bt440 => (if t439 = true then ((script_Sane.f bt440.1 bt440.2.1 bt440.2.2.1 bt440.2.2.2.1 bt440.2.2.2.2.1 bt440.2.2.2.2.2.1 bt440.2.2.2.2.2.2.1 bt440.2.2.2.2.2.2.2.1 bt440.2.2.2.2.2.2.2.2.1 bt440.2.2.2.2.2.2.2.2.2.1 bt440.2.2.2.2.2.2.2.2.2.2.1 bt440.2.2.2.2.2.2.2.2.2.2.2).bind fun t459 => (if t459 = true then ((script_Put.f bt440.1 bt440.2.1 bt440.2.2.1 bt440.2.2.2.1 bt440.2.2.2.2.1 bt440.2.2.2.2.2.1 bt440.2.2.2.2.2.2.1 bt440.2.2.2.2.2.2.2.1 bt440.2.2.2.2.2.2.2.2.1 bt440.2.2.2.2.2.2.2.2.2.1 bt440.2.2.2.2.2.2.2.2.2.2.1 bt440.2.2.2.2.2.2.2.2.2.2.2).bind fun t460 => ((script_Get.f t460).bind fun bt463 => ((hornbooklaw23_planned.f k bt463.1 bt463.2.1 bt463.2.2.1 bt463.2.2.2.1 bt463.2.2.2.2.1 bt463.2.2.2.2.2.1 bt463.2.2.2.2.2.2.1 bt463.2.2.2.2.2.2.2.1 bt463.2.2.2.2.2.2.2.2.1 bt463.2.2.2.2.2.2.2.2.2.1 bt463.2.2.2.2.2.2.2.2.2.2.1 bt463.2.2.2.2.2.2.2.2.2.2.2).bind fun bt481 => ((hornbooklaw23_planned.f k bt440.1 bt440.2.1 bt440.2.2.1 bt440.2.2.2.1 bt440.2.2.2.2.1 bt440.2.2.2.2.2.1 bt440.2.2.2.2.2.2.1 bt440.2.2.2.2.2.2.2.1 bt440.2.2.2.2.2.2.2.2.1 bt440.2.2.2.2.2.2.2.2.2.1 bt440.2.2.2.2.2.2.2.2.2.2.1 bt440.2.2.2.2.2.2.2.2.2.2.2).bind fun bt499 => ((hornbookref23_Same.f k bt481.1 bt481.2.1 bt481.2.2.1 bt481.2.2.2.1 bt481.2.2.2.2.1 bt481.2.2.2.2.2.1 bt481.2.2.2.2.2.2.1 bt481.2.2.2.2.2.2.2.1 bt481.2.2.2.2.2.2.2.2.1 bt481.2.2.2.2.2.2.2.2.2.1 bt481.2.2.2.2.2.2.2.2.2.2.1 bt481.2.2.2.2.2.2.2.2.2.2.2 bt499.1 bt499.2.1 bt499.2.2.1 bt499.2.2.2.1 bt499.2.2.2.2.1 bt499.2.2.2.2.2.1 bt499.2.2.2.2.2.2.1 bt499.2.2.2.2.2.2.2.1 bt499.2.2.2.2.2.2.2.2.1 bt499.2.2.2.2.2.2.2.2.2.1 bt499.2.2.2.2.2.2.2.2.2.2.1 bt499.2.2.2.2.2.2.2.2.2.2.2).bind fun t517 => (some t517)))))) else (some false))) else (some false)))) = some r := H
  have A2 := Aside0.mk A20
  clear A20
  by_cases c3 : (l0.length : Int) > 8000
  · rw [if_pos c3] at H
    have c3b0 : decide (8000 < (l0.length : Int)) = true := decide_eq_true c3
    have c3b1 : decide (8000 < l0.length) = true := decide_eq_true (by omega)
    clear c3
    obtain rfl := Option.some.inj H
    go_enter Try.func5, Try.ntmps5
    go_wp2_with (first | ((with_reducible refine gate_callee (f := 7) rfl ?_); refine goesL_ (some 5) rfl rfl Try.func7 (by kernel_rfl) rfl #[] rfl (by (try simp only [List.map_toArray, List.map_cons, List.map_nil]); first | done | rfl | (simp only [List.length_drop, List.length_take]; rfl)) ?_; (with_reducible refine (hornbooklaw23_awake.calls  t439 _ A2.out).mono ?_); rintro e w4 ⟨rfl, hb⟩; refine ⟨_, rfl, ?_⟩; have n0_ := Aside0.mk (below_step (by repeat (first | (with_reducible first | exact HB.out | apply below_alloc | apply pw_below_drewN | apply below_drew1) | exact HB.out)) hb); clear HB; have HB := n0_; clear n0_; (try clear hb); (try clear hb2); (try clear hk); (try clear hi)))
    go_ret
    exact ⟨by first | rfl | (simp [errW_none, errW_some] <;> rfl) | (simp [*, errW_none, errW_some] <;> rfl), by repeat (first | (with_reducible first | exact HB.out | apply below_alloc | apply pw_below_drewN | apply below_drew1) | exact HB.out)⟩
  · rw [if_neg c3] at H
    have c3b0 : decide (8000 < (l0.length : Int)) = false := decide_eq_false c3
    have c3b1 : decide (8000 < l0.length) = false := decide_eq_false (by omega)
    clear c3
    replace H := Option.bind_eq_some_iff.mp H
    obtain ⟨⟨t440, t443, t444, t445, t446, t447, t448, t449, t450, t451, t452, t455⟩, A50, H⟩ := H
    replace H : (if t439 = true then ((script_Sane.f t440 t443 t444 t445 t446 t447 t448 t449 t450 t451 t452 t455).bind fun t459 => (if t459 = true then ((script_Put.f t440 t443 t444 t445 t446 t447 t448 t449 t450 t451 t452 t455).bind fun t460 => ((script_Get.f t460).bind fun bt463 => ((hornbooklaw23_planned.f k bt463.1 bt463.2.1 bt463.2.2.1 bt463.2.2.2.1 bt463.2.2.2.2.1 bt463.2.2.2.2.2.1 bt463.2.2.2.2.2.2.1 bt463.2.2.2.2.2.2.2.1 bt463.2.2.2.2.2.2.2.2.1 bt463.2.2.2.2.2.2.2.2.2.1 bt463.2.2.2.2.2.2.2.2.2.2.1 bt463.2.2.2.2.2.2.2.2.2.2.2).bind fun bt481 => ((hornbooklaw23_planned.f k t440 t443 t444 t445 t446 t447 t448 t449 t450 t451 t452 t455).bind fun bt499 => ((hornbookref23_Same.f k bt481.1 bt481.2.1 bt481.2.2.1 bt481.2.2.2.1 bt481.2.2.2.2.1 bt481.2.2.2.2.2.1 bt481.2.2.2.2.2.2.1 bt481.2.2.2.2.2.2.2.1 bt481.2.2.2.2.2.2.2.2.1 bt481.2.2.2.2.2.2.2.2.2.1 bt481.2.2.2.2.2.2.2.2.2.2.1 bt481.2.2.2.2.2.2.2.2.2.2.2 bt499.1 bt499.2.1 bt499.2.2.1 bt499.2.2.2.1 bt499.2.2.2.2.1 bt499.2.2.2.2.2.1 bt499.2.2.2.2.2.2.1 bt499.2.2.2.2.2.2.2.1 bt499.2.2.2.2.2.2.2.2.1 bt499.2.2.2.2.2.2.2.2.2.1 bt499.2.2.2.2.2.2.2.2.2.2.1 bt499.2.2.2.2.2.2.2.2.2.2.2).bind fun t517 => (some t517)))))) else (some false))) else (some false)) = some r := H
    have A5 := Aside0.mk A50
    clear A50
    by_cases c6 : t439 = true
    · subst c6
      have H1 : ((script_Sane.f t440 t443 t444 t445 t446 t447 t448 t449 t450 t451 t452 t455).bind fun t459 => (if t459 = true then ((script_Put.f t440 t443 t444 t445 t446 t447 t448 t449 t450 t451 t452 t455).bind fun t460 => ((script_Get.f t460).bind fun bt463 => ((hornbooklaw23_planned.f k bt463.1 bt463.2.1 bt463.2.2.1 bt463.2.2.2.1 bt463.2.2.2.2.1 bt463.2.2.2.2.2.1 bt463.2.2.2.2.2.2.1 bt463.2.2.2.2.2.2.2.1 bt463.2.2.2.2.2.2.2.2.1 bt463.2.2.2.2.2.2.2.2.2.1 bt463.2.2.2.2.2.2.2.2.2.2.1 bt463.2.2.2.2.2.2.2.2.2.2.2).bind fun bt481 => ((hornbooklaw23_planned.f k t440 t443 t444 t445 t446 t447 t448 t449 t450 t451 t452 t455).bind fun bt499 => ((hornbookref23_Same.f k bt481.1 bt481.2.1 bt481.2.2.1 bt481.2.2.2.1 bt481.2.2.2.2.1 bt481.2.2.2.2.2.1 bt481.2.2.2.2.2.2.1 bt481.2.2.2.2.2.2.2.1 bt481.2.2.2.2.2.2.2.2.1 bt481.2.2.2.2.2.2.2.2.2.1 bt481.2.2.2.2.2.2.2.2.2.2.1 bt481.2.2.2.2.2.2.2.2.2.2.2 bt499.1 bt499.2.1 bt499.2.2.1 bt499.2.2.2.1 bt499.2.2.2.2.1 bt499.2.2.2.2.2.1 bt499.2.2.2.2.2.2.1 bt499.2.2.2.2.2.2.2.1 bt499.2.2.2.2.2.2.2.2.1 bt499.2.2.2.2.2.2.2.2.2.1 bt499.2.2.2.2.2.2.2.2.2.2.1 bt499.2.2.2.2.2.2.2.2.2.2.2).bind fun t517 => (some t517)))))) else (some false))) = some r := by rw [if_pos rfl] at H; exact H
      clear H
      have H := H1
      clear H1
      replace H := Option.bind_eq_some_iff.mp H
      obtain ⟨t459, A70, H⟩ := H
      replace H : (if t459 = true then ((script_Put.f t440 t443 t444 t445 t446 t447 t448 t449 t450 t451 t452 t455).bind fun t460 => ((script_Get.f t460).bind fun bt463 => ((hornbooklaw23_planned.f k bt463.1 bt463.2.1 bt463.2.2.1 bt463.2.2.2.1 bt463.2.2.2.2.1 bt463.2.2.2.2.2.1 bt463.2.2.2.2.2.2.1 bt463.2.2.2.2.2.2.2.1 bt463.2.2.2.2.2.2.2.2.1 bt463.2.2.2.2.2.2.2.2.2.1 bt463.2.2.2.2.2.2.2.2.2.2.1 bt463.2.2.2.2.2.2.2.2.2.2.2).bind fun bt481 => ((hornbooklaw23_planned.f k t440 t443 t444 t445 t446 t447 t448 t449 t450 t451 t452 t455).bind fun bt499 => ((hornbookref23_Same.f k bt481.1 bt481.2.1 bt481.2.2.1 bt481.2.2.2.1 bt481.2.2.2.2.1 bt481.2.2.2.2.2.1 bt481.2.2.2.2.2.2.1 bt481.2.2.2.2.2.2.2.1 bt481.2.2.2.2.2.2.2.2.1 bt481.2.2.2.2.2.2.2.2.2.1 bt481.2.2.2.2.2.2.2.2.2.2.1 bt481.2.2.2.2.2.2.2.2.2.2.2 bt499.1 bt499.2.1 bt499.2.2.1 bt499.2.2.2.1 bt499.2.2.2.2.1 bt499.2.2.2.2.2.1 bt499.2.2.2.2.2.2.1 bt499.2.2.2.2.2.2.2.1 bt499.2.2.2.2.2.2.2.2.1 bt499.2.2.2.2.2.2.2.2.2.1 bt499.2.2.2.2.2.2.2.2.2.2.1 bt499.2.2.2.2.2.2.2.2.2.2.2).bind fun t517 => (some t517)))))) else (some false)) = some r := H
      have A7 := Aside0.mk A70
      clear A70
      by_cases c8 : t459 = true
      · subst c8
        have H1 : ((script_Put.f t440 t443 t444 t445 t446 t447 t448 t449 t450 t451 t452 t455).bind fun t460 => ((script_Get.f t460).bind fun bt463 => ((hornbooklaw23_planned.f k bt463.1 bt463.2.1 bt463.2.2.1 bt463.2.2.2.1 bt463.2.2.2.2.1 bt463.2.2.2.2.2.1 bt463.2.2.2.2.2.2.1 bt463.2.2.2.2.2.2.2.1 bt463.2.2.2.2.2.2.2.2.1 bt463.2.2.2.2.2.2.2.2.2.1 bt463.2.2.2.2.2.2.2.2.2.2.1 bt463.2.2.2.2.2.2.2.2.2.2.2).bind fun bt481 => ((hornbooklaw23_planned.f k t440 t443 t444 t445 t446 t447 t448 t449 t450 t451 t452 t455).bind fun bt499 => ((hornbookref23_Same.f k bt481.1 bt481.2.1 bt481.2.2.1 bt481.2.2.2.1 bt481.2.2.2.2.1 bt481.2.2.2.2.2.1 bt481.2.2.2.2.2.2.1 bt481.2.2.2.2.2.2.2.1 bt481.2.2.2.2.2.2.2.2.1 bt481.2.2.2.2.2.2.2.2.2.1 bt481.2.2.2.2.2.2.2.2.2.2.1 bt481.2.2.2.2.2.2.2.2.2.2.2 bt499.1 bt499.2.1 bt499.2.2.1 bt499.2.2.2.1 bt499.2.2.2.2.1 bt499.2.2.2.2.2.1 bt499.2.2.2.2.2.2.1 bt499.2.2.2.2.2.2.2.1 bt499.2.2.2.2.2.2.2.2.1 bt499.2.2.2.2.2.2.2.2.2.1 bt499.2.2.2.2.2.2.2.2.2.2.1 bt499.2.2.2.2.2.2.2.2.2.2.2).bind fun t517 => (some t517)))))) = some r := by rw [if_pos rfl] at H; exact H
        clear H
        have H := H1
        clear H1
        replace H := Option.bind_eq_some_iff.mp H
        obtain ⟨t460, A90, H⟩ := H
        replace H : ((script_Get.f t460).bind fun bt463 => ((hornbooklaw23_planned.f k bt463.1 bt463.2.1 bt463.2.2.1 bt463.2.2.2.1 bt463.2.2.2.2.1 bt463.2.2.2.2.2.1 bt463.2.2.2.2.2.2.1 bt463.2.2.2.2.2.2.2.1 bt463.2.2.2.2.2.2.2.2.1 bt463.2.2.2.2.2.2.2.2.2.1 bt463.2.2.2.2.2.2.2.2.2.2.1 bt463.2.2.2.2.2.2.2.2.2.2.2).bind fun bt481 => ((hornbooklaw23_planned.f k t440 t443 t444 t445 t446 t447 t448 t449 t450 t451 t452 t455).bind fun bt499 => ((hornbookref23_Same.f k bt481.1 bt481.2.1 bt481.2.2.1 bt481.2.2.2.1 bt481.2.2.2.2.1 bt481.2.2.2.2.2.1 bt481.2.2.2.2.2.2.1 bt481.2.2.2.2.2.2.2.1 bt481.2.2.2.2.2.2.2.2.1 bt481.2.2.2.2.2.2.2.2.2.1 bt481.2.2.2.2.2.2.2.2.2.2.1 bt481.2.2.2.2.2.2.2.2.2.2.2 bt499.1 bt499.2.1 bt499.2.2.1 bt499.2.2.2.1 bt499.2.2.2.2.1 bt499.2.2.2.2.2.1 bt499.2.2.2.2.2.2.1 bt499.2.2.2.2.2.2.2.1 bt499.2.2.2.2.2.2.2.2.1 bt499.2.2.2.2.2.2.2.2.2.1 bt499.2.2.2.2.2.2.2.2.2.2.1 bt499.2.2.2.2.2.2.2.2.2.2.2).bind fun t517 => (some t517))))) = some r := H
        have A9 := Aside0.mk A90
        clear A90
        replace H := Option.bind_eq_some_iff.mp H
        obtain ⟨⟨t463, t466, t467, t468, t469, t470, t471, t472, t473, t474, t475, t478⟩, A100, H⟩ := H
        replace H : ((hornbooklaw23_planned.f k t463 t466 t467 t468 t469 t470 t471 t472 t473 t474 t475 t478).bind fun bt481 => ((hornbooklaw23_planned.f k t440 t443 t444 t445 t446 t447 t448 t449 t450 t451 t452 t455).bind fun bt499 => ((hornbookref23_Same.f k bt481.1 bt481.2.1 bt481.2.2.1 bt481.2.2.2.1 bt481.2.2.2.2.1 bt481.2.2.2.2.2.1 bt481.2.2.2.2.2.2.1 bt481.2.2.2.2.2.2.2.1 bt481.2.2.2.2.2.2.2.2.1 bt481.2.2.2.2.2.2.2.2.2.1 bt481.2.2.2.2.2.2.2.2.2.2.1 bt481.2.2.2.2.2.2.2.2.2.2.2 bt499.1 bt499.2.1 bt499.2.2.1 bt499.2.2.2.1 bt499.2.2.2.2.1 bt499.2.2.2.2.2.1 bt499.2.2.2.2.2.2.1 bt499.2.2.2.2.2.2.2.1 bt499.2.2.2.2.2.2.2.2.1 bt499.2.2.2.2.2.2.2.2.2.1 bt499.2.2.2.2.2.2.2.2.2.2.1 bt499.2.2.2.2.2.2.2.2.2.2.2).bind fun t517 => (some t517)))) = some r := H
        have A10 := Aside0.mk A100
        clear A100
        replace H := Option.bind_eq_some_iff.mp H
        obtain ⟨⟨t481, t484, t485, t486, t487, t488, t489, t490, t491, t492, t493, t496⟩, A110, H⟩ := H
        replace H : ((hornbooklaw23_planned.f k t440 t443 t444 t445 t446 t447 t448 t449 t450 t451 t452 t455).bind fun bt499 => ((hornbookref23_Same.f k t481 t484 t485 t486 t487 t488 t489 t490 t491 t492 t493 t496 bt499.1 bt499.2.1 bt499.2.2.1 bt499.2.2.2.1 bt499.2.2.2.2.1 bt499.2.2.2.2.2.1 bt499.2.2.2.2.2.2.1 bt499.2.2.2.2.2.2.2.1 bt499.2.2.2.2.2.2.2.2.1 bt499.2.2.2.2.2.2.2.2.2.1 bt499.2.2.2.2.2.2.2.2.2.2.1 bt499.2.2.2.2.2.2.2.2.2.2.2).bind fun t517 => (some t517))) = some r := H
        have A11 := Aside0.mk A110
        clear A110
        replace H := Option.bind_eq_some_iff.mp H
        obtain ⟨⟨t499, t502, t503, t504, t505, t506, t507, t508, t509, t510, t511, t514⟩, A120, H⟩ := H
        replace H : ((hornbookref23_Same.f k t481 t484 t485 t486 t487 t488 t489 t490 t491 t492 t493 t496 t499 t502 t503 t504 t505 t506 t507 t508 t509 t510 t511 t514).bind fun t517 => (some t517)) = some r := H
        have A12 := Aside0.mk A120
        clear A120
        replace H := Option.bind_eq_some_iff.mp H
        obtain ⟨t517, A130, H⟩ := H
        replace H : (some t517) = some r := H
        have A13 := Aside0.mk A130
        clear A130
        obtain rfl := Option.some.inj H
        go_enter Try.func5, Try.ntmps5
        try go_wp2_with (first | ((with_reducible refine gate_callee (f := 7) rfl ?_); refine goesL_ (some 5) rfl rfl Try.func7 (by kernel_rfl) rfl #[] rfl (by (try simp only [List.map_toArray, List.map_cons, List.map_nil]); first | done | rfl | (simp only [List.length_drop, List.length_take]; rfl)) ?_; (with_reducible refine (hornbooklaw23_awake.calls  true _ A2.out).mono ?_); rintro e w14 ⟨rfl, hb⟩; refine ⟨_, rfl, ?_⟩; have n0_ := Aside0.mk (below_step (by repeat (first | (with_reducible first | exact HB.out | apply below_alloc | apply pw_below_drewN | apply below_drew1) | exact HB.out)) hb); clear HB; have HB := n0_; clear n0_; (try clear hb); (try clear hb2); (try clear hk); (try clear hi)) | ((with_reducible refine gate_callee (f := 16) rfl ?_); refine goesL_ (some 11) rfl rfl Try.func16 (by kernel_rfl) rfl #[.slice A0 l0.length c0] rfl (by (try simp only [List.map_toArray, List.map_cons, List.map_nil]); first | done | rfl | (simp only [List.length_drop, List.length_take]; rfl)) ?_; (with_reducible refine (script_Get.calls _ _ l0 t440 t443 t444 t445 t446 t447 t448 t449 t450 t451 t452 t455 _ ?side1 ?side2 A5.out).mono ?_); (case side1 => repeat (first | exact (Kd.C_below HR0.out HB.out) | (with_reducible refine Kd.C_alloc ?_ _) | (with_reducible refine Kd.C_drewN ?_ _) | (with_reducible refine Kd.C_drew ?_))); (case side2 => exact HC0.out); rintro e w15 ⟨v441, v453, v456, rfl, ho0, ho1, ho2, hb⟩; refine ⟨_, rfl, ?_⟩; have n0_ := Aside0.mk (Kd.R_lower ho0 (below_size (by repeat (first | (with_reducible first | exact HB.out | apply below_alloc | apply pw_below_drewN | apply below_drew1) | exact HB.out)))); have n1_ := Aside0.mk (Kd.S_lower ho1 (below_size (by repeat (first | (with_reducible first | exact HB.out | apply below_alloc | apply pw_below_drewN | apply below_drew1) | exact HB.out)))); have n2_ := Aside0.mk (Kd.S_lower ho2 (below_size (by repeat (first | (with_reducible first | exact HB.out | apply below_alloc | apply pw_below_drewN | apply below_drew1) | exact HB.out)))); have n3_ := Aside0.mk (below_step (by repeat (first | (with_reducible first | exact HB.out | apply below_alloc | apply pw_below_drewN | apply below_drew1) | exact HB.out)) hb); clear HB; have HO442 := n0_; have HO454 := n1_; have HO457 := n2_; have HB := n3_; clear n0_ n1_ n2_ n3_; (try clear hb); (try clear hb2); (try clear hk); (try clear hi); (try clear ho0); (try clear ho1); (try clear ho2)) | ((with_reducible refine gate_dst (N := 4) rfl ?_); refine box_event ?hg (N := 4) ?hd (cs := #[.slice none 0 0, .bool false, .int .i64 0, .string (⟨#[]⟩ : ByteArray), .string (⟨#[]⟩ : ByteArray), .string (⟨#[]⟩ : ByteArray), .string (⟨#[]⟩ : ByteArray), .bool false, .bool false, .bool false, .slice none 0 0, .slice none 0 0]) (t := 35) ?hr ?_; (case hd => rfl); (case hg => rfl); (case hr => first | (go_simp; done) | (go_simp; rfl)); intro gb458 hg w16 hbox hb; have n0_ := Aside0.mk (Kd.R_below (by (with_reducible repeat (first | apply Kd.R_alloc | apply Kd.R_drewN | apply Kd.R_drew)); exact HO442.out) hb); have n1_ := Aside0.mk (Kd.S_below (by (with_reducible repeat (first | apply Kd.S_alloc | apply Kd.S_drewN | apply Kd.S_drew)); exact HO454.out) hb); have n2_ := Aside0.mk (Kd.S_below (by (with_reducible repeat (first | apply Kd.S_alloc | apply Kd.S_drewN | apply Kd.S_drew)); exact HO457.out) hb); have n3_ := Aside0.mk (below_step (by repeat (first | (with_reducible first | exact HB.out | apply below_alloc | apply pw_below_drewN | apply below_drew1) | exact HB.out)) hb); have n4_ := Aside0.mk (hbox); have n5_ := Aside0.mk ((by rw [hg]; exact (below_size (by repeat (first | (with_reducible first | exact HB.out | apply below_alloc | apply pw_below_drewN | apply below_drew1) | exact HB.out))) : w.heap.size ≤ gb458)); have n6_ := Aside0.mk ((by rw [hg]; exact (below_size (by repeat (first | (with_reducible first | exact HB.out | apply below_alloc | apply pw_below_drewN | apply below_drew1) | exact HB.out))) : w.heap.size ≤ gb458)); clear HO442; clear HO454; clear HO457; clear HB; have HO442 := n0_; have HO454 := n1_; have HO457 := n2_; have HB := n3_; have BK458 := n4_; have GW458 := n5_; have GE458 := n6_; clear n0_ n1_ n2_ n3_ n4_ n5_ n6_; clear hb hbox hg; obtain ⟨Ao17, co17, eo17⟩ := Kd.R_slice HO442.out; subst eo17; have hcz18_0 : w16.cell? ⟨gb458, 0, none⟩ = some (.slice none 0 0) := (blk_cell BK458.out 0).trans rfl; have hcz18_1 : w16.cell? ⟨gb458, 1, none⟩ = some (.bool false) := (blk_cell BK458.out 1).trans rfl; have hcz18_2 : w16.cell? ⟨gb458, 2, none⟩ = some (.int .i64 0) := (blk_cell BK458.out 2).trans rfl; have hcz18_3 : w16.cell? ⟨gb458, 3, none⟩ = some (.string (⟨#[]⟩ : ByteArray)) := (blk_cell BK458.out 3).trans rfl; have hcz18_4 : w16.cell? ⟨gb458, 4, none⟩ = some (.string (⟨#[]⟩ : ByteArray)) := (blk_cell BK458.out 4).trans rfl; have hcz18_5 : w16.cell? ⟨gb458, 5, none⟩ = some (.string (⟨#[]⟩ : ByteArray)) := (blk_cell BK458.out 5).trans rfl; have hcz18_6 : w16.cell? ⟨gb458, 6, none⟩ = some (.string (⟨#[]⟩ : ByteArray)) := (blk_cell BK458.out 6).trans rfl; have hcz18_7 : w16.cell? ⟨gb458, 7, none⟩ = some (.bool false) := (blk_cell BK458.out 7).trans rfl; have hcz18_8 : w16.cell? ⟨gb458, 8, none⟩ = some (.bool false) := (blk_cell BK458.out 8).trans rfl; have hcz18_9 : w16.cell? ⟨gb458, 9, none⟩ = some (.bool false) := (blk_cell BK458.out 9).trans rfl; have hcz18_10 : w16.cell? ⟨gb458, 10, none⟩ = some (.slice none 0 0) := (blk_cell BK458.out 10).trans rfl; have hcz18_11 : w16.cell? ⟨gb458, 11, none⟩ = some (.slice none 0 0) := (blk_cell BK458.out 11).trans rfl; have hfz18_0 := blk_frozen BK458.out 0; have hfz18_1 := blk_frozen BK458.out 1; have hfz18_2 := blk_frozen BK458.out 2; have hfz18_3 := blk_frozen BK458.out 3; have hfz18_4 := blk_frozen BK458.out 4; have hfz18_5 := blk_frozen BK458.out 5; have hfz18_6 := blk_frozen BK458.out 6; have hfz18_7 := blk_frozen BK458.out 7; have hfz18_8 := blk_frozen BK458.out 8; have hfz18_9 := blk_frozen BK458.out 9; have hfz18_10 := blk_frozen BK458.out 10; have hfz18_11 := blk_frozen BK458.out 11; obtain ⟨Ao19, co19, eo19⟩ := Kd.S_slice HO454.out; subst eo19; obtain ⟨Ao20, co20, eo20⟩ := Kd.S_slice HO457.out; subst eo20))
        have n0_ : Aside0 (Kd.R k48 48 ((((((((((((w16.setCell ⟨gb458, 0, none⟩ (.slice Ao17 t440.length co17)).setCell ⟨gb458, 1, none⟩ (.bool t443)).setCell ⟨gb458, 2, none⟩ (.int .i64 t444)).setCell ⟨gb458, 3, none⟩ (.string t445)).setCell ⟨gb458, 4, none⟩ (.string t446)).setCell ⟨gb458, 5, none⟩ (.string t447)).setCell ⟨gb458, 6, none⟩ (.string t448)).setCell ⟨gb458, 7, none⟩ (.bool t449)).setCell ⟨gb458, 8, none⟩ (.bool t450)).setCell ⟨gb458, 9, none⟩ (.bool t451)).setCell ⟨gb458, 10, none⟩ (.slice Ao19 t452.length co19)).setCell ⟨gb458, 11, none⟩ (.slice Ao20 t455.length co20)) w.heap.size (fun _ => True) (.slice Ao17 t440.length co17) t440) := ⟨by (with_reducible repeat (first | apply Kd.R_alloc | apply Kd.R_drewN | apply Kd.R_drew)); exact Kd.R_mono (Kd.R_far (p := ⟨gb458, 11, none⟩) (Kd.R_far (p := ⟨gb458, 10, none⟩) (Kd.R_far (p := ⟨gb458, 9, none⟩) (Kd.R_far (p := ⟨gb458, 8, none⟩) (Kd.R_far (p := ⟨gb458, 7, none⟩) (Kd.R_far (p := ⟨gb458, 6, none⟩) (Kd.R_far (p := ⟨gb458, 5, none⟩) (Kd.R_far (p := ⟨gb458, 4, none⟩) (Kd.R_far (p := ⟨gb458, 3, none⟩) (Kd.R_far (p := ⟨gb458, 2, none⟩) (Kd.R_far (p := ⟨gb458, 1, none⟩) (Kd.R_far (p := ⟨gb458, 0, none⟩) (Kd.R_types HO442.out BK458.out (by decide)) (fun _ hk => hk.2) (.slice Ao17 t440.length co17)) (fun _ hk => hk.2) (.bool t443)) (fun _ hk => hk.2) (.int .i64 t444)) (fun _ hk => hk.2) (.string t445)) (fun _ hk => hk.2) (.string t446)) (fun _ hk => hk.2) (.string t447)) (fun _ hk => hk.2) (.string t448)) (fun _ hk => hk.2) (.bool t449)) (fun _ hk => hk.2) (.bool t450)) (fun _ hk => hk.2) (.bool t451)) (fun _ hk => hk.2) (.slice Ao19 t452.length co19)) (fun _ hk => hk.2) (.slice Ao20 t455.length co20)) (fun _ hk => trivial)⟩
        have n1_ : Aside0 (Kd.S (Kd.slice 5 (Kd.int .u8)) 28 ((((((((((((w16.setCell ⟨gb458, 0, none⟩ (.slice Ao17 t440.length co17)).setCell ⟨gb458, 1, none⟩ (.bool t443)).setCell ⟨gb458, 2, none⟩ (.int .i64 t444)).setCell ⟨gb458, 3, none⟩ (.string t445)).setCell ⟨gb458, 4, none⟩ (.string t446)).setCell ⟨gb458, 5, none⟩ (.string t447)).setCell ⟨gb458, 6, none⟩ (.string t448)).setCell ⟨gb458, 7, none⟩ (.bool t449)).setCell ⟨gb458, 8, none⟩ (.bool t450)).setCell ⟨gb458, 9, none⟩ (.bool t451)).setCell ⟨gb458, 10, none⟩ (.slice Ao19 t452.length co19)).setCell ⟨gb458, 11, none⟩ (.slice Ao20 t455.length co20)) w.heap.size (fun k_ => some k_ ≠ (.slice Ao20 t455.length co20 : Value).ownBlock) (.slice Ao19 t452.length co19) t452) := ⟨by (with_reducible repeat (first | apply Kd.S_alloc | apply Kd.S_drewN | apply Kd.S_drew)); exact Kd.S_mono (Kd.S_far (p := ⟨gb458, 11, none⟩) (Kd.S_far (p := ⟨gb458, 10, none⟩) (Kd.S_far (p := ⟨gb458, 9, none⟩) (Kd.S_far (p := ⟨gb458, 8, none⟩) (Kd.S_far (p := ⟨gb458, 7, none⟩) (Kd.S_far (p := ⟨gb458, 6, none⟩) (Kd.S_far (p := ⟨gb458, 5, none⟩) (Kd.S_far (p := ⟨gb458, 4, none⟩) (Kd.S_far (p := ⟨gb458, 3, none⟩) (Kd.S_far (p := ⟨gb458, 2, none⟩) (Kd.S_far (p := ⟨gb458, 1, none⟩) (Kd.S_far (p := ⟨gb458, 0, none⟩) (Kd.S_types HO454.out BK458.out (by decide)) (fun _ hk => hk.2) (.slice Ao17 t440.length co17)) (fun _ hk => hk.2) (.bool t443)) (fun _ hk => hk.2) (.int .i64 t444)) (fun _ hk => hk.2) (.string t445)) (fun _ hk => hk.2) (.string t446)) (fun _ hk => hk.2) (.string t447)) (fun _ hk => hk.2) (.string t448)) (fun _ hk => hk.2) (.bool t449)) (fun _ hk => hk.2) (.bool t450)) (fun _ hk => hk.2) (.bool t451)) (fun _ hk => hk.2) (.slice Ao19 t452.length co19)) (fun _ hk => hk.2) (.slice Ao20 t455.length co20)) (fun _ hk => hk.1)⟩
        have n2_ : Aside0 (Kd.S (Kd.slice 5 (Kd.int .u8)) 28 ((((((((((((w16.setCell ⟨gb458, 0, none⟩ (.slice Ao17 t440.length co17)).setCell ⟨gb458, 1, none⟩ (.bool t443)).setCell ⟨gb458, 2, none⟩ (.int .i64 t444)).setCell ⟨gb458, 3, none⟩ (.string t445)).setCell ⟨gb458, 4, none⟩ (.string t446)).setCell ⟨gb458, 5, none⟩ (.string t447)).setCell ⟨gb458, 6, none⟩ (.string t448)).setCell ⟨gb458, 7, none⟩ (.bool t449)).setCell ⟨gb458, 8, none⟩ (.bool t450)).setCell ⟨gb458, 9, none⟩ (.bool t451)).setCell ⟨gb458, 10, none⟩ (.slice Ao19 t452.length co19)).setCell ⟨gb458, 11, none⟩ (.slice Ao20 t455.length co20)) w.heap.size (fun k_ => some k_ ≠ (.slice Ao19 t452.length co19 : Value).ownBlock) (.slice Ao20 t455.length co20) t455) := ⟨by (with_reducible repeat (first | apply Kd.S_alloc | apply Kd.S_drewN | apply Kd.S_drew)); exact Kd.S_mono (Kd.S_far (p := ⟨gb458, 11, none⟩) (Kd.S_far (p := ⟨gb458, 10, none⟩) (Kd.S_far (p := ⟨gb458, 9, none⟩) (Kd.S_far (p := ⟨gb458, 8, none⟩) (Kd.S_far (p := ⟨gb458, 7, none⟩) (Kd.S_far (p := ⟨gb458, 6, none⟩) (Kd.S_far (p := ⟨gb458, 5, none⟩) (Kd.S_far (p := ⟨gb458, 4, none⟩) (Kd.S_far (p := ⟨gb458, 3, none⟩) (Kd.S_far (p := ⟨gb458, 2, none⟩) (Kd.S_far (p := ⟨gb458, 1, none⟩) (Kd.S_far (p := ⟨gb458, 0, none⟩) (Kd.S_types HO457.out BK458.out (by decide)) (fun _ hk => hk.2) (.slice Ao17 t440.length co17)) (fun _ hk => hk.2) (.bool t443)) (fun _ hk => hk.2) (.int .i64 t444)) (fun _ hk => hk.2) (.string t445)) (fun _ hk => hk.2) (.string t446)) (fun _ hk => hk.2) (.string t447)) (fun _ hk => hk.2) (.string t448)) (fun _ hk => hk.2) (.bool t449)) (fun _ hk => hk.2) (.bool t450)) (fun _ hk => hk.2) (.bool t451)) (fun _ hk => hk.2) (.slice Ao19 t452.length co19)) (fun _ hk => hk.2) (.slice Ao20 t455.length co20)) (fun _ hk => hk.1)⟩
        have n3_ : Aside0 (((((((((((((w16.setCell ⟨gb458, 0, none⟩ (.slice Ao17 t440.length co17)).setCell ⟨gb458, 1, none⟩ (.bool t443)).setCell ⟨gb458, 2, none⟩ (.int .i64 t444)).setCell ⟨gb458, 3, none⟩ (.string t445)).setCell ⟨gb458, 4, none⟩ (.string t446)).setCell ⟨gb458, 5, none⟩ (.string t447)).setCell ⟨gb458, 6, none⟩ (.string t448)).setCell ⟨gb458, 7, none⟩ (.bool t449)).setCell ⟨gb458, 8, none⟩ (.bool t450)).setCell ⟨gb458, 9, none⟩ (.bool t451)).setCell ⟨gb458, 10, none⟩ (.slice Ao19 t452.length co19)).setCell ⟨gb458, 11, none⟩ (.slice Ao20 t455.length co20)).heap[gb458]? = some (.cells #[.slice Ao17 t440.length co17, .bool t443, .int .i64 t444, .string t445, .string t446, .string t447, .string t448, .bool t449, .bool t450, .bool t451, .slice Ao19 t452.length co19, .slice Ao20 t455.length co20] 35 (0, 0))) := ⟨by (with_reducible repeat (first | refine blk_drewN ?_ _ | refine blk_drew ?_ | refine blk_alloc ?_ _)); refine blk_put (cs := #[.slice Ao17 t440.length co17, .bool t443, .int .i64 t444, .string t445, .string t446, .string t447, .string t448, .bool t449, .bool t450, .bool t451, .slice Ao19 t452.length co19, .slice none 0 0]) ?_ 11 _ rfl; (with_reducible repeat (first | refine blk_drewN ?_ _ | refine blk_drew ?_ | refine blk_alloc ?_ _)); refine blk_put (cs := #[.slice Ao17 t440.length co17, .bool t443, .int .i64 t444, .string t445, .string t446, .string t447, .string t448, .bool t449, .bool t450, .bool t451, .slice none 0 0, .slice none 0 0]) ?_ 10 _ rfl; (with_reducible repeat (first | refine blk_drewN ?_ _ | refine blk_drew ?_ | refine blk_alloc ?_ _)); refine blk_put (cs := #[.slice Ao17 t440.length co17, .bool t443, .int .i64 t444, .string t445, .string t446, .string t447, .string t448, .bool t449, .bool t450, .bool false, .slice none 0 0, .slice none 0 0]) ?_ 9 _ rfl; (with_reducible repeat (first | refine blk_drewN ?_ _ | refine blk_drew ?_ | refine blk_alloc ?_ _)); refine blk_put (cs := #[.slice Ao17 t440.length co17, .bool t443, .int .i64 t444, .string t445, .string t446, .string t447, .string t448, .bool t449, .bool false, .bool false, .slice none 0 0, .slice none 0 0]) ?_ 8 _ rfl; (with_reducible repeat (first | refine blk_drewN ?_ _ | refine blk_drew ?_ | refine blk_alloc ?_ _)); refine blk_put (cs := #[.slice Ao17 t440.length co17, .bool t443, .int .i64 t444, .string t445, .string t446, .string t447, .string t448, .bool false, .bool false, .bool false, .slice none 0 0, .slice none 0 0]) ?_ 7 _ rfl; (with_reducible repeat (first | refine blk_drewN ?_ _ | refine blk_drew ?_ | refine blk_alloc ?_ _)); refine blk_put (cs := #[.slice Ao17 t440.length co17, .bool t443, .int .i64 t444, .string t445, .string t446, .string t447, .string (⟨#[]⟩ : ByteArray), .bool false, .bool false, .bool false, .slice none 0 0, .slice none 0 0]) ?_ 6 _ rfl; (with_reducible repeat (first | refine blk_drewN ?_ _ | refine blk_drew ?_ | refine blk_alloc ?_ _)); refine blk_put (cs := #[.slice Ao17 t440.length co17, .bool t443, .int .i64 t444, .string t445, .string t446, .string (⟨#[]⟩ : ByteArray), .string (⟨#[]⟩ : ByteArray), .bool false, .bool false, .bool false, .slice none 0 0, .slice none 0 0]) ?_ 5 _ rfl; (with_reducible repeat (first | refine blk_drewN ?_ _ | refine blk_drew ?_ | refine blk_alloc ?_ _)); refine blk_put (cs := #[.slice Ao17 t440.length co17, .bool t443, .int .i64 t444, .string t445, .string (⟨#[]⟩ : ByteArray), .string (⟨#[]⟩ : ByteArray), .string (⟨#[]⟩ : ByteArray), .bool false, .bool false, .bool false, .slice none 0 0, .slice none 0 0]) ?_ 4 _ rfl; (with_reducible repeat (first | refine blk_drewN ?_ _ | refine blk_drew ?_ | refine blk_alloc ?_ _)); refine blk_put (cs := #[.slice Ao17 t440.length co17, .bool t443, .int .i64 t444, .string (⟨#[]⟩ : ByteArray), .string (⟨#[]⟩ : ByteArray), .string (⟨#[]⟩ : ByteArray), .string (⟨#[]⟩ : ByteArray), .bool false, .bool false, .bool false, .slice none 0 0, .slice none 0 0]) ?_ 3 _ rfl; (with_reducible repeat (first | refine blk_drewN ?_ _ | refine blk_drew ?_ | refine blk_alloc ?_ _)); refine blk_put (cs := #[.slice Ao17 t440.length co17, .bool t443, .int .i64 0, .string (⟨#[]⟩ : ByteArray), .string (⟨#[]⟩ : ByteArray), .string (⟨#[]⟩ : ByteArray), .string (⟨#[]⟩ : ByteArray), .bool false, .bool false, .bool false, .slice none 0 0, .slice none 0 0]) ?_ 2 _ rfl; (with_reducible repeat (first | refine blk_drewN ?_ _ | refine blk_drew ?_ | refine blk_alloc ?_ _)); refine blk_put (cs := #[.slice Ao17 t440.length co17, .bool false, .int .i64 0, .string (⟨#[]⟩ : ByteArray), .string (⟨#[]⟩ : ByteArray), .string (⟨#[]⟩ : ByteArray), .string (⟨#[]⟩ : ByteArray), .bool false, .bool false, .bool false, .slice none 0 0, .slice none 0 0]) ?_ 1 _ rfl; (with_reducible repeat (first | refine blk_drewN ?_ _ | refine blk_drew ?_ | refine blk_alloc ?_ _)); refine blk_put (cs := #[.slice none 0 0, .bool false, .int .i64 0, .string (⟨#[]⟩ : ByteArray), .string (⟨#[]⟩ : ByteArray), .string (⟨#[]⟩ : ByteArray), .string (⟨#[]⟩ : ByteArray), .bool false, .bool false, .bool false, .slice none 0 0, .slice none 0 0]) ?_ 0 _ rfl; (with_reducible repeat (first | refine blk_drewN ?_ _ | refine blk_drew ?_ | refine blk_alloc ?_ _)); exact BK458.out⟩
        have n4_ : Aside0 (Below w.heap.size w ((((((((((((w16.setCell ⟨gb458, 0, none⟩ (.slice Ao17 t440.length co17)).setCell ⟨gb458, 1, none⟩ (.bool t443)).setCell ⟨gb458, 2, none⟩ (.int .i64 t444)).setCell ⟨gb458, 3, none⟩ (.string t445)).setCell ⟨gb458, 4, none⟩ (.string t446)).setCell ⟨gb458, 5, none⟩ (.string t447)).setCell ⟨gb458, 6, none⟩ (.string t448)).setCell ⟨gb458, 7, none⟩ (.bool t449)).setCell ⟨gb458, 8, none⟩ (.bool t450)).setCell ⟨gb458, 9, none⟩ (.bool t451)).setCell ⟨gb458, 10, none⟩ (.slice Ao19 t452.length co19)).setCell ⟨gb458, 11, none⟩ (.slice Ao20 t455.length co20))) := ⟨by repeat (first | (with_reducible first | exact HB.out | apply below_alloc | apply pw_below_drewN | apply below_drew1 | refine below_set ?_ GE458.out) | exact HB.out)⟩
        (try clear HO442)
        (try clear HO454)
        (try clear HO457)
        (try clear BK458)
        (try clear HB)
        generalize ((((((((((((w16.setCell ⟨gb458, 0, none⟩ (.slice Ao17 t440.length co17)).setCell ⟨gb458, 1, none⟩ (.bool t443)).setCell ⟨gb458, 2, none⟩ (.int .i64 t444)).setCell ⟨gb458, 3, none⟩ (.string t445)).setCell ⟨gb458, 4, none⟩ (.string t446)).setCell ⟨gb458, 5, none⟩ (.string t447)).setCell ⟨gb458, 6, none⟩ (.string t448)).setCell ⟨gb458, 7, none⟩ (.bool t449)).setCell ⟨gb458, 8, none⟩ (.bool t450)).setCell ⟨gb458, 9, none⟩ (.bool t451)).setCell ⟨gb458, 10, none⟩ (.slice Ao19 t452.length co19)).setCell ⟨gb458, 11, none⟩ (.slice Ao20 t455.length co20)) = w21 at n0_ n1_ n2_ n3_ n4_ ⊢
        have HO442 := n0_
        have HO454 := n1_
        have HO457 := n2_
        have BK458 := n3_
        have HB := n4_
        clear n0_ n1_ n2_ n3_ n4_
        have n0_ := Aside0.mk (Kd.R_drew HO442.out)
        have n1_ := Aside0.mk (Kd.S_drew HO454.out)
        have n2_ := Aside0.mk (Kd.S_drew HO457.out)
        have n3_ := Aside0.mk (blk_drew BK458.out)
        have n4_ := Aside0.mk (below_drew1 HB.out)
        clear HO442
        clear HO454
        clear HO457
        clear BK458
        clear HB
        have HO442 := n0_
        have HO454 := n1_
        have HO457 := n2_
        have BK458 := n3_
        have HB := n4_
        clear n0_ n1_ n2_ n3_ n4_
        refine start_ (n := 15) (S := fun w' => w'.cell? ⟨gb458, 0, none⟩ = some (.slice Ao17 t440.length co17) ∧ w'.cell? ⟨gb458, 1, none⟩ = some (.bool t443) ∧ w'.cell? ⟨gb458, 2, none⟩ = some (.int .i64 t444) ∧ w'.cell? ⟨gb458, 3, none⟩ = some (.string t445) ∧ w'.cell? ⟨gb458, 4, none⟩ = some (.string t446) ∧ w'.cell? ⟨gb458, 5, none⟩ = some (.string t447) ∧ w'.cell? ⟨gb458, 6, none⟩ = some (.string t448) ∧ w'.cell? ⟨gb458, 7, none⟩ = some (.bool t449) ∧ w'.cell? ⟨gb458, 8, none⟩ = some (.bool t450) ∧ w'.cell? ⟨gb458, 9, none⟩ = some (.bool t451) ∧ w'.cell? ⟨gb458, 10, none⟩ = some (.slice Ao19 t452.length co19) ∧ w'.cell? ⟨gb458, 11, none⟩ = some (.slice Ao20 t455.length co20)) (ds := []) #[false, false, false, false, false, false, false, false, false, false, false, false, false, false, false] (by kernel_rfl) rfl rfl ⟨(blk_cell BK458.out 0).trans rfl, (blk_cell BK458.out 1).trans rfl, (blk_cell BK458.out 2).trans rfl, (blk_cell BK458.out 3).trans rfl, (blk_cell BK458.out 4).trans rfl, (blk_cell BK458.out 5).trans rfl, (blk_cell BK458.out 6).trans rfl, (blk_cell BK458.out 7).trans rfl, (blk_cell BK458.out 8).trans rfl, (blk_cell BK458.out 9).trans rfl, (blk_cell BK458.out 10).trans rfl, (blk_cell BK458.out 11).trans rfl⟩ (fun hHeld => ?_); refine with_tabW hornbooklaw23_ScriptGood.tab5 hornbooklaw23_ScriptGood.bits5 (fun HT_ HW_ => ?_)
        generalize w21.drew = w22 at HO442 HO454 HO457 BK458 HB hHeld ⊢
        refine pure_ (i := 0) (N := some 12) (v := ?_) (a' := ?_) #[true, false, false, false, false, false, false, false, false, false, false, false, false, false, false] rfl rfl (any_of HT_.out (by kernel_rfl)) (fun _ _ _ h => h) (Or.inl ⟨by rfl, ?_⟩) ?_ ?_
        rotate_left
        · intro w'
          go_simp
          with_reducible rfl
        rotate_left
        · simp only [Act.put, List.setIfInBounds_toArray, List.set_cons_zero, List.set_cons_succ, i64_w, i32_w]
          rfl
        refine pure_ (i := 1) (N := some 13) (v := ?_) (a' := ?_) #[true, true, false, false, false, false, false, false, false, false, false, false, false, false, false] rfl rfl (any_of HT_.out (by kernel_rfl)) (fun _ _ _ h => h) (Or.inl ⟨by rfl, ?_⟩) ?_ ?_
        rotate_left
        · intro w'
          go_simp
          with_reducible rfl
        rotate_left
        · simp only [Act.put, List.setIfInBounds_toArray, List.set_cons_zero, List.set_cons_succ, i64_w, i32_w]
          rfl
        refine take_ (i := 2) (N := some 14) (v := ?_) (a' := ?_) #[true, true, true, false, false, false, false, false, false, false, false, false, false, false, false] rfl rfl (take_ofW HT_.out HW_.out (by kernel_rfl)) (fun _ _ _ h => h) (Or.inl ⟨by rfl, ?_⟩) hHeld ?_ ?_
        rotate_left
        · rintro w' ⟨s0, s1, s2, s3, s4, s5, s6, s7, s8, s9, s10, s11⟩
          go_simp
          with_reducible rfl
        rotate_left
        · simp only [Act.put, List.setIfInBounds_toArray, List.set_cons_zero, List.set_cons_succ, i64_w, i32_w]
          rfl
        refine one_ (i := 3) (N := some 15) #[true, true, true, true, false, false, false, false, false, false, false, false, false, false, false] rfl rfl (one_of HT_.out (by kernel_rfl)) (by decide) (fun K hK => ?_)
        refine goes_ Try.func9 (by kernel_rfl) rfl #[.agg #[.slice Ao17 t440.length co17, .bool t443, .int .i64 t444, .string t445, .string t446, .string t447, .string t448, .bool t449, .bool t450, .bool t451, .slice Ao19 t452.length co19, .slice Ao20 t455.length co20]] (by rfl) rfl rfl (by (try simp only [List.map_toArray, List.map_cons, List.map_nil]); first | done | rfl | (simp only [List.length_drop, List.length_take]; rfl)) ?_
        with_reducible refine (script_Sane.calls _ _ t440 t443 t444 t445 t446 t447 t448 t449 t450 t451 _ _ t452 _ _ t455 true _ ?side1 ?side2 ?side3 ?side4 ?side5 ?side6 A7.out).mono ?_
        (case side1 => repeat (first | exact (Kd.R_reads' HO442.out).2.2 | (with_reducible refine Kd.C_alloc ?_ _) | (with_reducible refine Kd.C_drewN ?_ _) | (with_reducible refine Kd.C_drew ?_)))
        (case side2 => exact (Kd.R_reads' HO442.out).2.1)
        (case side3 => repeat (first | exact (Kd.S_reads' HO454.out).2.2 | (with_reducible refine Kd.C_alloc ?_ _) | (with_reducible refine Kd.C_drewN ?_ _) | (with_reducible refine Kd.C_drew ?_)))
        (case side4 => exact (Kd.S_reads' HO454.out).2.1)
        (case side5 => repeat (first | exact (Kd.S_reads' HO457.out).2.2 | (with_reducible refine Kd.C_alloc ?_ _) | (with_reducible refine Kd.C_drewN ?_ _) | (with_reducible refine Kd.C_drew ?_)))
        (case side6 => exact (Kd.S_reads' HO457.out).2.1)
        rintro e w23 ⟨rfl, hb⟩
        refine ⟨_, rfl, ?_⟩
        have n0_ := Aside0.mk (Kd.R_below (by (with_reducible repeat (first | apply Kd.R_alloc | apply Kd.R_drewN | apply Kd.R_drew)); exact HO442.out) hb)
        have n1_ := Aside0.mk (Kd.S_below (by (with_reducible repeat (first | apply Kd.S_alloc | apply Kd.S_drewN | apply Kd.S_drew)); exact HO454.out) hb)
        have n2_ := Aside0.mk (Kd.S_below (by (with_reducible repeat (first | apply Kd.S_alloc | apply Kd.S_drewN | apply Kd.S_drew)); exact HO457.out) hb)
        have n3_ := Aside0.mk (blk_below (g := gb458) (o := .cells #[.slice Ao17 t440.length co17, .bool t443, .int .i64 t444, .string t445, .string t446, .string t447, .string t448, .bool t449, .bool t450, .bool t451, .slice Ao19 t452.length co19, .slice Ao20 t455.length co20] 35 (0, 0)) (by (with_reducible repeat (first | refine blk_drewN ?_ _ | refine blk_drew ?_ | refine blk_alloc ?_ _)); exact BK458.out) hb)
        have n4_ := Aside0.mk (below_step (by repeat (first | (with_reducible first | exact HB.out | apply below_alloc | apply pw_below_drewN | apply below_drew1 | refine below_set ?_ GE458.out) | exact HB.out)) hb)
        clear HO442
        clear HO454
        clear HO457
        clear BK458
        clear HB
        have HO442 := n0_
        have HO454 := n1_
        have HO457 := n2_
        have BK458 := n3_
        have HB := n4_
        clear n0_ n1_ n2_ n3_ n4_
        (try clear hb)
        (try clear hb2)
        (try clear hk)
        (try clear hi)
        refine hK.out _ _ ⟨(blk_cell BK458.out 0).trans rfl, (blk_cell BK458.out 1).trans rfl, (blk_cell BK458.out 2).trans rfl, (blk_cell BK458.out 3).trans rfl, (blk_cell BK458.out 4).trans rfl, (blk_cell BK458.out 5).trans rfl, (blk_cell BK458.out 6).trans rfl, (blk_cell BK458.out 7).trans rfl, (blk_cell BK458.out 8).trans rfl, (blk_cell BK458.out 9).trans rfl, (blk_cell BK458.out 10).trans rfl, (blk_cell BK458.out 11).trans rfl⟩ (fun hHeld => ?_)
        clear hK K
        refine norm_ (a' := ?_) ?_ ?_
        rotate_left
        · show Act.put _ (some 15) _ = _
          simp only [Act.put, List.setIfInBounds_toArray, List.set_cons_zero, List.set_cons_succ, i64_w, i32_w]
          rfl
        refine pure_ (i := 4) (N := some 16) (v := ?_) (a' := ?_) #[true, true, true, true, true, false, false, false, false, false, false, false, false, false, false] rfl rfl (any_of HT_.out (by kernel_rfl)) (fun _ _ _ h => h) (Or.inl ⟨by rfl, ?_⟩) ?_ ?_
        rotate_left
        · intro w'
          go_simp
          with_reducible rfl
        rotate_left
        · simp only [Act.put, List.setIfInBounds_toArray, List.set_cons_zero, List.set_cons_succ, i64_w, i32_w]
          rfl
        refine pure_ (i := 5) (N := some 17) (v := ?_) (a' := ?_) #[true, true, true, true, true, true, false, false, false, false, false, false, false, false, false] rfl rfl (any_of HT_.out (by kernel_rfl)) (fun _ _ _ h => h) (Or.inl ⟨by rfl, ?_⟩) ?_ ?_
        rotate_left
        · intro w'
          go_simp
          with_reducible rfl
        rotate_left
        · simp only [Act.put, List.setIfInBounds_toArray, List.set_cons_zero, List.set_cons_succ, i64_w, i32_w]
          rfl
        refine take_ (i := 6) (N := some 18) (v := ?_) (a' := ?_) #[true, true, true, true, true, true, true, false, false, false, false, false, false, false, false] rfl rfl (take_ofW HT_.out HW_.out (by kernel_rfl)) (fun _ _ _ h => h) (Or.inl ⟨by rfl, ?_⟩) hHeld ?_ ?_
        rotate_left
        · rintro w' ⟨s0, s1, s2, s3, s4, s5, s6, s7, s8, s9, s10, s11⟩
          go_simp
          with_reducible rfl
        rotate_left
        · simp only [Act.put, List.setIfInBounds_toArray, List.set_cons_zero, List.set_cons_succ, i64_w, i32_w]
          rfl
        refine take_ (i := 10) (N := some 22) (v := ?_) (a' := ?_) #[true, true, true, true, true, true, true, false, false, false, true, false, false, false, false] rfl rfl (take_ofW HT_.out HW_.out (by kernel_rfl)) (fun _ _ _ h => h) (Or.inl ⟨by rfl, ?_⟩) hHeld ?_ ?_
        rotate_left
        · rintro w' ⟨s0, s1, s2, s3, s4, s5, s6, s7, s8, s9, s10, s11⟩
          go_simp
          with_reducible rfl
        rotate_left
        · simp only [Act.put, List.setIfInBounds_toArray, List.set_cons_zero, List.set_cons_succ, i64_w, i32_w]
          rfl
        refine one_ (i := 7) (N := some 19) #[true, true, true, true, true, true, true, true, false, false, true, false, false, false, false] rfl rfl (one_of HT_.out (by kernel_rfl)) (by decide) (fun K hK => ?_)
        refine goes_ Try.func12 (by kernel_rfl) rfl #[.agg #[.slice Ao17 t440.length co17, .bool t443, .int .i64 t444, .string t445, .string t446, .string t447, .string t448, .bool t449, .bool t450, .bool t451, .slice Ao19 t452.length co19, .slice Ao20 t455.length co20]] (by rfl) rfl rfl (by (try simp only [List.map_toArray, List.map_cons, List.map_nil]); first | done | rfl | (simp only [List.length_drop, List.length_take]; rfl)) ?_
        with_reducible refine (script_Put.calls _ _ t440 t443 t444 t445 t446 t447 t448 t449 t450 t451 _ _ t452 _ _ t455 t460 _ ?side1 ?side2 ?side3 ?side4 ?side5 ?side6 A9.out).mono ?_
        (case side1 => repeat (first | exact (Kd.R_reads' HO442.out).2.2 | (with_reducible refine Kd.C_alloc ?_ _) | (with_reducible refine Kd.C_drewN ?_ _) | (with_reducible refine Kd.C_drew ?_)))
        (case side2 => exact (Kd.R_reads' HO442.out).2.1)
        (case side3 => repeat (first | exact (Kd.S_reads' HO454.out).2.2 | (with_reducible refine Kd.C_alloc ?_ _) | (with_reducible refine Kd.C_drewN ?_ _) | (with_reducible refine Kd.C_drew ?_)))
        (case side4 => exact (Kd.S_reads' HO454.out).2.1)
        (case side5 => repeat (first | exact (Kd.S_reads' HO457.out).2.2 | (with_reducible refine Kd.C_alloc ?_ _) | (with_reducible refine Kd.C_drewN ?_ _) | (with_reducible refine Kd.C_drew ?_)))
        (case side6 => exact (Kd.S_reads' HO457.out).2.1)
        rintro e w24 ⟨v461, rfl, ho0, hb⟩
        refine ⟨_, rfl, ?_⟩
        have n0_ := Aside0.mk (Kd.R_below (by (with_reducible repeat (first | apply Kd.R_alloc | apply Kd.R_drewN | apply Kd.R_drew)); exact HO442.out) hb)
        have n1_ := Aside0.mk (Kd.S_elder' (by (with_reducible repeat (first | apply Kd.S_alloc | apply Kd.S_drewN | apply Kd.S_drew)); exact HO454.out) (Kd.R_base ho0) hb)
        have n2_ := Aside0.mk (Kd.S_elder' (by (with_reducible repeat (first | apply Kd.S_alloc | apply Kd.S_drewN | apply Kd.S_drew)); exact HO457.out) (Kd.R_base ho0) hb)
        have n3_ := Aside0.mk (Kd.R_lower ho0 (below_size (by repeat (first | (with_reducible first | exact HB.out | apply below_alloc | apply pw_below_drewN | apply below_drew1 | refine below_set ?_ GE458.out) | exact HB.out))))
        have n4_ := Aside0.mk (blk_below (g := gb458) (o := .cells #[.slice Ao17 t440.length co17, .bool t443, .int .i64 t444, .string t445, .string t446, .string t447, .string t448, .bool t449, .bool t450, .bool t451, .slice Ao19 t452.length co19, .slice Ao20 t455.length co20] 35 (0, 0)) (by (with_reducible repeat (first | refine blk_drewN ?_ _ | refine blk_drew ?_ | refine blk_alloc ?_ _)); exact BK458.out) hb)
        have n5_ := Aside0.mk (below_step (by repeat (first | (with_reducible first | exact HB.out | apply below_alloc | apply pw_below_drewN | apply below_drew1 | refine below_set ?_ GE458.out) | exact HB.out)) hb)
        clear HO442
        clear HO454
        clear HO457
        clear BK458
        clear HB
        have HO442 := n0_
        have HO454 := n1_
        have HO457 := n2_
        have HO462 := n3_
        have BK458 := n4_
        have HB := n5_
        clear n0_ n1_ n2_ n3_ n4_ n5_
        (try clear hb)
        (try clear hb2)
        (try clear hk)
        (try clear hi)
        (try clear ho0)
        obtain ⟨Ao25, co25, eo25⟩ := Kd.R_slice HO462.out
        (first | subst eo25 | (injection eo25 with f1_ f2_ f3_; have f4_ := f1_.symm; have f5_ := f3_.symm; clear f1_ f2_ f3_; subst f4_; subst f5_))
        refine hK.out _ _ ⟨(blk_cell BK458.out 0).trans rfl, (blk_cell BK458.out 1).trans rfl, (blk_cell BK458.out 2).trans rfl, (blk_cell BK458.out 3).trans rfl, (blk_cell BK458.out 4).trans rfl, (blk_cell BK458.out 5).trans rfl, (blk_cell BK458.out 6).trans rfl, (blk_cell BK458.out 7).trans rfl, (blk_cell BK458.out 8).trans rfl, (blk_cell BK458.out 9).trans rfl, (blk_cell BK458.out 10).trans rfl, (blk_cell BK458.out 11).trans rfl⟩ (fun hHeld => ?_)
        clear hK K
        refine norm_ (a' := ?_) ?_ ?_
        rotate_left
        · show Act.put _ (some 19) _ = _
          simp only [Act.put, List.setIfInBounds_toArray, List.set_cons_zero, List.set_cons_succ, i64_w, i32_w]
          rfl
        refine one_ (i := 8) (N := some 20) #[true, true, true, true, true, true, true, true, true, false, true, false, false, false, false] rfl rfl (one_of HT_.out (by kernel_rfl)) (by decide) (fun K hK => ?_)
        refine goes_ Try.func16 (by kernel_rfl) rfl #[.slice Ao25 t460.length co25] (by rfl) rfl rfl (by (try simp only [List.map_toArray, List.map_cons, List.map_nil]); first | done | rfl | (simp only [List.length_drop, List.length_take]; rfl)) ?_
        with_reducible refine (script_Get.calls _ _ t460 t463 t466 t467 t468 t469 t470 t471 t472 t473 t474 t475 t478 _ ?side1 ?side2 A10.out).mono ?_
        (case side1 => repeat (first | exact (Kd.R_reads' HO462.out).2.2 | (with_reducible refine Kd.C_alloc ?_ _) | (with_reducible refine Kd.C_drewN ?_ _) | (with_reducible refine Kd.C_drew ?_)))
        (case side2 => exact (Kd.R_reads' HO462.out).2.1)
        rintro e w26 ⟨v464, v476, v479, rfl, ho0, ho1, ho2, hb⟩
        refine ⟨_, rfl, ?_⟩
        have n0_ := Aside0.mk (Kd.R_elder' (by (with_reducible repeat (first | apply Kd.R_alloc | apply Kd.R_drewN | apply Kd.R_drew)); exact HO442.out) (Kd.R_base ho0) hb)
        have n1_ := Aside0.mk (Kd.S_mono (Kd.S_told (Kd.S_told (Kd.S_old (by (with_reducible repeat (first | apply Kd.S_alloc | apply Kd.S_drewN | apply Kd.S_drew)); exact HO454.out) hb) (Kd.S_base ho1)) (Kd.S_base ho2)) (fun _ h_ => h_.1))
        have n2_ := Aside0.mk (Kd.S_mono (Kd.S_told (Kd.S_told (Kd.S_old (by (with_reducible repeat (first | apply Kd.S_alloc | apply Kd.S_drewN | apply Kd.S_drew)); exact HO457.out) hb) (Kd.S_base ho1)) (Kd.S_base ho2)) (fun _ h_ => h_.1))
        have n3_ := Aside0.mk (Kd.R_below (by (with_reducible repeat (first | apply Kd.R_alloc | apply Kd.R_drewN | apply Kd.R_drew)); exact HO462.out) hb)
        have n4_ := Aside0.mk (Kd.R_lower (Kd.R_new' ho0 (Kd.R_lt (by (with_reducible repeat (first | apply Kd.R_alloc | apply Kd.R_drewN | apply Kd.R_drew)); exact HO442.out))) (below_size (by repeat (first | (with_reducible first | exact HB.out | apply below_alloc | apply pw_below_drewN | apply below_drew1 | refine below_set ?_ GE458.out) | exact HB.out))))
        have n5_ := Aside0.mk (Kd.S_lower (Kd.S_new' (Kd.S_new' (Kd.S_new' ho1 (Kd.S_lt (by (with_reducible repeat (first | apply Kd.S_alloc | apply Kd.S_drewN | apply Kd.S_drew)); exact HO454.out))) (Kd.S_lt (by (with_reducible repeat (first | apply Kd.S_alloc | apply Kd.S_drewN | apply Kd.S_drew)); exact HO457.out))) (Kd.R_lt (by (with_reducible repeat (first | apply Kd.R_alloc | apply Kd.R_drewN | apply Kd.R_drew)); exact HO462.out))) (below_size (by repeat (first | (with_reducible first | exact HB.out | apply below_alloc | apply pw_below_drewN | apply below_drew1 | refine below_set ?_ GE458.out) | exact HB.out))))
        have n6_ := Aside0.mk (Kd.S_lower (Kd.S_new' (Kd.S_new' (Kd.S_new' ho2 (Kd.S_lt (by (with_reducible repeat (first | apply Kd.S_alloc | apply Kd.S_drewN | apply Kd.S_drew)); exact HO454.out))) (Kd.S_lt (by (with_reducible repeat (first | apply Kd.S_alloc | apply Kd.S_drewN | apply Kd.S_drew)); exact HO457.out))) (Kd.R_lt (by (with_reducible repeat (first | apply Kd.R_alloc | apply Kd.R_drewN | apply Kd.R_drew)); exact HO462.out))) (below_size (by repeat (first | (with_reducible first | exact HB.out | apply below_alloc | apply pw_below_drewN | apply below_drew1 | refine below_set ?_ GE458.out) | exact HB.out))))
        have n7_ := Aside0.mk (blk_below (g := gb458) (o := .cells #[.slice Ao17 t440.length co17, .bool t443, .int .i64 t444, .string t445, .string t446, .string t447, .string t448, .bool t449, .bool t450, .bool t451, .slice Ao19 t452.length co19, .slice Ao20 t455.length co20] 35 (0, 0)) (by (with_reducible repeat (first | refine blk_drewN ?_ _ | refine blk_drew ?_ | refine blk_alloc ?_ _)); exact BK458.out) hb)
        have n8_ := Aside0.mk (below_step (by repeat (first | (with_reducible first | exact HB.out | apply below_alloc | apply pw_below_drewN | apply below_drew1 | refine below_set ?_ GE458.out) | exact HB.out)) hb)
        clear HO442
        clear HO454
        clear HO457
        clear HO462
        clear BK458
        clear HB
        have HO442 := n0_
        have HO454 := n1_
        have HO457 := n2_
        have HO462 := n3_
        have HO465 := n4_
        have HO477 := n5_
        have HO480 := n6_
        have BK458 := n7_
        have HB := n8_
        clear n0_ n1_ n2_ n3_ n4_ n5_ n6_ n7_ n8_
        (try clear hb)
        (try clear hb2)
        (try clear hk)
        (try clear hi)
        (try clear ho0)
        (try clear ho1)
        (try clear ho2)
        obtain ⟨Ao27, co27, eo27⟩ := Kd.R_slice HO465.out
        (first | subst eo27 | (injection eo27 with f1_ f2_ f3_; have f4_ := f1_.symm; have f5_ := f3_.symm; clear f1_ f2_ f3_; subst f4_; subst f5_))
        obtain ⟨Ao28, co28, eo28⟩ := Kd.S_slice HO477.out
        (first | subst eo28 | (injection eo28 with f1_ f2_ f3_; have f4_ := f1_.symm; have f5_ := f3_.symm; clear f1_ f2_ f3_; subst f4_; subst f5_))
        obtain ⟨Ao29, co29, eo29⟩ := Kd.S_slice HO480.out
        (first | subst eo29 | (injection eo29 with f1_ f2_ f3_; have f4_ := f1_.symm; have f5_ := f3_.symm; clear f1_ f2_ f3_; subst f4_; subst f5_))
        refine hK.out _ _ ⟨(blk_cell BK458.out 0).trans rfl, (blk_cell BK458.out 1).trans rfl, (blk_cell BK458.out 2).trans rfl, (blk_cell BK458.out 3).trans rfl, (blk_cell BK458.out 4).trans rfl, (blk_cell BK458.out 5).trans rfl, (blk_cell BK458.out 6).trans rfl, (blk_cell BK458.out 7).trans rfl, (blk_cell BK458.out 8).trans rfl, (blk_cell BK458.out 9).trans rfl, (blk_cell BK458.out 10).trans rfl, (blk_cell BK458.out 11).trans rfl⟩ (fun hHeld => ?_)
        clear hK K
        refine norm_ (a' := ?_) ?_ ?_
        rotate_left
        · show Act.put _ (some 20) _ = _
          simp only [Act.put, List.setIfInBounds_toArray, List.set_cons_zero, List.set_cons_succ, i64_w, i32_w]
          rfl
        refine one_ (i := 9) (N := some 21) #[true, true, true, true, true, true, true, true, true, true, true, false, false, false, false] rfl rfl (one_of HT_.out (by kernel_rfl)) (by decide) (fun K hK => ?_)
        refine goes_ Try.func15 (by kernel_rfl) rfl #[.agg #[.slice Ao27 t463.length co27, .bool t466, .int .i64 t467, .string t468, .string t469, .string t470, .string t471, .bool t472, .bool t473, .bool t474, .slice Ao28 t475.length co28, .slice Ao29 t478.length co29]] (by rfl) rfl rfl (by (try simp only [List.map_toArray, List.map_cons, List.map_nil]); first | done | rfl | (simp only [List.length_drop, List.length_take]; rfl)) ?_
        with_reducible refine (hornbooklaw23_planned.calls k _ _ t463 t466 t467 t468 t469 t470 t471 t472 t473 t474 (fun k_ => ((((((some k_ ≠ (.slice Ao29 t478.length co29 : Value).ownBlock ∧ some k_ ≠ (.slice Ao19 t452.length co19 : Value).ownBlock) ∧ some k_ ≠ (.slice Ao20 t455.length co20 : Value).ownBlock) ∧ some k_ ≠ (.slice Ao25 t460.length co25 : Value).ownBlock) ∧ some k_ ≠ (.slice Ao17 t440.length co17 : Value).ownBlock) ∧ some k_ ≠ (.slice Ao27 t463.length co27 : Value).ownBlock) ∧ k_ ≠ gb458)) _ _ t475 (fun k_ => ((((((some k_ ≠ (.slice Ao28 t475.length co28 : Value).ownBlock ∧ some k_ ≠ (.slice Ao19 t452.length co19 : Value).ownBlock) ∧ some k_ ≠ (.slice Ao20 t455.length co20 : Value).ownBlock) ∧ some k_ ≠ (.slice Ao25 t460.length co25 : Value).ownBlock) ∧ some k_ ≠ (.slice Ao17 t440.length co17 : Value).ownBlock) ∧ some k_ ≠ (.slice Ao27 t463.length co27 : Value).ownBlock) ∧ k_ ≠ gb458)) _ _ t478 t481 t484 t485 t486 t487 t488 t489 t490 t491 t492 t493 t496 _ ?side1 ?side2 ?side3 ?side4 A11.out).mono ?_
        (case side1 => repeat (first | exact (Kd.R_reads' HO465.out).2.2 | (with_reducible refine Kd.C_alloc ?_ _) | (with_reducible refine Kd.C_drewN ?_ _) | (with_reducible refine Kd.C_drew ?_)))
        (case side2 => exact (Kd.R_reads' HO465.out).2.1)
        (case side3 => exact Kd.S_V (Kd.S_types (Kd.S_apart' (Kd.S_apart' (HO477.out) (Kd.R_typed HO442.out) (by decide)) (Kd.R_typed HO465.out) (by decide)) BK458.out (by decide)))
        (case side4 => exact Kd.S_V (Kd.S_types (Kd.S_apart' (Kd.S_apart' (HO480.out) (Kd.R_typed HO442.out) (by decide)) (Kd.R_typed HO465.out) (by decide)) BK458.out (by decide)))
        rintro e w30 ⟨v482, v494, v497, rfl, ho0, ho1, ho2, hb⟩
        refine ⟨_, rfl, ?_⟩
        have n0_ := Aside0.mk (Kd.R_below (by (with_reducible repeat (first | apply Kd.R_alloc | apply Kd.R_drewN | apply Kd.R_drew)); exact HO442.out) hb)
        have n1_ := Aside0.mk (Kd.S_below (by (with_reducible repeat (first | apply Kd.S_alloc | apply Kd.S_drewN | apply Kd.S_drew)); exact HO454.out) hb)
        have n2_ := Aside0.mk (Kd.S_below (by (with_reducible repeat (first | apply Kd.S_alloc | apply Kd.S_drewN | apply Kd.S_drew)); exact HO457.out) hb)
        have n3_ := Aside0.mk (Kd.R_below (by (with_reducible repeat (first | apply Kd.R_alloc | apply Kd.R_drewN | apply Kd.R_drew)); exact HO462.out) hb)
        have n4_ := Aside0.mk (Kd.R_below (by (with_reducible repeat (first | apply Kd.R_alloc | apply Kd.R_drewN | apply Kd.R_drew)); exact HO465.out) hb)
        have n5_ := Aside0.mk (Kd.S_below (by (with_reducible repeat (first | apply Kd.S_alloc | apply Kd.S_drewN | apply Kd.S_drew)); exact HO477.out) hb)
        have n6_ := Aside0.mk (Kd.S_below (by (with_reducible repeat (first | apply Kd.S_alloc | apply Kd.S_drewN | apply Kd.S_drew)); exact HO480.out) hb)
        have n7_ := Aside0.mk (Kd.R_lower (Kd.R_mono (ok' := fun k_ => True) ho0 (fun _ hk_ => trivial)) (below_size (by repeat (first | (with_reducible first | exact HB.out | apply below_alloc | apply pw_below_drewN | apply below_drew1 | refine below_set ?_ GE458.out) | exact HB.out))))
        have n8_ := Aside0.mk (Kd.V_lower (Kd.V_mono (ok' := fun k_ => some k_ ≠ (v482 : Value).ownBlock ∧ some k_ ≠ (.slice Ao17 t440.length co17 : Value).ownBlock ∧ some k_ ≠ (.slice Ao19 t452.length co19 : Value).ownBlock ∧ some k_ ≠ (.slice Ao20 t455.length co20 : Value).ownBlock ∧ some k_ ≠ (.slice Ao25 t460.length co25 : Value).ownBlock ∧ some k_ ≠ (.slice Ao27 t463.length co27 : Value).ownBlock ∧ k_ ≠ gb458) ho1 (fun k_ hk_ => ⟨hk_.2, Or.elim hk_.1 (fun hs_ => Or.elim hs_ (fun hs_ => hs_.1.1.2) (fun hs_ => hs_.1.1.2)) (fun hn_ => (Kd.fresh' (Kd.R_lt (by (with_reducible repeat (first | apply Kd.R_alloc | apply Kd.R_drewN | apply Kd.R_drew)); exact HO442.out)) k_ hn_)), Or.elim hk_.1 (fun hs_ => Or.elim hs_ (fun hs_ => hs_.1.1.1.1.1.2) (fun hs_ => hs_.1.1.1.1.1.2)) (fun hn_ => (Kd.fresh' (Kd.S_lt (by (with_reducible repeat (first | apply Kd.S_alloc | apply Kd.S_drewN | apply Kd.S_drew)); exact HO454.out)) k_ hn_)), Or.elim hk_.1 (fun hs_ => Or.elim hs_ (fun hs_ => hs_.1.1.1.1.2) (fun hs_ => hs_.1.1.1.1.2)) (fun hn_ => (Kd.fresh' (Kd.S_lt (by (with_reducible repeat (first | apply Kd.S_alloc | apply Kd.S_drewN | apply Kd.S_drew)); exact HO457.out)) k_ hn_)), Or.elim hk_.1 (fun hs_ => Or.elim hs_ (fun hs_ => hs_.1.1.1.2) (fun hs_ => hs_.1.1.1.2)) (fun hn_ => (Kd.fresh' (Kd.R_lt (by (with_reducible repeat (first | apply Kd.R_alloc | apply Kd.R_drewN | apply Kd.R_drew)); exact HO462.out)) k_ hn_)), Or.elim hk_.1 (fun hs_ => Or.elim hs_ (fun hs_ => hs_.1.2) (fun hs_ => hs_.1.2)) (fun hn_ => (Kd.fresh' (Kd.R_lt (by (with_reducible repeat (first | apply Kd.R_alloc | apply Kd.R_drewN | apply Kd.R_drew)); exact HO465.out)) k_ hn_)), Or.elim hk_.1 (fun hs_ => Or.elim hs_ (fun hs_ => hs_.2) (fun hs_ => hs_.2)) (fun hn_ => (Kd.freshB (g := gb458) (o := .cells #[.slice Ao17 t440.length co17, .bool t443, .int .i64 t444, .string t445, .string t446, .string t447, .string t448, .bool t449, .bool t450, .bool t451, .slice Ao19 t452.length co19, .slice Ao20 t455.length co20] 35 (0, 0)) (by (with_reducible repeat (first | refine blk_drewN ?_ _ | refine blk_drew ?_ | refine blk_alloc ?_ _)); exact BK458.out) k_ hn_))⟩)) (below_size (by repeat (first | (with_reducible first | exact HB.out | apply below_alloc | apply pw_below_drewN | apply below_drew1 | refine below_set ?_ GE458.out) | exact HB.out))))
        have n9_ := Aside0.mk (Kd.V_lower (Kd.V_mono (ok' := fun k_ => some k_ ≠ (v482 : Value).ownBlock ∧ some k_ ≠ (.slice Ao17 t440.length co17 : Value).ownBlock ∧ some k_ ≠ (.slice Ao19 t452.length co19 : Value).ownBlock ∧ some k_ ≠ (.slice Ao20 t455.length co20 : Value).ownBlock ∧ some k_ ≠ (.slice Ao25 t460.length co25 : Value).ownBlock ∧ some k_ ≠ (.slice Ao27 t463.length co27 : Value).ownBlock ∧ k_ ≠ gb458) ho2 (fun k_ hk_ => ⟨hk_.2, Or.elim hk_.1 (fun hs_ => Or.elim hs_ (fun hs_ => hs_.1.1.2) (fun hs_ => hs_.1.1.2)) (fun hn_ => (Kd.fresh' (Kd.R_lt (by (with_reducible repeat (first | apply Kd.R_alloc | apply Kd.R_drewN | apply Kd.R_drew)); exact HO442.out)) k_ hn_)), Or.elim hk_.1 (fun hs_ => Or.elim hs_ (fun hs_ => hs_.1.1.1.1.1.2) (fun hs_ => hs_.1.1.1.1.1.2)) (fun hn_ => (Kd.fresh' (Kd.S_lt (by (with_reducible repeat (first | apply Kd.S_alloc | apply Kd.S_drewN | apply Kd.S_drew)); exact HO454.out)) k_ hn_)), Or.elim hk_.1 (fun hs_ => Or.elim hs_ (fun hs_ => hs_.1.1.1.1.2) (fun hs_ => hs_.1.1.1.1.2)) (fun hn_ => (Kd.fresh' (Kd.S_lt (by (with_reducible repeat (first | apply Kd.S_alloc | apply Kd.S_drewN | apply Kd.S_drew)); exact HO457.out)) k_ hn_)), Or.elim hk_.1 (fun hs_ => Or.elim hs_ (fun hs_ => hs_.1.1.1.2) (fun hs_ => hs_.1.1.1.2)) (fun hn_ => (Kd.fresh' (Kd.R_lt (by (with_reducible repeat (first | apply Kd.R_alloc | apply Kd.R_drewN | apply Kd.R_drew)); exact HO462.out)) k_ hn_)), Or.elim hk_.1 (fun hs_ => Or.elim hs_ (fun hs_ => hs_.1.2) (fun hs_ => hs_.1.2)) (fun hn_ => (Kd.fresh' (Kd.R_lt (by (with_reducible repeat (first | apply Kd.R_alloc | apply Kd.R_drewN | apply Kd.R_drew)); exact HO465.out)) k_ hn_)), Or.elim hk_.1 (fun hs_ => Or.elim hs_ (fun hs_ => hs_.2) (fun hs_ => hs_.2)) (fun hn_ => (Kd.freshB (g := gb458) (o := .cells #[.slice Ao17 t440.length co17, .bool t443, .int .i64 t444, .string t445, .string t446, .string t447, .string t448, .bool t449, .bool t450, .bool t451, .slice Ao19 t452.length co19, .slice Ao20 t455.length co20] 35 (0, 0)) (by (with_reducible repeat (first | refine blk_drewN ?_ _ | refine blk_drew ?_ | refine blk_alloc ?_ _)); exact BK458.out) k_ hn_))⟩)) (below_size (by repeat (first | (with_reducible first | exact HB.out | apply below_alloc | apply pw_below_drewN | apply below_drew1 | refine below_set ?_ GE458.out) | exact HB.out))))
        have n10_ := Aside0.mk (blk_below (g := gb458) (o := .cells #[.slice Ao17 t440.length co17, .bool t443, .int .i64 t444, .string t445, .string t446, .string t447, .string t448, .bool t449, .bool t450, .bool t451, .slice Ao19 t452.length co19, .slice Ao20 t455.length co20] 35 (0, 0)) (by (with_reducible repeat (first | refine blk_drewN ?_ _ | refine blk_drew ?_ | refine blk_alloc ?_ _)); exact BK458.out) hb)
        have n11_ := Aside0.mk (below_step (by repeat (first | (with_reducible first | exact HB.out | apply below_alloc | apply pw_below_drewN | apply below_drew1 | refine below_set ?_ GE458.out) | exact HB.out)) hb)
        clear HO442
        clear HO454
        clear HO457
        clear HO462
        clear HO465
        clear HO477
        clear HO480
        clear BK458
        clear HB
        have HO442 := n0_
        have HO454 := n1_
        have HO457 := n2_
        have HO462 := n3_
        have HO465 := n4_
        have HO477 := n5_
        have HO480 := n6_
        have HO483 := n7_
        have HO495 := n8_
        have HO498 := n9_
        have BK458 := n10_
        have HB := n11_
        clear n0_ n1_ n2_ n3_ n4_ n5_ n6_ n7_ n8_ n9_ n10_ n11_
        (try clear hb)
        (try clear hb2)
        (try clear hk)
        (try clear hi)
        (try clear ho0)
        (try clear ho1)
        (try clear ho2)
        refine hK.out _ _ ⟨(blk_cell BK458.out 0).trans rfl, (blk_cell BK458.out 1).trans rfl, (blk_cell BK458.out 2).trans rfl, (blk_cell BK458.out 3).trans rfl, (blk_cell BK458.out 4).trans rfl, (blk_cell BK458.out 5).trans rfl, (blk_cell BK458.out 6).trans rfl, (blk_cell BK458.out 7).trans rfl, (blk_cell BK458.out 8).trans rfl, (blk_cell BK458.out 9).trans rfl, (blk_cell BK458.out 10).trans rfl, (blk_cell BK458.out 11).trans rfl⟩ (fun hHeld => ?_)
        clear hK K
        refine norm_ (a' := ?_) ?_ ?_
        rotate_left
        · show Act.put _ (some 21) _ = _
          simp only [Act.put, List.setIfInBounds_toArray, List.set_cons_zero, List.set_cons_succ, i64_w, i32_w]
          rfl
        refine one_ (i := 11) (N := some 23) #[true, true, true, true, true, true, true, true, true, true, true, true, false, false, false] rfl rfl (one_of HT_.out (by kernel_rfl)) (by decide) (fun K hK => ?_)
        refine goes_ Try.func15 (by kernel_rfl) rfl #[.agg #[.slice Ao17 t440.length co17, .bool t443, .int .i64 t444, .string t445, .string t446, .string t447, .string t448, .bool t449, .bool t450, .bool t451, .slice Ao19 t452.length co19, .slice Ao20 t455.length co20]] (by rfl) rfl rfl (by (try simp only [List.map_toArray, List.map_cons, List.map_nil]); first | done | rfl | (simp only [List.length_drop, List.length_take]; rfl)) ?_
        with_reducible refine (hornbooklaw23_planned.calls k _ _ t440 t443 t444 t445 t446 t447 t448 t449 t450 t451 (fun k_ => (((((((some k_ ≠ (.slice Ao20 t455.length co20 : Value).ownBlock ∧ some k_ ≠ (.slice Ao25 t460.length co25 : Value).ownBlock) ∧ some k_ ≠ (.slice Ao28 t475.length co28 : Value).ownBlock) ∧ some k_ ≠ (.slice Ao29 t478.length co29 : Value).ownBlock) ∧ some k_ ≠ (.slice Ao17 t440.length co17 : Value).ownBlock) ∧ some k_ ≠ (.slice Ao27 t463.length co27 : Value).ownBlock) ∧ some k_ ≠ (v482 : Value).ownBlock) ∧ k_ ≠ gb458)) _ _ t452 (fun k_ => (((((((some k_ ≠ (.slice Ao19 t452.length co19 : Value).ownBlock ∧ some k_ ≠ (.slice Ao25 t460.length co25 : Value).ownBlock) ∧ some k_ ≠ (.slice Ao28 t475.length co28 : Value).ownBlock) ∧ some k_ ≠ (.slice Ao29 t478.length co29 : Value).ownBlock) ∧ some k_ ≠ (.slice Ao17 t440.length co17 : Value).ownBlock) ∧ some k_ ≠ (.slice Ao27 t463.length co27 : Value).ownBlock) ∧ some k_ ≠ (v482 : Value).ownBlock) ∧ k_ ≠ gb458)) _ _ t455 t499 t502 t503 t504 t505 t506 t507 t508 t509 t510 t511 t514 _ ?side1 ?side2 ?side3 ?side4 A12.out).mono ?_
        (case side1 => repeat (first | exact (Kd.R_reads' HO442.out).2.2 | (with_reducible refine Kd.C_alloc ?_ _) | (with_reducible refine Kd.C_drewN ?_ _) | (with_reducible refine Kd.C_drew ?_)))
        (case side2 => exact (Kd.R_reads' HO442.out).2.1)
        (case side3 => exact Kd.S_V (Kd.S_types (Kd.S_apart' (Kd.S_apart' (Kd.S_apart' (HO454.out) (Kd.R_typed HO442.out) (by decide)) (Kd.R_typed HO465.out) (by decide)) (Kd.R_typed HO483.out) (by decide)) BK458.out (by decide)))
        (case side4 => exact Kd.S_V (Kd.S_types (Kd.S_apart' (Kd.S_apart' (Kd.S_apart' (HO457.out) (Kd.R_typed HO442.out) (by decide)) (Kd.R_typed HO465.out) (by decide)) (Kd.R_typed HO483.out) (by decide)) BK458.out (by decide)))
        rintro e w31 ⟨v500, v512, v515, rfl, ho0, ho1, ho2, hb⟩
        refine ⟨_, rfl, ?_⟩
        have n0_ := Aside0.mk (Kd.R_below (by (with_reducible repeat (first | apply Kd.R_alloc | apply Kd.R_drewN | apply Kd.R_drew)); exact HO442.out) hb)
        have n1_ := Aside0.mk (Kd.S_below (by (with_reducible repeat (first | apply Kd.S_alloc | apply Kd.S_drewN | apply Kd.S_drew)); exact HO454.out) hb)
        have n2_ := Aside0.mk (Kd.S_below (by (with_reducible repeat (first | apply Kd.S_alloc | apply Kd.S_drewN | apply Kd.S_drew)); exact HO457.out) hb)
        have n3_ := Aside0.mk (Kd.R_below (by (with_reducible repeat (first | apply Kd.R_alloc | apply Kd.R_drewN | apply Kd.R_drew)); exact HO462.out) hb)
        have n4_ := Aside0.mk (Kd.R_below (by (with_reducible repeat (first | apply Kd.R_alloc | apply Kd.R_drewN | apply Kd.R_drew)); exact HO465.out) hb)
        have n5_ := Aside0.mk (Kd.S_below (by (with_reducible repeat (first | apply Kd.S_alloc | apply Kd.S_drewN | apply Kd.S_drew)); exact HO477.out) hb)
        have n6_ := Aside0.mk (Kd.S_below (by (with_reducible repeat (first | apply Kd.S_alloc | apply Kd.S_drewN | apply Kd.S_drew)); exact HO480.out) hb)
        have n7_ := Aside0.mk (Kd.R_elder' (by (with_reducible repeat (first | apply Kd.R_alloc | apply Kd.R_drewN | apply Kd.R_drew)); exact HO483.out) (Kd.R_base ho0) hb)
        have n8_ := Aside0.mk (Kd.V_elder' (by (with_reducible repeat (first | apply Kd.V_alloc | apply Kd.V_drewN | apply Kd.V_drew)); exact HO495.out) (Kd.R_base ho0) hb)
        have n9_ := Aside0.mk (Kd.V_elder' (by (with_reducible repeat (first | apply Kd.V_alloc | apply Kd.V_drewN | apply Kd.V_drew)); exact HO498.out) (Kd.R_base ho0) hb)
        have n10_ := Aside0.mk (Kd.R_lower (Kd.R_new' (Kd.R_mono (ok' := fun k_ => True) ho0 (fun _ hk_ => trivial)) (Kd.R_lt (by (with_reducible repeat (first | apply Kd.R_alloc | apply Kd.R_drewN | apply Kd.R_drew)); exact HO483.out))) (below_size (by repeat (first | (with_reducible first | exact HB.out | apply below_alloc | apply pw_below_drewN | apply below_drew1 | refine below_set ?_ GE458.out) | exact HB.out))))
        have n11_ := Aside0.mk (Kd.V_lower (Kd.V_mono (ok' := fun k_ => some k_ ≠ (v500 : Value).ownBlock ∧ some k_ ≠ (.slice Ao17 t440.length co17 : Value).ownBlock ∧ some k_ ≠ (.slice Ao25 t460.length co25 : Value).ownBlock ∧ some k_ ≠ (.slice Ao27 t463.length co27 : Value).ownBlock ∧ some k_ ≠ (.slice Ao28 t475.length co28 : Value).ownBlock ∧ some k_ ≠ (.slice Ao29 t478.length co29 : Value).ownBlock ∧ some k_ ≠ (v482 : Value).ownBlock ∧ k_ ≠ gb458) ho1 (fun k_ hk_ => ⟨hk_.2, Or.elim hk_.1 (fun hs_ => Or.elim hs_ (fun hs_ => hs_.1.1.1.2) (fun hs_ => hs_.1.1.1.2)) (fun hn_ => (Kd.fresh' (Kd.R_lt (by (with_reducible repeat (first | apply Kd.R_alloc | apply Kd.R_drewN | apply Kd.R_drew)); exact HO442.out)) k_ hn_)), Or.elim hk_.1 (fun hs_ => Or.elim hs_ (fun hs_ => hs_.1.1.1.1.1.1.2) (fun hs_ => hs_.1.1.1.1.1.1.2)) (fun hn_ => (Kd.fresh' (Kd.R_lt (by (with_reducible repeat (first | apply Kd.R_alloc | apply Kd.R_drewN | apply Kd.R_drew)); exact HO462.out)) k_ hn_)), Or.elim hk_.1 (fun hs_ => Or.elim hs_ (fun hs_ => hs_.1.1.2) (fun hs_ => hs_.1.1.2)) (fun hn_ => (Kd.fresh' (Kd.R_lt (by (with_reducible repeat (first | apply Kd.R_alloc | apply Kd.R_drewN | apply Kd.R_drew)); exact HO465.out)) k_ hn_)), Or.elim hk_.1 (fun hs_ => Or.elim hs_ (fun hs_ => hs_.1.1.1.1.1.2) (fun hs_ => hs_.1.1.1.1.1.2)) (fun hn_ => (Kd.fresh' (Kd.S_lt (by (with_reducible repeat (first | apply Kd.S_alloc | apply Kd.S_drewN | apply Kd.S_drew)); exact HO477.out)) k_ hn_)), Or.elim hk_.1 (fun hs_ => Or.elim hs_ (fun hs_ => hs_.1.1.1.1.2) (fun hs_ => hs_.1.1.1.1.2)) (fun hn_ => (Kd.fresh' (Kd.S_lt (by (with_reducible repeat (first | apply Kd.S_alloc | apply Kd.S_drewN | apply Kd.S_drew)); exact HO480.out)) k_ hn_)), Or.elim hk_.1 (fun hs_ => Or.elim hs_ (fun hs_ => hs_.1.2) (fun hs_ => hs_.1.2)) (fun hn_ => (Kd.fresh' (Kd.R_lt (by (with_reducible repeat (first | apply Kd.R_alloc | apply Kd.R_drewN | apply Kd.R_drew)); exact HO483.out)) k_ hn_)), Or.elim hk_.1 (fun hs_ => Or.elim hs_ (fun hs_ => hs_.2) (fun hs_ => hs_.2)) (fun hn_ => (Kd.freshB (g := gb458) (o := .cells #[.slice Ao17 t440.length co17, .bool t443, .int .i64 t444, .string t445, .string t446, .string t447, .string t448, .bool t449, .bool t450, .bool t451, .slice Ao19 t452.length co19, .slice Ao20 t455.length co20] 35 (0, 0)) (by (with_reducible repeat (first | refine blk_drewN ?_ _ | refine blk_drew ?_ | refine blk_alloc ?_ _)); exact BK458.out) k_ hn_))⟩)) (below_size (by repeat (first | (with_reducible first | exact HB.out | apply below_alloc | apply pw_below_drewN | apply below_drew1 | refine below_set ?_ GE458.out) | exact HB.out))))
        have n12_ := Aside0.mk (Kd.V_lower (Kd.V_mono (ok' := fun k_ => some k_ ≠ (v500 : Value).ownBlock ∧ some k_ ≠ (.slice Ao17 t440.length co17 : Value).ownBlock ∧ some k_ ≠ (.slice Ao25 t460.length co25 : Value).ownBlock ∧ some k_ ≠ (.slice Ao27 t463.length co27 : Value).ownBlock ∧ some k_ ≠ (.slice Ao28 t475.length co28 : Value).ownBlock ∧ some k_ ≠ (.slice Ao29 t478.length co29 : Value).ownBlock ∧ some k_ ≠ (v482 : Value).ownBlock ∧ k_ ≠ gb458) ho2 (fun k_ hk_ => ⟨hk_.2, Or.elim hk_.1 (fun hs_ => Or.elim hs_ (fun hs_ => hs_.1.1.1.2) (fun hs_ => hs_.1.1.1.2)) (fun hn_ => (Kd.fresh' (Kd.R_lt (by (with_reducible repeat (first | apply Kd.R_alloc | apply Kd.R_drewN | apply Kd.R_drew)); exact HO442.out)) k_ hn_)), Or.elim hk_.1 (fun hs_ => Or.elim hs_ (fun hs_ => hs_.1.1.1.1.1.1.2) (fun hs_ => hs_.1.1.1.1.1.1.2)) (fun hn_ => (Kd.fresh' (Kd.R_lt (by (with_reducible repeat (first | apply Kd.R_alloc | apply Kd.R_drewN | apply Kd.R_drew)); exact HO462.out)) k_ hn_)), Or.elim hk_.1 (fun hs_ => Or.elim hs_ (fun hs_ => hs_.1.1.2) (fun hs_ => hs_.1.1.2)) (fun hn_ => (Kd.fresh' (Kd.R_lt (by (with_reducible repeat (first | apply Kd.R_alloc | apply Kd.R_drewN | apply Kd.R_drew)); exact HO465.out)) k_ hn_)), Or.elim hk_.1 (fun hs_ => Or.elim hs_ (fun hs_ => hs_.1.1.1.1.1.2) (fun hs_ => hs_.1.1.1.1.1.2)) (fun hn_ => (Kd.fresh' (Kd.S_lt (by (with_reducible repeat (first | apply Kd.S_alloc | apply Kd.S_drewN | apply Kd.S_drew)); exact HO477.out)) k_ hn_)), Or.elim hk_.1 (fun hs_ => Or.elim hs_ (fun hs_ => hs_.1.1.1.1.2) (fun hs_ => hs_.1.1.1.1.2)) (fun hn_ => (Kd.fresh' (Kd.S_lt (by (with_reducible repeat (first | apply Kd.S_alloc | apply Kd.S_drewN | apply Kd.S_drew)); exact HO480.out)) k_ hn_)), Or.elim hk_.1 (fun hs_ => Or.elim hs_ (fun hs_ => hs_.1.2) (fun hs_ => hs_.1.2)) (fun hn_ => (Kd.fresh' (Kd.R_lt (by (with_reducible repeat (first | apply Kd.R_alloc | apply Kd.R_drewN | apply Kd.R_drew)); exact HO483.out)) k_ hn_)), Or.elim hk_.1 (fun hs_ => Or.elim hs_ (fun hs_ => hs_.2) (fun hs_ => hs_.2)) (fun hn_ => (Kd.freshB (g := gb458) (o := .cells #[.slice Ao17 t440.length co17, .bool t443, .int .i64 t444, .string t445, .string t446, .string t447, .string t448, .bool t449, .bool t450, .bool t451, .slice Ao19 t452.length co19, .slice Ao20 t455.length co20] 35 (0, 0)) (by (with_reducible repeat (first | refine blk_drewN ?_ _ | refine blk_drew ?_ | refine blk_alloc ?_ _)); exact BK458.out) k_ hn_))⟩)) (below_size (by repeat (first | (with_reducible first | exact HB.out | apply below_alloc | apply pw_below_drewN | apply below_drew1 | refine below_set ?_ GE458.out) | exact HB.out))))
        have n13_ := Aside0.mk (blk_below (g := gb458) (o := .cells #[.slice Ao17 t440.length co17, .bool t443, .int .i64 t444, .string t445, .string t446, .string t447, .string t448, .bool t449, .bool t450, .bool t451, .slice Ao19 t452.length co19, .slice Ao20 t455.length co20] 35 (0, 0)) (by (with_reducible repeat (first | refine blk_drewN ?_ _ | refine blk_drew ?_ | refine blk_alloc ?_ _)); exact BK458.out) hb)
        have n14_ := Aside0.mk (below_step (by repeat (first | (with_reducible first | exact HB.out | apply below_alloc | apply pw_below_drewN | apply below_drew1 | refine below_set ?_ GE458.out) | exact HB.out)) hb)
        clear HO442
        clear HO454
        clear HO457
        clear HO462
        clear HO465
        clear HO477
        clear HO480
        clear HO483
        clear HO495
        clear HO498
        clear BK458
        clear HB
        have HO442 := n0_
        have HO454 := n1_
        have HO457 := n2_
        have HO462 := n3_
        have HO465 := n4_
        have HO477 := n5_
        have HO480 := n6_
        have HO483 := n7_
        have HO495 := n8_
        have HO498 := n9_
        have HO501 := n10_
        have HO513 := n11_
        have HO516 := n12_
        have BK458 := n13_
        have HB := n14_
        clear n0_ n1_ n2_ n3_ n4_ n5_ n6_ n7_ n8_ n9_ n10_ n11_ n12_ n13_ n14_
        (try clear hb)
        (try clear hb2)
        (try clear hk)
        (try clear hi)
        (try clear ho0)
        (try clear ho1)
        (try clear ho2)
        obtain ⟨Ao32, co32, eo32⟩ := Kd.R_slice HO483.out
        (first | subst eo32 | (injection eo32 with f1_ f2_ f3_; have f4_ := f1_.symm; have f5_ := f3_.symm; clear f1_ f2_ f3_; subst f4_; subst f5_))
        obtain ⟨Ao33, co33, eo33⟩ := Kd.V_slice HO495.out
        (first | subst eo33 | (injection eo33 with f1_ f2_ f3_; have f4_ := f1_.symm; have f5_ := f3_.symm; clear f1_ f2_ f3_; subst f4_; subst f5_))
        obtain ⟨Ao34, co34, eo34⟩ := Kd.V_slice HO498.out
        (first | subst eo34 | (injection eo34 with f1_ f2_ f3_; have f4_ := f1_.symm; have f5_ := f3_.symm; clear f1_ f2_ f3_; subst f4_; subst f5_))
        obtain ⟨Ao35, co35, eo35⟩ := Kd.R_slice HO501.out
        (first | subst eo35 | (injection eo35 with f1_ f2_ f3_; have f4_ := f1_.symm; have f5_ := f3_.symm; clear f1_ f2_ f3_; subst f4_; subst f5_))
        obtain ⟨Ao36, co36, eo36⟩ := Kd.V_slice HO513.out
        (first | subst eo36 | (injection eo36 with f1_ f2_ f3_; have f4_ := f1_.symm; have f5_ := f3_.symm; clear f1_ f2_ f3_; subst f4_; subst f5_))
        obtain ⟨Ao37, co37, eo37⟩ := Kd.V_slice HO516.out
        (first | subst eo37 | (injection eo37 with f1_ f2_ f3_; have f4_ := f1_.symm; have f5_ := f3_.symm; clear f1_ f2_ f3_; subst f4_; subst f5_))
        refine hK.out _ _ ⟨(blk_cell BK458.out 0).trans rfl, (blk_cell BK458.out 1).trans rfl, (blk_cell BK458.out 2).trans rfl, (blk_cell BK458.out 3).trans rfl, (blk_cell BK458.out 4).trans rfl, (blk_cell BK458.out 5).trans rfl, (blk_cell BK458.out 6).trans rfl, (blk_cell BK458.out 7).trans rfl, (blk_cell BK458.out 8).trans rfl, (blk_cell BK458.out 9).trans rfl, (blk_cell BK458.out 10).trans rfl, (blk_cell BK458.out 11).trans rfl⟩ (fun hHeld => ?_)
        clear hK K
        refine norm_ (a' := ?_) ?_ ?_
        rotate_left
        · show Act.put _ (some 23) _ = _
          simp only [Act.put, List.setIfInBounds_toArray, List.set_cons_zero, List.set_cons_succ, i64_w, i32_w]
          rfl
        refine one_ (i := 12) (N := some 24) #[true, true, true, true, true, true, true, true, true, true, true, true, true, false, false] rfl rfl (one_of HT_.out (by kernel_rfl)) (by decide) (fun K hK => ?_)
        refine goes_ Try.func14 (by kernel_rfl) rfl #[.agg #[.slice Ao32 t481.length co32, .bool t484, .int .i64 t485, .string t486, .string t487, .string t488, .string t489, .bool t490, .bool t491, .bool t492, .slice Ao33 t493.length co33, .slice Ao34 t496.length co34], .agg #[.slice Ao35 t499.length co35, .bool t502, .int .i64 t503, .string t504, .string t505, .string t506, .string t507, .bool t508, .bool t509, .bool t510, .slice Ao36 t511.length co36, .slice Ao37 t514.length co37]] (by rfl) rfl rfl (by (try simp only [List.map_toArray, List.map_cons, List.map_nil]); first | done | rfl | (simp only [List.length_drop, List.length_take]; rfl)) ?_
        with_reducible refine (hornbookref23_Same.calls k _ _ t481 t484 t485 t486 t487 t488 t489 t490 t491 t492 _ _ t493 _ _ t496 _ _ t499 t502 t503 t504 t505 t506 t507 t508 t509 t510 _ _ t511 _ _ t514 t517 _ ?side1 ?side2 ?side3 ?side4 ?side5 ?side6 ?side7 ?side8 ?side9 ?side10 ?side11 ?side12 A13.out).mono ?_
        (case side1 => repeat (first | exact (Kd.R_reads' HO483.out).2.2 | (with_reducible refine Kd.C_alloc ?_ _) | (with_reducible refine Kd.C_drewN ?_ _) | (with_reducible refine Kd.C_drew ?_)))
        (case side2 => exact (Kd.R_reads' HO483.out).2.1)
        (case side3 => repeat (first | exact (Kd.V_reads' HO495.out).2.2 | (with_reducible refine Kd.C_alloc ?_ _) | (with_reducible refine Kd.C_drewN ?_ _) | (with_reducible refine Kd.C_drew ?_)))
        (case side4 => exact (Kd.V_reads' HO495.out).2.1)
        (case side5 => repeat (first | exact (Kd.V_reads' HO498.out).2.2 | (with_reducible refine Kd.C_alloc ?_ _) | (with_reducible refine Kd.C_drewN ?_ _) | (with_reducible refine Kd.C_drew ?_)))
        (case side6 => exact (Kd.V_reads' HO498.out).2.1)
        (case side7 => repeat (first | exact (Kd.R_reads' HO501.out).2.2 | (with_reducible refine Kd.C_alloc ?_ _) | (with_reducible refine Kd.C_drewN ?_ _) | (with_reducible refine Kd.C_drew ?_)))
        (case side8 => exact (Kd.R_reads' HO501.out).2.1)
        (case side9 => repeat (first | exact (Kd.V_reads' HO513.out).2.2 | (with_reducible refine Kd.C_alloc ?_ _) | (with_reducible refine Kd.C_drewN ?_ _) | (with_reducible refine Kd.C_drew ?_)))
        (case side10 => exact (Kd.V_reads' HO513.out).2.1)
        (case side11 => repeat (first | exact (Kd.V_reads' HO516.out).2.2 | (with_reducible refine Kd.C_alloc ?_ _) | (with_reducible refine Kd.C_drewN ?_ _) | (with_reducible refine Kd.C_drew ?_)))
        (case side12 => exact (Kd.V_reads' HO516.out).2.1)
        rintro e w38 ⟨rfl, hb⟩
        refine ⟨_, rfl, ?_⟩
        have n0_ := Aside0.mk (Kd.R_below (by (with_reducible repeat (first | apply Kd.R_alloc | apply Kd.R_drewN | apply Kd.R_drew)); exact HO442.out) hb)
        have n1_ := Aside0.mk (Kd.S_below (by (with_reducible repeat (first | apply Kd.S_alloc | apply Kd.S_drewN | apply Kd.S_drew)); exact HO454.out) hb)
        have n2_ := Aside0.mk (Kd.S_below (by (with_reducible repeat (first | apply Kd.S_alloc | apply Kd.S_drewN | apply Kd.S_drew)); exact HO457.out) hb)
        have n3_ := Aside0.mk (Kd.R_below (by (with_reducible repeat (first | apply Kd.R_alloc | apply Kd.R_drewN | apply Kd.R_drew)); exact HO462.out) hb)
        have n4_ := Aside0.mk (Kd.R_below (by (with_reducible repeat (first | apply Kd.R_alloc | apply Kd.R_drewN | apply Kd.R_drew)); exact HO465.out) hb)
        have n5_ := Aside0.mk (Kd.S_below (by (with_reducible repeat (first | apply Kd.S_alloc | apply Kd.S_drewN | apply Kd.S_drew)); exact HO477.out) hb)
        have n6_ := Aside0.mk (Kd.S_below (by (with_reducible repeat (first | apply Kd.S_alloc | apply Kd.S_drewN | apply Kd.S_drew)); exact HO480.out) hb)
        have n7_ := Aside0.mk (Kd.R_below (by (with_reducible repeat (first | apply Kd.R_alloc | apply Kd.R_drewN | apply Kd.R_drew)); exact HO483.out) hb)
        have n8_ := Aside0.mk (Kd.V_below (by (with_reducible repeat (first | apply Kd.V_alloc | apply Kd.V_drewN | apply Kd.V_drew)); exact HO495.out) hb)
        have n9_ := Aside0.mk (Kd.V_below (by (with_reducible repeat (first | apply Kd.V_alloc | apply Kd.V_drewN | apply Kd.V_drew)); exact HO498.out) hb)
        have n10_ := Aside0.mk (Kd.R_below (by (with_reducible repeat (first | apply Kd.R_alloc | apply Kd.R_drewN | apply Kd.R_drew)); exact HO501.out) hb)
        have n11_ := Aside0.mk (Kd.V_below (by (with_reducible repeat (first | apply Kd.V_alloc | apply Kd.V_drewN | apply Kd.V_drew)); exact HO513.out) hb)
        have n12_ := Aside0.mk (Kd.V_below (by (with_reducible repeat (first | apply Kd.V_alloc | apply Kd.V_drewN | apply Kd.V_drew)); exact HO516.out) hb)
        have n13_ := Aside0.mk (blk_below (g := gb458) (o := .cells #[.slice Ao17 t440.length co17, .bool t443, .int .i64 t444, .string t445, .string t446, .string t447, .string t448, .bool t449, .bool t450, .bool t451, .slice Ao19 t452.length co19, .slice Ao20 t455.length co20] 35 (0, 0)) (by (with_reducible repeat (first | refine blk_drewN ?_ _ | refine blk_drew ?_ | refine blk_alloc ?_ _)); exact BK458.out) hb)
        have n14_ := Aside0.mk (below_step (by repeat (first | (with_reducible first | exact HB.out | apply below_alloc | apply pw_below_drewN | apply below_drew1 | refine below_set ?_ GE458.out) | exact HB.out)) hb)
        clear HO442
        clear HO454
        clear HO457
        clear HO462
        clear HO465
        clear HO477
        clear HO480
        clear HO483
        clear HO495
        clear HO498
        clear HO501
        clear HO513
        clear HO516
        clear BK458
        clear HB
        have HO442 := n0_
        have HO454 := n1_
        have HO457 := n2_
        have HO462 := n3_
        have HO465 := n4_
        have HO477 := n5_
        have HO480 := n6_
        have HO483 := n7_
        have HO495 := n8_
        have HO498 := n9_
        have HO501 := n10_
        have HO513 := n11_
        have HO516 := n12_
        have BK458 := n13_
        have HB := n14_
        clear n0_ n1_ n2_ n3_ n4_ n5_ n6_ n7_ n8_ n9_ n10_ n11_ n12_ n13_ n14_
        (try clear hb)
        (try clear hb2)
        (try clear hk)
        (try clear hi)
        refine hK.out _ _ ⟨(blk_cell BK458.out 0).trans rfl, (blk_cell BK458.out 1).trans rfl, (blk_cell BK458.out 2).trans rfl, (blk_cell BK458.out 3).trans rfl, (blk_cell BK458.out 4).trans rfl, (blk_cell BK458.out 5).trans rfl, (blk_cell BK458.out 6).trans rfl, (blk_cell BK458.out 7).trans rfl, (blk_cell BK458.out 8).trans rfl, (blk_cell BK458.out 9).trans rfl, (blk_cell BK458.out 10).trans rfl, (blk_cell BK458.out 11).trans rfl⟩ (fun hHeld => ?_)
        clear hK K
        refine norm_ (a' := ?_) ?_ ?_
        rotate_left
        · show Act.put _ (some 24) _ = _
          simp only [Act.put, List.setIfInBounds_toArray, List.set_cons_zero, List.set_cons_succ, i64_w, i32_w]
          rfl
        refine pure_ (i := 13) (N := some 25) (v := ?_) (a' := ?_) #[true, true, true, true, true, true, true, true, true, true, true, true, true, true, false] rfl rfl (any_of HT_.out (by kernel_rfl)) (fun _ _ _ h => h) (Or.inl ⟨by rfl, ?_⟩) ?_ ?_
        rotate_left
        · intro w'
          go_simp
          with_reducible rfl
        rotate_left
        · simp only [Act.put, List.setIfInBounds_toArray, List.set_cons_zero, List.set_cons_succ, i64_w, i32_w]
          rfl
        refine pure_ (i := 14) (N := some 2) (v := ?_) (a' := ?_) #[true, true, true, true, true, true, true, true, true, true, true, true, true, true, true] rfl rfl (any_of HT_.out (by kernel_rfl)) (fun _ _ _ h => h) (Or.inl ⟨by rfl, ?_⟩) ?_ ?_
        rotate_left
        · intro w'
          go_simp
          with_reducible rfl
        rotate_left
        · simp only [Act.put, List.setIfInBounds_toArray, List.set_cons_zero, List.set_cons_succ, i64_w, i32_w]
          rfl
        refine done_ (done_of HT_.out (by kernel_rfl)) ?_
        try go_wp2
        go_ret
        exact ⟨by first | rfl | (simp [errW_none, errW_some] <;> rfl) | (simp [*, errW_none, errW_some] <;> rfl), by repeat (first | (with_reducible first | exact HB.out | apply below_alloc | apply pw_below_drewN | apply below_drew1 | refine below_set ?_ GE458.out) | exact HB.out)⟩
      · replace c8 := Bool.eq_false_iff.mpr c8
        subst c8
        have H1 : (some false) = some r := by rw [if_neg (show ¬ (false = true) by decide)] at H; exact H
        clear H
        have H := H1
        clear H1
        exact absurd ((Option.some.inj H).trans hT.out) (by decide)
    · replace c6 := Bool.eq_false_iff.mpr c6
      subst c6
      have H1 : (some false) = some r := by rw [if_neg (show ¬ (false = true) by decide)] at H; exact H
      clear H
      have H := H1
      clear H1
      exact absurd ((Option.some.inj H).trans hT.out) (by decide)

/-- THE ONE PURE STATEMENT of hornbooklaw23_ScriptGood: yours. -/
def hornbooklaw23_ScriptGood.Pure : Prop := ∀ (l0 : List Int), l0.length ≤ maxLen → l0.length * 1 ≤ 140737488351232 → (∀ x ∈ l0, (Lit.int .u8 x).wf = true) → ∃ k, hornbooklaw23_ScriptGood.f k l0 = some true
theorem hornbooklaw23_ScriptGood.walk (P : hornbooklaw23_ScriptGood.Pure) (a0 : Option Addr) (len0 cap0 : Nat) (z0 : List Int) (w : World) (w0 : (a0 = none ∧ len0 = 0 ∧ cap0 = 0 ∧ z0 = []) ∨ ∃ x, a0 = some x ∧ len0 ≤ cap0 ∧ cap0 ≤ maxLen ∧ z0.length = cap0 ∧ (∀ i, i < z0.length → w.cell? (x.add i) = some (.int .u8 (z0.getD i 0))) ∧ ∀ n ∈ z0, (Lit.int .u8 n).wf = true) (y0 : len0 * 1 ≤ 140737488351232) :
    Calls Try.prog 5 #[.slice a0 len0 cap0] w fun e w' => e = .returned (.bool true) ∧ Below w.heap.size w w' := by
  obtain ⟨l0, rfl, hr0, hm0, hw0, hc0⟩ := ReadsInt.ofRowC w0
  obtain ⟨k, h⟩ := P l0 hm0 y0 hw0
  refine (hornbooklaw23_ScriptGood.calls k _ _ l0 true w (Kd.C_of_reads (d := (0 : Int)) (h1 := fun _ => rfl) hr0) hc0 h ⟨rfl⟩).mono ?_
  rintro e w' ⟨rfl, hd⟩
  exact ⟨rfl, hd⟩

end Go.Proofs.Ytojfhlbchiaccaa.Print
