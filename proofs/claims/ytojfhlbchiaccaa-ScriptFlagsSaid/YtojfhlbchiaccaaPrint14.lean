-- made by wip/tools/xprint.py
import Derived.Test.YtojfhlbchiaccaaPrint0
import Derived.Test.YtojfhlbchiaccaaPrint1
import Derived.Test.YtojfhlbchiaccaaPrint3
import Derived.Test.YtojfhlbchiaccaaPrint4
import Derived.Test.YtojfhlbchiaccaaPrint5
import Derived.Test.YtojfhlbchiaccaaPrint9
import Derived.Test.YtojfhlbchiaccaaPrint10
namespace Go.Proofs.Ytojfhlbchiaccaa.Print
open Go.RowKit Go.Proofs.YtojfhlbchiaccaaW.PrintWords Go.Proofs.YtojfhlbchiaccaaW.PrintLast Go.Proofs.YtojfhlbchiaccaaW.PrintMore
attribute [local go_sem] max2_int min2_int max_two min_two max_three min_three max_four min_four   -- for this text's walks alone
set_option linter.unusedVariables false
set_option linter.unusedSimpArgs false

attribute [local go_sem high] eqA24
/-! ### hornbooklaw23_ScriptFlags: function 6 -/
mutual
def hornbooklaw23_ScriptFlags.j0 : Nat → Int → Bool → Bool → List (S54) → Bool → Int → ByteArray → ByteArray → ByteArray → ByteArray → Bool → Bool → Bool → List (List Int) → List (List Int) → Option (Bool)
  | 0, _, _, _, _, _, _, _, _, _, _, _, _, _, _, _ => none
  | k + 1, x1, x5, x20, x519000, x519001, x519002, x519003, x519004, x519005, x519006, x519007, x519008, x519009, x519010, x519011 => if x20 = true then (some x5) else ((hornbooklaw23_plan.f k x519000 x519001 x519002 x519003 x519004 x519005 x519006 x519007 x519008 x519009 x519010 x519011).bind fun bt541 => ((script_Put.f bt541.1 bt541.2.1 bt541.2.2.1 bt541.2.2.2.1 bt541.2.2.2.2.1 bt541.2.2.2.2.2.1 bt541.2.2.2.2.2.2.1 bt541.2.2.2.2.2.2.2.1 bt541.2.2.2.2.2.2.2.2.1 bt541.2.2.2.2.2.2.2.2.2.1 bt541.2.2.2.2.2.2.2.2.2.2.1 bt541.2.2.2.2.2.2.2.2.2.2.2).bind fun t559 => ((hornbooklaw23_plan.f k x519000 ((Go.bits .and .i64 x1 1) == 1) x519002 x519003 x519004 x519005 x519006 ((Go.bits .and .i64 x1 2) == 2) ((Go.bits .and .i64 x1 4) == 4) ((Go.bits .and .i64 x1 8) == 8) x519010 x519011).bind fun bt562 => ((script_Put.f bt562.1 bt562.2.1 bt562.2.2.1 bt562.2.2.2.1 bt562.2.2.2.2.1 bt562.2.2.2.2.2.1 bt562.2.2.2.2.2.2.1 bt562.2.2.2.2.2.2.2.1 bt562.2.2.2.2.2.2.2.2.1 bt562.2.2.2.2.2.2.2.2.2.1 bt562.2.2.2.2.2.2.2.2.2.2.1 bt562.2.2.2.2.2.2.2.2.2.2.2).bind fun t580 => (if (t559.length : Int) = (t580.length : Int) then (hornbooklaw23_ScriptFlags.l0 k x5 t559 t580 0 0 x519000 x519001 x519002 x519003 x519004 x519005 x519006 x519007 x519008 x519009 x519010 x519011 x519000 ((Go.bits .and .i64 x1 1) == 1) x519002 x519003 x519004 x519005 x519006 ((Go.bits .and .i64 x1 2) == 2) ((Go.bits .and .i64 x1 4) == 4) ((Go.bits .and .i64 x1 8) == 8) x519010 x519011) else (some false))))))
def hornbooklaw23_ScriptFlags.l0 : Nat → Bool → List Int → List Int → Int → Int → List (S54) → Bool → Int → ByteArray → ByteArray → ByteArray → ByteArray → Bool → Bool → Bool → List (List Int) → List (List Int) → List (S54) → Bool → Int → ByteArray → ByteArray → ByteArray → ByteArray → Bool → Bool → Bool → List (List Int) → List (List Int) → Option (Bool)
  | 0, _, _, _, _, _, _, _, _, _, _, _, _, _, _, _, _, _, _, _, _, _, _, _, _, _, _, _, _, _ => none
  | k + 1, x5, x7, x8, x9, x10, x519000, x519001, x519002, x519003, x519004, x519005, x519006, x519007, x519008, x519009, x519010, x519011, x541000, x541001, x541002, x541003, x541004, x541005, x541006, x541007, x541008, x541009, x541010, x541011 => if x10 < (x7.length : Int) then (if 0 ≤ x10 then (if x10 < (x8.length : Int) then (if (rd x7 x10) = (rd x8 x10) then (hornbooklaw23_ScriptFlags.l0 k x5 x7 x8 x9 (wrap64 (x10 + 1)) x519000 x519001 x519002 x519003 x519004 x519005 x519006 x519007 x519008 x519009 x519010 x519011 x541000 x541001 x541002 x541003 x541004 x541005 x541006 x541007 x541008 x541009 x541010 x541011) else (hornbooklaw23_ScriptFlags.l0 k x5 x7 x8 (wrap64 (x9 + 1)) (wrap64 (x10 + 1)) x519000 x519001 x519002 x519003 x519004 x519005 x519006 x519007 x519008 x519009 x519010 x519011 x541000 x541001 x541002 x541003 x541004 x541005 x541006 x541007 x541008 x541009 x541010 x541011)) else (none)) else (none)) else (if x5 = true then (if x9 ≤ 1 then (if ((x9 == 0) == (x519001 == x541001 && (x519002 == x541002 && (x519003.toList == x541003.toList && (x519004.toList == x541004.toList && (x519005.toList == x541005.toList && (x519006.toList == x541006.toList && (x519007 == x541007 && (x519008 == x541008 && (x519009 == x541009)))))))))) = true then ((script_Get.f x8).bind fun bt585 => ((hornbooklaw23_planned.f k bt585.1 bt585.2.1 bt585.2.2.1 bt585.2.2.2.1 bt585.2.2.2.2.1 bt585.2.2.2.2.2.1 bt585.2.2.2.2.2.2.1 bt585.2.2.2.2.2.2.2.1 bt585.2.2.2.2.2.2.2.2.1 bt585.2.2.2.2.2.2.2.2.2.1 bt585.2.2.2.2.2.2.2.2.2.2.1 bt585.2.2.2.2.2.2.2.2.2.2.2).bind fun bt603 => ((hornbookref23_Same.f k bt603.1 bt603.2.1 bt603.2.2.1 bt603.2.2.2.1 bt603.2.2.2.2.1 bt603.2.2.2.2.2.1 bt603.2.2.2.2.2.2.1 bt603.2.2.2.2.2.2.2.1 bt603.2.2.2.2.2.2.2.2.1 bt603.2.2.2.2.2.2.2.2.2.1 bt603.2.2.2.2.2.2.2.2.2.2.1 bt603.2.2.2.2.2.2.2.2.2.2.2 x541000 x541001 x541002 x541003 x541004 x541005 x541006 x541007 x541008 x541009 x541010 x541011).bind fun t621 => (some t621)))) else (some false)) else (some false)) else (some false))
end
def hornbooklaw23_ScriptFlags.f (k : Nat) (l0_0 : List (S54)) (a0_1 : Bool) (a0_2 : Int) (a0_3 : ByteArray) (a0_4 : ByteArray) (a0_5 : ByteArray) (a0_6 : ByteArray) (a0_7 : Bool) (a0_8 : Bool) (a0_9 : Bool) (l0_10 : List (List Int)) (l0_11 : List (List Int)) (a1 : Int) : Option (Bool) := (hornbooklaw23_awake.f).bind fun t519 => ((hornbookref23_Few.f k l0_0 a0_1 a0_2 a0_3 a0_4 a0_5 a0_6 a0_7 a0_8 a0_9 l0_10 l0_11).bind fun t520 => (if t520 = true then ((hornbooklaw23_plan.f k l0_0 a0_1 a0_2 a0_3 a0_4 a0_5 a0_6 a0_7 a0_8 a0_9 l0_10 l0_11).bind fun bt521 => ((script_Sane.f bt521.1 bt521.2.1 bt521.2.2.1 bt521.2.2.2.1 bt521.2.2.2.2.1 bt521.2.2.2.2.2.1 bt521.2.2.2.2.2.2.1 bt521.2.2.2.2.2.2.2.1 bt521.2.2.2.2.2.2.2.2.1 bt521.2.2.2.2.2.2.2.2.2.1 bt521.2.2.2.2.2.2.2.2.2.2.1 bt521.2.2.2.2.2.2.2.2.2.2.2).bind fun t539 => (hornbooklaw23_ScriptFlags.j0 k a1 t519 (!t539) l0_0 a0_1 a0_2 a0_3 a0_4 a0_5 a0_6 a0_7 a0_8 a0_9 l0_10 l0_11))) else (hornbooklaw23_ScriptFlags.j0 k a1 t519 true l0_0 a0_1 a0_2 a0_3 a0_4 a0_5 a0_6 a0_7 a0_8 a0_9 l0_10 l0_11)))
theorem hornbooklaw23_ScriptFlags.mono_l : ∀ k, (∀ y0 y1 y2 y3 y4 y5 y6 y7 y8 y9 y10 y11 y12 y13 y14, LeO (hornbooklaw23_ScriptFlags.j0 k y0 y1 y2 y3 y4 y5 y6 y7 y8 y9 y10 y11 y12 y13 y14) (hornbooklaw23_ScriptFlags.j0 (k + 1) y0 y1 y2 y3 y4 y5 y6 y7 y8 y9 y10 y11 y12 y13 y14)) ∧ (∀ y0 y1 y2 y3 y4 y5 y6 y7 y8 y9 y10 y11 y12 y13 y14 y15 y16 y17 y18 y19 y20 y21 y22 y23 y24 y25 y26 y27 y28, LeO (hornbooklaw23_ScriptFlags.l0 k y0 y1 y2 y3 y4 y5 y6 y7 y8 y9 y10 y11 y12 y13 y14 y15 y16 y17 y18 y19 y20 y21 y22 y23 y24 y25 y26 y27 y28) (hornbooklaw23_ScriptFlags.l0 (k + 1) y0 y1 y2 y3 y4 y5 y6 y7 y8 y9 y10 y11 y12 y13 y14 y15 y16 y17 y18 y19 y20 y21 y22 y23 y24 y25 y26 y27 y28))
  | 0 => ⟨fun _ _ _ _ _ _ _ _ _ _ _ _ _ _ _ r h => by simp [hornbooklaw23_ScriptFlags.j0] at h, fun _ _ _ _ _ _ _ _ _ _ _ _ _ _ _ _ _ _ _ _ _ _ _ _ _ _ _ _ _ r h => by simp [hornbooklaw23_ScriptFlags.l0] at h⟩
  | k + 1 => by
    obtain ⟨ih0, ih1⟩ := hornbooklaw23_ScriptFlags.mono_l k
    refine ⟨?_, ?_⟩
    · intro y0 y1 y2 y3 y4 y5 y6 y7 y8 y9 y10 y11 y12 y13 y14
      unfold hornbooklaw23_ScriptFlags.j0
      repeat' first
      | (with_reducible exact ih0 _ _ _ _ _ _ _ _ _ _ _ _ _ _ _)
      | (with_reducible exact ih1 _ _ _ _ _ _ _ _ _ _ _ _ _ _ _ _ _ _ _ _ _ _ _ _ _ _ _ _ _)
      | (with_reducible exact hornbooklaw23_plan.mono _ _ _ _ _ _ _ _ _ _ _ _ _)
      | (with_reducible exact hornbooklaw23_planned.mono _ _ _ _ _ _ _ _ _ _ _ _ _)
      | (with_reducible exact hornbookref23_Few.mono _ _ _ _ _ _ _ _ _ _ _ _ _)
      | (with_reducible exact hornbookref23_Same.mono _ _ _ _ _ _ _ _ _ _ _ _ _ _ _ _ _ _ _ _ _ _ _ _ _)
      | (with_reducible exact LeO.refl _)
      | (with_reducible exact LeO.none _)
      | (with_reducible refine LeO.ite ?_ ?_)
      | (with_reducible refine LeO.bind ?_ (fun _ => ?_))
      | exact ih0 _ _ _ _ _ _ _ _ _ _ _ _ _ _ _
      | exact ih1 _ _ _ _ _ _ _ _ _ _ _ _ _ _ _ _ _ _ _ _ _ _ _ _ _ _ _ _ _
      | exact hornbooklaw23_plan.mono _ _ _ _ _ _ _ _ _ _ _ _ _
      | exact hornbooklaw23_planned.mono _ _ _ _ _ _ _ _ _ _ _ _ _
      | exact hornbookref23_Few.mono _ _ _ _ _ _ _ _ _ _ _ _ _
      | exact hornbookref23_Same.mono _ _ _ _ _ _ _ _ _ _ _ _ _ _ _ _ _ _ _ _ _ _ _ _ _
      | exact LeO.none _
      | refine LeO.ite ?_ ?_
      | refine LeO.bind ?_ (fun _ => ?_)
    · intro y0 y1 y2 y3 y4 y5 y6 y7 y8 y9 y10 y11 y12 y13 y14 y15 y16 y17 y18 y19 y20 y21 y22 y23 y24 y25 y26 y27 y28
      unfold hornbooklaw23_ScriptFlags.l0
      repeat' first
      | (with_reducible exact ih0 _ _ _ _ _ _ _ _ _ _ _ _ _ _ _)
      | (with_reducible exact ih1 _ _ _ _ _ _ _ _ _ _ _ _ _ _ _ _ _ _ _ _ _ _ _ _ _ _ _ _ _)
      | (with_reducible exact hornbooklaw23_plan.mono _ _ _ _ _ _ _ _ _ _ _ _ _)
      | (with_reducible exact hornbooklaw23_planned.mono _ _ _ _ _ _ _ _ _ _ _ _ _)
      | (with_reducible exact hornbookref23_Few.mono _ _ _ _ _ _ _ _ _ _ _ _ _)
      | (with_reducible exact hornbookref23_Same.mono _ _ _ _ _ _ _ _ _ _ _ _ _ _ _ _ _ _ _ _ _ _ _ _ _)
      | (with_reducible exact LeO.refl _)
      | (with_reducible exact LeO.none _)
      | (with_reducible refine LeO.ite ?_ ?_)
      | (with_reducible refine LeO.bind ?_ (fun _ => ?_))
      | exact ih0 _ _ _ _ _ _ _ _ _ _ _ _ _ _ _
      | exact ih1 _ _ _ _ _ _ _ _ _ _ _ _ _ _ _ _ _ _ _ _ _ _ _ _ _ _ _ _ _
      | exact hornbooklaw23_plan.mono _ _ _ _ _ _ _ _ _ _ _ _ _
      | exact hornbooklaw23_planned.mono _ _ _ _ _ _ _ _ _ _ _ _ _
      | exact hornbookref23_Few.mono _ _ _ _ _ _ _ _ _ _ _ _ _
      | exact hornbookref23_Same.mono _ _ _ _ _ _ _ _ _ _ _ _ _ _ _ _ _ _ _ _ _ _ _ _ _
      | exact LeO.none _
      | refine LeO.ite ?_ ?_
      | refine LeO.bind ?_ (fun _ => ?_)
theorem hornbooklaw23_ScriptFlags.mono : ∀ a0 a1 a2 a3 a4 a5 a6 a7 a8 a9 a10 a11 a12 k, LeO (hornbooklaw23_ScriptFlags.f k a0 a1 a2 a3 a4 a5 a6 a7 a8 a9 a10 a11 a12) (hornbooklaw23_ScriptFlags.f (k + 1) a0 a1 a2 a3 a4 a5 a6 a7 a8 a9 a10 a11 a12) := by
  intro a0 a1 a2 a3 a4 a5 a6 a7 a8 a9 a10 a11 a12 k
  obtain ⟨ih0, ih1⟩ := hornbooklaw23_ScriptFlags.mono_l k
  unfold hornbooklaw23_ScriptFlags.f
  repeat' first
      | (with_reducible exact ih0 _ _ _ _ _ _ _ _ _ _ _ _ _ _ _)
      | (with_reducible exact ih1 _ _ _ _ _ _ _ _ _ _ _ _ _ _ _ _ _ _ _ _ _ _ _ _ _ _ _ _ _)
      | (with_reducible exact hornbooklaw23_plan.mono _ _ _ _ _ _ _ _ _ _ _ _ _)
      | (with_reducible exact hornbooklaw23_planned.mono _ _ _ _ _ _ _ _ _ _ _ _ _)
      | (with_reducible exact hornbookref23_Few.mono _ _ _ _ _ _ _ _ _ _ _ _ _)
      | (with_reducible exact hornbookref23_Same.mono _ _ _ _ _ _ _ _ _ _ _ _ _ _ _ _ _ _ _ _ _ _ _ _ _)
      | (with_reducible exact LeO.refl _)
      | (with_reducible exact LeO.none _)
      | (with_reducible refine LeO.ite ?_ ?_)
      | (with_reducible refine LeO.bind ?_ (fun _ => ?_))
      | exact ih0 _ _ _ _ _ _ _ _ _ _ _ _ _ _ _
      | exact ih1 _ _ _ _ _ _ _ _ _ _ _ _ _ _ _ _ _ _ _ _ _ _ _ _ _ _ _ _ _
      | exact hornbooklaw23_plan.mono _ _ _ _ _ _ _ _ _ _ _ _ _
      | exact hornbooklaw23_planned.mono _ _ _ _ _ _ _ _ _ _ _ _ _
      | exact hornbookref23_Few.mono _ _ _ _ _ _ _ _ _ _ _ _ _
      | exact hornbookref23_Same.mono _ _ _ _ _ _ _ _ _ _ _ _ _ _ _ _ _ _ _ _ _ _ _ _ _
      | exact LeO.none _
      | refine LeO.ite ?_ ?_
      | refine LeO.bind ?_ (fun _ => ?_)
def hornbooklaw23_ScriptFlags.T17 : Bool × List (List Nat × List Nat) := (true, [([], []), ([], []), ([0, 1], [0, 1]), ([2], [2]), ([], []), ([], []), ([4, 5], [4, 5]), ([6], [6]), ([3, 7], [3, 7])])
def hornbooklaw23_ScriptFlags.B17 : List Nat := [0, 0, 3, 7, 0, 0, 48, 112, 255]
theorem hornbooklaw23_ScriptFlags.tab17 : rtab .any (opsOf Try.f6 17) = hornbooklaw23_ScriptFlags.T17 := by kernel_rfl
theorem hornbooklaw23_ScriptFlags.bits17 : waitsOk hornbooklaw23_ScriptFlags.T17.2 hornbooklaw23_ScriptFlags.B17 = true := by kernel_rfl
def hornbooklaw23_ScriptFlags.T19 : Bool × List (List Nat × List Nat) := (true, [([], []), ([0], [0]), ([1], [1]), ([2, 1], [1, 2]), ([1, 3], [1, 3]), ([4, 1], [4]), ([5], [5]), ([6, 5], [5, 6]), ([5], [5]), ([8, 5], [5, 8]), ([5], [5]), ([10, 5], [5, 10]), ([9, 11, 5], [5, 9, 11]), ([7, 12, 5], [5, 7, 12]), ([5, 13], [5, 13]), ([14, 5], [14]), ([15], [15]), ([16, 15, 15], [15, 16]), ([17, 17, 15], [15, 17]), ([15], [15]), ([18, 19, 18, 15], [15, 18, 19]), ([15, 20], [15, 20]), ([21, 20, 0, 1, 2, 3, 4, 5, 6, 7, 8, 9, 10, 11, 12, 13, 14, 15, 16, 17, 18, 19, 20, 21], [21])])
def hornbooklaw23_ScriptFlags.B19 : List Nat := [0, 1, 3, 7, 15, 31, 63, 127, 63, 319, 63, 1087, 3903, 8191, 16383, 32767, 65535, 131071, 262143, 65535, 1048575, 2097151, 4194303]
theorem hornbooklaw23_ScriptFlags.tab19 : rtab .any (opsOf Try.f6 19) = hornbooklaw23_ScriptFlags.T19 := by kernel_rfl
theorem hornbooklaw23_ScriptFlags.bits19 : waitsOk hornbooklaw23_ScriptFlags.T19.2 hornbooklaw23_ScriptFlags.B19 = true := by kernel_rfl
set_option maxHeartbeats 8000000 in
set_option maxRecDepth 100000 in
theorem hornbooklaw23_ScriptFlags.calls (k : Nat) (A0_0 : Option Addr) (c0_0 : Nat) (l0_0 : List (S54)) (a0_1 : Bool) (a0_2 : Int) (a0_3 : ByteArray) (a0_4 : ByteArray) (a0_5 : ByteArray) (a0_6 : ByteArray) (a0_7 : Bool) (a0_8 : Bool) (a0_9 : Bool) (A0_10 : Option Addr) (c0_10 : Nat) (l0_10 : List (List Int)) (A0_11 : Option Addr) (c0_11 : Nat) (l0_11 : List (List Int)) (a1 : Int) (r : Bool) (w : World) (hr0_0 : Kd.C k54 w A0_0 l0_0.length l0_0) (hc0_0 : l0_0.length ≤ c0_0) (hr0_10 : Kd.C (Kd.slice 5 (Kd.int .u8)) w A0_10 l0_10.length l0_10) (hc0_10 : l0_10.length ≤ c0_10) (hr0_11 : Kd.C (Kd.slice 5 (Kd.int .u8)) w A0_11 l0_11.length l0_11) (hc0_11 : l0_11.length ≤ c0_11) (h : hornbooklaw23_ScriptFlags.f k l0_0 a0_1 a0_2 a0_3 a0_4 a0_5 a0_6 a0_7 a0_8 a0_9 l0_10 l0_11 a1 = some r) (hT : Aside0 (r = true)) :
    Calls Try.prog 6 #[.agg #[.slice A0_0 l0_0.length c0_0, .bool a0_1, .int .i64 a0_2, .string a0_3, .string a0_4, .string a0_5, .string a0_6, .bool a0_7, .bool a0_8, .bool a0_9, .slice A0_10 l0_10.length c0_10, .slice A0_11 l0_11.length c0_11], .int .i64 a1] w fun e w' => e = .returned (.bool r) ∧ Below w.heap.size w w' := by
  have hu27 := Try.underlying27
  have hu24 := Try.underlying24
  have HR0_0 := Aside0.mk hr0_0
  have HC0_0 := Aside0.mk hc0_0
  clear hr0_0 hc0_0
  have HR0_10 := Aside0.mk hr0_10
  have HC0_10 := Aside0.mk hc0_10
  clear hr0_10 hc0_10
  have HR0_11 := Aside0.mk hr0_11
  have HC0_11 := Aside0.mk hc0_11
  clear hr0_11 hc0_11
  have HB := Aside0.mk (Below.refl w.heap.size w)
  have H : ((hornbooklaw23_awake.f).bind fun t519 => ((hornbookref23_Few.f k l0_0 a0_1 a0_2 a0_3 a0_4 a0_5 a0_6 a0_7 a0_8 a0_9 l0_10 l0_11).bind fun t520 => (if t520 = true then ((hornbooklaw23_plan.f k l0_0 a0_1 a0_2 a0_3 a0_4 a0_5 a0_6 a0_7 a0_8 a0_9 l0_10 l0_11).bind fun bt521 => ((script_Sane.f bt521.1 bt521.2.1 bt521.2.2.1 bt521.2.2.2.1 bt521.2.2.2.2.1 bt521.2.2.2.2.2.1 bt521.2.2.2.2.2.2.1 bt521.2.2.2.2.2.2.2.1 bt521.2.2.2.2.2.2.2.2.1 bt521.2.2.2.2.2.2.2.2.2.1 bt521.2.2.2.2.2.2.2.2.2.2.1 bt521.2.2.2.2.2.2.2.2.2.2.2).bind fun t539 => (hornbooklaw23_ScriptFlags.j0 k a1 t519 (!t539) l0_0 a0_1 a0_2 a0_3 a0_4 a0_5 a0_6 a0_7 a0_8 a0_9 l0_10 l0_11))) else (hornbooklaw23_ScriptFlags.j0 k a1 t519 true l0_0 a0_1 a0_2 a0_3 a0_4 a0_5 a0_6 a0_7 a0_8 a0_9 l0_10 l0_11)))) = some r := h
  clear h
  replace H := Option.bind_eq_some_iff.mp H
  obtain ⟨t519, A30, H⟩ := H
  replace H : ((hornbookref23_Few.f k l0_0 a0_1 a0_2 a0_3 a0_4 a0_5 a0_6 a0_7 a0_8 a0_9 l0_10 l0_11).bind fun t520 => (if t520 = true then ((hornbooklaw23_plan.f k l0_0 a0_1 a0_2 a0_3 a0_4 a0_5 a0_6 a0_7 a0_8 a0_9 l0_10 l0_11).bind fun bt521 => ((script_Sane.f bt521.1 bt521.2.1 bt521.2.2.1 bt521.2.2.2.1 bt521.2.2.2.2.1 bt521.2.2.2.2.2.1 bt521.2.2.2.2.2.2.1 bt521.2.2.2.2.2.2.2.1 bt521.2.2.2.2.2.2.2.2.1 bt521.2.2.2.2.2.2.2.2.2.1 bt521.2.2.2.2.2.2.2.2.2.2.1 bt521.2.2.2.2.2.2.2.2.2.2.2).bind fun t539 => (hornbooklaw23_ScriptFlags.j0 k a1 t519 (!t539) l0_0 a0_1 a0_2 a0_3 a0_4 a0_5 a0_6 a0_7 a0_8 a0_9 l0_10 l0_11))) else (hornbooklaw23_ScriptFlags.j0 k a1 t519 true l0_0 a0_1 a0_2 a0_3 a0_4 a0_5 a0_6 a0_7 a0_8 a0_9 l0_10 l0_11))) = some r := H
  have A3 := Aside0.mk A30
  clear A30
  have HC4 := Aside0.mk H
  clear H
  go_enter Try.func6, Try.ntmps6
  go_upto_region 2 with (first | ((with_reducible refine gate_dst (N := 2) rfl ?_); refine box_event ?hg (N := 2) ?hd (cs := #[.slice A0_0 l0_0.length c0_0, .bool a0_1, .int .i64 a0_2, .string a0_3, .string a0_4, .string a0_5, .string a0_6, .bool a0_7, .bool a0_8, .bool a0_9, .slice A0_10 l0_10.length c0_10, .slice A0_11 l0_11.length c0_11]) (t := 27) ?hr ?_; (case hd => rfl); (case hg => rfl); (case hr => first | (go_simp; done) | (go_simp; rfl)); intro gb518 hg w5 hbox hb; have n0_ := Aside0.mk (below_step (by repeat (first | (with_reducible first | exact HB.out | apply below_alloc | apply pw_below_drewN | apply below_drew1) | exact HB.out)) hb); have n1_ := Aside0.mk (hbox); have n2_ := Aside0.mk ((by rw [hg]; exact (below_size (by repeat (first | (with_reducible first | exact HB.out | apply below_alloc | apply pw_below_drewN | apply below_drew1) | exact HB.out))) : w.heap.size ≤ gb518)); have n3_ := Aside0.mk ((by rw [hg]; exact (below_size (by repeat (first | (with_reducible first | exact HB.out | apply below_alloc | apply pw_below_drewN | apply below_drew1) | exact HB.out))) : w.heap.size ≤ gb518)); clear HB; have HB := n0_; have BK518 := n1_; have GW518 := n2_; have GE518 := n3_; clear n0_ n1_ n2_ n3_; clear hb hbox hg) | ((with_reducible refine gate_callee (f := 7) rfl ?_); refine goesL_ (some 11) rfl rfl Try.func7 (by kernel_rfl) rfl #[] rfl (by (try simp only [List.map_toArray, List.map_cons, List.map_nil]); first | done | rfl | (simp only [List.length_drop, List.length_take]; rfl)) ?_; (with_reducible refine (hornbooklaw23_awake.calls  t519 _ A3.out).mono ?_); rintro e w6 ⟨rfl, hb⟩; refine ⟨_, rfl, ?_⟩; have n0_ := Aside0.mk (blk_below (g := gb518) (o := .cells #[.slice A0_0 l0_0.length c0_0, .bool a0_1, .int .i64 a0_2, .string a0_3, .string a0_4, .string a0_5, .string a0_6, .bool a0_7, .bool a0_8, .bool a0_9, .slice A0_10 l0_10.length c0_10, .slice A0_11 l0_11.length c0_11] 27 (0, 0)) (by (with_reducible repeat (first | refine blk_drewN ?_ _ | refine blk_drew ?_ | refine blk_alloc ?_ _)); exact BK518.out) hb); have n1_ := Aside0.mk (below_step (by repeat (first | (with_reducible first | exact HB.out | apply below_alloc | apply pw_below_drewN | apply below_drew1 | refine below_set ?_ GE518.out) | exact HB.out)) hb); clear BK518; clear HB; have BK518 := n0_; have HB := n1_; clear n0_ n1_; (try clear hb); (try clear hb2); (try clear hk); (try clear hi)))
  (try simp only [Act.put, List.setIfInBounds_toArray, List.set_cons_zero, List.set_cons_succ])
  go_cut [20] (fun v20 wc => ∃ (kq : Nat) (x20_3 : Bool), v20 = .bool x20_3 ∧ Aside0 (hornbooklaw23_ScriptFlags.j0 kq a1 t519 x20_3 l0_0 a0_1 a0_2 a0_3 a0_4 a0_5 a0_6 a0_7 a0_8 a0_9 l0_10 l0_11 = some r) ∧ Aside0 (kq ≤ k) ∧ Aside0 (wc.heap[gb518]? = some (.cells #[(.slice A0_0 l0_0.length c0_0), .bool a0_1, .int .i64 a0_2, .string a0_3, .string a0_4, .string a0_5, .string a0_6, .bool a0_7, .bool a0_8, .bool a0_9, (.slice A0_10 l0_10.length c0_10), (.slice A0_11 l0_11.length c0_11)] 27 (0, 0))) ∧ Aside0 (Below w.heap.size w wc))
  case first =>
    have H := HC4.out
    clear HC4
    replace H := Option.bind_eq_some_iff.mp H
    obtain ⟨t520, A70, H⟩ := H
    replace H : (if t520 = true then ((hornbooklaw23_plan.f k l0_0 a0_1 a0_2 a0_3 a0_4 a0_5 a0_6 a0_7 a0_8 a0_9 l0_10 l0_11).bind fun bt521 => ((script_Sane.f bt521.1 bt521.2.1 bt521.2.2.1 bt521.2.2.2.1 bt521.2.2.2.2.1 bt521.2.2.2.2.2.1 bt521.2.2.2.2.2.2.1 bt521.2.2.2.2.2.2.2.1 bt521.2.2.2.2.2.2.2.2.1 bt521.2.2.2.2.2.2.2.2.2.1 bt521.2.2.2.2.2.2.2.2.2.2.1 bt521.2.2.2.2.2.2.2.2.2.2.2).bind fun t539 => (hornbooklaw23_ScriptFlags.j0 k a1 t519 (!t539) l0_0 a0_1 a0_2 a0_3 a0_4 a0_5 a0_6 a0_7 a0_8 a0_9 l0_10 l0_11))) else (hornbooklaw23_ScriptFlags.j0 k a1 t519 true l0_0 a0_1 a0_2 a0_3 a0_4 a0_5 a0_6 a0_7 a0_8 a0_9 l0_10 l0_11)) = some r := H
    have A7 := Aside0.mk A70
    clear A70
    by_cases c8 : t520 = true
    · subst c8
      have H1 : ((hornbooklaw23_plan.f k l0_0 a0_1 a0_2 a0_3 a0_4 a0_5 a0_6 a0_7 a0_8 a0_9 l0_10 l0_11).bind fun bt521 => ((script_Sane.f bt521.1 bt521.2.1 bt521.2.2.1 bt521.2.2.2.1 bt521.2.2.2.2.1 bt521.2.2.2.2.2.1 bt521.2.2.2.2.2.2.1 bt521.2.2.2.2.2.2.2.1 bt521.2.2.2.2.2.2.2.2.1 bt521.2.2.2.2.2.2.2.2.2.1 bt521.2.2.2.2.2.2.2.2.2.2.1 bt521.2.2.2.2.2.2.2.2.2.2.2).bind fun t539 => (hornbooklaw23_ScriptFlags.j0 k a1 t519 (!t539) l0_0 a0_1 a0_2 a0_3 a0_4 a0_5 a0_6 a0_7 a0_8 a0_9 l0_10 l0_11))) = some r := by rw [if_pos rfl] at H; exact H
      clear H
      have H := H1
      clear H1
      replace H := Option.bind_eq_some_iff.mp H
      obtain ⟨⟨t521, t524, t525, t526, t527, t528, t529, t530, t531, t532, t533, t536⟩, A90, H⟩ := H
      replace H : ((script_Sane.f t521 t524 t525 t526 t527 t528 t529 t530 t531 t532 t533 t536).bind fun t539 => (hornbooklaw23_ScriptFlags.j0 k a1 t519 (!t539) l0_0 a0_1 a0_2 a0_3 a0_4 a0_5 a0_6 a0_7 a0_8 a0_9 l0_10 l0_11)) = some r := H
      have A9 := Aside0.mk A90
      clear A90
      replace H := Option.bind_eq_some_iff.mp H
      obtain ⟨t539, A100, H⟩ := H
      replace H : (hornbooklaw23_ScriptFlags.j0 k a1 t519 (!t539) l0_0 a0_1 a0_2 a0_3 a0_4 a0_5 a0_6 a0_7 a0_8 a0_9 l0_10 l0_11) = some r := H
      have A10 := Aside0.mk A100
      clear A100
      have H' := Aside0.mk H
      clear H
      have hcz11_0 : w6.cell? ⟨gb518, 0, none⟩ = some (.slice A0_0 l0_0.length c0_0) := (blk_cell BK518.out 0).trans rfl
      have hcz11_1 : w6.cell? ⟨gb518, 1, none⟩ = some (.bool a0_1) := (blk_cell BK518.out 1).trans rfl
      have hcz11_2 : w6.cell? ⟨gb518, 2, none⟩ = some (.int .i64 a0_2) := (blk_cell BK518.out 2).trans rfl
      have hcz11_3 : w6.cell? ⟨gb518, 3, none⟩ = some (.string a0_3) := (blk_cell BK518.out 3).trans rfl
      have hcz11_4 : w6.cell? ⟨gb518, 4, none⟩ = some (.string a0_4) := (blk_cell BK518.out 4).trans rfl
      have hcz11_5 : w6.cell? ⟨gb518, 5, none⟩ = some (.string a0_5) := (blk_cell BK518.out 5).trans rfl
      have hcz11_6 : w6.cell? ⟨gb518, 6, none⟩ = some (.string a0_6) := (blk_cell BK518.out 6).trans rfl
      have hcz11_7 : w6.cell? ⟨gb518, 7, none⟩ = some (.bool a0_7) := (blk_cell BK518.out 7).trans rfl
      have hcz11_8 : w6.cell? ⟨gb518, 8, none⟩ = some (.bool a0_8) := (blk_cell BK518.out 8).trans rfl
      have hcz11_9 : w6.cell? ⟨gb518, 9, none⟩ = some (.bool a0_9) := (blk_cell BK518.out 9).trans rfl
      have hcz11_10 : w6.cell? ⟨gb518, 10, none⟩ = some (.slice A0_10 l0_10.length c0_10) := (blk_cell BK518.out 10).trans rfl
      have hcz11_11 : w6.cell? ⟨gb518, 11, none⟩ = some (.slice A0_11 l0_11.length c0_11) := (blk_cell BK518.out 11).trans rfl
      have hfz11_0 := blk_frozen BK518.out 0
      have hfz11_1 := blk_frozen BK518.out 1
      have hfz11_2 := blk_frozen BK518.out 2
      have hfz11_3 := blk_frozen BK518.out 3
      have hfz11_4 := blk_frozen BK518.out 4
      have hfz11_5 := blk_frozen BK518.out 5
      have hfz11_6 := blk_frozen BK518.out 6
      have hfz11_7 := blk_frozen BK518.out 7
      have hfz11_8 := blk_frozen BK518.out 8
      have hfz11_9 := blk_frozen BK518.out 9
      have hfz11_10 := blk_frozen BK518.out 10
      have hfz11_11 := blk_frozen BK518.out 11
      go_wp2_with (first | ((with_reducible refine gate_callee (f := 8) rfl ?_); refine goesL_ (some 13) rfl rfl Try.func8 (by kernel_rfl) rfl #[.agg #[.slice A0_0 l0_0.length c0_0, .bool a0_1, .int .i64 a0_2, .string a0_3, .string a0_4, .string a0_5, .string a0_6, .bool a0_7, .bool a0_8, .bool a0_9, .slice A0_10 l0_10.length c0_10, .slice A0_11 l0_11.length c0_11]] rfl (by (try simp only [List.map_toArray, List.map_cons, List.map_nil]); first | done | rfl | (simp only [List.length_drop, List.length_take]; rfl)) ?_; (with_reducible refine (hornbookref23_Few.calls k _ _ l0_0 a0_1 a0_2 a0_3 a0_4 a0_5 a0_6 a0_7 a0_8 a0_9 _ _ l0_10 _ _ l0_11 true _ ?side1 ?side2 ?side3 ?side4 ?side5 ?side6 A7.out).mono ?_); (case side1 => repeat (first | exact (Kd.C_below HR0_0.out HB.out) | (with_reducible refine Kd.C_alloc ?_ _) | (with_reducible refine Kd.C_drewN ?_ _) | (with_reducible refine Kd.C_drew ?_))); (case side2 => exact HC0_0.out); (case side3 => repeat (first | exact (Kd.C_below HR0_10.out HB.out) | (with_reducible refine Kd.C_alloc ?_ _) | (with_reducible refine Kd.C_drewN ?_ _) | (with_reducible refine Kd.C_drew ?_))); (case side4 => exact HC0_10.out); (case side5 => repeat (first | exact (Kd.C_below HR0_11.out HB.out) | (with_reducible refine Kd.C_alloc ?_ _) | (with_reducible refine Kd.C_drewN ?_ _) | (with_reducible refine Kd.C_drew ?_))); (case side6 => exact HC0_11.out); rintro e w12 ⟨rfl, hb⟩; refine ⟨_, rfl, ?_⟩; have n0_ := Aside0.mk (blk_below (g := gb518) (o := .cells #[.slice A0_0 l0_0.length c0_0, .bool a0_1, .int .i64 a0_2, .string a0_3, .string a0_4, .string a0_5, .string a0_6, .bool a0_7, .bool a0_8, .bool a0_9, .slice A0_10 l0_10.length c0_10, .slice A0_11 l0_11.length c0_11] 27 (0, 0)) (by (with_reducible repeat (first | refine blk_drewN ?_ _ | refine blk_drew ?_ | refine blk_alloc ?_ _)); exact BK518.out) hb); have n1_ := Aside0.mk (below_step (by repeat (first | (with_reducible first | exact HB.out | apply below_alloc | apply pw_below_drewN | apply below_drew1 | refine below_set ?_ GE518.out) | exact HB.out)) hb); clear BK518; clear HB; have BK518 := n0_; have HB := n1_; clear n0_ n1_; (try clear hb); (try clear hb2); (try clear hk); (try clear hi); have hcz13_0 : w12.cell? ⟨gb518, 0, none⟩ = some (.slice A0_0 l0_0.length c0_0) := (blk_cell BK518.out 0).trans rfl; have hcz13_1 : w12.cell? ⟨gb518, 1, none⟩ = some (.bool a0_1) := (blk_cell BK518.out 1).trans rfl; have hcz13_2 : w12.cell? ⟨gb518, 2, none⟩ = some (.int .i64 a0_2) := (blk_cell BK518.out 2).trans rfl; have hcz13_3 : w12.cell? ⟨gb518, 3, none⟩ = some (.string a0_3) := (blk_cell BK518.out 3).trans rfl; have hcz13_4 : w12.cell? ⟨gb518, 4, none⟩ = some (.string a0_4) := (blk_cell BK518.out 4).trans rfl; have hcz13_5 : w12.cell? ⟨gb518, 5, none⟩ = some (.string a0_5) := (blk_cell BK518.out 5).trans rfl; have hcz13_6 : w12.cell? ⟨gb518, 6, none⟩ = some (.string a0_6) := (blk_cell BK518.out 6).trans rfl; have hcz13_7 : w12.cell? ⟨gb518, 7, none⟩ = some (.bool a0_7) := (blk_cell BK518.out 7).trans rfl; have hcz13_8 : w12.cell? ⟨gb518, 8, none⟩ = some (.bool a0_8) := (blk_cell BK518.out 8).trans rfl; have hcz13_9 : w12.cell? ⟨gb518, 9, none⟩ = some (.bool a0_9) := (blk_cell BK518.out 9).trans rfl; have hcz13_10 : w12.cell? ⟨gb518, 10, none⟩ = some (.slice A0_10 l0_10.length c0_10) := (blk_cell BK518.out 10).trans rfl; have hcz13_11 : w12.cell? ⟨gb518, 11, none⟩ = some (.slice A0_11 l0_11.length c0_11) := (blk_cell BK518.out 11).trans rfl; have hfz13_0 := blk_frozen BK518.out 0; have hfz13_1 := blk_frozen BK518.out 1; have hfz13_2 := blk_frozen BK518.out 2; have hfz13_3 := blk_frozen BK518.out 3; have hfz13_4 := blk_frozen BK518.out 4; have hfz13_5 := blk_frozen BK518.out 5; have hfz13_6 := blk_frozen BK518.out 6; have hfz13_7 := blk_frozen BK518.out 7; have hfz13_8 := blk_frozen BK518.out 8; have hfz13_9 := blk_frozen BK518.out 9; have hfz13_10 := blk_frozen BK518.out 10; have hfz13_11 := blk_frozen BK518.out 11) | (go_at_call 10; (with_reducible refine (hornbooklaw23_plan.calls k _ _ l0_0 a0_1 a0_2 a0_3 a0_4 a0_5 a0_6 a0_7 a0_8 a0_9 (fun k_ => k_ < w.heap.size) _ _ l0_10 (fun k_ => k_ < w.heap.size) _ _ l0_11 t521 t524 t525 t526 t527 t528 t529 t530 t531 t532 t533 t536 _ ?side1 ?side2 ?side3 ?side4 A9.out).mono ?_); (case side1 => repeat (first | exact (Kd.C_below HR0_0.out HB.out) | (with_reducible refine Kd.C_alloc ?_ _) | (with_reducible refine Kd.C_drewN ?_ _) | (with_reducible refine Kd.C_drew ?_))); (case side2 => exact HC0_0.out); (case side3 => exact Kd.V_mk HC0_10.out (Kd.F_below (Kd.C_F (Kd.heap_slice 5 (Kd.heap_int .u8)) HR0_10.out) (by repeat (first | (with_reducible first | exact HB.out | apply below_alloc | apply pw_below_drewN | apply below_drew1 | refine below_set ?_ GE518.out) | exact HB.out)))); (case side4 => exact Kd.V_mk HC0_11.out (Kd.F_below (Kd.C_F (Kd.heap_slice 5 (Kd.heap_int .u8)) HR0_11.out) (by repeat (first | (with_reducible first | exact HB.out | apply below_alloc | apply pw_below_drewN | apply below_drew1 | refine below_set ?_ GE518.out) | exact HB.out)))); rintro e w14 ⟨v522, v534, v537, rfl, ho0, ho1, ho2, hb⟩; have n0_ := Aside0.mk (Kd.R_lower (Kd.R_mono (ok' := fun k_ => True) ho0 (fun _ hk_ => trivial)) (below_size (by repeat (first | (with_reducible first | exact HB.out | apply below_alloc | apply pw_below_drewN | apply below_drew1 | refine below_set ?_ GE518.out) | exact HB.out)))); have n1_ := Aside0.mk (Kd.V_lower (Kd.V_mono (ok' := fun k_ => some k_ ≠ (v522 : Value).ownBlock ∧ k_ ≠ gb518) ho1 (fun k_ hk_ => ⟨hk_.2, Or.elim hk_.1 (fun hs_ => Or.elim hs_ (fun hs_ => fun e_ => Nat.not_le.2 hs_ (by rw [e_]; exact GW518.out)) (fun hs_ => fun e_ => Nat.not_le.2 hs_ (by rw [e_]; exact GW518.out))) (fun hn_ => (Kd.freshB (g := gb518) (o := .cells #[.slice A0_0 l0_0.length c0_0, .bool a0_1, .int .i64 a0_2, .string a0_3, .string a0_4, .string a0_5, .string a0_6, .bool a0_7, .bool a0_8, .bool a0_9, .slice A0_10 l0_10.length c0_10, .slice A0_11 l0_11.length c0_11] 27 (0, 0)) (by (with_reducible repeat (first | refine blk_drewN ?_ _ | refine blk_drew ?_ | refine blk_alloc ?_ _)); exact BK518.out) k_ hn_))⟩)) (below_size (by repeat (first | (with_reducible first | exact HB.out | apply below_alloc | apply pw_below_drewN | apply below_drew1 | refine below_set ?_ GE518.out) | exact HB.out)))); have n2_ := Aside0.mk (Kd.V_lower (Kd.V_mono (ok' := fun k_ => some k_ ≠ (v522 : Value).ownBlock ∧ k_ ≠ gb518) ho2 (fun k_ hk_ => ⟨hk_.2, Or.elim hk_.1 (fun hs_ => Or.elim hs_ (fun hs_ => fun e_ => Nat.not_le.2 hs_ (by rw [e_]; exact GW518.out)) (fun hs_ => fun e_ => Nat.not_le.2 hs_ (by rw [e_]; exact GW518.out))) (fun hn_ => (Kd.freshB (g := gb518) (o := .cells #[.slice A0_0 l0_0.length c0_0, .bool a0_1, .int .i64 a0_2, .string a0_3, .string a0_4, .string a0_5, .string a0_6, .bool a0_7, .bool a0_8, .bool a0_9, .slice A0_10 l0_10.length c0_10, .slice A0_11 l0_11.length c0_11] 27 (0, 0)) (by (with_reducible repeat (first | refine blk_drewN ?_ _ | refine blk_drew ?_ | refine blk_alloc ?_ _)); exact BK518.out) k_ hn_))⟩)) (below_size (by repeat (first | (with_reducible first | exact HB.out | apply below_alloc | apply pw_below_drewN | apply below_drew1 | refine below_set ?_ GE518.out) | exact HB.out)))); have n3_ := Aside0.mk (blk_below (g := gb518) (o := .cells #[.slice A0_0 l0_0.length c0_0, .bool a0_1, .int .i64 a0_2, .string a0_3, .string a0_4, .string a0_5, .string a0_6, .bool a0_7, .bool a0_8, .bool a0_9, .slice A0_10 l0_10.length c0_10, .slice A0_11 l0_11.length c0_11] 27 (0, 0)) (by (with_reducible repeat (first | refine blk_drewN ?_ _ | refine blk_drew ?_ | refine blk_alloc ?_ _)); exact BK518.out) hb); have n4_ := Aside0.mk (below_step (by repeat (first | (with_reducible first | exact HB.out | apply below_alloc | apply pw_below_drewN | apply below_drew1 | refine below_set ?_ GE518.out) | exact HB.out)) hb); clear BK518; clear HB; have HO523 := n0_; have HO535 := n1_; have HO538 := n2_; have BK518 := n3_; have HB := n4_; clear n0_ n1_ n2_ n3_ n4_; (try clear hb); (try clear hb2); (try clear hk); (try clear hi); (try clear ho0); (try clear ho1); (try clear ho2); obtain ⟨Ao15, co15, eo15⟩ := Kd.R_slice HO523.out; subst eo15; obtain ⟨Ao16, co16, eo16⟩ := Kd.V_slice HO535.out; subst eo16; obtain ⟨Ao17, co17, eo17⟩ := Kd.V_slice HO538.out; subst eo17) | (go_at_call 9; (with_reducible refine (script_Sane.calls _ _ t521 t524 t525 t526 t527 t528 t529 t530 t531 t532 _ _ t533 _ _ t536 t539 _ ?side1 ?side2 ?side3 ?side4 ?side5 ?side6 A10.out).mono ?_); (case side1 => repeat (first | exact (Kd.R_reads' HO523.out).2.2 | (with_reducible refine Kd.C_alloc ?_ _) | (with_reducible refine Kd.C_drewN ?_ _) | (with_reducible refine Kd.C_drew ?_))); (case side2 => exact (Kd.R_reads' HO523.out).2.1); (case side3 => repeat (first | exact (Kd.V_reads' HO535.out).2.2 | (with_reducible refine Kd.C_alloc ?_ _) | (with_reducible refine Kd.C_drewN ?_ _) | (with_reducible refine Kd.C_drew ?_))); (case side4 => exact (Kd.V_reads' HO535.out).2.1); (case side5 => repeat (first | exact (Kd.V_reads' HO538.out).2.2 | (with_reducible refine Kd.C_alloc ?_ _) | (with_reducible refine Kd.C_drewN ?_ _) | (with_reducible refine Kd.C_drew ?_))); (case side6 => exact (Kd.V_reads' HO538.out).2.1); rintro e w18 ⟨rfl, hb⟩; have n0_ := Aside0.mk (Kd.R_below (by (with_reducible repeat (first | apply Kd.R_alloc | apply Kd.R_drewN | apply Kd.R_drew)); exact HO523.out) hb); have n1_ := Aside0.mk (Kd.V_below (by (with_reducible repeat (first | apply Kd.V_alloc | apply Kd.V_drewN | apply Kd.V_drew)); exact HO535.out) hb); have n2_ := Aside0.mk (Kd.V_below (by (with_reducible repeat (first | apply Kd.V_alloc | apply Kd.V_drewN | apply Kd.V_drew)); exact HO538.out) hb); have n3_ := Aside0.mk (blk_below (g := gb518) (o := .cells #[.slice A0_0 l0_0.length c0_0, .bool a0_1, .int .i64 a0_2, .string a0_3, .string a0_4, .string a0_5, .string a0_6, .bool a0_7, .bool a0_8, .bool a0_9, .slice A0_10 l0_10.length c0_10, .slice A0_11 l0_11.length c0_11] 27 (0, 0)) (by (with_reducible repeat (first | refine blk_drewN ?_ _ | refine blk_drew ?_ | refine blk_alloc ?_ _)); exact BK518.out) hb); have n4_ := Aside0.mk (below_step (by repeat (first | (with_reducible first | exact HB.out | apply below_alloc | apply pw_below_drewN | apply below_drew1 | refine below_set ?_ GE518.out) | exact HB.out)) hb); clear HO523; clear HO535; clear HO538; clear BK518; clear HB; have HO523 := n0_; have HO535 := n1_; have HO538 := n2_; have BK518 := n3_; have HB := n4_; clear n0_ n1_ n2_ n3_ n4_; (try clear hb); (try clear hb2); (try clear hk); (try clear hi)))
      go_meet
      case rel => exact ⟨_, (!t539), (by first | rfl | (simp; done) | (simp [*]; done)), H', ⟨by first | omega | exact Nat.le_refl _⟩, ⟨by (with_reducible repeat (first | refine blk_drewN ?_ _ | refine blk_drew ?_ | refine blk_alloc ?_ _)); exact BK518.out⟩, ⟨by repeat (first | (with_reducible first | exact HB.out | apply below_alloc | apply pw_below_drewN | apply below_drew1 | refine below_set ?_ GE518.out) | exact HB.out)⟩⟩
    · replace c8 := Bool.eq_false_iff.mpr c8
      subst c8
      have H1 : (hornbooklaw23_ScriptFlags.j0 k a1 t519 true l0_0 a0_1 a0_2 a0_3 a0_4 a0_5 a0_6 a0_7 a0_8 a0_9 l0_10 l0_11) = some r := by rw [if_neg (show ¬ (false = true) by decide)] at H; exact H
      clear H
      have H := H1
      clear H1
      have H' := Aside0.mk H
      clear H
      have hcz19_0 : w6.cell? ⟨gb518, 0, none⟩ = some (.slice A0_0 l0_0.length c0_0) := (blk_cell BK518.out 0).trans rfl
      have hcz19_1 : w6.cell? ⟨gb518, 1, none⟩ = some (.bool a0_1) := (blk_cell BK518.out 1).trans rfl
      have hcz19_2 : w6.cell? ⟨gb518, 2, none⟩ = some (.int .i64 a0_2) := (blk_cell BK518.out 2).trans rfl
      have hcz19_3 : w6.cell? ⟨gb518, 3, none⟩ = some (.string a0_3) := (blk_cell BK518.out 3).trans rfl
      have hcz19_4 : w6.cell? ⟨gb518, 4, none⟩ = some (.string a0_4) := (blk_cell BK518.out 4).trans rfl
      have hcz19_5 : w6.cell? ⟨gb518, 5, none⟩ = some (.string a0_5) := (blk_cell BK518.out 5).trans rfl
      have hcz19_6 : w6.cell? ⟨gb518, 6, none⟩ = some (.string a0_6) := (blk_cell BK518.out 6).trans rfl
      have hcz19_7 : w6.cell? ⟨gb518, 7, none⟩ = some (.bool a0_7) := (blk_cell BK518.out 7).trans rfl
      have hcz19_8 : w6.cell? ⟨gb518, 8, none⟩ = some (.bool a0_8) := (blk_cell BK518.out 8).trans rfl
      have hcz19_9 : w6.cell? ⟨gb518, 9, none⟩ = some (.bool a0_9) := (blk_cell BK518.out 9).trans rfl
      have hcz19_10 : w6.cell? ⟨gb518, 10, none⟩ = some (.slice A0_10 l0_10.length c0_10) := (blk_cell BK518.out 10).trans rfl
      have hcz19_11 : w6.cell? ⟨gb518, 11, none⟩ = some (.slice A0_11 l0_11.length c0_11) := (blk_cell BK518.out 11).trans rfl
      have hfz19_0 := blk_frozen BK518.out 0
      have hfz19_1 := blk_frozen BK518.out 1
      have hfz19_2 := blk_frozen BK518.out 2
      have hfz19_3 := blk_frozen BK518.out 3
      have hfz19_4 := blk_frozen BK518.out 4
      have hfz19_5 := blk_frozen BK518.out 5
      have hfz19_6 := blk_frozen BK518.out 6
      have hfz19_7 := blk_frozen BK518.out 7
      have hfz19_8 := blk_frozen BK518.out 8
      have hfz19_9 := blk_frozen BK518.out 9
      have hfz19_10 := blk_frozen BK518.out 10
      have hfz19_11 := blk_frozen BK518.out 11
      go_wp2_with (first | ((with_reducible refine gate_callee (f := 8) rfl ?_); refine goesL_ (some 13) rfl rfl Try.func8 (by kernel_rfl) rfl #[.agg #[.slice A0_0 l0_0.length c0_0, .bool a0_1, .int .i64 a0_2, .string a0_3, .string a0_4, .string a0_5, .string a0_6, .bool a0_7, .bool a0_8, .bool a0_9, .slice A0_10 l0_10.length c0_10, .slice A0_11 l0_11.length c0_11]] rfl (by (try simp only [List.map_toArray, List.map_cons, List.map_nil]); first | done | rfl | (simp only [List.length_drop, List.length_take]; rfl)) ?_; (with_reducible refine (hornbookref23_Few.calls k _ _ l0_0 a0_1 a0_2 a0_3 a0_4 a0_5 a0_6 a0_7 a0_8 a0_9 _ _ l0_10 _ _ l0_11 false _ ?side1 ?side2 ?side3 ?side4 ?side5 ?side6 A7.out).mono ?_); (case side1 => repeat (first | exact (Kd.C_below HR0_0.out HB.out) | (with_reducible refine Kd.C_alloc ?_ _) | (with_reducible refine Kd.C_drewN ?_ _) | (with_reducible refine Kd.C_drew ?_))); (case side2 => exact HC0_0.out); (case side3 => repeat (first | exact (Kd.C_below HR0_10.out HB.out) | (with_reducible refine Kd.C_alloc ?_ _) | (with_reducible refine Kd.C_drewN ?_ _) | (with_reducible refine Kd.C_drew ?_))); (case side4 => exact HC0_10.out); (case side5 => repeat (first | exact (Kd.C_below HR0_11.out HB.out) | (with_reducible refine Kd.C_alloc ?_ _) | (with_reducible refine Kd.C_drewN ?_ _) | (with_reducible refine Kd.C_drew ?_))); (case side6 => exact HC0_11.out); rintro e w20 ⟨rfl, hb⟩; refine ⟨_, rfl, ?_⟩; have n0_ := Aside0.mk (blk_below (g := gb518) (o := .cells #[.slice A0_0 l0_0.length c0_0, .bool a0_1, .int .i64 a0_2, .string a0_3, .string a0_4, .string a0_5, .string a0_6, .bool a0_7, .bool a0_8, .bool a0_9, .slice A0_10 l0_10.length c0_10, .slice A0_11 l0_11.length c0_11] 27 (0, 0)) (by (with_reducible repeat (first | refine blk_drewN ?_ _ | refine blk_drew ?_ | refine blk_alloc ?_ _)); exact BK518.out) hb); have n1_ := Aside0.mk (below_step (by repeat (first | (with_reducible first | exact HB.out | apply below_alloc | apply pw_below_drewN | apply below_drew1 | refine below_set ?_ GE518.out) | exact HB.out)) hb); clear BK518; clear HB; have BK518 := n0_; have HB := n1_; clear n0_ n1_; (try clear hb); (try clear hb2); (try clear hk); (try clear hi)))
      go_meet
      case rel => exact ⟨_, (true), (by first | rfl | (simp; done) | (simp [*]; done)), H', ⟨by first | omega | exact Nat.le_refl _⟩, ⟨by (with_reducible repeat (first | refine blk_drewN ?_ _ | refine blk_drew ?_ | refine blk_alloc ?_ _)); exact BK518.out⟩, ⟨by repeat (first | (with_reducible first | exact HB.out | apply below_alloc | apply pw_below_drewN | apply below_drew1 | refine below_set ?_ GE518.out) | exact HB.out)⟩⟩
  case rest =>
    clear HC4
    try clear p2
    try clear c6
    try clear c7
    try clear c8
    try clear hcz11_0
    try clear hcz11_1
    try clear hcz11_10
    try clear hcz11_11
    try clear hcz11_2
    try clear hcz11_3
    try clear hcz11_4
    try clear hcz11_5
    try clear hcz11_6
    try clear hcz11_7
    try clear hcz11_8
    try clear hcz11_9
    try clear hcz13_0
    try clear hcz13_1
    try clear hcz13_10
    try clear hcz13_11
    try clear hcz13_2
    try clear hcz13_3
    try clear hcz13_4
    try clear hcz13_5
    try clear hcz13_6
    try clear hcz13_7
    try clear hcz13_8
    try clear hcz13_9
    try clear hcz19_0
    try clear hcz19_1
    try clear hcz19_10
    try clear hcz19_11
    try clear hcz19_2
    try clear hcz19_3
    try clear hcz19_4
    try clear hcz19_5
    try clear hcz19_6
    try clear hcz19_7
    try clear hcz19_8
    try clear hcz19_9
    try clear hfz11_0
    try clear hfz11_1
    try clear hfz11_10
    try clear hfz11_11
    try clear hfz11_2
    try clear hfz11_3
    try clear hfz11_4
    try clear hfz11_5
    try clear hfz11_6
    try clear hfz11_7
    try clear hfz11_8
    try clear hfz11_9
    try clear hfz13_0
    try clear hfz13_1
    try clear hfz13_10
    try clear hfz13_11
    try clear hfz13_2
    try clear hfz13_3
    try clear hfz13_4
    try clear hfz13_5
    try clear hfz13_6
    try clear hfz13_7
    try clear hfz13_8
    try clear hfz13_9
    try clear hfz19_0
    try clear hfz19_1
    try clear hfz19_10
    try clear hfz19_11
    try clear hfz19_2
    try clear hfz19_3
    try clear hfz19_4
    try clear hfz19_5
    try clear hfz19_6
    try clear hfz19_7
    try clear hfz19_8
    try clear hfz19_9
    obtain ⟨kq, x20_3, rfl, HA, HJ3, BK518, HB⟩ := hcut
    cases kq with
    | zero => exact absurd HA.out (by simp [hornbooklaw23_ScriptFlags.j0])
    | succ kj3 =>
      have H := HA.out
      clear HA
      simp only [hornbooklaw23_ScriptFlags.j0] at H
      by_cases c21 : x20_3 = true
      · subst c21
        have H1 : (some t519) = some r := by rw [if_pos rfl] at H; exact H
        clear H
        have H := H1
        clear H1
        obtain rfl := Option.some.inj H
        go_wp2
        go_ret
        exact ⟨by first | rfl | (simp [errW_none, errW_some] <;> rfl) | (simp [*, errW_none, errW_some] <;> rfl), by repeat (first | (with_reducible first | exact HB.out | apply below_alloc | apply pw_below_drewN | apply below_drew1 | refine below_set ?_ GE518.out) | exact HB.out)⟩
      · replace c21 := Bool.eq_false_iff.mpr c21
        subst c21
        have H1 : ((hornbooklaw23_plan.f kj3 l0_0 a0_1 a0_2 a0_3 a0_4 a0_5 a0_6 a0_7 a0_8 a0_9 l0_10 l0_11).bind fun bt541 => ((script_Put.f bt541.1 bt541.2.1 bt541.2.2.1 bt541.2.2.2.1 bt541.2.2.2.2.1 bt541.2.2.2.2.2.1 bt541.2.2.2.2.2.2.1 bt541.2.2.2.2.2.2.2.1 bt541.2.2.2.2.2.2.2.2.1 bt541.2.2.2.2.2.2.2.2.2.1 bt541.2.2.2.2.2.2.2.2.2.2.1 bt541.2.2.2.2.2.2.2.2.2.2.2).bind fun t559 => ((hornbooklaw23_plan.f kj3 l0_0 ((Go.bits .and .i64 a1 1) == 1) a0_2 a0_3 a0_4 a0_5 a0_6 ((Go.bits .and .i64 a1 2) == 2) ((Go.bits .and .i64 a1 4) == 4) ((Go.bits .and .i64 a1 8) == 8) l0_10 l0_11).bind fun bt562 => ((script_Put.f bt562.1 bt562.2.1 bt562.2.2.1 bt562.2.2.2.1 bt562.2.2.2.2.1 bt562.2.2.2.2.2.1 bt562.2.2.2.2.2.2.1 bt562.2.2.2.2.2.2.2.1 bt562.2.2.2.2.2.2.2.2.1 bt562.2.2.2.2.2.2.2.2.2.1 bt562.2.2.2.2.2.2.2.2.2.2.1 bt562.2.2.2.2.2.2.2.2.2.2.2).bind fun t580 => (if (t559.length : Int) = (t580.length : Int) then (hornbooklaw23_ScriptFlags.l0 kj3 t519 t559 t580 0 0 l0_0 a0_1 a0_2 a0_3 a0_4 a0_5 a0_6 a0_7 a0_8 a0_9 l0_10 l0_11 l0_0 ((Go.bits .and .i64 a1 1) == 1) a0_2 a0_3 a0_4 a0_5 a0_6 ((Go.bits .and .i64 a1 2) == 2) ((Go.bits .and .i64 a1 4) == 4) ((Go.bits .and .i64 a1 8) == 8) l0_10 l0_11) else (some false)))))) = some r := by rw [if_neg (show ¬ (false = true) by decide)] at H; exact H
        clear H
        have H := H1
        clear H1
        replace H := Option.bind_eq_some_iff.mp H
        obtain ⟨⟨t541, t544, t545, t546, t547, t548, t549, t550, t551, t552, t553, t556⟩, A220, H⟩ := H
        replace H : ((script_Put.f t541 t544 t545 t546 t547 t548 t549 t550 t551 t552 t553 t556).bind fun t559 => ((hornbooklaw23_plan.f kj3 l0_0 ((Go.bits .and .i64 a1 1) == 1) a0_2 a0_3 a0_4 a0_5 a0_6 ((Go.bits .and .i64 a1 2) == 2) ((Go.bits .and .i64 a1 4) == 4) ((Go.bits .and .i64 a1 8) == 8) l0_10 l0_11).bind fun bt562 => ((script_Put.f bt562.1 bt562.2.1 bt562.2.2.1 bt562.2.2.2.1 bt562.2.2.2.2.1 bt562.2.2.2.2.2.1 bt562.2.2.2.2.2.2.1 bt562.2.2.2.2.2.2.2.1 bt562.2.2.2.2.2.2.2.2.1 bt562.2.2.2.2.2.2.2.2.2.1 bt562.2.2.2.2.2.2.2.2.2.2.1 bt562.2.2.2.2.2.2.2.2.2.2.2).bind fun t580 => (if (t559.length : Int) = (t580.length : Int) then (hornbooklaw23_ScriptFlags.l0 kj3 t519 t559 t580 0 0 l0_0 a0_1 a0_2 a0_3 a0_4 a0_5 a0_6 a0_7 a0_8 a0_9 l0_10 l0_11 l0_0 ((Go.bits .and .i64 a1 1) == 1) a0_2 a0_3 a0_4 a0_5 a0_6 ((Go.bits .and .i64 a1 2) == 2) ((Go.bits .and .i64 a1 4) == 4) ((Go.bits .and .i64 a1 8) == 8) l0_10 l0_11) else (some false))))) = some r := H
        have A22 := Aside0.mk A220
        clear A220
        replace H := Option.bind_eq_some_iff.mp H
        obtain ⟨t559, A230, H⟩ := H
        replace H : ((hornbooklaw23_plan.f kj3 l0_0 ((Go.bits .and .i64 a1 1) == 1) a0_2 a0_3 a0_4 a0_5 a0_6 ((Go.bits .and .i64 a1 2) == 2) ((Go.bits .and .i64 a1 4) == 4) ((Go.bits .and .i64 a1 8) == 8) l0_10 l0_11).bind fun bt562 => ((script_Put.f bt562.1 bt562.2.1 bt562.2.2.1 bt562.2.2.2.1 bt562.2.2.2.2.1 bt562.2.2.2.2.2.1 bt562.2.2.2.2.2.2.1 bt562.2.2.2.2.2.2.2.1 bt562.2.2.2.2.2.2.2.2.1 bt562.2.2.2.2.2.2.2.2.2.1 bt562.2.2.2.2.2.2.2.2.2.2.1 bt562.2.2.2.2.2.2.2.2.2.2.2).bind fun t580 => (if (t559.length : Int) = (t580.length : Int) then (hornbooklaw23_ScriptFlags.l0 kj3 t519 t559 t580 0 0 l0_0 a0_1 a0_2 a0_3 a0_4 a0_5 a0_6 a0_7 a0_8 a0_9 l0_10 l0_11 l0_0 ((Go.bits .and .i64 a1 1) == 1) a0_2 a0_3 a0_4 a0_5 a0_6 ((Go.bits .and .i64 a1 2) == 2) ((Go.bits .and .i64 a1 4) == 4) ((Go.bits .and .i64 a1 8) == 8) l0_10 l0_11) else (some false)))) = some r := H
        have A23 := Aside0.mk A230
        clear A230
        replace H := Option.bind_eq_some_iff.mp H
        obtain ⟨⟨t562, t565, t566, t567, t568, t569, t570, t571, t572, t573, t574, t577⟩, A240, H⟩ := H
        replace H : ((script_Put.f t562 t565 t566 t567 t568 t569 t570 t571 t572 t573 t574 t577).bind fun t580 => (if (t559.length : Int) = (t580.length : Int) then (hornbooklaw23_ScriptFlags.l0 kj3 t519 t559 t580 0 0 l0_0 a0_1 a0_2 a0_3 a0_4 a0_5 a0_6 a0_7 a0_8 a0_9 l0_10 l0_11 l0_0 ((Go.bits .and .i64 a1 1) == 1) a0_2 a0_3 a0_4 a0_5 a0_6 ((Go.bits .and .i64 a1 2) == 2) ((Go.bits .and .i64 a1 4) == 4) ((Go.bits .and .i64 a1 8) == 8) l0_10 l0_11) else (some false))) = some r := H
        have A24 := Aside0.mk A240
        clear A240
        replace H := Option.bind_eq_some_iff.mp H
        obtain ⟨t580, A250, H⟩ := H
        replace H : (if (t559.length : Int) = (t580.length : Int) then (hornbooklaw23_ScriptFlags.l0 kj3 t519 t559 t580 0 0 l0_0 a0_1 a0_2 a0_3 a0_4 a0_5 a0_6 a0_7 a0_8 a0_9 l0_10 l0_11 l0_0 ((Go.bits .and .i64 a1 1) == 1) a0_2 a0_3 a0_4 a0_5 a0_6 ((Go.bits .and .i64 a1 2) == 2) ((Go.bits .and .i64 a1 4) == 4) ((Go.bits .and .i64 a1 8) == 8) l0_10 l0_11) else (some false)) = some r := H
        have A25 := Aside0.mk A250
        clear A250
        by_cases c26 : (t559.length : Int) = (t580.length : Int)
        · rw [if_pos c26] at H
          have c26b0 : ((t559.length : Int) == (t580.length : Int)) = true := beq_iff_eq.mpr c26
          have c26b1 : ((t559.length : Int) != (t580.length : Int)) = false := bne_eq_false_iff_eq.mpr c26
          have c26b2 : (t559.length == t580.length) = true := by first | simpa using c26 | (simp at c26 ⊢; omega)
          clear c26
          have H' := Aside0.mk H
          clear H
          have hcz27_0 : wc.cell? ⟨gb518, 0, none⟩ = some (.slice A0_0 l0_0.length c0_0) := (blk_cell BK518.out 0).trans rfl
          have hcz27_1 : wc.cell? ⟨gb518, 1, none⟩ = some (.bool a0_1) := (blk_cell BK518.out 1).trans rfl
          have hcz27_2 : wc.cell? ⟨gb518, 2, none⟩ = some (.int .i64 a0_2) := (blk_cell BK518.out 2).trans rfl
          have hcz27_3 : wc.cell? ⟨gb518, 3, none⟩ = some (.string a0_3) := (blk_cell BK518.out 3).trans rfl
          have hcz27_4 : wc.cell? ⟨gb518, 4, none⟩ = some (.string a0_4) := (blk_cell BK518.out 4).trans rfl
          have hcz27_5 : wc.cell? ⟨gb518, 5, none⟩ = some (.string a0_5) := (blk_cell BK518.out 5).trans rfl
          have hcz27_6 : wc.cell? ⟨gb518, 6, none⟩ = some (.string a0_6) := (blk_cell BK518.out 6).trans rfl
          have hcz27_7 : wc.cell? ⟨gb518, 7, none⟩ = some (.bool a0_7) := (blk_cell BK518.out 7).trans rfl
          have hcz27_8 : wc.cell? ⟨gb518, 8, none⟩ = some (.bool a0_8) := (blk_cell BK518.out 8).trans rfl
          have hcz27_9 : wc.cell? ⟨gb518, 9, none⟩ = some (.bool a0_9) := (blk_cell BK518.out 9).trans rfl
          have hcz27_10 : wc.cell? ⟨gb518, 10, none⟩ = some (.slice A0_10 l0_10.length c0_10) := (blk_cell BK518.out 10).trans rfl
          have hcz27_11 : wc.cell? ⟨gb518, 11, none⟩ = some (.slice A0_11 l0_11.length c0_11) := (blk_cell BK518.out 11).trans rfl
          have hfz27_0 := blk_frozen BK518.out 0
          have hfz27_1 := blk_frozen BK518.out 1
          have hfz27_2 := blk_frozen BK518.out 2
          have hfz27_3 := blk_frozen BK518.out 3
          have hfz27_4 := blk_frozen BK518.out 4
          have hfz27_5 := blk_frozen BK518.out 5
          have hfz27_6 := blk_frozen BK518.out 6
          have hfz27_7 := blk_frozen BK518.out 7
          have hfz27_8 := blk_frozen BK518.out 8
          have hfz27_9 := blk_frozen BK518.out 9
          have hfz27_10 := blk_frozen BK518.out 10
          have hfz27_11 := blk_frozen BK518.out 11
          go_wp2_with (first | ((with_reducible refine gate_dst (N := 6) rfl ?_); refine box_event ?hg (N := 6) ?hd (cs := #[.slice none 0 0, .bool false, .int .i64 0, .string (⟨#[]⟩ : ByteArray), .string (⟨#[]⟩ : ByteArray), .string (⟨#[]⟩ : ByteArray), .string (⟨#[]⟩ : ByteArray), .bool false, .bool false, .bool false, .slice none 0 0, .slice none 0 0]) (t := 27) ?hr ?_; (case hd => rfl); (case hg => rfl); (case hr => first | (go_simp; done) | (go_simp; rfl)); intro gb540 hg w28 hbox hb; have n0_ := Aside0.mk (blk_below (g := gb518) (o := .cells #[.slice A0_0 l0_0.length c0_0, .bool a0_1, .int .i64 a0_2, .string a0_3, .string a0_4, .string a0_5, .string a0_6, .bool a0_7, .bool a0_8, .bool a0_9, .slice A0_10 l0_10.length c0_10, .slice A0_11 l0_11.length c0_11] 27 (0, 0)) (by (with_reducible repeat (first | refine blk_drewN ?_ _ | refine blk_drew ?_ | refine blk_alloc ?_ _)); exact BK518.out) hb); have n1_ := Aside0.mk (below_step (by repeat (first | (with_reducible first | exact HB.out | apply below_alloc | apply pw_below_drewN | apply below_drew1 | refine below_set ?_ GE518.out) | exact HB.out)) hb); have n2_ := Aside0.mk (hbox); have n3_ := Aside0.mk ((by rw [hg]; exact (below_size (by repeat (first | (with_reducible first | exact HB.out | apply below_alloc | apply pw_below_drewN | apply below_drew1 | refine below_set ?_ GE518.out) | exact HB.out))) : w.heap.size ≤ gb540)); have n4_ := Aside0.mk ((by rw [hg]; exact (below_size (by repeat (first | (with_reducible first | exact HB.out | apply below_alloc | apply pw_below_drewN | apply below_drew1 | refine below_set ?_ GE518.out) | exact HB.out))) : w.heap.size ≤ gb540)); have n5_ := Aside0.mk ((by rw [hg]; exact Nat.ne_of_lt (blk_lt (g := gb518) (o := .cells #[.slice A0_0 l0_0.length c0_0, .bool a0_1, .int .i64 a0_2, .string a0_3, .string a0_4, .string a0_5, .string a0_6, .bool a0_7, .bool a0_8, .bool a0_9, .slice A0_10 l0_10.length c0_10, .slice A0_11 l0_11.length c0_11] 27 (0, 0)) (by (with_reducible repeat (first | refine blk_drewN ?_ _ | refine blk_drew ?_ | refine blk_alloc ?_ _)); exact BK518.out)) : gb518 ≠ gb540)); have n6_ := Aside0.mk ((by rw [hg]; exact Nat.ne_of_gt (blk_lt (g := gb518) (o := .cells #[.slice A0_0 l0_0.length c0_0, .bool a0_1, .int .i64 a0_2, .string a0_3, .string a0_4, .string a0_5, .string a0_6, .bool a0_7, .bool a0_8, .bool a0_9, .slice A0_10 l0_10.length c0_10, .slice A0_11 l0_11.length c0_11] 27 (0, 0)) (by (with_reducible repeat (first | refine blk_drewN ?_ _ | refine blk_drew ?_ | refine blk_alloc ?_ _)); exact BK518.out)) : gb540 ≠ gb518)); clear BK518; clear HB; have BK518 := n0_; have HB := n1_; have BK540 := n2_; have GW540 := n3_; have GE540 := n4_; have NB518_540 := n5_; have NB540_518 := n6_; clear n0_ n1_ n2_ n3_ n4_ n5_ n6_; clear hb hbox hg; have hnb29 := NB540_518.out; have hnc29 := NB518_540.out; have hcz30_0 : w28.cell? ⟨gb540, 0, none⟩ = some (.slice none 0 0) := (blk_cell BK540.out 0).trans rfl; have hcz30_1 : w28.cell? ⟨gb540, 1, none⟩ = some (.bool false) := (blk_cell BK540.out 1).trans rfl; have hcz30_2 : w28.cell? ⟨gb540, 2, none⟩ = some (.int .i64 0) := (blk_cell BK540.out 2).trans rfl; have hcz30_3 : w28.cell? ⟨gb540, 3, none⟩ = some (.string (⟨#[]⟩ : ByteArray)) := (blk_cell BK540.out 3).trans rfl; have hcz30_4 : w28.cell? ⟨gb540, 4, none⟩ = some (.string (⟨#[]⟩ : ByteArray)) := (blk_cell BK540.out 4).trans rfl; have hcz30_5 : w28.cell? ⟨gb540, 5, none⟩ = some (.string (⟨#[]⟩ : ByteArray)) := (blk_cell BK540.out 5).trans rfl; have hcz30_6 : w28.cell? ⟨gb540, 6, none⟩ = some (.string (⟨#[]⟩ : ByteArray)) := (blk_cell BK540.out 6).trans rfl; have hcz30_7 : w28.cell? ⟨gb540, 7, none⟩ = some (.bool false) := (blk_cell BK540.out 7).trans rfl; have hcz30_8 : w28.cell? ⟨gb540, 8, none⟩ = some (.bool false) := (blk_cell BK540.out 8).trans rfl; have hcz30_9 : w28.cell? ⟨gb540, 9, none⟩ = some (.bool false) := (blk_cell BK540.out 9).trans rfl; have hcz30_10 : w28.cell? ⟨gb540, 10, none⟩ = some (.slice none 0 0) := (blk_cell BK540.out 10).trans rfl; have hcz30_11 : w28.cell? ⟨gb540, 11, none⟩ = some (.slice none 0 0) := (blk_cell BK540.out 11).trans rfl; have hfz30_0 := blk_frozen BK540.out 0; have hfz30_1 := blk_frozen BK540.out 1; have hfz30_2 := blk_frozen BK540.out 2; have hfz30_3 := blk_frozen BK540.out 3; have hfz30_4 := blk_frozen BK540.out 4; have hfz30_5 := blk_frozen BK540.out 5; have hfz30_6 := blk_frozen BK540.out 6; have hfz30_7 := blk_frozen BK540.out 7; have hfz30_8 := blk_frozen BK540.out 8; have hfz30_9 := blk_frozen BK540.out 9; have hfz30_10 := blk_frozen BK540.out 10; have hfz30_11 := blk_frozen BK540.out 11) | ((with_reducible refine gate_store (t := 27) (p := 6) rfl ?_); refine store_event (t := 27) (p := 6) (v := ?vo_w31) (w1 := ((((((((((((w28.setCell ⟨gb540, 0, none⟩ (.slice A0_0 l0_0.length c0_0)).setCell ⟨gb540, 1, none⟩ (.bool a0_1)).setCell ⟨gb540, 2, none⟩ (.int .i64 a0_2)).setCell ⟨gb540, 3, none⟩ (.string a0_3)).setCell ⟨gb540, 4, none⟩ (.string a0_4)).setCell ⟨gb540, 5, none⟩ (.string a0_5)).setCell ⟨gb540, 6, none⟩ (.string a0_6)).setCell ⟨gb540, 7, none⟩ (.bool a0_7)).setCell ⟨gb540, 8, none⟩ (.bool a0_8)).setCell ⟨gb540, 9, none⟩ (.bool a0_9)).setCell ⟨gb540, 10, none⟩ (.slice A0_10 l0_10.length c0_10)).setCell ⟨gb540, 11, none⟩ (.slice A0_11 l0_11.length c0_11))) ?hg ?ho ?hn ?hr ?_; (case ho => rfl); (case hg => rfl); (case hn => rfl); (case hr => first | (go_simp; done) | (go_simp; rfl)); intro w31 hw; have n0_ : Aside0 (w31.heap[gb518]? = some (.cells #[.slice A0_0 l0_0.length c0_0, .bool a0_1, .int .i64 a0_2, .string a0_3, .string a0_4, .string a0_5, .string a0_6, .bool a0_7, .bool a0_8, .bool a0_9, .slice A0_10 l0_10.length c0_10, .slice A0_11 l0_11.length c0_11] 27 (0, 0))) := ⟨(by rw [hw]; exact (by (with_reducible repeat (first | refine blk_drewN ?_ _ | refine blk_drew ?_ | refine blk_alloc ?_ _)); refine blk_far ?_ NB518_540.out _; (with_reducible repeat (first | refine blk_drewN ?_ _ | refine blk_drew ?_ | refine blk_alloc ?_ _)); refine blk_far ?_ NB518_540.out _; (with_reducible repeat (first | refine blk_drewN ?_ _ | refine blk_drew ?_ | refine blk_alloc ?_ _)); refine blk_far ?_ NB518_540.out _; (with_reducible repeat (first | refine blk_drewN ?_ _ | refine blk_drew ?_ | refine blk_alloc ?_ _)); refine blk_far ?_ NB518_540.out _; (with_reducible repeat (first | refine blk_drewN ?_ _ | refine blk_drew ?_ | refine blk_alloc ?_ _)); refine blk_far ?_ NB518_540.out _; (with_reducible repeat (first | refine blk_drewN ?_ _ | refine blk_drew ?_ | refine blk_alloc ?_ _)); refine blk_far ?_ NB518_540.out _; (with_reducible repeat (first | refine blk_drewN ?_ _ | refine blk_drew ?_ | refine blk_alloc ?_ _)); refine blk_far ?_ NB518_540.out _; (with_reducible repeat (first | refine blk_drewN ?_ _ | refine blk_drew ?_ | refine blk_alloc ?_ _)); refine blk_far ?_ NB518_540.out _; (with_reducible repeat (first | refine blk_drewN ?_ _ | refine blk_drew ?_ | refine blk_alloc ?_ _)); refine blk_far ?_ NB518_540.out _; (with_reducible repeat (first | refine blk_drewN ?_ _ | refine blk_drew ?_ | refine blk_alloc ?_ _)); refine blk_far ?_ NB518_540.out _; (with_reducible repeat (first | refine blk_drewN ?_ _ | refine blk_drew ?_ | refine blk_alloc ?_ _)); refine blk_far ?_ NB518_540.out _; (with_reducible repeat (first | refine blk_drewN ?_ _ | refine blk_drew ?_ | refine blk_alloc ?_ _)); refine blk_far ?_ NB518_540.out _; (with_reducible repeat (first | refine blk_drewN ?_ _ | refine blk_drew ?_ | refine blk_alloc ?_ _)); exact BK518.out))⟩; have n1_ : Aside0 (w31.heap[gb540]? = some (.cells #[.slice A0_0 l0_0.length c0_0, .bool a0_1, .int .i64 a0_2, .string a0_3, .string a0_4, .string a0_5, .string a0_6, .bool a0_7, .bool a0_8, .bool a0_9, .slice A0_10 l0_10.length c0_10, .slice A0_11 l0_11.length c0_11] 27 (0, 0))) := ⟨(by rw [hw]; exact (by (with_reducible repeat (first | refine blk_drewN ?_ _ | refine blk_drew ?_ | refine blk_alloc ?_ _)); refine blk_put (cs := #[.slice A0_0 l0_0.length c0_0, .bool a0_1, .int .i64 a0_2, .string a0_3, .string a0_4, .string a0_5, .string a0_6, .bool a0_7, .bool a0_8, .bool a0_9, .slice A0_10 l0_10.length c0_10, .slice none 0 0]) ?_ 11 _ rfl; (with_reducible repeat (first | refine blk_drewN ?_ _ | refine blk_drew ?_ | refine blk_alloc ?_ _)); refine blk_put (cs := #[.slice A0_0 l0_0.length c0_0, .bool a0_1, .int .i64 a0_2, .string a0_3, .string a0_4, .string a0_5, .string a0_6, .bool a0_7, .bool a0_8, .bool a0_9, .slice none 0 0, .slice none 0 0]) ?_ 10 _ rfl; (with_reducible repeat (first | refine blk_drewN ?_ _ | refine blk_drew ?_ | refine blk_alloc ?_ _)); refine blk_put (cs := #[.slice A0_0 l0_0.length c0_0, .bool a0_1, .int .i64 a0_2, .string a0_3, .string a0_4, .string a0_5, .string a0_6, .bool a0_7, .bool a0_8, .bool false, .slice none 0 0, .slice none 0 0]) ?_ 9 _ rfl; (with_reducible repeat (first | refine blk_drewN ?_ _ | refine blk_drew ?_ | refine blk_alloc ?_ _)); refine blk_put (cs := #[.slice A0_0 l0_0.length c0_0, .bool a0_1, .int .i64 a0_2, .string a0_3, .string a0_4, .string a0_5, .string a0_6, .bool a0_7, .bool false, .bool false, .slice none 0 0, .slice none 0 0]) ?_ 8 _ rfl; (with_reducible repeat (first | refine blk_drewN ?_ _ | refine blk_drew ?_ | refine blk_alloc ?_ _)); refine blk_put (cs := #[.slice A0_0 l0_0.length c0_0, .bool a0_1, .int .i64 a0_2, .string a0_3, .string a0_4, .string a0_5, .string a0_6, .bool false, .bool false, .bool false, .slice none 0 0, .slice none 0 0]) ?_ 7 _ rfl; (with_reducible repeat (first | refine blk_drewN ?_ _ | refine blk_drew ?_ | refine blk_alloc ?_ _)); refine blk_put (cs := #[.slice A0_0 l0_0.length c0_0, .bool a0_1, .int .i64 a0_2, .string a0_3, .string a0_4, .string a0_5, .string (⟨#[]⟩ : ByteArray), .bool false, .bool false, .bool false, .slice none 0 0, .slice none 0 0]) ?_ 6 _ rfl; (with_reducible repeat (first | refine blk_drewN ?_ _ | refine blk_drew ?_ | refine blk_alloc ?_ _)); refine blk_put (cs := #[.slice A0_0 l0_0.length c0_0, .bool a0_1, .int .i64 a0_2, .string a0_3, .string a0_4, .string (⟨#[]⟩ : ByteArray), .string (⟨#[]⟩ : ByteArray), .bool false, .bool false, .bool false, .slice none 0 0, .slice none 0 0]) ?_ 5 _ rfl; (with_reducible repeat (first | refine blk_drewN ?_ _ | refine blk_drew ?_ | refine blk_alloc ?_ _)); refine blk_put (cs := #[.slice A0_0 l0_0.length c0_0, .bool a0_1, .int .i64 a0_2, .string a0_3, .string (⟨#[]⟩ : ByteArray), .string (⟨#[]⟩ : ByteArray), .string (⟨#[]⟩ : ByteArray), .bool false, .bool false, .bool false, .slice none 0 0, .slice none 0 0]) ?_ 4 _ rfl; (with_reducible repeat (first | refine blk_drewN ?_ _ | refine blk_drew ?_ | refine blk_alloc ?_ _)); refine blk_put (cs := #[.slice A0_0 l0_0.length c0_0, .bool a0_1, .int .i64 a0_2, .string (⟨#[]⟩ : ByteArray), .string (⟨#[]⟩ : ByteArray), .string (⟨#[]⟩ : ByteArray), .string (⟨#[]⟩ : ByteArray), .bool false, .bool false, .bool false, .slice none 0 0, .slice none 0 0]) ?_ 3 _ rfl; (with_reducible repeat (first | refine blk_drewN ?_ _ | refine blk_drew ?_ | refine blk_alloc ?_ _)); refine blk_put (cs := #[.slice A0_0 l0_0.length c0_0, .bool a0_1, .int .i64 0, .string (⟨#[]⟩ : ByteArray), .string (⟨#[]⟩ : ByteArray), .string (⟨#[]⟩ : ByteArray), .string (⟨#[]⟩ : ByteArray), .bool false, .bool false, .bool false, .slice none 0 0, .slice none 0 0]) ?_ 2 _ rfl; (with_reducible repeat (first | refine blk_drewN ?_ _ | refine blk_drew ?_ | refine blk_alloc ?_ _)); refine blk_put (cs := #[.slice A0_0 l0_0.length c0_0, .bool false, .int .i64 0, .string (⟨#[]⟩ : ByteArray), .string (⟨#[]⟩ : ByteArray), .string (⟨#[]⟩ : ByteArray), .string (⟨#[]⟩ : ByteArray), .bool false, .bool false, .bool false, .slice none 0 0, .slice none 0 0]) ?_ 1 _ rfl; (with_reducible repeat (first | refine blk_drewN ?_ _ | refine blk_drew ?_ | refine blk_alloc ?_ _)); refine blk_put (cs := #[.slice none 0 0, .bool false, .int .i64 0, .string (⟨#[]⟩ : ByteArray), .string (⟨#[]⟩ : ByteArray), .string (⟨#[]⟩ : ByteArray), .string (⟨#[]⟩ : ByteArray), .bool false, .bool false, .bool false, .slice none 0 0, .slice none 0 0]) ?_ 0 _ rfl; (with_reducible repeat (first | refine blk_drewN ?_ _ | refine blk_drew ?_ | refine blk_alloc ?_ _)); exact BK540.out))⟩; have n2_ : Aside0 (Below w.heap.size w w31) := ⟨(by rw [hw]; exact (by repeat (first | (with_reducible first | exact HB.out | apply below_alloc | apply pw_below_drewN | apply below_drew1 | refine below_set ?_ GE518.out | refine below_set ?_ GE540.out) | exact HB.out)))⟩; clear hw; clear BK518; clear BK540; clear HB; have BK518 := n0_; have BK540 := n1_; have HB := n2_; clear n0_ n1_ n2_; have hcz32_0 : w31.cell? ⟨gb540, 0, none⟩ = some (.slice A0_0 l0_0.length c0_0) := (blk_cell BK540.out 0).trans rfl; have hcz32_1 : w31.cell? ⟨gb540, 1, none⟩ = some (.bool a0_1) := (blk_cell BK540.out 1).trans rfl; have hcz32_2 : w31.cell? ⟨gb540, 2, none⟩ = some (.int .i64 a0_2) := (blk_cell BK540.out 2).trans rfl; have hcz32_3 : w31.cell? ⟨gb540, 3, none⟩ = some (.string a0_3) := (blk_cell BK540.out 3).trans rfl; have hcz32_4 : w31.cell? ⟨gb540, 4, none⟩ = some (.string a0_4) := (blk_cell BK540.out 4).trans rfl; have hcz32_5 : w31.cell? ⟨gb540, 5, none⟩ = some (.string a0_5) := (blk_cell BK540.out 5).trans rfl; have hcz32_6 : w31.cell? ⟨gb540, 6, none⟩ = some (.string a0_6) := (blk_cell BK540.out 6).trans rfl; have hcz32_7 : w31.cell? ⟨gb540, 7, none⟩ = some (.bool a0_7) := (blk_cell BK540.out 7).trans rfl; have hcz32_8 : w31.cell? ⟨gb540, 8, none⟩ = some (.bool a0_8) := (blk_cell BK540.out 8).trans rfl; have hcz32_9 : w31.cell? ⟨gb540, 9, none⟩ = some (.bool a0_9) := (blk_cell BK540.out 9).trans rfl; have hcz32_10 : w31.cell? ⟨gb540, 10, none⟩ = some (.slice A0_10 l0_10.length c0_10) := (blk_cell BK540.out 10).trans rfl; have hcz32_11 : w31.cell? ⟨gb540, 11, none⟩ = some (.slice A0_11 l0_11.length c0_11) := (blk_cell BK540.out 11).trans rfl; have hfz32_0 := blk_frozen BK540.out 0; have hfz32_1 := blk_frozen BK540.out 1; have hfz32_2 := blk_frozen BK540.out 2; have hfz32_3 := blk_frozen BK540.out 3; have hfz32_4 := blk_frozen BK540.out 4; have hfz32_5 := blk_frozen BK540.out 5; have hfz32_6 := blk_frozen BK540.out 6; have hfz32_7 := blk_frozen BK540.out 7; have hfz32_8 := blk_frozen BK540.out 8; have hfz32_9 := blk_frozen BK540.out 9; have hfz32_10 := blk_frozen BK540.out 10; have hfz32_11 := blk_frozen BK540.out 11) | ((with_reducible refine gate_store (t := 4) (p := 27) rfl ?_); refine store_event (t := 4) (p := 27) (v := ?vo_w33) (w1 := (w31.setCell ⟨gb540, 1, none⟩ (.bool ((Go.bits .and .i64 a1 1) == 1)))) ?hg ?ho ?hn ?hr ?_; (case ho => rfl); (case hg => rfl); (case hn => rfl); (case hr => first | (go_simp; done) | (go_simp; rfl)); intro w33 hw; have n0_ : Aside0 (w33.heap[gb518]? = some (.cells #[.slice A0_0 l0_0.length c0_0, .bool a0_1, .int .i64 a0_2, .string a0_3, .string a0_4, .string a0_5, .string a0_6, .bool a0_7, .bool a0_8, .bool a0_9, .slice A0_10 l0_10.length c0_10, .slice A0_11 l0_11.length c0_11] 27 (0, 0))) := ⟨(by rw [hw]; exact (by (with_reducible repeat (first | refine blk_drewN ?_ _ | refine blk_drew ?_ | refine blk_alloc ?_ _)); refine blk_far ?_ NB518_540.out _; (with_reducible repeat (first | refine blk_drewN ?_ _ | refine blk_drew ?_ | refine blk_alloc ?_ _)); exact BK518.out))⟩; have n1_ : Aside0 (w33.heap[gb540]? = some (.cells #[.slice A0_0 l0_0.length c0_0, .bool ((Go.bits .and .i64 a1 1) == 1), .int .i64 a0_2, .string a0_3, .string a0_4, .string a0_5, .string a0_6, .bool a0_7, .bool a0_8, .bool a0_9, .slice A0_10 l0_10.length c0_10, .slice A0_11 l0_11.length c0_11] 27 (0, 0))) := ⟨(by rw [hw]; exact (by (with_reducible repeat (first | refine blk_drewN ?_ _ | refine blk_drew ?_ | refine blk_alloc ?_ _)); refine blk_put (cs := #[.slice A0_0 l0_0.length c0_0, .bool a0_1, .int .i64 a0_2, .string a0_3, .string a0_4, .string a0_5, .string a0_6, .bool a0_7, .bool a0_8, .bool a0_9, .slice A0_10 l0_10.length c0_10, .slice A0_11 l0_11.length c0_11]) ?_ 1 _ rfl; (with_reducible repeat (first | refine blk_drewN ?_ _ | refine blk_drew ?_ | refine blk_alloc ?_ _)); exact BK540.out))⟩; have n2_ : Aside0 (Below w.heap.size w w33) := ⟨(by rw [hw]; exact (by repeat (first | (with_reducible first | exact HB.out | apply below_alloc | apply pw_below_drewN | apply below_drew1 | refine below_set ?_ GE518.out | refine below_set ?_ GE540.out) | exact HB.out)))⟩; clear hw; clear BK518; clear BK540; clear HB; have BK518 := n0_; have BK540 := n1_; have HB := n2_; clear n0_ n1_ n2_; have hcz34_0 : w33.cell? ⟨gb540, 0, none⟩ = some (.slice A0_0 l0_0.length c0_0) := (blk_cell BK540.out 0).trans rfl; have hcz34_1 : w33.cell? ⟨gb540, 1, none⟩ = some (.bool ((Go.bits .and .i64 a1 1) == 1)) := (blk_cell BK540.out 1).trans rfl; have hcz34_2 : w33.cell? ⟨gb540, 2, none⟩ = some (.int .i64 a0_2) := (blk_cell BK540.out 2).trans rfl; have hcz34_3 : w33.cell? ⟨gb540, 3, none⟩ = some (.string a0_3) := (blk_cell BK540.out 3).trans rfl; have hcz34_4 : w33.cell? ⟨gb540, 4, none⟩ = some (.string a0_4) := (blk_cell BK540.out 4).trans rfl; have hcz34_5 : w33.cell? ⟨gb540, 5, none⟩ = some (.string a0_5) := (blk_cell BK540.out 5).trans rfl; have hcz34_6 : w33.cell? ⟨gb540, 6, none⟩ = some (.string a0_6) := (blk_cell BK540.out 6).trans rfl; have hcz34_7 : w33.cell? ⟨gb540, 7, none⟩ = some (.bool a0_7) := (blk_cell BK540.out 7).trans rfl; have hcz34_8 : w33.cell? ⟨gb540, 8, none⟩ = some (.bool a0_8) := (blk_cell BK540.out 8).trans rfl; have hcz34_9 : w33.cell? ⟨gb540, 9, none⟩ = some (.bool a0_9) := (blk_cell BK540.out 9).trans rfl; have hcz34_10 : w33.cell? ⟨gb540, 10, none⟩ = some (.slice A0_10 l0_10.length c0_10) := (blk_cell BK540.out 10).trans rfl; have hcz34_11 : w33.cell? ⟨gb540, 11, none⟩ = some (.slice A0_11 l0_11.length c0_11) := (blk_cell BK540.out 11).trans rfl; have hfz34_0 := blk_frozen BK540.out 0; have hfz34_1 := blk_frozen BK540.out 1; have hfz34_2 := blk_frozen BK540.out 2; have hfz34_3 := blk_frozen BK540.out 3; have hfz34_4 := blk_frozen BK540.out 4; have hfz34_5 := blk_frozen BK540.out 5; have hfz34_6 := blk_frozen BK540.out 6; have hfz34_7 := blk_frozen BK540.out 7; have hfz34_8 := blk_frozen BK540.out 8; have hfz34_9 := blk_frozen BK540.out 9; have hfz34_10 := blk_frozen BK540.out 10; have hfz34_11 := blk_frozen BK540.out 11) | ((with_reducible refine gate_store (t := 4) (p := 32) rfl ?_); refine store_event (t := 4) (p := 32) (v := ?vo_w35) (w1 := (w33.setCell ⟨gb540, 7, none⟩ (.bool ((Go.bits .and .i64 a1 2) == 2)))) ?hg ?ho ?hn ?hr ?_; (case ho => rfl); (case hg => rfl); (case hn => rfl); (case hr => first | (go_simp; done) | (go_simp; rfl)); intro w35 hw; have n0_ : Aside0 (w35.heap[gb518]? = some (.cells #[.slice A0_0 l0_0.length c0_0, .bool a0_1, .int .i64 a0_2, .string a0_3, .string a0_4, .string a0_5, .string a0_6, .bool a0_7, .bool a0_8, .bool a0_9, .slice A0_10 l0_10.length c0_10, .slice A0_11 l0_11.length c0_11] 27 (0, 0))) := ⟨(by rw [hw]; exact (by (with_reducible repeat (first | refine blk_drewN ?_ _ | refine blk_drew ?_ | refine blk_alloc ?_ _)); refine blk_far ?_ NB518_540.out _; (with_reducible repeat (first | refine blk_drewN ?_ _ | refine blk_drew ?_ | refine blk_alloc ?_ _)); exact BK518.out))⟩; have n1_ : Aside0 (w35.heap[gb540]? = some (.cells #[.slice A0_0 l0_0.length c0_0, .bool ((Go.bits .and .i64 a1 1) == 1), .int .i64 a0_2, .string a0_3, .string a0_4, .string a0_5, .string a0_6, .bool ((Go.bits .and .i64 a1 2) == 2), .bool a0_8, .bool a0_9, .slice A0_10 l0_10.length c0_10, .slice A0_11 l0_11.length c0_11] 27 (0, 0))) := ⟨(by rw [hw]; exact (by (with_reducible repeat (first | refine blk_drewN ?_ _ | refine blk_drew ?_ | refine blk_alloc ?_ _)); refine blk_put (cs := #[.slice A0_0 l0_0.length c0_0, .bool ((Go.bits .and .i64 a1 1) == 1), .int .i64 a0_2, .string a0_3, .string a0_4, .string a0_5, .string a0_6, .bool a0_7, .bool a0_8, .bool a0_9, .slice A0_10 l0_10.length c0_10, .slice A0_11 l0_11.length c0_11]) ?_ 7 _ rfl; (with_reducible repeat (first | refine blk_drewN ?_ _ | refine blk_drew ?_ | refine blk_alloc ?_ _)); exact BK540.out))⟩; have n2_ : Aside0 (Below w.heap.size w w35) := ⟨(by rw [hw]; exact (by repeat (first | (with_reducible first | exact HB.out | apply below_alloc | apply pw_below_drewN | apply below_drew1 | refine below_set ?_ GE518.out | refine below_set ?_ GE540.out) | exact HB.out)))⟩; clear hw; clear BK518; clear BK540; clear HB; have BK518 := n0_; have BK540 := n1_; have HB := n2_; clear n0_ n1_ n2_; have hcz36_0 : w35.cell? ⟨gb540, 0, none⟩ = some (.slice A0_0 l0_0.length c0_0) := (blk_cell BK540.out 0).trans rfl; have hcz36_1 : w35.cell? ⟨gb540, 1, none⟩ = some (.bool ((Go.bits .and .i64 a1 1) == 1)) := (blk_cell BK540.out 1).trans rfl; have hcz36_2 : w35.cell? ⟨gb540, 2, none⟩ = some (.int .i64 a0_2) := (blk_cell BK540.out 2).trans rfl; have hcz36_3 : w35.cell? ⟨gb540, 3, none⟩ = some (.string a0_3) := (blk_cell BK540.out 3).trans rfl; have hcz36_4 : w35.cell? ⟨gb540, 4, none⟩ = some (.string a0_4) := (blk_cell BK540.out 4).trans rfl; have hcz36_5 : w35.cell? ⟨gb540, 5, none⟩ = some (.string a0_5) := (blk_cell BK540.out 5).trans rfl; have hcz36_6 : w35.cell? ⟨gb540, 6, none⟩ = some (.string a0_6) := (blk_cell BK540.out 6).trans rfl; have hcz36_7 : w35.cell? ⟨gb540, 7, none⟩ = some (.bool ((Go.bits .and .i64 a1 2) == 2)) := (blk_cell BK540.out 7).trans rfl; have hcz36_8 : w35.cell? ⟨gb540, 8, none⟩ = some (.bool a0_8) := (blk_cell BK540.out 8).trans rfl; have hcz36_9 : w35.cell? ⟨gb540, 9, none⟩ = some (.bool a0_9) := (blk_cell BK540.out 9).trans rfl; have hcz36_10 : w35.cell? ⟨gb540, 10, none⟩ = some (.slice A0_10 l0_10.length c0_10) := (blk_cell BK540.out 10).trans rfl; have hcz36_11 : w35.cell? ⟨gb540, 11, none⟩ = some (.slice A0_11 l0_11.length c0_11) := (blk_cell BK540.out 11).trans rfl; have hfz36_0 := blk_frozen BK540.out 0; have hfz36_1 := blk_frozen BK540.out 1; have hfz36_2 := blk_frozen BK540.out 2; have hfz36_3 := blk_frozen BK540.out 3; have hfz36_4 := blk_frozen BK540.out 4; have hfz36_5 := blk_frozen BK540.out 5; have hfz36_6 := blk_frozen BK540.out 6; have hfz36_7 := blk_frozen BK540.out 7; have hfz36_8 := blk_frozen BK540.out 8; have hfz36_9 := blk_frozen BK540.out 9; have hfz36_10 := blk_frozen BK540.out 10; have hfz36_11 := blk_frozen BK540.out 11) | ((with_reducible refine gate_store (t := 4) (p := 37) rfl ?_); refine store_event (t := 4) (p := 37) (v := ?vo_w37) (w1 := (w35.setCell ⟨gb540, 8, none⟩ (.bool ((Go.bits .and .i64 a1 4) == 4)))) ?hg ?ho ?hn ?hr ?_; (case ho => rfl); (case hg => rfl); (case hn => rfl); (case hr => first | (go_simp; done) | (go_simp; rfl)); intro w37 hw; have n0_ : Aside0 (w37.heap[gb518]? = some (.cells #[.slice A0_0 l0_0.length c0_0, .bool a0_1, .int .i64 a0_2, .string a0_3, .string a0_4, .string a0_5, .string a0_6, .bool a0_7, .bool a0_8, .bool a0_9, .slice A0_10 l0_10.length c0_10, .slice A0_11 l0_11.length c0_11] 27 (0, 0))) := ⟨(by rw [hw]; exact (by (with_reducible repeat (first | refine blk_drewN ?_ _ | refine blk_drew ?_ | refine blk_alloc ?_ _)); refine blk_far ?_ NB518_540.out _; (with_reducible repeat (first | refine blk_drewN ?_ _ | refine blk_drew ?_ | refine blk_alloc ?_ _)); exact BK518.out))⟩; have n1_ : Aside0 (w37.heap[gb540]? = some (.cells #[.slice A0_0 l0_0.length c0_0, .bool ((Go.bits .and .i64 a1 1) == 1), .int .i64 a0_2, .string a0_3, .string a0_4, .string a0_5, .string a0_6, .bool ((Go.bits .and .i64 a1 2) == 2), .bool ((Go.bits .and .i64 a1 4) == 4), .bool a0_9, .slice A0_10 l0_10.length c0_10, .slice A0_11 l0_11.length c0_11] 27 (0, 0))) := ⟨(by rw [hw]; exact (by (with_reducible repeat (first | refine blk_drewN ?_ _ | refine blk_drew ?_ | refine blk_alloc ?_ _)); refine blk_put (cs := #[.slice A0_0 l0_0.length c0_0, .bool ((Go.bits .and .i64 a1 1) == 1), .int .i64 a0_2, .string a0_3, .string a0_4, .string a0_5, .string a0_6, .bool ((Go.bits .and .i64 a1 2) == 2), .bool a0_8, .bool a0_9, .slice A0_10 l0_10.length c0_10, .slice A0_11 l0_11.length c0_11]) ?_ 8 _ rfl; (with_reducible repeat (first | refine blk_drewN ?_ _ | refine blk_drew ?_ | refine blk_alloc ?_ _)); exact BK540.out))⟩; have n2_ : Aside0 (Below w.heap.size w w37) := ⟨(by rw [hw]; exact (by repeat (first | (with_reducible first | exact HB.out | apply below_alloc | apply pw_below_drewN | apply below_drew1 | refine below_set ?_ GE518.out | refine below_set ?_ GE540.out) | exact HB.out)))⟩; clear hw; clear BK518; clear BK540; clear HB; have BK518 := n0_; have BK540 := n1_; have HB := n2_; clear n0_ n1_ n2_; have hcz38_0 : w37.cell? ⟨gb540, 0, none⟩ = some (.slice A0_0 l0_0.length c0_0) := (blk_cell BK540.out 0).trans rfl; have hcz38_1 : w37.cell? ⟨gb540, 1, none⟩ = some (.bool ((Go.bits .and .i64 a1 1) == 1)) := (blk_cell BK540.out 1).trans rfl; have hcz38_2 : w37.cell? ⟨gb540, 2, none⟩ = some (.int .i64 a0_2) := (blk_cell BK540.out 2).trans rfl; have hcz38_3 : w37.cell? ⟨gb540, 3, none⟩ = some (.string a0_3) := (blk_cell BK540.out 3).trans rfl; have hcz38_4 : w37.cell? ⟨gb540, 4, none⟩ = some (.string a0_4) := (blk_cell BK540.out 4).trans rfl; have hcz38_5 : w37.cell? ⟨gb540, 5, none⟩ = some (.string a0_5) := (blk_cell BK540.out 5).trans rfl; have hcz38_6 : w37.cell? ⟨gb540, 6, none⟩ = some (.string a0_6) := (blk_cell BK540.out 6).trans rfl; have hcz38_7 : w37.cell? ⟨gb540, 7, none⟩ = some (.bool ((Go.bits .and .i64 a1 2) == 2)) := (blk_cell BK540.out 7).trans rfl; have hcz38_8 : w37.cell? ⟨gb540, 8, none⟩ = some (.bool ((Go.bits .and .i64 a1 4) == 4)) := (blk_cell BK540.out 8).trans rfl; have hcz38_9 : w37.cell? ⟨gb540, 9, none⟩ = some (.bool a0_9) := (blk_cell BK540.out 9).trans rfl; have hcz38_10 : w37.cell? ⟨gb540, 10, none⟩ = some (.slice A0_10 l0_10.length c0_10) := (blk_cell BK540.out 10).trans rfl; have hcz38_11 : w37.cell? ⟨gb540, 11, none⟩ = some (.slice A0_11 l0_11.length c0_11) := (blk_cell BK540.out 11).trans rfl; have hfz38_0 := blk_frozen BK540.out 0; have hfz38_1 := blk_frozen BK540.out 1; have hfz38_2 := blk_frozen BK540.out 2; have hfz38_3 := blk_frozen BK540.out 3; have hfz38_4 := blk_frozen BK540.out 4; have hfz38_5 := blk_frozen BK540.out 5; have hfz38_6 := blk_frozen BK540.out 6; have hfz38_7 := blk_frozen BK540.out 7; have hfz38_8 := blk_frozen BK540.out 8; have hfz38_9 := blk_frozen BK540.out 9; have hfz38_10 := blk_frozen BK540.out 10; have hfz38_11 := blk_frozen BK540.out 11) | ((with_reducible refine gate_store (t := 4) (p := 42) rfl ?_); refine store_event (t := 4) (p := 42) (v := ?vo_w39) (w1 := (w37.setCell ⟨gb540, 9, none⟩ (.bool ((Go.bits .and .i64 a1 8) == 8)))) ?hg ?ho ?hn ?hr ?_; (case ho => rfl); (case hg => rfl); (case hn => rfl); (case hr => first | (go_simp; done) | (go_simp; rfl)); intro w39 hw; have n0_ : Aside0 (w39.heap[gb518]? = some (.cells #[.slice A0_0 l0_0.length c0_0, .bool a0_1, .int .i64 a0_2, .string a0_3, .string a0_4, .string a0_5, .string a0_6, .bool a0_7, .bool a0_8, .bool a0_9, .slice A0_10 l0_10.length c0_10, .slice A0_11 l0_11.length c0_11] 27 (0, 0))) := ⟨(by rw [hw]; exact (by (with_reducible repeat (first | refine blk_drewN ?_ _ | refine blk_drew ?_ | refine blk_alloc ?_ _)); refine blk_far ?_ NB518_540.out _; (with_reducible repeat (first | refine blk_drewN ?_ _ | refine blk_drew ?_ | refine blk_alloc ?_ _)); exact BK518.out))⟩; have n1_ : Aside0 (w39.heap[gb540]? = some (.cells #[.slice A0_0 l0_0.length c0_0, .bool ((Go.bits .and .i64 a1 1) == 1), .int .i64 a0_2, .string a0_3, .string a0_4, .string a0_5, .string a0_6, .bool ((Go.bits .and .i64 a1 2) == 2), .bool ((Go.bits .and .i64 a1 4) == 4), .bool ((Go.bits .and .i64 a1 8) == 8), .slice A0_10 l0_10.length c0_10, .slice A0_11 l0_11.length c0_11] 27 (0, 0))) := ⟨(by rw [hw]; exact (by (with_reducible repeat (first | refine blk_drewN ?_ _ | refine blk_drew ?_ | refine blk_alloc ?_ _)); refine blk_put (cs := #[.slice A0_0 l0_0.length c0_0, .bool ((Go.bits .and .i64 a1 1) == 1), .int .i64 a0_2, .string a0_3, .string a0_4, .string a0_5, .string a0_6, .bool ((Go.bits .and .i64 a1 2) == 2), .bool ((Go.bits .and .i64 a1 4) == 4), .bool a0_9, .slice A0_10 l0_10.length c0_10, .slice A0_11 l0_11.length c0_11]) ?_ 9 _ rfl; (with_reducible repeat (first | refine blk_drewN ?_ _ | refine blk_drew ?_ | refine blk_alloc ?_ _)); exact BK540.out))⟩; have n2_ : Aside0 (Below w.heap.size w w39) := ⟨(by rw [hw]; exact (by repeat (first | (with_reducible first | exact HB.out | apply below_alloc | apply pw_below_drewN | apply below_drew1 | refine below_set ?_ GE518.out | refine below_set ?_ GE540.out) | exact HB.out)))⟩; clear hw; clear BK518; clear BK540; clear HB; have BK518 := n0_; have BK540 := n1_; have HB := n2_; clear n0_ n1_ n2_; have hcz40_0 : w39.cell? ⟨gb518, 0, none⟩ = some (.slice A0_0 l0_0.length c0_0) := (blk_cell BK518.out 0).trans rfl; have hcz40_1 : w39.cell? ⟨gb518, 1, none⟩ = some (.bool a0_1) := (blk_cell BK518.out 1).trans rfl; have hcz40_2 : w39.cell? ⟨gb518, 2, none⟩ = some (.int .i64 a0_2) := (blk_cell BK518.out 2).trans rfl; have hcz40_3 : w39.cell? ⟨gb518, 3, none⟩ = some (.string a0_3) := (blk_cell BK518.out 3).trans rfl; have hcz40_4 : w39.cell? ⟨gb518, 4, none⟩ = some (.string a0_4) := (blk_cell BK518.out 4).trans rfl; have hcz40_5 : w39.cell? ⟨gb518, 5, none⟩ = some (.string a0_5) := (blk_cell BK518.out 5).trans rfl; have hcz40_6 : w39.cell? ⟨gb518, 6, none⟩ = some (.string a0_6) := (blk_cell BK518.out 6).trans rfl; have hcz40_7 : w39.cell? ⟨gb518, 7, none⟩ = some (.bool a0_7) := (blk_cell BK518.out 7).trans rfl; have hcz40_8 : w39.cell? ⟨gb518, 8, none⟩ = some (.bool a0_8) := (blk_cell BK518.out 8).trans rfl; have hcz40_9 : w39.cell? ⟨gb518, 9, none⟩ = some (.bool a0_9) := (blk_cell BK518.out 9).trans rfl; have hcz40_10 : w39.cell? ⟨gb518, 10, none⟩ = some (.slice A0_10 l0_10.length c0_10) := (blk_cell BK518.out 10).trans rfl; have hcz40_11 : w39.cell? ⟨gb518, 11, none⟩ = some (.slice A0_11 l0_11.length c0_11) := (blk_cell BK518.out 11).trans rfl; have hfz40_0 := blk_frozen BK518.out 0; have hfz40_1 := blk_frozen BK518.out 1; have hfz40_2 := blk_frozen BK518.out 2; have hfz40_3 := blk_frozen BK518.out 3; have hfz40_4 := blk_frozen BK518.out 4; have hfz40_5 := blk_frozen BK518.out 5; have hfz40_6 := blk_frozen BK518.out 6; have hfz40_7 := blk_frozen BK518.out 7; have hfz40_8 := blk_frozen BK518.out 8; have hfz40_9 := blk_frozen BK518.out 9; have hfz40_10 := blk_frozen BK518.out 10; have hfz40_11 := blk_frozen BK518.out 11) | ((with_reducible refine gate_callee (f := 10) rfl ?_); refine goesL_ (some 44) rfl rfl Try.func10 (by kernel_rfl) rfl #[.agg #[.slice A0_0 l0_0.length c0_0, .bool a0_1, .int .i64 a0_2, .string a0_3, .string a0_4, .string a0_5, .string a0_6, .bool a0_7, .bool a0_8, .bool a0_9, .slice A0_10 l0_10.length c0_10, .slice A0_11 l0_11.length c0_11]] rfl (by (try simp only [List.map_toArray, List.map_cons, List.map_nil]); first | done | rfl | (simp only [List.length_drop, List.length_take]; rfl)) ?_; (with_reducible refine (hornbooklaw23_plan.calls kj3 _ _ l0_0 a0_1 a0_2 a0_3 a0_4 a0_5 a0_6 a0_7 a0_8 a0_9 (fun k_ => k_ < w.heap.size) _ _ l0_10 (fun k_ => k_ < w.heap.size) _ _ l0_11 t541 t544 t545 t546 t547 t548 t549 t550 t551 t552 t553 t556 _ ?side1 ?side2 ?side3 ?side4 A22.out).mono ?_); (case side1 => repeat (first | exact (Kd.C_below HR0_0.out HB.out) | (with_reducible refine Kd.C_alloc ?_ _) | (with_reducible refine Kd.C_drewN ?_ _) | (with_reducible refine Kd.C_drew ?_))); (case side2 => exact HC0_0.out); (case side3 => exact Kd.V_mk HC0_10.out (Kd.F_below (Kd.C_F (Kd.heap_slice 5 (Kd.heap_int .u8)) HR0_10.out) (by repeat (first | (with_reducible first | exact HB.out | apply below_alloc | apply pw_below_drewN | apply below_drew1 | refine below_set ?_ GE518.out | refine below_set ?_ GE540.out) | exact HB.out)))); (case side4 => exact Kd.V_mk HC0_11.out (Kd.F_below (Kd.C_F (Kd.heap_slice 5 (Kd.heap_int .u8)) HR0_11.out) (by repeat (first | (with_reducible first | exact HB.out | apply below_alloc | apply pw_below_drewN | apply below_drew1 | refine below_set ?_ GE518.out | refine below_set ?_ GE540.out) | exact HB.out)))); rintro e w41 ⟨v542, v554, v557, rfl, ho0, ho1, ho2, hb⟩; refine ⟨_, rfl, ?_⟩; have n0_ := Aside0.mk (Kd.R_lower (Kd.R_mono (ok' := fun k_ => True) ho0 (fun _ hk_ => trivial)) (below_size (by repeat (first | (with_reducible first | exact HB.out | apply below_alloc | apply pw_below_drewN | apply below_drew1 | refine below_set ?_ GE518.out | refine below_set ?_ GE540.out) | exact HB.out)))); have n1_ := Aside0.mk (Kd.V_lower (Kd.V_mono (ok' := fun k_ => some k_ ≠ (v542 : Value).ownBlock ∧ k_ ≠ gb518 ∧ k_ ≠ gb540) ho1 (fun k_ hk_ => ⟨hk_.2, Or.elim hk_.1 (fun hs_ => Or.elim hs_ (fun hs_ => fun e_ => Nat.not_le.2 hs_ (by rw [e_]; exact GW518.out)) (fun hs_ => fun e_ => Nat.not_le.2 hs_ (by rw [e_]; exact GW518.out))) (fun hn_ => (Kd.freshB (g := gb518) (o := .cells #[.slice A0_0 l0_0.length c0_0, .bool a0_1, .int .i64 a0_2, .string a0_3, .string a0_4, .string a0_5, .string a0_6, .bool a0_7, .bool a0_8, .bool a0_9, .slice A0_10 l0_10.length c0_10, .slice A0_11 l0_11.length c0_11] 27 (0, 0)) (by (with_reducible repeat (first | refine blk_drewN ?_ _ | refine blk_drew ?_ | refine blk_alloc ?_ _)); exact BK518.out) k_ hn_)), Or.elim hk_.1 (fun hs_ => Or.elim hs_ (fun hs_ => fun e_ => Nat.not_le.2 hs_ (by rw [e_]; exact GW540.out)) (fun hs_ => fun e_ => Nat.not_le.2 hs_ (by rw [e_]; exact GW540.out))) (fun hn_ => (Kd.freshB (g := gb540) (o := .cells #[.slice A0_0 l0_0.length c0_0, .bool ((Go.bits .and .i64 a1 1) == 1), .int .i64 a0_2, .string a0_3, .string a0_4, .string a0_5, .string a0_6, .bool ((Go.bits .and .i64 a1 2) == 2), .bool ((Go.bits .and .i64 a1 4) == 4), .bool ((Go.bits .and .i64 a1 8) == 8), .slice A0_10 l0_10.length c0_10, .slice A0_11 l0_11.length c0_11] 27 (0, 0)) (by (with_reducible repeat (first | refine blk_drewN ?_ _ | refine blk_drew ?_ | refine blk_alloc ?_ _)); exact BK540.out) k_ hn_))⟩)) (below_size (by repeat (first | (with_reducible first | exact HB.out | apply below_alloc | apply pw_below_drewN | apply below_drew1 | refine below_set ?_ GE518.out | refine below_set ?_ GE540.out) | exact HB.out)))); have n2_ := Aside0.mk (Kd.V_lower (Kd.V_mono (ok' := fun k_ => some k_ ≠ (v542 : Value).ownBlock ∧ k_ ≠ gb518 ∧ k_ ≠ gb540) ho2 (fun k_ hk_ => ⟨hk_.2, Or.elim hk_.1 (fun hs_ => Or.elim hs_ (fun hs_ => fun e_ => Nat.not_le.2 hs_ (by rw [e_]; exact GW518.out)) (fun hs_ => fun e_ => Nat.not_le.2 hs_ (by rw [e_]; exact GW518.out))) (fun hn_ => (Kd.freshB (g := gb518) (o := .cells #[.slice A0_0 l0_0.length c0_0, .bool a0_1, .int .i64 a0_2, .string a0_3, .string a0_4, .string a0_5, .string a0_6, .bool a0_7, .bool a0_8, .bool a0_9, .slice A0_10 l0_10.length c0_10, .slice A0_11 l0_11.length c0_11] 27 (0, 0)) (by (with_reducible repeat (first | refine blk_drewN ?_ _ | refine blk_drew ?_ | refine blk_alloc ?_ _)); exact BK518.out) k_ hn_)), Or.elim hk_.1 (fun hs_ => Or.elim hs_ (fun hs_ => fun e_ => Nat.not_le.2 hs_ (by rw [e_]; exact GW540.out)) (fun hs_ => fun e_ => Nat.not_le.2 hs_ (by rw [e_]; exact GW540.out))) (fun hn_ => (Kd.freshB (g := gb540) (o := .cells #[.slice A0_0 l0_0.length c0_0, .bool ((Go.bits .and .i64 a1 1) == 1), .int .i64 a0_2, .string a0_3, .string a0_4, .string a0_5, .string a0_6, .bool ((Go.bits .and .i64 a1 2) == 2), .bool ((Go.bits .and .i64 a1 4) == 4), .bool ((Go.bits .and .i64 a1 8) == 8), .slice A0_10 l0_10.length c0_10, .slice A0_11 l0_11.length c0_11] 27 (0, 0)) (by (with_reducible repeat (first | refine blk_drewN ?_ _ | refine blk_drew ?_ | refine blk_alloc ?_ _)); exact BK540.out) k_ hn_))⟩)) (below_size (by repeat (first | (with_reducible first | exact HB.out | apply below_alloc | apply pw_below_drewN | apply below_drew1 | refine below_set ?_ GE518.out | refine below_set ?_ GE540.out) | exact HB.out)))); have n3_ := Aside0.mk (blk_below (g := gb518) (o := .cells #[.slice A0_0 l0_0.length c0_0, .bool a0_1, .int .i64 a0_2, .string a0_3, .string a0_4, .string a0_5, .string a0_6, .bool a0_7, .bool a0_8, .bool a0_9, .slice A0_10 l0_10.length c0_10, .slice A0_11 l0_11.length c0_11] 27 (0, 0)) (by (with_reducible repeat (first | refine blk_drewN ?_ _ | refine blk_drew ?_ | refine blk_alloc ?_ _)); exact BK518.out) hb); have n4_ := Aside0.mk (blk_below (g := gb540) (o := .cells #[.slice A0_0 l0_0.length c0_0, .bool ((Go.bits .and .i64 a1 1) == 1), .int .i64 a0_2, .string a0_3, .string a0_4, .string a0_5, .string a0_6, .bool ((Go.bits .and .i64 a1 2) == 2), .bool ((Go.bits .and .i64 a1 4) == 4), .bool ((Go.bits .and .i64 a1 8) == 8), .slice A0_10 l0_10.length c0_10, .slice A0_11 l0_11.length c0_11] 27 (0, 0)) (by (with_reducible repeat (first | refine blk_drewN ?_ _ | refine blk_drew ?_ | refine blk_alloc ?_ _)); exact BK540.out) hb); have n5_ := Aside0.mk (below_step (by repeat (first | (with_reducible first | exact HB.out | apply below_alloc | apply pw_below_drewN | apply below_drew1 | refine below_set ?_ GE518.out | refine below_set ?_ GE540.out) | exact HB.out)) hb); clear BK518; clear BK540; clear HB; have HO543 := n0_; have HO555 := n1_; have HO558 := n2_; have BK518 := n3_; have BK540 := n4_; have HB := n5_; clear n0_ n1_ n2_ n3_ n4_ n5_; (try clear hb); (try clear hb2); (try clear hk); (try clear hi); (try clear ho0); (try clear ho1); (try clear ho2); obtain ⟨Ao42, co42, eo42⟩ := Kd.R_slice HO543.out; subst eo42; obtain ⟨Ao43, co43, eo43⟩ := Kd.V_slice HO555.out; subst eo43; obtain ⟨Ao44, co44, eo44⟩ := Kd.V_slice HO558.out; subst eo44) | ((with_reducible refine gate_callee (f := 12) rfl ?_); refine goesL_ (some 45) rfl rfl Try.func12 (by kernel_rfl) rfl #[.agg #[.slice Ao42 t541.length co42, .bool t544, .int .i64 t545, .string t546, .string t547, .string t548, .string t549, .bool t550, .bool t551, .bool t552, .slice Ao43 t553.length co43, .slice Ao44 t556.length co44]] rfl (by (try simp only [List.map_toArray, List.map_cons, List.map_nil]); first | done | rfl | (simp only [List.length_drop, List.length_take]; rfl)) ?_; (with_reducible refine (script_Put.calls _ _ t541 t544 t545 t546 t547 t548 t549 t550 t551 t552 _ _ t553 _ _ t556 t559 _ ?side1 ?side2 ?side3 ?side4 ?side5 ?side6 A23.out).mono ?_); (case side1 => repeat (first | exact (Kd.R_reads' HO543.out).2.2 | (with_reducible refine Kd.C_alloc ?_ _) | (with_reducible refine Kd.C_drewN ?_ _) | (with_reducible refine Kd.C_drew ?_))); (case side2 => exact (Kd.R_reads' HO543.out).2.1); (case side3 => repeat (first | exact (Kd.V_reads' HO555.out).2.2 | (with_reducible refine Kd.C_alloc ?_ _) | (with_reducible refine Kd.C_drewN ?_ _) | (with_reducible refine Kd.C_drew ?_))); (case side4 => exact (Kd.V_reads' HO555.out).2.1); (case side5 => repeat (first | exact (Kd.V_reads' HO558.out).2.2 | (with_reducible refine Kd.C_alloc ?_ _) | (with_reducible refine Kd.C_drewN ?_ _) | (with_reducible refine Kd.C_drew ?_))); (case side6 => exact (Kd.V_reads' HO558.out).2.1); rintro e w45 ⟨v560, rfl, ho0, hb⟩; refine ⟨_, rfl, ?_⟩; have n0_ := Aside0.mk (Kd.R_below (by (with_reducible repeat (first | apply Kd.R_alloc | apply Kd.R_drewN | apply Kd.R_drew)); exact HO543.out) hb); have n1_ := Aside0.mk (Kd.V_elder' (by (with_reducible repeat (first | apply Kd.V_alloc | apply Kd.V_drewN | apply Kd.V_drew)); exact HO555.out) (Kd.R_base ho0) hb); have n2_ := Aside0.mk (Kd.V_elder' (by (with_reducible repeat (first | apply Kd.V_alloc | apply Kd.V_drewN | apply Kd.V_drew)); exact HO558.out) (Kd.R_base ho0) hb); have n3_ := Aside0.mk (Kd.R_lower ho0 (below_size (by repeat (first | (with_reducible first | exact HB.out | apply below_alloc | apply pw_below_drewN | apply below_drew1 | refine below_set ?_ GE518.out | refine below_set ?_ GE540.out) | exact HB.out)))); have n4_ := Aside0.mk (blk_below (g := gb518) (o := .cells #[.slice A0_0 l0_0.length c0_0, .bool a0_1, .int .i64 a0_2, .string a0_3, .string a0_4, .string a0_5, .string a0_6, .bool a0_7, .bool a0_8, .bool a0_9, .slice A0_10 l0_10.length c0_10, .slice A0_11 l0_11.length c0_11] 27 (0, 0)) (by (with_reducible repeat (first | refine blk_drewN ?_ _ | refine blk_drew ?_ | refine blk_alloc ?_ _)); exact BK518.out) hb); have n5_ := Aside0.mk (blk_below (g := gb540) (o := .cells #[.slice A0_0 l0_0.length c0_0, .bool ((Go.bits .and .i64 a1 1) == 1), .int .i64 a0_2, .string a0_3, .string a0_4, .string a0_5, .string a0_6, .bool ((Go.bits .and .i64 a1 2) == 2), .bool ((Go.bits .and .i64 a1 4) == 4), .bool ((Go.bits .and .i64 a1 8) == 8), .slice A0_10 l0_10.length c0_10, .slice A0_11 l0_11.length c0_11] 27 (0, 0)) (by (with_reducible repeat (first | refine blk_drewN ?_ _ | refine blk_drew ?_ | refine blk_alloc ?_ _)); exact BK540.out) hb); have n6_ := Aside0.mk (below_step (by repeat (first | (with_reducible first | exact HB.out | apply below_alloc | apply pw_below_drewN | apply below_drew1 | refine below_set ?_ GE518.out | refine below_set ?_ GE540.out) | exact HB.out)) hb); clear HO543; clear HO555; clear HO558; clear BK518; clear BK540; clear HB; have HO543 := n0_; have HO555 := n1_; have HO558 := n2_; have HO561 := n3_; have BK518 := n4_; have BK540 := n5_; have HB := n6_; clear n0_ n1_ n2_ n3_ n4_ n5_ n6_; (try clear hb); (try clear hb2); (try clear hk); (try clear hi); (try clear ho0); have hcz46_0 : w45.cell? ⟨gb540, 0, none⟩ = some (.slice A0_0 l0_0.length c0_0) := (blk_cell BK540.out 0).trans rfl; have hcz46_1 : w45.cell? ⟨gb540, 1, none⟩ = some (.bool ((Go.bits .and .i64 a1 1) == 1)) := (blk_cell BK540.out 1).trans rfl; have hcz46_2 : w45.cell? ⟨gb540, 2, none⟩ = some (.int .i64 a0_2) := (blk_cell BK540.out 2).trans rfl; have hcz46_3 : w45.cell? ⟨gb540, 3, none⟩ = some (.string a0_3) := (blk_cell BK540.out 3).trans rfl; have hcz46_4 : w45.cell? ⟨gb540, 4, none⟩ = some (.string a0_4) := (blk_cell BK540.out 4).trans rfl; have hcz46_5 : w45.cell? ⟨gb540, 5, none⟩ = some (.string a0_5) := (blk_cell BK540.out 5).trans rfl; have hcz46_6 : w45.cell? ⟨gb540, 6, none⟩ = some (.string a0_6) := (blk_cell BK540.out 6).trans rfl; have hcz46_7 : w45.cell? ⟨gb540, 7, none⟩ = some (.bool ((Go.bits .and .i64 a1 2) == 2)) := (blk_cell BK540.out 7).trans rfl; have hcz46_8 : w45.cell? ⟨gb540, 8, none⟩ = some (.bool ((Go.bits .and .i64 a1 4) == 4)) := (blk_cell BK540.out 8).trans rfl; have hcz46_9 : w45.cell? ⟨gb540, 9, none⟩ = some (.bool ((Go.bits .and .i64 a1 8) == 8)) := (blk_cell BK540.out 9).trans rfl; have hcz46_10 : w45.cell? ⟨gb540, 10, none⟩ = some (.slice A0_10 l0_10.length c0_10) := (blk_cell BK540.out 10).trans rfl; have hcz46_11 : w45.cell? ⟨gb540, 11, none⟩ = some (.slice A0_11 l0_11.length c0_11) := (blk_cell BK540.out 11).trans rfl; have hfz46_0 := blk_frozen BK540.out 0; have hfz46_1 := blk_frozen BK540.out 1; have hfz46_2 := blk_frozen BK540.out 2; have hfz46_3 := blk_frozen BK540.out 3; have hfz46_4 := blk_frozen BK540.out 4; have hfz46_5 := blk_frozen BK540.out 5; have hfz46_6 := blk_frozen BK540.out 6; have hfz46_7 := blk_frozen BK540.out 7; have hfz46_8 := blk_frozen BK540.out 8; have hfz46_9 := blk_frozen BK540.out 9; have hfz46_10 := blk_frozen BK540.out 10; have hfz46_11 := blk_frozen BK540.out 11) | ((with_reducible refine gate_callee (f := 10) rfl ?_); refine goesL_ (some 47) rfl rfl Try.func10 (by kernel_rfl) rfl #[.agg #[.slice A0_0 l0_0.length c0_0, .bool ((Go.bits .and .i64 a1 1) == 1), .int .i64 a0_2, .string a0_3, .string a0_4, .string a0_5, .string a0_6, .bool ((Go.bits .and .i64 a1 2) == 2), .bool ((Go.bits .and .i64 a1 4) == 4), .bool ((Go.bits .and .i64 a1 8) == 8), .slice A0_10 l0_10.length c0_10, .slice A0_11 l0_11.length c0_11]] rfl (by (try simp only [List.map_toArray, List.map_cons, List.map_nil]); first | done | rfl | (simp only [List.length_drop, List.length_take]; rfl)) ?_; (with_reducible refine (hornbooklaw23_plan.calls kj3 _ _ l0_0 ((Go.bits .and .i64 a1 1) == 1) a0_2 a0_3 a0_4 a0_5 a0_6 ((Go.bits .and .i64 a1 2) == 2) ((Go.bits .and .i64 a1 4) == 4) ((Go.bits .and .i64 a1 8) == 8) (fun k_ => k_ < w.heap.size) _ _ l0_10 (fun k_ => k_ < w.heap.size) _ _ l0_11 t562 t565 t566 t567 t568 t569 t570 t571 t572 t573 t574 t577 _ ?side1 ?side2 ?side3 ?side4 A24.out).mono ?_); (case side1 => repeat (first | exact (Kd.C_below HR0_0.out HB.out) | (with_reducible refine Kd.C_alloc ?_ _) | (with_reducible refine Kd.C_drewN ?_ _) | (with_reducible refine Kd.C_drew ?_))); (case side2 => exact HC0_0.out); (case side3 => exact Kd.V_mk HC0_10.out (Kd.F_below (Kd.C_F (Kd.heap_slice 5 (Kd.heap_int .u8)) HR0_10.out) (by repeat (first | (with_reducible first | exact HB.out | apply below_alloc | apply pw_below_drewN | apply below_drew1 | refine below_set ?_ GE518.out | refine below_set ?_ GE540.out) | exact HB.out)))); (case side4 => exact Kd.V_mk HC0_11.out (Kd.F_below (Kd.C_F (Kd.heap_slice 5 (Kd.heap_int .u8)) HR0_11.out) (by repeat (first | (with_reducible first | exact HB.out | apply below_alloc | apply pw_below_drewN | apply below_drew1 | refine below_set ?_ GE518.out | refine below_set ?_ GE540.out) | exact HB.out)))); rintro e w47 ⟨v563, v575, v578, rfl, ho0, ho1, ho2, hb⟩; refine ⟨_, rfl, ?_⟩; have n0_ := Aside0.mk (Kd.R_elder' (by (with_reducible repeat (first | apply Kd.R_alloc | apply Kd.R_drewN | apply Kd.R_drew)); exact HO543.out) (Kd.R_base ho0) hb); have n1_ := Aside0.mk (Kd.V_elder' (by (with_reducible repeat (first | apply Kd.V_alloc | apply Kd.V_drewN | apply Kd.V_drew)); exact HO555.out) (Kd.R_base ho0) hb); have n2_ := Aside0.mk (Kd.V_elder' (by (with_reducible repeat (first | apply Kd.V_alloc | apply Kd.V_drewN | apply Kd.V_drew)); exact HO558.out) (Kd.R_base ho0) hb); have n3_ := Aside0.mk (Kd.R_below (by (with_reducible repeat (first | apply Kd.R_alloc | apply Kd.R_drewN | apply Kd.R_drew)); exact HO561.out) hb); have n4_ := Aside0.mk (Kd.R_lower (Kd.R_new' (Kd.R_mono (ok' := fun k_ => True) ho0 (fun _ hk_ => trivial)) (Kd.R_lt (by (with_reducible repeat (first | apply Kd.R_alloc | apply Kd.R_drewN | apply Kd.R_drew)); exact HO543.out))) (below_size (by repeat (first | (with_reducible first | exact HB.out | apply below_alloc | apply pw_below_drewN | apply below_drew1 | refine below_set ?_ GE518.out | refine below_set ?_ GE540.out) | exact HB.out)))); have n5_ := Aside0.mk (Kd.V_lower (Kd.V_mono (ok' := fun k_ => some k_ ≠ (v563 : Value).ownBlock ∧ some k_ ≠ (.slice Ao42 t541.length co42 : Value).ownBlock ∧ some k_ ≠ (v560 : Value).ownBlock ∧ k_ ≠ gb518 ∧ k_ ≠ gb540) ho1 (fun k_ hk_ => ⟨hk_.2, Or.elim hk_.1 (fun hs_ => Or.elim hs_ (fun hs_ => fun e_ => Nat.not_le.2 hs_ (Kd.R_base HO543.out k_ e_.symm)) (fun hs_ => fun e_ => Nat.not_le.2 hs_ (Kd.R_base HO543.out k_ e_.symm))) (fun hn_ => (Kd.fresh' (Kd.R_lt (by (with_reducible repeat (first | apply Kd.R_alloc | apply Kd.R_drewN | apply Kd.R_drew)); exact HO543.out)) k_ hn_)), Or.elim hk_.1 (fun hs_ => Or.elim hs_ (fun hs_ => fun e_ => Nat.not_le.2 hs_ (Kd.R_base HO561.out k_ e_.symm)) (fun hs_ => fun e_ => Nat.not_le.2 hs_ (Kd.R_base HO561.out k_ e_.symm))) (fun hn_ => (Kd.fresh' (Kd.R_lt (by (with_reducible repeat (first | apply Kd.R_alloc | apply Kd.R_drewN | apply Kd.R_drew)); exact HO561.out)) k_ hn_)), Or.elim hk_.1 (fun hs_ => Or.elim hs_ (fun hs_ => fun e_ => Nat.not_le.2 hs_ (by rw [e_]; exact GW518.out)) (fun hs_ => fun e_ => Nat.not_le.2 hs_ (by rw [e_]; exact GW518.out))) (fun hn_ => (Kd.freshB (g := gb518) (o := .cells #[.slice A0_0 l0_0.length c0_0, .bool a0_1, .int .i64 a0_2, .string a0_3, .string a0_4, .string a0_5, .string a0_6, .bool a0_7, .bool a0_8, .bool a0_9, .slice A0_10 l0_10.length c0_10, .slice A0_11 l0_11.length c0_11] 27 (0, 0)) (by (with_reducible repeat (first | refine blk_drewN ?_ _ | refine blk_drew ?_ | refine blk_alloc ?_ _)); exact BK518.out) k_ hn_)), Or.elim hk_.1 (fun hs_ => Or.elim hs_ (fun hs_ => fun e_ => Nat.not_le.2 hs_ (by rw [e_]; exact GW540.out)) (fun hs_ => fun e_ => Nat.not_le.2 hs_ (by rw [e_]; exact GW540.out))) (fun hn_ => (Kd.freshB (g := gb540) (o := .cells #[.slice A0_0 l0_0.length c0_0, .bool ((Go.bits .and .i64 a1 1) == 1), .int .i64 a0_2, .string a0_3, .string a0_4, .string a0_5, .string a0_6, .bool ((Go.bits .and .i64 a1 2) == 2), .bool ((Go.bits .and .i64 a1 4) == 4), .bool ((Go.bits .and .i64 a1 8) == 8), .slice A0_10 l0_10.length c0_10, .slice A0_11 l0_11.length c0_11] 27 (0, 0)) (by (with_reducible repeat (first | refine blk_drewN ?_ _ | refine blk_drew ?_ | refine blk_alloc ?_ _)); exact BK540.out) k_ hn_))⟩)) (below_size (by repeat (first | (with_reducible first | exact HB.out | apply below_alloc | apply pw_below_drewN | apply below_drew1 | refine below_set ?_ GE518.out | refine below_set ?_ GE540.out) | exact HB.out)))); have n6_ := Aside0.mk (Kd.V_lower (Kd.V_mono (ok' := fun k_ => some k_ ≠ (v563 : Value).ownBlock ∧ some k_ ≠ (.slice Ao42 t541.length co42 : Value).ownBlock ∧ some k_ ≠ (v560 : Value).ownBlock ∧ k_ ≠ gb518 ∧ k_ ≠ gb540) ho2 (fun k_ hk_ => ⟨hk_.2, Or.elim hk_.1 (fun hs_ => Or.elim hs_ (fun hs_ => fun e_ => Nat.not_le.2 hs_ (Kd.R_base HO543.out k_ e_.symm)) (fun hs_ => fun e_ => Nat.not_le.2 hs_ (Kd.R_base HO543.out k_ e_.symm))) (fun hn_ => (Kd.fresh' (Kd.R_lt (by (with_reducible repeat (first | apply Kd.R_alloc | apply Kd.R_drewN | apply Kd.R_drew)); exact HO543.out)) k_ hn_)), Or.elim hk_.1 (fun hs_ => Or.elim hs_ (fun hs_ => fun e_ => Nat.not_le.2 hs_ (Kd.R_base HO561.out k_ e_.symm)) (fun hs_ => fun e_ => Nat.not_le.2 hs_ (Kd.R_base HO561.out k_ e_.symm))) (fun hn_ => (Kd.fresh' (Kd.R_lt (by (with_reducible repeat (first | apply Kd.R_alloc | apply Kd.R_drewN | apply Kd.R_drew)); exact HO561.out)) k_ hn_)), Or.elim hk_.1 (fun hs_ => Or.elim hs_ (fun hs_ => fun e_ => Nat.not_le.2 hs_ (by rw [e_]; exact GW518.out)) (fun hs_ => fun e_ => Nat.not_le.2 hs_ (by rw [e_]; exact GW518.out))) (fun hn_ => (Kd.freshB (g := gb518) (o := .cells #[.slice A0_0 l0_0.length c0_0, .bool a0_1, .int .i64 a0_2, .string a0_3, .string a0_4, .string a0_5, .string a0_6, .bool a0_7, .bool a0_8, .bool a0_9, .slice A0_10 l0_10.length c0_10, .slice A0_11 l0_11.length c0_11] 27 (0, 0)) (by (with_reducible repeat (first | refine blk_drewN ?_ _ | refine blk_drew ?_ | refine blk_alloc ?_ _)); exact BK518.out) k_ hn_)), Or.elim hk_.1 (fun hs_ => Or.elim hs_ (fun hs_ => fun e_ => Nat.not_le.2 hs_ (by rw [e_]; exact GW540.out)) (fun hs_ => fun e_ => Nat.not_le.2 hs_ (by rw [e_]; exact GW540.out))) (fun hn_ => (Kd.freshB (g := gb540) (o := .cells #[.slice A0_0 l0_0.length c0_0, .bool ((Go.bits .and .i64 a1 1) == 1), .int .i64 a0_2, .string a0_3, .string a0_4, .string a0_5, .string a0_6, .bool ((Go.bits .and .i64 a1 2) == 2), .bool ((Go.bits .and .i64 a1 4) == 4), .bool ((Go.bits .and .i64 a1 8) == 8), .slice A0_10 l0_10.length c0_10, .slice A0_11 l0_11.length c0_11] 27 (0, 0)) (by (with_reducible repeat (first | refine blk_drewN ?_ _ | refine blk_drew ?_ | refine blk_alloc ?_ _)); exact BK540.out) k_ hn_))⟩)) (below_size (by repeat (first | (with_reducible first | exact HB.out | apply below_alloc | apply pw_below_drewN | apply below_drew1 | refine below_set ?_ GE518.out | refine below_set ?_ GE540.out) | exact HB.out)))); have n7_ := Aside0.mk (blk_below (g := gb518) (o := .cells #[.slice A0_0 l0_0.length c0_0, .bool a0_1, .int .i64 a0_2, .string a0_3, .string a0_4, .string a0_5, .string a0_6, .bool a0_7, .bool a0_8, .bool a0_9, .slice A0_10 l0_10.length c0_10, .slice A0_11 l0_11.length c0_11] 27 (0, 0)) (by (with_reducible repeat (first | refine blk_drewN ?_ _ | refine blk_drew ?_ | refine blk_alloc ?_ _)); exact BK518.out) hb); have n8_ := Aside0.mk (blk_below (g := gb540) (o := .cells #[.slice A0_0 l0_0.length c0_0, .bool ((Go.bits .and .i64 a1 1) == 1), .int .i64 a0_2, .string a0_3, .string a0_4, .string a0_5, .string a0_6, .bool ((Go.bits .and .i64 a1 2) == 2), .bool ((Go.bits .and .i64 a1 4) == 4), .bool ((Go.bits .and .i64 a1 8) == 8), .slice A0_10 l0_10.length c0_10, .slice A0_11 l0_11.length c0_11] 27 (0, 0)) (by (with_reducible repeat (first | refine blk_drewN ?_ _ | refine blk_drew ?_ | refine blk_alloc ?_ _)); exact BK540.out) hb); have n9_ := Aside0.mk (below_step (by repeat (first | (with_reducible first | exact HB.out | apply below_alloc | apply pw_below_drewN | apply below_drew1 | refine below_set ?_ GE518.out | refine below_set ?_ GE540.out) | exact HB.out)) hb); clear HO543; clear HO555; clear HO558; clear HO561; clear BK518; clear BK540; clear HB; have HO543 := n0_; have HO555 := n1_; have HO558 := n2_; have HO561 := n3_; have HO564 := n4_; have HO576 := n5_; have HO579 := n6_; have BK518 := n7_; have BK540 := n8_; have HB := n9_; clear n0_ n1_ n2_ n3_ n4_ n5_ n6_ n7_ n8_ n9_; (try clear hb); (try clear hb2); (try clear hk); (try clear hi); (try clear ho0); (try clear ho1); (try clear ho2); obtain ⟨Ao48, co48, eo48⟩ := Kd.R_slice HO564.out; subst eo48; obtain ⟨Ao49, co49, eo49⟩ := Kd.V_slice HO576.out; subst eo49; obtain ⟨Ao50, co50, eo50⟩ := Kd.V_slice HO579.out; subst eo50) | ((with_reducible refine gate_callee (f := 12) rfl ?_); refine goesL_ (some 48) rfl rfl Try.func12 (by kernel_rfl) rfl #[.agg #[.slice Ao48 t562.length co48, .bool t565, .int .i64 t566, .string t567, .string t568, .string t569, .string t570, .bool t571, .bool t572, .bool t573, .slice Ao49 t574.length co49, .slice Ao50 t577.length co50]] rfl (by (try simp only [List.map_toArray, List.map_cons, List.map_nil]); first | done | rfl | (simp only [List.length_drop, List.length_take]; rfl)) ?_; (with_reducible refine (script_Put.calls _ _ t562 t565 t566 t567 t568 t569 t570 t571 t572 t573 _ _ t574 _ _ t577 t580 _ ?side1 ?side2 ?side3 ?side4 ?side5 ?side6 A25.out).mono ?_); (case side1 => repeat (first | exact (Kd.R_reads' HO564.out).2.2 | (with_reducible refine Kd.C_alloc ?_ _) | (with_reducible refine Kd.C_drewN ?_ _) | (with_reducible refine Kd.C_drew ?_))); (case side2 => exact (Kd.R_reads' HO564.out).2.1); (case side3 => repeat (first | exact (Kd.V_reads' HO576.out).2.2 | (with_reducible refine Kd.C_alloc ?_ _) | (with_reducible refine Kd.C_drewN ?_ _) | (with_reducible refine Kd.C_drew ?_))); (case side4 => exact (Kd.V_reads' HO576.out).2.1); (case side5 => repeat (first | exact (Kd.V_reads' HO579.out).2.2 | (with_reducible refine Kd.C_alloc ?_ _) | (with_reducible refine Kd.C_drewN ?_ _) | (with_reducible refine Kd.C_drew ?_))); (case side6 => exact (Kd.V_reads' HO579.out).2.1); rintro e w51 ⟨v581, rfl, ho0, hb⟩; refine ⟨_, rfl, ?_⟩; have n0_ := Aside0.mk (Kd.R_below (by (with_reducible repeat (first | apply Kd.R_alloc | apply Kd.R_drewN | apply Kd.R_drew)); exact HO543.out) hb); have n1_ := Aside0.mk (Kd.V_elder' (by (with_reducible repeat (first | apply Kd.V_alloc | apply Kd.V_drewN | apply Kd.V_drew)); exact HO555.out) (Kd.R_base ho0) hb); have n2_ := Aside0.mk (Kd.V_elder' (by (with_reducible repeat (first | apply Kd.V_alloc | apply Kd.V_drewN | apply Kd.V_drew)); exact HO558.out) (Kd.R_base ho0) hb); have n3_ := Aside0.mk (Kd.R_elder' (by (with_reducible repeat (first | apply Kd.R_alloc | apply Kd.R_drewN | apply Kd.R_drew)); exact HO561.out) (Kd.R_base ho0) hb); have n4_ := Aside0.mk (Kd.R_below (by (with_reducible repeat (first | apply Kd.R_alloc | apply Kd.R_drewN | apply Kd.R_drew)); exact HO564.out) hb); have n5_ := Aside0.mk (Kd.V_elder' (by (with_reducible repeat (first | apply Kd.V_alloc | apply Kd.V_drewN | apply Kd.V_drew)); exact HO576.out) (Kd.R_base ho0) hb); have n6_ := Aside0.mk (Kd.V_elder' (by (with_reducible repeat (first | apply Kd.V_alloc | apply Kd.V_drewN | apply Kd.V_drew)); exact HO579.out) (Kd.R_base ho0) hb); have n7_ := Aside0.mk (Kd.R_lower (Kd.R_new' ho0 (Kd.R_lt (by (with_reducible repeat (first | apply Kd.R_alloc | apply Kd.R_drewN | apply Kd.R_drew)); exact HO561.out))) (below_size (by repeat (first | (with_reducible first | exact HB.out | apply below_alloc | apply pw_below_drewN | apply below_drew1 | refine below_set ?_ GE518.out | refine below_set ?_ GE540.out) | exact HB.out)))); have n8_ := Aside0.mk (blk_below (g := gb518) (o := .cells #[.slice A0_0 l0_0.length c0_0, .bool a0_1, .int .i64 a0_2, .string a0_3, .string a0_4, .string a0_5, .string a0_6, .bool a0_7, .bool a0_8, .bool a0_9, .slice A0_10 l0_10.length c0_10, .slice A0_11 l0_11.length c0_11] 27 (0, 0)) (by (with_reducible repeat (first | refine blk_drewN ?_ _ | refine blk_drew ?_ | refine blk_alloc ?_ _)); exact BK518.out) hb); have n9_ := Aside0.mk (blk_below (g := gb540) (o := .cells #[.slice A0_0 l0_0.length c0_0, .bool ((Go.bits .and .i64 a1 1) == 1), .int .i64 a0_2, .string a0_3, .string a0_4, .string a0_5, .string a0_6, .bool ((Go.bits .and .i64 a1 2) == 2), .bool ((Go.bits .and .i64 a1 4) == 4), .bool ((Go.bits .and .i64 a1 8) == 8), .slice A0_10 l0_10.length c0_10, .slice A0_11 l0_11.length c0_11] 27 (0, 0)) (by (with_reducible repeat (first | refine blk_drewN ?_ _ | refine blk_drew ?_ | refine blk_alloc ?_ _)); exact BK540.out) hb); have n10_ := Aside0.mk (below_step (by repeat (first | (with_reducible first | exact HB.out | apply below_alloc | apply pw_below_drewN | apply below_drew1 | refine below_set ?_ GE518.out | refine below_set ?_ GE540.out) | exact HB.out)) hb); clear HO543; clear HO555; clear HO558; clear HO561; clear HO564; clear HO576; clear HO579; clear BK518; clear BK540; clear HB; have HO543 := n0_; have HO555 := n1_; have HO558 := n2_; have HO561 := n3_; have HO564 := n4_; have HO576 := n5_; have HO579 := n6_; have HO582 := n7_; have BK518 := n8_; have BK540 := n9_; have HB := n10_; clear n0_ n1_ n2_ n3_ n4_ n5_ n6_ n7_ n8_ n9_ n10_; (try clear hb); (try clear hb2); (try clear hk); (try clear hi); (try clear ho0); obtain ⟨Ao52, co52, eo52⟩ := Kd.R_slice HO561.out; subst eo52; obtain ⟨Ao53, co53, eo53⟩ := Kd.R_slice HO582.out; subst eo53))
          go_loopg [9, 10] kj3 (fun kq v9 v10 w' => ∃ (x9_2 : Int) (x10_2 : Int), v9 = .int .i64 x9_2 ∧ v10 = .int .i64 x10_2 ∧ Aside0 (hornbooklaw23_ScriptFlags.l0 kq t519 t559 t580 x9_2 x10_2 l0_0 a0_1 a0_2 a0_3 a0_4 a0_5 a0_6 a0_7 a0_8 a0_9 l0_10 l0_11 l0_0 ((Go.bits .and .i64 a1 1) == 1) a0_2 a0_3 a0_4 a0_5 a0_6 ((Go.bits .and .i64 a1 2) == 2) ((Go.bits .and .i64 a1 4) == 4) ((Go.bits .and .i64 a1 8) == 8) l0_10 l0_11 = some r) ∧ Aside0 (kq ≤ kj3) ∧ Aside0 (Kd.R (Kd.int .u8) 5 w' w.heap.size (fun k_ => some k_ ≠ ((.slice Ao53 t580.length co53) : Value).ownBlock) (.slice Ao52 t559.length co52) t559) ∧ Aside0 (Kd.R (Kd.int .u8) 5 w' w.heap.size (fun k_ => some k_ ≠ ((.slice Ao52 t559.length co52) : Value).ownBlock) (.slice Ao53 t580.length co53) t580) ∧ Aside0 (w'.heap[gb518]? = some (.cells #[(.slice A0_0 l0_0.length c0_0), .bool a0_1, .int .i64 a0_2, .string a0_3, .string a0_4, .string a0_5, .string a0_6, .bool a0_7, .bool a0_8, .bool a0_9, (.slice A0_10 l0_10.length c0_10), (.slice A0_11 l0_11.length c0_11)] 27 (0, 0))) ∧ Aside0 (w'.heap[gb540]? = some (.cells #[(.slice A0_0 l0_0.length c0_0), .bool ((Go.bits .and .i64 a1 1) == 1), .int .i64 a0_2, .string a0_3, .string a0_4, .string a0_5, .string a0_6, .bool ((Go.bits .and .i64 a1 2) == 2), .bool ((Go.bits .and .i64 a1 4) == 4), .bool ((Go.bits .and .i64 a1 8) == 8), (.slice A0_10 l0_10.length c0_10), (.slice A0_11 l0_11.length c0_11)] 27 (0, 0))) ∧ Aside0 (Below w.heap.size w w'))
          case atStart => exact ⟨(0), (0), (by first | rfl | (simp; done) | (simp [*]; done)), (by first | rfl | (simp; done) | (simp [*]; done)), H', ⟨Nat.le_refl _⟩, ⟨by (with_reducible repeat (first | apply Kd.R_alloc | apply Kd.R_drewN | apply Kd.R_drew)); exact Kd.R_mono HO561.out (fun _ hk => hk.2)⟩, ⟨by (with_reducible repeat (first | apply Kd.R_alloc | apply Kd.R_drewN | apply Kd.R_drew)); exact Kd.R_mono HO582.out (fun _ hk => hk.2)⟩, ⟨by (with_reducible repeat (first | refine blk_drewN ?_ _ | refine blk_drew ?_ | refine blk_alloc ?_ _)); exact BK518.out⟩, ⟨by (with_reducible repeat (first | refine blk_drewN ?_ _ | refine blk_drew ?_ | refine blk_alloc ?_ _)); exact BK540.out⟩, ⟨by repeat (first | (with_reducible first | exact HB.out | apply below_alloc | apply pw_below_drewN | apply below_drew1 | refine below_set ?_ GE518.out | refine below_set ?_ GE540.out) | exact HB.out)⟩⟩
          case round =>
            clear H'
            try clear c1
            try clear c2
            try clear p2
            try clear c6
            try clear c7
            try clear c8
            try clear c10
            try clear c12
            try clear c21
            try clear c26
            try clear c26b0
            try clear c26b1
            try clear c26b2
            try clear c29
            try clear hcz11_0
            try clear hcz11_1
            try clear hcz11_10
            try clear hcz11_11
            try clear hcz11_2
            try clear hcz11_3
            try clear hcz11_4
            try clear hcz11_5
            try clear hcz11_6
            try clear hcz11_7
            try clear hcz11_8
            try clear hcz11_9
            try clear hcz13_0
            try clear hcz13_1
            try clear hcz13_10
            try clear hcz13_11
            try clear hcz13_2
            try clear hcz13_3
            try clear hcz13_4
            try clear hcz13_5
            try clear hcz13_6
            try clear hcz13_7
            try clear hcz13_8
            try clear hcz13_9
            try clear hcz19_0
            try clear hcz19_1
            try clear hcz19_10
            try clear hcz19_11
            try clear hcz19_2
            try clear hcz19_3
            try clear hcz19_4
            try clear hcz19_5
            try clear hcz19_6
            try clear hcz19_7
            try clear hcz19_8
            try clear hcz19_9
            try clear hcz27_0
            try clear hcz27_1
            try clear hcz27_10
            try clear hcz27_11
            try clear hcz27_2
            try clear hcz27_3
            try clear hcz27_4
            try clear hcz27_5
            try clear hcz27_6
            try clear hcz27_7
            try clear hcz27_8
            try clear hcz27_9
            try clear hcz30_0
            try clear hcz30_1
            try clear hcz30_10
            try clear hcz30_11
            try clear hcz30_2
            try clear hcz30_3
            try clear hcz30_4
            try clear hcz30_5
            try clear hcz30_6
            try clear hcz30_7
            try clear hcz30_8
            try clear hcz30_9
            try clear hcz32_0
            try clear hcz32_1
            try clear hcz32_10
            try clear hcz32_11
            try clear hcz32_2
            try clear hcz32_3
            try clear hcz32_4
            try clear hcz32_5
            try clear hcz32_6
            try clear hcz32_7
            try clear hcz32_8
            try clear hcz32_9
            try clear hcz34_0
            try clear hcz34_1
            try clear hcz34_10
            try clear hcz34_11
            try clear hcz34_2
            try clear hcz34_3
            try clear hcz34_4
            try clear hcz34_5
            try clear hcz34_6
            try clear hcz34_7
            try clear hcz34_8
            try clear hcz34_9
            try clear hcz36_0
            try clear hcz36_1
            try clear hcz36_10
            try clear hcz36_11
            try clear hcz36_2
            try clear hcz36_3
            try clear hcz36_4
            try clear hcz36_5
            try clear hcz36_6
            try clear hcz36_7
            try clear hcz36_8
            try clear hcz36_9
            try clear hcz38_0
            try clear hcz38_1
            try clear hcz38_10
            try clear hcz38_11
            try clear hcz38_2
            try clear hcz38_3
            try clear hcz38_4
            try clear hcz38_5
            try clear hcz38_6
            try clear hcz38_7
            try clear hcz38_8
            try clear hcz38_9
            try clear hcz40_0
            try clear hcz40_1
            try clear hcz40_10
            try clear hcz40_11
            try clear hcz40_2
            try clear hcz40_3
            try clear hcz40_4
            try clear hcz40_5
            try clear hcz40_6
            try clear hcz40_7
            try clear hcz40_8
            try clear hcz40_9
            try clear hcz46_0
            try clear hcz46_1
            try clear hcz46_10
            try clear hcz46_11
            try clear hcz46_2
            try clear hcz46_3
            try clear hcz46_4
            try clear hcz46_5
            try clear hcz46_6
            try clear hcz46_7
            try clear hcz46_8
            try clear hcz46_9
            try clear hfz11_0
            try clear hfz11_1
            try clear hfz11_10
            try clear hfz11_11
            try clear hfz11_2
            try clear hfz11_3
            try clear hfz11_4
            try clear hfz11_5
            try clear hfz11_6
            try clear hfz11_7
            try clear hfz11_8
            try clear hfz11_9
            try clear hfz13_0
            try clear hfz13_1
            try clear hfz13_10
            try clear hfz13_11
            try clear hfz13_2
            try clear hfz13_3
            try clear hfz13_4
            try clear hfz13_5
            try clear hfz13_6
            try clear hfz13_7
            try clear hfz13_8
            try clear hfz13_9
            try clear hfz19_0
            try clear hfz19_1
            try clear hfz19_10
            try clear hfz19_11
            try clear hfz19_2
            try clear hfz19_3
            try clear hfz19_4
            try clear hfz19_5
            try clear hfz19_6
            try clear hfz19_7
            try clear hfz19_8
            try clear hfz19_9
            try clear hfz27_0
            try clear hfz27_1
            try clear hfz27_10
            try clear hfz27_11
            try clear hfz27_2
            try clear hfz27_3
            try clear hfz27_4
            try clear hfz27_5
            try clear hfz27_6
            try clear hfz27_7
            try clear hfz27_8
            try clear hfz27_9
            try clear hfz30_0
            try clear hfz30_1
            try clear hfz30_10
            try clear hfz30_11
            try clear hfz30_2
            try clear hfz30_3
            try clear hfz30_4
            try clear hfz30_5
            try clear hfz30_6
            try clear hfz30_7
            try clear hfz30_8
            try clear hfz30_9
            try clear hfz32_0
            try clear hfz32_1
            try clear hfz32_10
            try clear hfz32_11
            try clear hfz32_2
            try clear hfz32_3
            try clear hfz32_4
            try clear hfz32_5
            try clear hfz32_6
            try clear hfz32_7
            try clear hfz32_8
            try clear hfz32_9
            try clear hfz34_0
            try clear hfz34_1
            try clear hfz34_10
            try clear hfz34_11
            try clear hfz34_2
            try clear hfz34_3
            try clear hfz34_4
            try clear hfz34_5
            try clear hfz34_6
            try clear hfz34_7
            try clear hfz34_8
            try clear hfz34_9
            try clear hfz36_0
            try clear hfz36_1
            try clear hfz36_10
            try clear hfz36_11
            try clear hfz36_2
            try clear hfz36_3
            try clear hfz36_4
            try clear hfz36_5
            try clear hfz36_6
            try clear hfz36_7
            try clear hfz36_8
            try clear hfz36_9
            try clear hfz38_0
            try clear hfz38_1
            try clear hfz38_10
            try clear hfz38_11
            try clear hfz38_2
            try clear hfz38_3
            try clear hfz38_4
            try clear hfz38_5
            try clear hfz38_6
            try clear hfz38_7
            try clear hfz38_8
            try clear hfz38_9
            try clear hfz40_0
            try clear hfz40_1
            try clear hfz40_10
            try clear hfz40_11
            try clear hfz40_2
            try clear hfz40_3
            try clear hfz40_4
            try clear hfz40_5
            try clear hfz40_6
            try clear hfz40_7
            try clear hfz40_8
            try clear hfz40_9
            try clear hfz46_0
            try clear hfz46_1
            try clear hfz46_10
            try clear hfz46_11
            try clear hfz46_2
            try clear hfz46_3
            try clear hfz46_4
            try clear hfz46_5
            try clear hfz46_6
            try clear hfz46_7
            try clear hfz46_8
            try clear hfz46_9
            try clear p2
            obtain ⟨x9_2, x10_2, rfl, rfl, HA, HK2, HO_7, HO_8, BK518, BK540, HB⟩ := hrel
            cases gk with
            | zero => exact absurd HA.out (by simp [hornbooklaw23_ScriptFlags.l0])
            | succ k2 =>
              have H := HA.out
              clear HA
              simp only [hornbooklaw23_ScriptFlags.l0] at H
              by_cases c54 : x10_2 < (t559.length : Int)
              · rw [if_pos c54] at H
                have c54b0 : decide (x10_2 < (t559.length : Int)) = true := decide_eq_true c54
                clear c54
                by_cases c55 : 0 ≤ x10_2
                · rw [if_pos c55] at H
                  have c55b0 : decide (0 ≤ x10_2) = true := decide_eq_true c55
                  clear c55
                  by_cases c56 : x10_2 < (t580.length : Int)
                  · rw [if_pos c56] at H
                    have c56b0 : decide (x10_2 < (t580.length : Int)) = true := decide_eq_true c56
                    clear c56
                    by_cases c57 : (rd t559 x10_2) = (rd t580 x10_2)
                    · rw [if_pos c57] at H
                      have c57b0 : ((rd t559 x10_2) == (rd t580 x10_2)) = true := beq_iff_eq.mpr c57
                      have c57b1 : ((rd t559 x10_2) != (rd t580 x10_2)) = false := bne_eq_false_iff_eq.mpr c57
                      clear c57
                      have H' := Aside0.mk H
                      clear H
                      try go_wp2
                      have n0_ := Aside0.mk (Kd.R_drew HO_7.out)
                      have n1_ := Aside0.mk (Kd.R_drew HO_8.out)
                      have n2_ := Aside0.mk (blk_drew BK518.out)
                      have n3_ := Aside0.mk (blk_drew BK540.out)
                      have n4_ := Aside0.mk (below_drew1 HB.out)
                      clear HO_7
                      clear HO_8
                      clear BK518
                      clear BK540
                      clear HB
                      have HO_7 := n0_
                      have HO_8 := n1_
                      have BK518 := n2_
                      have BK540 := n3_
                      have HB := n4_
                      clear n0_ n1_ n2_ n3_ n4_
                      have p583 : 0 ≤ (x10_2 : Int) := of_decide_eq_true (by first | (with_reducible assumption) | assumption)
                      have q583 : x10_2 < (t559.length : Int) := of_decide_eq_true (by first | (with_reducible assumption) | assumption)
                      obtain ⟨ad583, e583, hx583_0⟩ := Kd.at_int (Kd.R_reads' HO_7.out).2.2 x10_2 p583 q583
                      cases e583
                      replace p583 := eq_true p583
                      replace q583 := eq_true q583
                      have p584 : 0 ≤ (x10_2 : Int) := of_decide_eq_true (by first | (with_reducible assumption) | assumption)
                      have q584 : x10_2 < (t580.length : Int) := of_decide_eq_true (by first | (with_reducible assumption) | assumption)
                      obtain ⟨ad584, e584, hx584_0⟩ := Kd.at_int (Kd.R_reads' HO_8.out).2.2 x10_2 p584 q584
                      cases e584
                      replace p584 := eq_true p584
                      replace q584 := eq_true q584
                      refine start_ (n := 9) (S := fun w' => w'.cell? (ad583.add (x10_2).toNat) = some (.int .u8 (rd t559 x10_2)) ∧ w'.cell? (ad584.add (x10_2).toNat) = some (.int .u8 (rd t580 x10_2))) (ds := []) #[false, false, false, false, false, false, false, false, false] (by kernel_rfl) rfl rfl ⟨hx583_0, hx584_0⟩ (fun hHeld => ?_); refine with_tabW hornbooklaw23_ScriptFlags.tab17 hornbooklaw23_ScriptFlags.bits17 (fun HT_ HW_ => ?_)
                      generalize wr.drew = w58 at HO_7 HO_8 BK518 BK540 HB hx583_0 hx584_0 hHeld ⊢
                      refine pure_ (i := 0) (N := some 60) (v := ?_) (a' := ?_) #[true, false, false, false, false, false, false, false, false] rfl rfl (any_of HT_.out (by kernel_rfl)) (fun _ _ _ h => h) (Or.inl ⟨by rfl, ?_⟩) ?_ ?_
                      rotate_left
                      · intro w'
                        go_simp
                        with_reducible rfl
                      rotate_left
                      · simp only [Act.put, List.setIfInBounds_toArray, List.set_cons_zero, List.set_cons_succ, i64_w, i32_w]
                        rfl
                      refine pure_ (i := 1) (N := some 61) (v := ?_) (a' := ?_) #[true, true, false, false, false, false, false, false, false] rfl rfl (any_of HT_.out (by kernel_rfl)) (fun _ _ _ h => h) (Or.inl ⟨by rfl, ?_⟩) ?_ ?_
                      rotate_left
                      · intro w'
                        go_simp
                        with_reducible rfl
                      rotate_left
                      · simp only [Act.put, List.setIfInBounds_toArray, List.set_cons_zero, List.set_cons_succ, i64_w, i32_w]
                        rfl
                      refine pure_ (i := 2) (N := some 62) (v := ?_) (a' := ?_) #[true, true, true, false, false, false, false, false, false] rfl rfl (any_of HT_.out (by kernel_rfl)) (fun _ _ _ h => h) (Or.inl ⟨by rfl, ?_⟩) ?_ ?_
                      rotate_left
                      · intro w'
                        go_simp
                        with_reducible rfl
                      rotate_left
                      · simp only [Act.put, List.setIfInBounds_toArray, List.set_cons_zero, List.set_cons_succ, i64_w, i32_w]
                        rfl
                      refine pure_ (i := 4) (N := some 64) (v := ?_) (a' := ?_) #[true, true, true, false, true, false, false, false, false] rfl rfl (any_of HT_.out (by kernel_rfl)) (fun _ _ _ h => h) (Or.inl ⟨by rfl, ?_⟩) ?_ ?_
                      rotate_left
                      · intro w'
                        go_simp
                        with_reducible rfl
                      rotate_left
                      · simp only [Act.put, List.setIfInBounds_toArray, List.set_cons_zero, List.set_cons_succ, i64_w, i32_w]
                        rfl
                      refine pure_ (i := 5) (N := some 65) (v := ?_) (a' := ?_) #[true, true, true, false, true, true, false, false, false] rfl rfl (any_of HT_.out (by kernel_rfl)) (fun _ _ _ h => h) (Or.inl ⟨by rfl, ?_⟩) ?_ ?_
                      rotate_left
                      · intro w'
                        go_simp
                        with_reducible rfl
                      rotate_left
                      · simp only [Act.put, List.setIfInBounds_toArray, List.set_cons_zero, List.set_cons_succ, i64_w, i32_w]
                        rfl
                      refine pure_ (i := 6) (N := some 66) (v := ?_) (a' := ?_) #[true, true, true, false, true, true, true, false, false] rfl rfl (any_of HT_.out (by kernel_rfl)) (fun _ _ _ h => h) (Or.inl ⟨by rfl, ?_⟩) ?_ ?_
                      rotate_left
                      · intro w'
                        go_simp
                        with_reducible rfl
                      rotate_left
                      · simp only [Act.put, List.setIfInBounds_toArray, List.set_cons_zero, List.set_cons_succ, i64_w, i32_w]
                        rfl
                      refine take_ (i := 3) (N := some 63) (v := ?_) (a' := ?_) #[true, true, true, true, true, true, true, false, false] rfl rfl (take_ofW HT_.out HW_.out (by kernel_rfl)) (fun _ _ _ h => h) (Or.inl ⟨by rfl, ?_⟩) hHeld ?_ ?_
                      rotate_left
                      · rintro w' ⟨s0, s1⟩
                        go_simp
                        with_reducible rfl
                      rotate_left
                      · simp only [Act.put, List.setIfInBounds_toArray, List.set_cons_zero, List.set_cons_succ, i64_w, i32_w]
                        rfl
                      refine take_ (i := 7) (N := some 67) (v := ?_) (a' := ?_) #[true, true, true, true, true, true, true, true, false] rfl rfl (take_ofW HT_.out HW_.out (by kernel_rfl)) (fun _ _ _ h => h) (Or.inl ⟨by rfl, ?_⟩) hHeld ?_ ?_
                      rotate_left
                      · rintro w' ⟨s0, s1⟩
                        go_simp
                        with_reducible rfl
                      rotate_left
                      · simp only [Act.put, List.setIfInBounds_toArray, List.set_cons_zero, List.set_cons_succ, i64_w, i32_w]
                        rfl
                      refine pure_ (i := 8) (N := some 68) (v := ?_) (a' := ?_) #[true, true, true, true, true, true, true, true, true] rfl rfl (any_of HT_.out (by kernel_rfl)) (fun _ _ _ h => h) (Or.inl ⟨by rfl, ?_⟩) ?_ ?_
                      rotate_left
                      · intro w'
                        go_simp
                        with_reducible rfl
                      rotate_left
                      · simp only [Act.put, List.setIfInBounds_toArray, List.set_cons_zero, List.set_cons_succ, i64_w, i32_w]
                        rfl
                      refine done_ (done_of HT_.out (by kernel_rfl)) ?_
                      try go_wp2
                      go_roundg k2
                      case measure => have := HJ3.out; have := HK2.out; omega
                      case rel => exact ⟨(x9_2), (wrap64 (x10_2 + 1)), (by first | rfl | (simp; done) | (simp [*]; done)), (by first | rfl | (simp; done) | (simp [*]; done)), H', ⟨by have := HJ3.out; have := HK2.out; omega⟩, ⟨by (with_reducible repeat (first | apply Kd.R_alloc | apply Kd.R_drewN | apply Kd.R_drew)); exact HO_7.out⟩, ⟨by (with_reducible repeat (first | apply Kd.R_alloc | apply Kd.R_drewN | apply Kd.R_drew)); exact HO_8.out⟩, ⟨by (with_reducible repeat (first | refine blk_drewN ?_ _ | refine blk_drew ?_ | refine blk_alloc ?_ _)); exact BK518.out⟩, ⟨by (with_reducible repeat (first | refine blk_drewN ?_ _ | refine blk_drew ?_ | refine blk_alloc ?_ _)); exact BK540.out⟩, ⟨by repeat (first | (with_reducible first | exact HB.out | apply below_alloc | apply pw_below_drewN | apply below_drew1 | refine below_set ?_ GE518.out | refine below_set ?_ GE540.out) | exact HB.out)⟩⟩
                    · rw [if_neg c57] at H
                      have c57b0 : ((rd t559 x10_2) == (rd t580 x10_2)) = false := beq_eq_false_iff_ne.mpr c57
                      have c57b1 : ((rd t559 x10_2) != (rd t580 x10_2)) = true := bne_iff_ne.mpr c57
                      have H' := Aside0.mk H
                      clear H
                      try go_wp2
                      have n0_ := Aside0.mk (Kd.R_drew HO_7.out)
                      have n1_ := Aside0.mk (Kd.R_drew HO_8.out)
                      have n2_ := Aside0.mk (blk_drew BK518.out)
                      have n3_ := Aside0.mk (blk_drew BK540.out)
                      have n4_ := Aside0.mk (below_drew1 HB.out)
                      clear HO_7
                      clear HO_8
                      clear BK518
                      clear BK540
                      clear HB
                      have HO_7 := n0_
                      have HO_8 := n1_
                      have BK518 := n2_
                      have BK540 := n3_
                      have HB := n4_
                      clear n0_ n1_ n2_ n3_ n4_
                      have p583 : 0 ≤ (x10_2 : Int) := of_decide_eq_true (by first | (with_reducible assumption) | assumption)
                      have q583 : x10_2 < (t559.length : Int) := of_decide_eq_true (by first | (with_reducible assumption) | assumption)
                      obtain ⟨ad583, e583, hx583_0⟩ := Kd.at_int (Kd.R_reads' HO_7.out).2.2 x10_2 p583 q583
                      cases e583
                      replace p583 := eq_true p583
                      replace q583 := eq_true q583
                      have p584 : 0 ≤ (x10_2 : Int) := of_decide_eq_true (by first | (with_reducible assumption) | assumption)
                      have q584 : x10_2 < (t580.length : Int) := of_decide_eq_true (by first | (with_reducible assumption) | assumption)
                      obtain ⟨ad584, e584, hx584_0⟩ := Kd.at_int (Kd.R_reads' HO_8.out).2.2 x10_2 p584 q584
                      cases e584
                      replace p584 := eq_true p584
                      replace q584 := eq_true q584
                      refine start_ (n := 9) (S := fun w' => w'.cell? (ad583.add (x10_2).toNat) = some (.int .u8 (rd t559 x10_2)) ∧ w'.cell? (ad584.add (x10_2).toNat) = some (.int .u8 (rd t580 x10_2))) (ds := []) #[false, false, false, false, false, false, false, false, false] (by kernel_rfl) rfl rfl ⟨hx583_0, hx584_0⟩ (fun hHeld => ?_); refine with_tabW hornbooklaw23_ScriptFlags.tab17 hornbooklaw23_ScriptFlags.bits17 (fun HT_ HW_ => ?_)
                      generalize wr.drew = w59 at HO_7 HO_8 BK518 BK540 HB hx583_0 hx584_0 hHeld ⊢
                      refine pure_ (i := 0) (N := some 60) (v := ?_) (a' := ?_) #[true, false, false, false, false, false, false, false, false] rfl rfl (any_of HT_.out (by kernel_rfl)) (fun _ _ _ h => h) (Or.inl ⟨by rfl, ?_⟩) ?_ ?_
                      rotate_left
                      · intro w'
                        go_simp
                        with_reducible rfl
                      rotate_left
                      · simp only [Act.put, List.setIfInBounds_toArray, List.set_cons_zero, List.set_cons_succ, i64_w, i32_w]
                        rfl
                      refine pure_ (i := 1) (N := some 61) (v := ?_) (a' := ?_) #[true, true, false, false, false, false, false, false, false] rfl rfl (any_of HT_.out (by kernel_rfl)) (fun _ _ _ h => h) (Or.inl ⟨by rfl, ?_⟩) ?_ ?_
                      rotate_left
                      · intro w'
                        go_simp
                        with_reducible rfl
                      rotate_left
                      · simp only [Act.put, List.setIfInBounds_toArray, List.set_cons_zero, List.set_cons_succ, i64_w, i32_w]
                        rfl
                      refine pure_ (i := 2) (N := some 62) (v := ?_) (a' := ?_) #[true, true, true, false, false, false, false, false, false] rfl rfl (any_of HT_.out (by kernel_rfl)) (fun _ _ _ h => h) (Or.inl ⟨by rfl, ?_⟩) ?_ ?_
                      rotate_left
                      · intro w'
                        go_simp
                        with_reducible rfl
                      rotate_left
                      · simp only [Act.put, List.setIfInBounds_toArray, List.set_cons_zero, List.set_cons_succ, i64_w, i32_w]
                        rfl
                      refine pure_ (i := 4) (N := some 64) (v := ?_) (a' := ?_) #[true, true, true, false, true, false, false, false, false] rfl rfl (any_of HT_.out (by kernel_rfl)) (fun _ _ _ h => h) (Or.inl ⟨by rfl, ?_⟩) ?_ ?_
                      rotate_left
                      · intro w'
                        go_simp
                        with_reducible rfl
                      rotate_left
                      · simp only [Act.put, List.setIfInBounds_toArray, List.set_cons_zero, List.set_cons_succ, i64_w, i32_w]
                        rfl
                      refine pure_ (i := 5) (N := some 65) (v := ?_) (a' := ?_) #[true, true, true, false, true, true, false, false, false] rfl rfl (any_of HT_.out (by kernel_rfl)) (fun _ _ _ h => h) (Or.inl ⟨by rfl, ?_⟩) ?_ ?_
                      rotate_left
                      · intro w'
                        go_simp
                        with_reducible rfl
                      rotate_left
                      · simp only [Act.put, List.setIfInBounds_toArray, List.set_cons_zero, List.set_cons_succ, i64_w, i32_w]
                        rfl
                      refine pure_ (i := 6) (N := some 66) (v := ?_) (a' := ?_) #[true, true, true, false, true, true, true, false, false] rfl rfl (any_of HT_.out (by kernel_rfl)) (fun _ _ _ h => h) (Or.inl ⟨by rfl, ?_⟩) ?_ ?_
                      rotate_left
                      · intro w'
                        go_simp
                        with_reducible rfl
                      rotate_left
                      · simp only [Act.put, List.setIfInBounds_toArray, List.set_cons_zero, List.set_cons_succ, i64_w, i32_w]
                        rfl
                      refine take_ (i := 3) (N := some 63) (v := ?_) (a' := ?_) #[true, true, true, true, true, true, true, false, false] rfl rfl (take_ofW HT_.out HW_.out (by kernel_rfl)) (fun _ _ _ h => h) (Or.inl ⟨by rfl, ?_⟩) hHeld ?_ ?_
                      rotate_left
                      · rintro w' ⟨s0, s1⟩
                        go_simp
                        with_reducible rfl
                      rotate_left
                      · simp only [Act.put, List.setIfInBounds_toArray, List.set_cons_zero, List.set_cons_succ, i64_w, i32_w]
                        rfl
                      refine take_ (i := 7) (N := some 67) (v := ?_) (a' := ?_) #[true, true, true, true, true, true, true, true, false] rfl rfl (take_ofW HT_.out HW_.out (by kernel_rfl)) (fun _ _ _ h => h) (Or.inl ⟨by rfl, ?_⟩) hHeld ?_ ?_
                      rotate_left
                      · rintro w' ⟨s0, s1⟩
                        go_simp
                        with_reducible rfl
                      rotate_left
                      · simp only [Act.put, List.setIfInBounds_toArray, List.set_cons_zero, List.set_cons_succ, i64_w, i32_w]
                        rfl
                      refine pure_ (i := 8) (N := some 68) (v := ?_) (a' := ?_) #[true, true, true, true, true, true, true, true, true] rfl rfl (any_of HT_.out (by kernel_rfl)) (fun _ _ _ h => h) (Or.inl ⟨by rfl, ?_⟩) ?_ ?_
                      rotate_left
                      · intro w'
                        go_simp
                        with_reducible rfl
                      rotate_left
                      · simp only [Act.put, List.setIfInBounds_toArray, List.set_cons_zero, List.set_cons_succ, i64_w, i32_w]
                        rfl
                      refine done_ (done_of HT_.out (by kernel_rfl)) ?_
                      try go_wp2
                      go_roundg k2
                      case measure => have := HJ3.out; have := HK2.out; omega
                      case rel => exact ⟨(wrap64 (x9_2 + 1)), (wrap64 (x10_2 + 1)), (by first | rfl | (simp; done) | (simp [*]; done)), (by first | rfl | (simp; done) | (simp [*]; done)), H', ⟨by have := HJ3.out; have := HK2.out; omega⟩, ⟨by (with_reducible repeat (first | apply Kd.R_alloc | apply Kd.R_drewN | apply Kd.R_drew)); exact HO_7.out⟩, ⟨by (with_reducible repeat (first | apply Kd.R_alloc | apply Kd.R_drewN | apply Kd.R_drew)); exact HO_8.out⟩, ⟨by (with_reducible repeat (first | refine blk_drewN ?_ _ | refine blk_drew ?_ | refine blk_alloc ?_ _)); exact BK518.out⟩, ⟨by (with_reducible repeat (first | refine blk_drewN ?_ _ | refine blk_drew ?_ | refine blk_alloc ?_ _)); exact BK540.out⟩, ⟨by repeat (first | (with_reducible first | exact HB.out | apply below_alloc | apply pw_below_drewN | apply below_drew1 | refine below_set ?_ GE518.out | refine below_set ?_ GE540.out) | exact HB.out)⟩⟩
                  · rw [if_neg c56] at H
                    exact absurd H (by simp)
                · rw [if_neg c55] at H
                  exact absurd H (by simp)
              · rw [if_neg c54] at H
                have c54b0 : decide (x10_2 < (t559.length : Int)) = false := decide_eq_false c54
                clear c54
                by_cases c60 : t519 = true
                · subst c60
                  have H1 : (if x9_2 ≤ 1 then (if ((x9_2 == 0) == (a0_1 == ((Go.bits .and .i64 a1 1) == 1) && (a0_2 == a0_2 && (a0_3.toList == a0_3.toList && (a0_4.toList == a0_4.toList && (a0_5.toList == a0_5.toList && (a0_6.toList == a0_6.toList && (a0_7 == ((Go.bits .and .i64 a1 2) == 2) && (a0_8 == ((Go.bits .and .i64 a1 4) == 4) && (a0_9 == ((Go.bits .and .i64 a1 8) == 8))))))))))) = true then ((script_Get.f t580).bind fun bt585 => ((hornbooklaw23_planned.f k2 bt585.1 bt585.2.1 bt585.2.2.1 bt585.2.2.2.1 bt585.2.2.2.2.1 bt585.2.2.2.2.2.1 bt585.2.2.2.2.2.2.1 bt585.2.2.2.2.2.2.2.1 bt585.2.2.2.2.2.2.2.2.1 bt585.2.2.2.2.2.2.2.2.2.1 bt585.2.2.2.2.2.2.2.2.2.2.1 bt585.2.2.2.2.2.2.2.2.2.2.2).bind fun bt603 => ((hornbookref23_Same.f k2 bt603.1 bt603.2.1 bt603.2.2.1 bt603.2.2.2.1 bt603.2.2.2.2.1 bt603.2.2.2.2.2.1 bt603.2.2.2.2.2.2.1 bt603.2.2.2.2.2.2.2.1 bt603.2.2.2.2.2.2.2.2.1 bt603.2.2.2.2.2.2.2.2.2.1 bt603.2.2.2.2.2.2.2.2.2.2.1 bt603.2.2.2.2.2.2.2.2.2.2.2 l0_0 ((Go.bits .and .i64 a1 1) == 1) a0_2 a0_3 a0_4 a0_5 a0_6 ((Go.bits .and .i64 a1 2) == 2) ((Go.bits .and .i64 a1 4) == 4) ((Go.bits .and .i64 a1 8) == 8) l0_10 l0_11).bind fun t621 => (some t621)))) else (some false)) else (some false)) = some r := by rw [if_pos rfl] at H; exact H
                  clear H
                  have H := H1
                  clear H1
                  by_cases c61 : x9_2 ≤ 1
                  · rw [if_pos c61] at H
                    have c61b0 : decide (x9_2 ≤ 1) = true := decide_eq_true c61
                    clear c61
                    by_cases c62 : ((x9_2 == 0) == (a0_1 == ((Go.bits .and .i64 a1 1) == 1) && (a0_2 == a0_2 && (a0_3.toList == a0_3.toList && (a0_4.toList == a0_4.toList && (a0_5.toList == a0_5.toList && (a0_6.toList == a0_6.toList && (a0_7 == ((Go.bits .and .i64 a1 2) == 2) && (a0_8 == ((Go.bits .and .i64 a1 4) == 4) && (a0_9 == ((Go.bits .and .i64 a1 8) == 8))))))))))) = true
                    · rw [if_pos c62] at H
                      have c62b0 : ((x9_2 == 0) == (a0_1 == ((Go.bits .and .i64 a1 1) == 1) && (a0_2 == a0_2 && (a0_3.toList == a0_3.toList && (a0_4.toList == a0_4.toList && (a0_5.toList == a0_5.toList && (a0_6.toList == a0_6.toList && (a0_7 == ((Go.bits .and .i64 a1 2) == 2) && (a0_8 == ((Go.bits .and .i64 a1 4) == 4) && (a0_9 == ((Go.bits .and .i64 a1 8) == 8))))))))))) = true := c62
                      (try (have c62b1 : decide ((x9_2 == 0) = (a0_1 == ((Go.bits .and .i64 a1 1) == 1) && (a0_2 == a0_2 && (a0_3.toList == a0_3.toList && (a0_4.toList == a0_4.toList && (a0_5.toList == a0_5.toList && (a0_6.toList == a0_6.toList && (a0_7 == ((Go.bits .and .i64 a1 2) == 2) && (a0_8 == ((Go.bits .and .i64 a1 4) == 4) && (a0_9 == ((Go.bits .and .i64 a1 8) == 8))))))))))) = true := by simpa using c62))
                      (try (have c62b2 : ((x9_2 == 0) == (a0_1 == ((Go.bits .and .i64 a1 1) == 1) && (a0_2 == a0_2 && (a0_3.toList == a0_3.toList && (a0_4.toList == a0_4.toList && (a0_5.toList == a0_5.toList && (a0_6.toList == a0_6.toList && (a0_7 == ((Go.bits .and .i64 a1 2) == 2) && (a0_8 == ((Go.bits .and .i64 a1 4) == 4) && (a0_9 == ((Go.bits .and .i64 a1 8) == 8))))))))))) = true := by simpa using c62))
                      have fixD := c62
                      simp only [beq_self_eq_true, Bool.true_and] at fixD
                      clear c62
                      replace H := Option.bind_eq_some_iff.mp H
                      obtain ⟨⟨t585, t588, t589, t590, t591, t592, t593, t594, t595, t596, t597, t600⟩, A630, H⟩ := H
                      replace H : ((hornbooklaw23_planned.f k2 t585 t588 t589 t590 t591 t592 t593 t594 t595 t596 t597 t600).bind fun bt603 => ((hornbookref23_Same.f k2 bt603.1 bt603.2.1 bt603.2.2.1 bt603.2.2.2.1 bt603.2.2.2.2.1 bt603.2.2.2.2.2.1 bt603.2.2.2.2.2.2.1 bt603.2.2.2.2.2.2.2.1 bt603.2.2.2.2.2.2.2.2.1 bt603.2.2.2.2.2.2.2.2.2.1 bt603.2.2.2.2.2.2.2.2.2.2.1 bt603.2.2.2.2.2.2.2.2.2.2.2 l0_0 ((Go.bits .and .i64 a1 1) == 1) a0_2 a0_3 a0_4 a0_5 a0_6 ((Go.bits .and .i64 a1 2) == 2) ((Go.bits .and .i64 a1 4) == 4) ((Go.bits .and .i64 a1 8) == 8) l0_10 l0_11).bind fun t621 => (some t621))) = some r := H
                      have A63 := Aside0.mk A630
                      clear A630
                      replace H := Option.bind_eq_some_iff.mp H
                      obtain ⟨⟨t603, t606, t607, t608, t609, t610, t611, t612, t613, t614, t615, t618⟩, A640, H⟩ := H
                      replace H : ((hornbookref23_Same.f k2 t603 t606 t607 t608 t609 t610 t611 t612 t613 t614 t615 t618 l0_0 ((Go.bits .and .i64 a1 1) == 1) a0_2 a0_3 a0_4 a0_5 a0_6 ((Go.bits .and .i64 a1 2) == 2) ((Go.bits .and .i64 a1 4) == 4) ((Go.bits .and .i64 a1 8) == 8) l0_10 l0_11).bind fun t621 => (some t621)) = some r := H
                      have A64 := Aside0.mk A640
                      clear A640
                      replace H := Option.bind_eq_some_iff.mp H
                      obtain ⟨t621, A650, H⟩ := H
                      replace H : (some t621) = some r := H
                      have A65 := Aside0.mk A650
                      clear A650
                      obtain rfl := Option.some.inj H
                      try go_wp2
                      have n0_ := Aside0.mk (Kd.R_drew HO_7.out)
                      have n1_ := Aside0.mk (Kd.R_drew HO_8.out)
                      have n2_ := Aside0.mk (blk_drew BK518.out)
                      have n3_ := Aside0.mk (blk_drew BK540.out)
                      have n4_ := Aside0.mk (below_drew1 HB.out)
                      clear HO_7
                      clear HO_8
                      clear BK518
                      clear BK540
                      clear HB
                      have HO_7 := n0_
                      have HO_8 := n1_
                      have BK518 := n2_
                      have BK540 := n3_
                      have HB := n4_
                      clear n0_ n1_ n2_ n3_ n4_
                      refine start_ (n := 23) (S := fun w' => w'.cell? ⟨gb518, 0, none⟩ = some (.slice A0_0 l0_0.length c0_0) ∧ w'.cell? ⟨gb518, 1, none⟩ = some (.bool a0_1) ∧ w'.cell? ⟨gb518, 2, none⟩ = some (.int .i64 a0_2) ∧ w'.cell? ⟨gb518, 3, none⟩ = some (.string a0_3) ∧ w'.cell? ⟨gb518, 4, none⟩ = some (.string a0_4) ∧ w'.cell? ⟨gb518, 5, none⟩ = some (.string a0_5) ∧ w'.cell? ⟨gb518, 6, none⟩ = some (.string a0_6) ∧ w'.cell? ⟨gb518, 7, none⟩ = some (.bool a0_7) ∧ w'.cell? ⟨gb518, 8, none⟩ = some (.bool a0_8) ∧ w'.cell? ⟨gb518, 9, none⟩ = some (.bool a0_9) ∧ w'.cell? ⟨gb518, 10, none⟩ = some (.slice A0_10 l0_10.length c0_10) ∧ w'.cell? ⟨gb518, 11, none⟩ = some (.slice A0_11 l0_11.length c0_11) ∧ w'.cell? ⟨gb540, 0, none⟩ = some (.slice A0_0 l0_0.length c0_0) ∧ w'.cell? ⟨gb540, 1, none⟩ = some (.bool ((Go.bits .and .i64 a1 1) == 1)) ∧ w'.cell? ⟨gb540, 2, none⟩ = some (.int .i64 a0_2) ∧ w'.cell? ⟨gb540, 3, none⟩ = some (.string a0_3) ∧ w'.cell? ⟨gb540, 4, none⟩ = some (.string a0_4) ∧ w'.cell? ⟨gb540, 5, none⟩ = some (.string a0_5) ∧ w'.cell? ⟨gb540, 6, none⟩ = some (.string a0_6) ∧ w'.cell? ⟨gb540, 7, none⟩ = some (.bool ((Go.bits .and .i64 a1 2) == 2)) ∧ w'.cell? ⟨gb540, 8, none⟩ = some (.bool ((Go.bits .and .i64 a1 4) == 4)) ∧ w'.cell? ⟨gb540, 9, none⟩ = some (.bool ((Go.bits .and .i64 a1 8) == 8)) ∧ w'.cell? ⟨gb540, 10, none⟩ = some (.slice A0_10 l0_10.length c0_10) ∧ w'.cell? ⟨gb540, 11, none⟩ = some (.slice A0_11 l0_11.length c0_11)) (ds := []) #[false, false, false, false, false, false, false, false, false, false, false, false, false, false, false, false, false, false, false, false, false, false, false] (by kernel_rfl) rfl rfl ⟨(blk_cell BK518.out 0).trans rfl, (blk_cell BK518.out 1).trans rfl, (blk_cell BK518.out 2).trans rfl, (blk_cell BK518.out 3).trans rfl, (blk_cell BK518.out 4).trans rfl, (blk_cell BK518.out 5).trans rfl, (blk_cell BK518.out 6).trans rfl, (blk_cell BK518.out 7).trans rfl, (blk_cell BK518.out 8).trans rfl, (blk_cell BK518.out 9).trans rfl, (blk_cell BK518.out 10).trans rfl, (blk_cell BK518.out 11).trans rfl, (blk_cell BK540.out 0).trans rfl, (blk_cell BK540.out 1).trans rfl, (blk_cell BK540.out 2).trans rfl, (blk_cell BK540.out 3).trans rfl, (blk_cell BK540.out 4).trans rfl, (blk_cell BK540.out 5).trans rfl, (blk_cell BK540.out 6).trans rfl, (blk_cell BK540.out 7).trans rfl, (blk_cell BK540.out 8).trans rfl, (blk_cell BK540.out 9).trans rfl, (blk_cell BK540.out 10).trans rfl, (blk_cell BK540.out 11).trans rfl⟩ (fun hHeld => ?_); refine with_tabW hornbooklaw23_ScriptFlags.tab19 hornbooklaw23_ScriptFlags.bits19 (fun HT_ HW_ => ?_)
                      generalize wr.drew = w66 at HO_7 HO_8 BK518 BK540 HB hHeld ⊢
                      refine pure_ (i := 0) (N := some 71) (v := ?_) (a' := ?_) #[true, false, false, false, false, false, false, false, false, false, false, false, false, false, false, false, false, false, false, false, false, false, false] rfl rfl (any_of HT_.out (by kernel_rfl)) (fun _ _ _ h => h) (Or.inl ⟨by rfl, ?_⟩) ?_ ?_
                      rotate_left
                      · intro w'
                        go_simp
                        with_reducible rfl
                      rotate_left
                      · simp only [Act.put, List.setIfInBounds_toArray, List.set_cons_zero, List.set_cons_succ, i64_w, i32_w]
                        rfl
                      refine pure_ (i := 1) (N := some 72) (v := ?_) (a' := ?_) #[true, true, false, false, false, false, false, false, false, false, false, false, false, false, false, false, false, false, false, false, false, false, false] rfl rfl (any_of HT_.out (by kernel_rfl)) (fun _ _ _ h => h) (Or.inl ⟨by rfl, ?_⟩) ?_ ?_
                      rotate_left
                      · intro w'
                        go_simp
                        with_reducible rfl
                      rotate_left
                      · simp only [Act.put, List.setIfInBounds_toArray, List.set_cons_zero, List.set_cons_succ, i64_w, i32_w]
                        rfl
                      refine pure_ (i := 2) (N := some 73) (v := ?_) (a' := ?_) #[true, true, true, false, false, false, false, false, false, false, false, false, false, false, false, false, false, false, false, false, false, false, false] rfl rfl (any_of HT_.out (by kernel_rfl)) (fun _ _ _ h => h) (Or.inl ⟨by rfl, ?_⟩) ?_ ?_
                      rotate_left
                      · intro w'
                        go_simp
                        with_reducible rfl
                      rotate_left
                      · simp only [Act.put, List.setIfInBounds_toArray, List.set_cons_zero, List.set_cons_succ, i64_w, i32_w]
                        rfl
                      refine pure_ (i := 3) (N := some 74) (v := ?_) (a' := ?_) #[true, true, true, true, false, false, false, false, false, false, false, false, false, false, false, false, false, false, false, false, false, false, false] rfl rfl (any_of HT_.out (by kernel_rfl)) (fun _ _ _ h => h) (Or.inl ⟨by rfl, ?_⟩) ?_ ?_
                      rotate_left
                      · intro w'
                        go_simp
                        with_reducible rfl
                      rotate_left
                      · simp only [Act.put, List.setIfInBounds_toArray, List.set_cons_zero, List.set_cons_succ, i64_w, i32_w]
                        rfl
                      refine pure_ (i := 4) (N := some 75) (v := ?_) (a' := ?_) #[true, true, true, true, true, false, false, false, false, false, false, false, false, false, false, false, false, false, false, false, false, false, false] rfl rfl (any_of HT_.out (by kernel_rfl)) (fun _ _ _ h => h) (Or.inl ⟨by rfl, ?_⟩) ?_ ?_
                      rotate_left
                      · intro w'
                        go_simp
                        with_reducible rfl
                      rotate_left
                      · simp only [Act.put, List.setIfInBounds_toArray, List.set_cons_zero, List.set_cons_succ, i64_w, i32_w]
                        rfl
                      refine pure_ (i := 5) (N := some 76) (v := ?_) (a' := ?_) #[true, true, true, true, true, true, false, false, false, false, false, false, false, false, false, false, false, false, false, false, false, false, false] rfl rfl (any_of HT_.out (by kernel_rfl)) (fun _ _ _ h => h) (Or.inl ⟨by rfl, ?_⟩) ?_ ?_
                      rotate_left
                      · intro w'
                        go_simp
                        with_reducible rfl
                      rotate_left
                      · simp only [Act.put, List.setIfInBounds_toArray, List.set_cons_zero, List.set_cons_succ, i64_w, i32_w]
                        rfl
                      refine pure_ (i := 6) (N := some 77) (v := ?_) (a' := ?_) #[true, true, true, true, true, true, true, false, false, false, false, false, false, false, false, false, false, false, false, false, false, false, false] rfl rfl (any_of HT_.out (by kernel_rfl)) (fun _ _ _ h => h) (Or.inl ⟨by rfl, ?_⟩) ?_ ?_
                      rotate_left
                      · intro w'
                        go_simp
                        with_reducible rfl
                      rotate_left
                      · simp only [Act.put, List.setIfInBounds_toArray, List.set_cons_zero, List.set_cons_succ, i64_w, i32_w]
                        rfl
                      refine pure_ (i := 7) (N := some 78) (v := ?_) (a' := ?_) #[true, true, true, true, true, true, true, true, false, false, false, false, false, false, false, false, false, false, false, false, false, false, false] rfl rfl (any_of HT_.out (by kernel_rfl)) (fun _ _ _ h => h) (Or.inl ⟨by rfl, ?_⟩) ?_ ?_
                      rotate_left
                      · intro w'
                        go_simp
                        with_reducible rfl
                      rotate_left
                      · simp only [Act.put, List.setIfInBounds_toArray, List.set_cons_zero, List.set_cons_succ, i64_w, i32_w]
                        rfl
                      refine pure_ (i := 8) (N := some 79) (v := ?_) (a' := ?_) #[true, true, true, true, true, true, true, true, true, false, false, false, false, false, false, false, false, false, false, false, false, false, false] rfl rfl (any_of HT_.out (by kernel_rfl)) (fun _ _ _ h => h) (Or.inl ⟨by rfl, ?_⟩) ?_ ?_
                      rotate_left
                      · intro w'
                        go_simp
                        with_reducible rfl
                      rotate_left
                      · simp only [Act.put, List.setIfInBounds_toArray, List.set_cons_zero, List.set_cons_succ, i64_w, i32_w]
                        rfl
                      refine pure_ (i := 10) (N := some 81) (v := ?_) (a' := ?_) #[true, true, true, true, true, true, true, true, true, false, true, false, false, false, false, false, false, false, false, false, false, false, false] rfl rfl (any_of HT_.out (by kernel_rfl)) (fun _ _ _ h => h) (Or.inl ⟨by rfl, ?_⟩) ?_ ?_
                      rotate_left
                      · intro w'
                        go_simp
                        with_reducible rfl
                      rotate_left
                      · simp only [Act.put, List.setIfInBounds_toArray, List.set_cons_zero, List.set_cons_succ, i64_w, i32_w]
                        rfl
                      refine take_ (i := 9) (N := some 80) (v := ?_) (a' := ?_) #[true, true, true, true, true, true, true, true, true, true, true, false, false, false, false, false, false, false, false, false, false, false, false] rfl rfl (take_ofW HT_.out HW_.out (by kernel_rfl)) (fun _ _ _ h => h) (Or.inl ⟨by rfl, ?_⟩) hHeld ?_ ?_
                      rotate_left
                      · rintro w' ⟨s0, s1, s2, s3, s4, s5, s6, s7, s8, s9, s10, s11, s12, s13, s14, s15, s16, s17, s18, s19, s20, s21, s22, s23⟩
                        go_simp
                        with_reducible rfl
                      rotate_left
                      · simp only [Act.put, List.setIfInBounds_toArray, List.set_cons_zero, List.set_cons_succ, i64_w, i32_w]
                        rfl
                      refine take_ (i := 11) (N := some 82) (v := ?_) (a' := ?_) #[true, true, true, true, true, true, true, true, true, true, true, true, false, false, false, false, false, false, false, false, false, false, false] rfl rfl (take_ofW HT_.out HW_.out (by kernel_rfl)) (fun _ _ _ h => h) (Or.inl ⟨by rfl, ?_⟩) hHeld ?_ ?_
                      rotate_left
                      · rintro w' ⟨s0, s1, s2, s3, s4, s5, s6, s7, s8, s9, s10, s11, s12, s13, s14, s15, s16, s17, s18, s19, s20, s21, s22, s23⟩
                        go_simp
                        with_reducible rfl
                      rotate_left
                      · simp only [Act.put, List.setIfInBounds_toArray, List.set_cons_zero, List.set_cons_succ, i64_w, i32_w]
                        rfl
                      refine pure_ (i := 12) (N := some 83) (v := ?_) (a' := ?_) #[true, true, true, true, true, true, true, true, true, true, true, true, true, false, false, false, false, false, false, false, false, false, false] rfl rfl (any_of HT_.out (by kernel_rfl)) (fun _ _ _ h => h) (Or.inl ⟨by rfl, ?_⟩) ?_ ?_
                      rotate_left
                      · intro w'
                        go_simp
                        with_reducible rfl
                      rotate_left
                      · simp only [Act.put, List.setIfInBounds_toArray, List.set_cons_zero, List.set_cons_succ, i64_w, i32_w]
                        rfl
                      refine pure_ (i := 13) (N := some 84) (v := ?_) (a' := ?_) #[true, true, true, true, true, true, true, true, true, true, true, true, true, true, false, false, false, false, false, false, false, false, false] rfl rfl (any_of HT_.out (by kernel_rfl)) (fun _ _ _ h => h) (Or.inl ⟨by rfl, ?_⟩) ?_ ?_
                      rotate_left
                      · intro w'
                        go_simp
                        with_reducible rfl
                      rotate_left
                      · simp only [Act.put, List.setIfInBounds_toArray, List.set_cons_zero, List.set_cons_succ, i64_w, i32_w]
                        rfl
                      refine pure_ (i := 14) (N := some 85) (v := ?_) (a' := ?_) #[true, true, true, true, true, true, true, true, true, true, true, true, true, true, true, false, false, false, false, false, false, false, false] rfl rfl (any_of HT_.out (by kernel_rfl)) (fun _ _ _ h => h) (Or.inl ⟨by rfl, ?_⟩) ?_ ?_
                      rotate_left
                      · intro w'
                        go_simp
                        with_reducible rfl
                      rotate_left
                      · simp only [Act.put, List.setIfInBounds_toArray, List.set_cons_zero, List.set_cons_succ, i64_w, i32_w]
                        rfl
                      refine pure_ (i := 15) (N := some 86) (v := ?_) (a' := ?_) #[true, true, true, true, true, true, true, true, true, true, true, true, true, true, true, true, false, false, false, false, false, false, false] rfl rfl (any_of HT_.out (by kernel_rfl)) (fun _ _ _ h => h) (Or.inl ⟨by rfl, ?_⟩) ?_ ?_
                      rotate_left
                      · intro w'
                        go_simp
                        with_reducible rfl
                      rotate_left
                      · simp only [Act.put, List.setIfInBounds_toArray, List.set_cons_zero, List.set_cons_succ, i64_w, i32_w]
                        rfl
                      refine pure_ (i := 16) (N := some 87) (v := ?_) (a' := ?_) #[true, true, true, true, true, true, true, true, true, true, true, true, true, true, true, true, true, false, false, false, false, false, false] rfl rfl (any_of HT_.out (by kernel_rfl)) (fun _ _ _ h => h) (Or.inl ⟨by rfl, ?_⟩) ?_ ?_
                      rotate_left
                      · intro w'
                        go_simp
                        with_reducible rfl
                      rotate_left
                      · simp only [Act.put, List.setIfInBounds_toArray, List.set_cons_zero, List.set_cons_succ, i64_w, i32_w]
                        rfl
                      refine take_ (i := 19) (N := some 90) (v := ?_) (a' := ?_) #[true, true, true, true, true, true, true, true, true, true, true, true, true, true, true, true, true, false, false, true, false, false, false] rfl rfl (take_ofW HT_.out HW_.out (by kernel_rfl)) (fun _ _ _ h => h) (Or.inl ⟨by rfl, ?_⟩) hHeld ?_ ?_
                      rotate_left
                      · rintro w' ⟨s0, s1, s2, s3, s4, s5, s6, s7, s8, s9, s10, s11, s12, s13, s14, s15, s16, s17, s18, s19, s20, s21, s22, s23⟩
                        go_simp
                        with_reducible rfl
                      rotate_left
                      · simp only [Act.put, List.setIfInBounds_toArray, List.set_cons_zero, List.set_cons_succ, i64_w, i32_w]
                        rfl
                      refine one_ (i := 17) (N := some 88) #[true, true, true, true, true, true, true, true, true, true, true, true, true, true, true, true, true, true, false, true, false, false, false] rfl rfl (one_of HT_.out (by kernel_rfl)) (by decide) (fun K hK => ?_)
                      refine goes_ Try.func16 (by kernel_rfl) rfl #[.slice Ao53 t580.length co53] (by rfl) rfl rfl (by (try simp only [List.map_toArray, List.map_cons, List.map_nil]); first | done | rfl | (simp only [List.length_drop, List.length_take]; rfl)) ?_
                      with_reducible refine (script_Get.calls _ _ t580 t585 t588 t589 t590 t591 t592 t593 t594 t595 t596 t597 t600 _ ?side1 ?side2 A63.out).mono ?_
                      (case side1 => repeat (first | exact (Kd.R_reads' HO_8.out).2.2 | (with_reducible refine Kd.C_alloc ?_ _) | (with_reducible refine Kd.C_drewN ?_ _) | (with_reducible refine Kd.C_drew ?_)))
                      (case side2 => exact (Kd.R_reads' HO_8.out).2.1)
                      rintro e w67 ⟨v586, v598, v601, rfl, ho0, ho1, ho2, hb⟩
                      refine ⟨_, rfl, ?_⟩
                      have n0_ := Aside0.mk (Kd.R_below (by (with_reducible repeat (first | apply Kd.R_alloc | apply Kd.R_drewN | apply Kd.R_drew)); exact HO_7.out) hb)
                      have n1_ := Aside0.mk (Kd.R_below (by (with_reducible repeat (first | apply Kd.R_alloc | apply Kd.R_drewN | apply Kd.R_drew)); exact HO_8.out) hb)
                      have n2_ := Aside0.mk (Kd.R_lower ho0 (below_size (by repeat (first | (with_reducible first | exact HB.out | apply below_alloc | apply pw_below_drewN | apply below_drew1 | refine below_set ?_ GE518.out | refine below_set ?_ GE540.out) | exact HB.out))))
                      have n3_ := Aside0.mk (Kd.S_lower (Kd.S_new' (Kd.S_new' ho1 (Kd.R_lt (by (with_reducible repeat (first | apply Kd.R_alloc | apply Kd.R_drewN | apply Kd.R_drew)); exact HO_7.out))) (Kd.R_lt (by (with_reducible repeat (first | apply Kd.R_alloc | apply Kd.R_drewN | apply Kd.R_drew)); exact HO_8.out))) (below_size (by repeat (first | (with_reducible first | exact HB.out | apply below_alloc | apply pw_below_drewN | apply below_drew1 | refine below_set ?_ GE518.out | refine below_set ?_ GE540.out) | exact HB.out))))
                      have n4_ := Aside0.mk (Kd.S_lower (Kd.S_new' (Kd.S_new' ho2 (Kd.R_lt (by (with_reducible repeat (first | apply Kd.R_alloc | apply Kd.R_drewN | apply Kd.R_drew)); exact HO_7.out))) (Kd.R_lt (by (with_reducible repeat (first | apply Kd.R_alloc | apply Kd.R_drewN | apply Kd.R_drew)); exact HO_8.out))) (below_size (by repeat (first | (with_reducible first | exact HB.out | apply below_alloc | apply pw_below_drewN | apply below_drew1 | refine below_set ?_ GE518.out | refine below_set ?_ GE540.out) | exact HB.out))))
                      have n5_ := Aside0.mk (blk_below (g := gb518) (o := .cells #[.slice A0_0 l0_0.length c0_0, .bool a0_1, .int .i64 a0_2, .string a0_3, .string a0_4, .string a0_5, .string a0_6, .bool a0_7, .bool a0_8, .bool a0_9, .slice A0_10 l0_10.length c0_10, .slice A0_11 l0_11.length c0_11] 27 (0, 0)) (by (with_reducible repeat (first | refine blk_drewN ?_ _ | refine blk_drew ?_ | refine blk_alloc ?_ _)); exact BK518.out) hb)
                      have n6_ := Aside0.mk (blk_below (g := gb540) (o := .cells #[.slice A0_0 l0_0.length c0_0, .bool ((Go.bits .and .i64 a1 1) == 1), .int .i64 a0_2, .string a0_3, .string a0_4, .string a0_5, .string a0_6, .bool ((Go.bits .and .i64 a1 2) == 2), .bool ((Go.bits .and .i64 a1 4) == 4), .bool ((Go.bits .and .i64 a1 8) == 8), .slice A0_10 l0_10.length c0_10, .slice A0_11 l0_11.length c0_11] 27 (0, 0)) (by (with_reducible repeat (first | refine blk_drewN ?_ _ | refine blk_drew ?_ | refine blk_alloc ?_ _)); exact BK540.out) hb)
                      have n7_ := Aside0.mk (below_step (by repeat (first | (with_reducible first | exact HB.out | apply below_alloc | apply pw_below_drewN | apply below_drew1 | refine below_set ?_ GE518.out | refine below_set ?_ GE540.out) | exact HB.out)) hb)
                      clear HO_7
                      clear HO_8
                      clear BK518
                      clear BK540
                      clear HB
                      have HO_7 := n0_
                      have HO_8 := n1_
                      have HO587 := n2_
                      have HO599 := n3_
                      have HO602 := n4_
                      have BK518 := n5_
                      have BK540 := n6_
                      have HB := n7_
                      clear n0_ n1_ n2_ n3_ n4_ n5_ n6_ n7_
                      (try clear hb)
                      (try clear hb2)
                      (try clear hk)
                      (try clear hi)
                      (try clear ho0)
                      (try clear ho1)
                      (try clear ho2)
                      obtain ⟨Ao68, co68, eo68⟩ := Kd.R_slice HO587.out
                      (first | subst eo68 | (injection eo68 with f1_ f2_ f3_; have f4_ := f1_.symm; have f5_ := f3_.symm; clear f1_ f2_ f3_; subst f4_; subst f5_))
                      obtain ⟨Ao69, co69, eo69⟩ := Kd.S_slice HO599.out
                      (first | subst eo69 | (injection eo69 with f1_ f2_ f3_; have f4_ := f1_.symm; have f5_ := f3_.symm; clear f1_ f2_ f3_; subst f4_; subst f5_))
                      obtain ⟨Ao70, co70, eo70⟩ := Kd.S_slice HO602.out
                      (first | subst eo70 | (injection eo70 with f1_ f2_ f3_; have f4_ := f1_.symm; have f5_ := f3_.symm; clear f1_ f2_ f3_; subst f4_; subst f5_))
                      refine hK.out _ _ ⟨(blk_cell BK518.out 0).trans rfl, (blk_cell BK518.out 1).trans rfl, (blk_cell BK518.out 2).trans rfl, (blk_cell BK518.out 3).trans rfl, (blk_cell BK518.out 4).trans rfl, (blk_cell BK518.out 5).trans rfl, (blk_cell BK518.out 6).trans rfl, (blk_cell BK518.out 7).trans rfl, (blk_cell BK518.out 8).trans rfl, (blk_cell BK518.out 9).trans rfl, (blk_cell BK518.out 10).trans rfl, (blk_cell BK518.out 11).trans rfl, (blk_cell BK540.out 0).trans rfl, (blk_cell BK540.out 1).trans rfl, (blk_cell BK540.out 2).trans rfl, (blk_cell BK540.out 3).trans rfl, (blk_cell BK540.out 4).trans rfl, (blk_cell BK540.out 5).trans rfl, (blk_cell BK540.out 6).trans rfl, (blk_cell BK540.out 7).trans rfl, (blk_cell BK540.out 8).trans rfl, (blk_cell BK540.out 9).trans rfl, (blk_cell BK540.out 10).trans rfl, (blk_cell BK540.out 11).trans rfl⟩ (fun hHeld => ?_)
                      clear hK K
                      refine norm_ (a' := ?_) ?_ ?_
                      rotate_left
                      · show Act.put _ (some 88) _ = _
                        simp only [Act.put, List.setIfInBounds_toArray, List.set_cons_zero, List.set_cons_succ, i64_w, i32_w]
                        rfl
                      refine one_ (i := 18) (N := some 89) #[true, true, true, true, true, true, true, true, true, true, true, true, true, true, true, true, true, true, true, true, false, false, false] rfl rfl (one_of HT_.out (by kernel_rfl)) (by decide) (fun K hK => ?_)
                      refine goes_ Try.func15 (by kernel_rfl) rfl #[.agg #[.slice Ao68 t585.length co68, .bool t588, .int .i64 t589, .string t590, .string t591, .string t592, .string t593, .bool t594, .bool t595, .bool t596, .slice Ao69 t597.length co69, .slice Ao70 t600.length co70]] (by rfl) rfl rfl (by (try simp only [List.map_toArray, List.map_cons, List.map_nil]); first | done | rfl | (simp only [List.length_drop, List.length_take]; rfl)) ?_
                      with_reducible refine (hornbooklaw23_planned.calls k2 _ _ t585 t588 t589 t590 t591 t592 t593 t594 t595 t596 (fun k_ => (((((some k_ ≠ (.slice Ao70 t600.length co70 : Value).ownBlock ∧ some k_ ≠ (.slice Ao52 t559.length co52 : Value).ownBlock) ∧ some k_ ≠ (.slice Ao53 t580.length co53 : Value).ownBlock) ∧ some k_ ≠ (.slice Ao68 t585.length co68 : Value).ownBlock) ∧ k_ ≠ gb518) ∧ k_ ≠ gb540)) _ _ t597 (fun k_ => (((((some k_ ≠ (.slice Ao69 t597.length co69 : Value).ownBlock ∧ some k_ ≠ (.slice Ao52 t559.length co52 : Value).ownBlock) ∧ some k_ ≠ (.slice Ao53 t580.length co53 : Value).ownBlock) ∧ some k_ ≠ (.slice Ao68 t585.length co68 : Value).ownBlock) ∧ k_ ≠ gb518) ∧ k_ ≠ gb540)) _ _ t600 t603 t606 t607 t608 t609 t610 t611 t612 t613 t614 t615 t618 _ ?side1 ?side2 ?side3 ?side4 A64.out).mono ?_
                      (case side1 => repeat (first | exact (Kd.R_reads' HO587.out).2.2 | (with_reducible refine Kd.C_alloc ?_ _) | (with_reducible refine Kd.C_drewN ?_ _) | (with_reducible refine Kd.C_drew ?_)))
                      (case side2 => exact (Kd.R_reads' HO587.out).2.1)
                      (case side3 => exact Kd.S_V (Kd.S_types (Kd.S_types (Kd.S_apart' (HO599.out) (Kd.R_typed HO587.out) (by decide)) BK518.out (by decide)) BK540.out (by decide)))
                      (case side4 => exact Kd.S_V (Kd.S_types (Kd.S_types (Kd.S_apart' (HO602.out) (Kd.R_typed HO587.out) (by decide)) BK518.out (by decide)) BK540.out (by decide)))
                      rintro e w71 ⟨v604, v616, v619, rfl, ho0, ho1, ho2, hb⟩
                      refine ⟨_, rfl, ?_⟩
                      have n0_ := Aside0.mk (Kd.R_below (by (with_reducible repeat (first | apply Kd.R_alloc | apply Kd.R_drewN | apply Kd.R_drew)); exact HO_7.out) hb)
                      have n1_ := Aside0.mk (Kd.R_below (by (with_reducible repeat (first | apply Kd.R_alloc | apply Kd.R_drewN | apply Kd.R_drew)); exact HO_8.out) hb)
                      have n2_ := Aside0.mk (Kd.R_below (by (with_reducible repeat (first | apply Kd.R_alloc | apply Kd.R_drewN | apply Kd.R_drew)); exact HO587.out) hb)
                      have n3_ := Aside0.mk (Kd.S_below (by (with_reducible repeat (first | apply Kd.S_alloc | apply Kd.S_drewN | apply Kd.S_drew)); exact HO599.out) hb)
                      have n4_ := Aside0.mk (Kd.S_below (by (with_reducible repeat (first | apply Kd.S_alloc | apply Kd.S_drewN | apply Kd.S_drew)); exact HO602.out) hb)
                      have n5_ := Aside0.mk (Kd.R_lower (Kd.R_mono (ok' := fun k_ => True) ho0 (fun _ hk_ => trivial)) (below_size (by repeat (first | (with_reducible first | exact HB.out | apply below_alloc | apply pw_below_drewN | apply below_drew1 | refine below_set ?_ GE518.out | refine below_set ?_ GE540.out) | exact HB.out))))
                      have n6_ := Aside0.mk (Kd.V_lower (Kd.V_mono (ok' := fun k_ => some k_ ≠ (v604 : Value).ownBlock ∧ some k_ ≠ (.slice Ao52 t559.length co52 : Value).ownBlock ∧ some k_ ≠ (.slice Ao53 t580.length co53 : Value).ownBlock ∧ some k_ ≠ (.slice Ao68 t585.length co68 : Value).ownBlock ∧ k_ ≠ gb518 ∧ k_ ≠ gb540) ho1 (fun k_ hk_ => ⟨hk_.2, Or.elim hk_.1 (fun hs_ => Or.elim hs_ (fun hs_ => hs_.1.1.1.1.2) (fun hs_ => hs_.1.1.1.1.2)) (fun hn_ => (Kd.fresh' (Kd.R_lt (by (with_reducible repeat (first | apply Kd.R_alloc | apply Kd.R_drewN | apply Kd.R_drew)); exact HO_7.out)) k_ hn_)), Or.elim hk_.1 (fun hs_ => Or.elim hs_ (fun hs_ => hs_.1.1.1.2) (fun hs_ => hs_.1.1.1.2)) (fun hn_ => (Kd.fresh' (Kd.R_lt (by (with_reducible repeat (first | apply Kd.R_alloc | apply Kd.R_drewN | apply Kd.R_drew)); exact HO_8.out)) k_ hn_)), Or.elim hk_.1 (fun hs_ => Or.elim hs_ (fun hs_ => hs_.1.1.2) (fun hs_ => hs_.1.1.2)) (fun hn_ => (Kd.fresh' (Kd.R_lt (by (with_reducible repeat (first | apply Kd.R_alloc | apply Kd.R_drewN | apply Kd.R_drew)); exact HO587.out)) k_ hn_)), Or.elim hk_.1 (fun hs_ => Or.elim hs_ (fun hs_ => hs_.1.2) (fun hs_ => hs_.1.2)) (fun hn_ => (Kd.freshB (g := gb518) (o := .cells #[.slice A0_0 l0_0.length c0_0, .bool a0_1, .int .i64 a0_2, .string a0_3, .string a0_4, .string a0_5, .string a0_6, .bool a0_7, .bool a0_8, .bool a0_9, .slice A0_10 l0_10.length c0_10, .slice A0_11 l0_11.length c0_11] 27 (0, 0)) (by (with_reducible repeat (first | refine blk_drewN ?_ _ | refine blk_drew ?_ | refine blk_alloc ?_ _)); exact BK518.out) k_ hn_)), Or.elim hk_.1 (fun hs_ => Or.elim hs_ (fun hs_ => hs_.2) (fun hs_ => hs_.2)) (fun hn_ => (Kd.freshB (g := gb540) (o := .cells #[.slice A0_0 l0_0.length c0_0, .bool ((Go.bits .and .i64 a1 1) == 1), .int .i64 a0_2, .string a0_3, .string a0_4, .string a0_5, .string a0_6, .bool ((Go.bits .and .i64 a1 2) == 2), .bool ((Go.bits .and .i64 a1 4) == 4), .bool ((Go.bits .and .i64 a1 8) == 8), .slice A0_10 l0_10.length c0_10, .slice A0_11 l0_11.length c0_11] 27 (0, 0)) (by (with_reducible repeat (first | refine blk_drewN ?_ _ | refine blk_drew ?_ | refine blk_alloc ?_ _)); exact BK540.out) k_ hn_))⟩)) (below_size (by repeat (first | (with_reducible first | exact HB.out | apply below_alloc | apply pw_below_drewN | apply below_drew1 | refine below_set ?_ GE518.out | refine below_set ?_ GE540.out) | exact HB.out))))
                      have n7_ := Aside0.mk (Kd.V_lower (Kd.V_mono (ok' := fun k_ => some k_ ≠ (v604 : Value).ownBlock ∧ some k_ ≠ (.slice Ao52 t559.length co52 : Value).ownBlock ∧ some k_ ≠ (.slice Ao53 t580.length co53 : Value).ownBlock ∧ some k_ ≠ (.slice Ao68 t585.length co68 : Value).ownBlock ∧ k_ ≠ gb518 ∧ k_ ≠ gb540) ho2 (fun k_ hk_ => ⟨hk_.2, Or.elim hk_.1 (fun hs_ => Or.elim hs_ (fun hs_ => hs_.1.1.1.1.2) (fun hs_ => hs_.1.1.1.1.2)) (fun hn_ => (Kd.fresh' (Kd.R_lt (by (with_reducible repeat (first | apply Kd.R_alloc | apply Kd.R_drewN | apply Kd.R_drew)); exact HO_7.out)) k_ hn_)), Or.elim hk_.1 (fun hs_ => Or.elim hs_ (fun hs_ => hs_.1.1.1.2) (fun hs_ => hs_.1.1.1.2)) (fun hn_ => (Kd.fresh' (Kd.R_lt (by (with_reducible repeat (first | apply Kd.R_alloc | apply Kd.R_drewN | apply Kd.R_drew)); exact HO_8.out)) k_ hn_)), Or.elim hk_.1 (fun hs_ => Or.elim hs_ (fun hs_ => hs_.1.1.2) (fun hs_ => hs_.1.1.2)) (fun hn_ => (Kd.fresh' (Kd.R_lt (by (with_reducible repeat (first | apply Kd.R_alloc | apply Kd.R_drewN | apply Kd.R_drew)); exact HO587.out)) k_ hn_)), Or.elim hk_.1 (fun hs_ => Or.elim hs_ (fun hs_ => hs_.1.2) (fun hs_ => hs_.1.2)) (fun hn_ => (Kd.freshB (g := gb518) (o := .cells #[.slice A0_0 l0_0.length c0_0, .bool a0_1, .int .i64 a0_2, .string a0_3, .string a0_4, .string a0_5, .string a0_6, .bool a0_7, .bool a0_8, .bool a0_9, .slice A0_10 l0_10.length c0_10, .slice A0_11 l0_11.length c0_11] 27 (0, 0)) (by (with_reducible repeat (first | refine blk_drewN ?_ _ | refine blk_drew ?_ | refine blk_alloc ?_ _)); exact BK518.out) k_ hn_)), Or.elim hk_.1 (fun hs_ => Or.elim hs_ (fun hs_ => hs_.2) (fun hs_ => hs_.2)) (fun hn_ => (Kd.freshB (g := gb540) (o := .cells #[.slice A0_0 l0_0.length c0_0, .bool ((Go.bits .and .i64 a1 1) == 1), .int .i64 a0_2, .string a0_3, .string a0_4, .string a0_5, .string a0_6, .bool ((Go.bits .and .i64 a1 2) == 2), .bool ((Go.bits .and .i64 a1 4) == 4), .bool ((Go.bits .and .i64 a1 8) == 8), .slice A0_10 l0_10.length c0_10, .slice A0_11 l0_11.length c0_11] 27 (0, 0)) (by (with_reducible repeat (first | refine blk_drewN ?_ _ | refine blk_drew ?_ | refine blk_alloc ?_ _)); exact BK540.out) k_ hn_))⟩)) (below_size (by repeat (first | (with_reducible first | exact HB.out | apply below_alloc | apply pw_below_drewN | apply below_drew1 | refine below_set ?_ GE518.out | refine below_set ?_ GE540.out) | exact HB.out))))
                      have n8_ := Aside0.mk (blk_below (g := gb518) (o := .cells #[.slice A0_0 l0_0.length c0_0, .bool a0_1, .int .i64 a0_2, .string a0_3, .string a0_4, .string a0_5, .string a0_6, .bool a0_7, .bool a0_8, .bool a0_9, .slice A0_10 l0_10.length c0_10, .slice A0_11 l0_11.length c0_11] 27 (0, 0)) (by (with_reducible repeat (first | refine blk_drewN ?_ _ | refine blk_drew ?_ | refine blk_alloc ?_ _)); exact BK518.out) hb)
                      have n9_ := Aside0.mk (blk_below (g := gb540) (o := .cells #[.slice A0_0 l0_0.length c0_0, .bool ((Go.bits .and .i64 a1 1) == 1), .int .i64 a0_2, .string a0_3, .string a0_4, .string a0_5, .string a0_6, .bool ((Go.bits .and .i64 a1 2) == 2), .bool ((Go.bits .and .i64 a1 4) == 4), .bool ((Go.bits .and .i64 a1 8) == 8), .slice A0_10 l0_10.length c0_10, .slice A0_11 l0_11.length c0_11] 27 (0, 0)) (by (with_reducible repeat (first | refine blk_drewN ?_ _ | refine blk_drew ?_ | refine blk_alloc ?_ _)); exact BK540.out) hb)
                      have n10_ := Aside0.mk (below_step (by repeat (first | (with_reducible first | exact HB.out | apply below_alloc | apply pw_below_drewN | apply below_drew1 | refine below_set ?_ GE518.out | refine below_set ?_ GE540.out) | exact HB.out)) hb)
                      clear HO_7
                      clear HO_8
                      clear HO587
                      clear HO599
                      clear HO602
                      clear BK518
                      clear BK540
                      clear HB
                      have HO_7 := n0_
                      have HO_8 := n1_
                      have HO587 := n2_
                      have HO599 := n3_
                      have HO602 := n4_
                      have HO605 := n5_
                      have HO617 := n6_
                      have HO620 := n7_
                      have BK518 := n8_
                      have BK540 := n9_
                      have HB := n10_
                      clear n0_ n1_ n2_ n3_ n4_ n5_ n6_ n7_ n8_ n9_ n10_
                      (try clear hb)
                      (try clear hb2)
                      (try clear hk)
                      (try clear hi)
                      (try clear ho0)
                      (try clear ho1)
                      (try clear ho2)
                      obtain ⟨Ao72, co72, eo72⟩ := Kd.R_slice HO605.out
                      (first | subst eo72 | (injection eo72 with f1_ f2_ f3_; have f4_ := f1_.symm; have f5_ := f3_.symm; clear f1_ f2_ f3_; subst f4_; subst f5_))
                      obtain ⟨Ao73, co73, eo73⟩ := Kd.V_slice HO617.out
                      (first | subst eo73 | (injection eo73 with f1_ f2_ f3_; have f4_ := f1_.symm; have f5_ := f3_.symm; clear f1_ f2_ f3_; subst f4_; subst f5_))
                      obtain ⟨Ao74, co74, eo74⟩ := Kd.V_slice HO620.out
                      (first | subst eo74 | (injection eo74 with f1_ f2_ f3_; have f4_ := f1_.symm; have f5_ := f3_.symm; clear f1_ f2_ f3_; subst f4_; subst f5_))
                      refine hK.out _ _ ⟨(blk_cell BK518.out 0).trans rfl, (blk_cell BK518.out 1).trans rfl, (blk_cell BK518.out 2).trans rfl, (blk_cell BK518.out 3).trans rfl, (blk_cell BK518.out 4).trans rfl, (blk_cell BK518.out 5).trans rfl, (blk_cell BK518.out 6).trans rfl, (blk_cell BK518.out 7).trans rfl, (blk_cell BK518.out 8).trans rfl, (blk_cell BK518.out 9).trans rfl, (blk_cell BK518.out 10).trans rfl, (blk_cell BK518.out 11).trans rfl, (blk_cell BK540.out 0).trans rfl, (blk_cell BK540.out 1).trans rfl, (blk_cell BK540.out 2).trans rfl, (blk_cell BK540.out 3).trans rfl, (blk_cell BK540.out 4).trans rfl, (blk_cell BK540.out 5).trans rfl, (blk_cell BK540.out 6).trans rfl, (blk_cell BK540.out 7).trans rfl, (blk_cell BK540.out 8).trans rfl, (blk_cell BK540.out 9).trans rfl, (blk_cell BK540.out 10).trans rfl, (blk_cell BK540.out 11).trans rfl⟩ (fun hHeld => ?_)
                      clear hK K
                      refine norm_ (a' := ?_) ?_ ?_
                      rotate_left
                      · show Act.put _ (some 89) _ = _
                        simp only [Act.put, List.setIfInBounds_toArray, List.set_cons_zero, List.set_cons_succ, i64_w, i32_w]
                        rfl
                      refine one_ (i := 20) (N := some 91) #[true, true, true, true, true, true, true, true, true, true, true, true, true, true, true, true, true, true, true, true, true, false, false] rfl rfl (one_of HT_.out (by kernel_rfl)) (by decide) (fun K hK => ?_)
                      refine goes_ Try.func14 (by kernel_rfl) rfl #[.agg #[.slice Ao72 t603.length co72, .bool t606, .int .i64 t607, .string t608, .string t609, .string t610, .string t611, .bool t612, .bool t613, .bool t614, .slice Ao73 t615.length co73, .slice Ao74 t618.length co74], .agg #[.slice A0_0 l0_0.length c0_0, .bool ((Go.bits .and .i64 a1 1) == 1), .int .i64 a0_2, .string a0_3, .string a0_4, .string a0_5, .string a0_6, .bool ((Go.bits .and .i64 a1 2) == 2), .bool ((Go.bits .and .i64 a1 4) == 4), .bool ((Go.bits .and .i64 a1 8) == 8), .slice A0_10 l0_10.length c0_10, .slice A0_11 l0_11.length c0_11]] (by rfl) rfl rfl (by (try simp only [List.map_toArray, List.map_cons, List.map_nil]); first | done | rfl | (simp only [List.length_drop, List.length_take]; rfl)) ?_
                      with_reducible refine (hornbookref23_Same.calls k2 _ _ t603 t606 t607 t608 t609 t610 t611 t612 t613 t614 _ _ t615 _ _ t618 _ _ l0_0 ((Go.bits .and .i64 a1 1) == 1) a0_2 a0_3 a0_4 a0_5 a0_6 ((Go.bits .and .i64 a1 2) == 2) ((Go.bits .and .i64 a1 4) == 4) ((Go.bits .and .i64 a1 8) == 8) _ _ l0_10 _ _ l0_11 t621 _ ?side1 ?side2 ?side3 ?side4 ?side5 ?side6 ?side7 ?side8 ?side9 ?side10 ?side11 ?side12 A65.out).mono ?_
                      (case side1 => repeat (first | exact (Kd.R_reads' HO605.out).2.2 | (with_reducible refine Kd.C_alloc ?_ _) | (with_reducible refine Kd.C_drewN ?_ _) | (with_reducible refine Kd.C_drew ?_)))
                      (case side2 => exact (Kd.R_reads' HO605.out).2.1)
                      (case side3 => repeat (first | exact (Kd.V_reads' HO617.out).2.2 | (with_reducible refine Kd.C_alloc ?_ _) | (with_reducible refine Kd.C_drewN ?_ _) | (with_reducible refine Kd.C_drew ?_)))
                      (case side4 => exact (Kd.V_reads' HO617.out).2.1)
                      (case side5 => repeat (first | exact (Kd.V_reads' HO620.out).2.2 | (with_reducible refine Kd.C_alloc ?_ _) | (with_reducible refine Kd.C_drewN ?_ _) | (with_reducible refine Kd.C_drew ?_)))
                      (case side6 => exact (Kd.V_reads' HO620.out).2.1)
                      (case side7 => repeat (first | exact (Kd.C_below HR0_0.out HB.out) | (with_reducible refine Kd.C_alloc ?_ _) | (with_reducible refine Kd.C_drewN ?_ _) | (with_reducible refine Kd.C_drew ?_)))
                      (case side8 => exact HC0_0.out)
                      (case side9 => repeat (first | exact (Kd.C_below HR0_10.out HB.out) | (with_reducible refine Kd.C_alloc ?_ _) | (with_reducible refine Kd.C_drewN ?_ _) | (with_reducible refine Kd.C_drew ?_)))
                      (case side10 => exact HC0_10.out)
                      (case side11 => repeat (first | exact (Kd.C_below HR0_11.out HB.out) | (with_reducible refine Kd.C_alloc ?_ _) | (with_reducible refine Kd.C_drewN ?_ _) | (with_reducible refine Kd.C_drew ?_)))
                      (case side12 => exact HC0_11.out)
                      rintro e w75 ⟨rfl, hb⟩
                      refine ⟨_, rfl, ?_⟩
                      have n0_ := Aside0.mk (Kd.R_below (by (with_reducible repeat (first | apply Kd.R_alloc | apply Kd.R_drewN | apply Kd.R_drew)); exact HO_7.out) hb)
                      have n1_ := Aside0.mk (Kd.R_below (by (with_reducible repeat (first | apply Kd.R_alloc | apply Kd.R_drewN | apply Kd.R_drew)); exact HO_8.out) hb)
                      have n2_ := Aside0.mk (Kd.R_below (by (with_reducible repeat (first | apply Kd.R_alloc | apply Kd.R_drewN | apply Kd.R_drew)); exact HO587.out) hb)
                      have n3_ := Aside0.mk (Kd.S_below (by (with_reducible repeat (first | apply Kd.S_alloc | apply Kd.S_drewN | apply Kd.S_drew)); exact HO599.out) hb)
                      have n4_ := Aside0.mk (Kd.S_below (by (with_reducible repeat (first | apply Kd.S_alloc | apply Kd.S_drewN | apply Kd.S_drew)); exact HO602.out) hb)
                      have n5_ := Aside0.mk (Kd.R_below (by (with_reducible repeat (first | apply Kd.R_alloc | apply Kd.R_drewN | apply Kd.R_drew)); exact HO605.out) hb)
                      have n6_ := Aside0.mk (Kd.V_below (by (with_reducible repeat (first | apply Kd.V_alloc | apply Kd.V_drewN | apply Kd.V_drew)); exact HO617.out) hb)
                      have n7_ := Aside0.mk (Kd.V_below (by (with_reducible repeat (first | apply Kd.V_alloc | apply Kd.V_drewN | apply Kd.V_drew)); exact HO620.out) hb)
                      have n8_ := Aside0.mk (blk_below (g := gb518) (o := .cells #[.slice A0_0 l0_0.length c0_0, .bool a0_1, .int .i64 a0_2, .string a0_3, .string a0_4, .string a0_5, .string a0_6, .bool a0_7, .bool a0_8, .bool a0_9, .slice A0_10 l0_10.length c0_10, .slice A0_11 l0_11.length c0_11] 27 (0, 0)) (by (with_reducible repeat (first | refine blk_drewN ?_ _ | refine blk_drew ?_ | refine blk_alloc ?_ _)); exact BK518.out) hb)
                      have n9_ := Aside0.mk (blk_below (g := gb540) (o := .cells #[.slice A0_0 l0_0.length c0_0, .bool ((Go.bits .and .i64 a1 1) == 1), .int .i64 a0_2, .string a0_3, .string a0_4, .string a0_5, .string a0_6, .bool ((Go.bits .and .i64 a1 2) == 2), .bool ((Go.bits .and .i64 a1 4) == 4), .bool ((Go.bits .and .i64 a1 8) == 8), .slice A0_10 l0_10.length c0_10, .slice A0_11 l0_11.length c0_11] 27 (0, 0)) (by (with_reducible repeat (first | refine blk_drewN ?_ _ | refine blk_drew ?_ | refine blk_alloc ?_ _)); exact BK540.out) hb)
                      have n10_ := Aside0.mk (below_step (by repeat (first | (with_reducible first | exact HB.out | apply below_alloc | apply pw_below_drewN | apply below_drew1 | refine below_set ?_ GE518.out | refine below_set ?_ GE540.out) | exact HB.out)) hb)
                      clear HO_7
                      clear HO_8
                      clear HO587
                      clear HO599
                      clear HO602
                      clear HO605
                      clear HO617
                      clear HO620
                      clear BK518
                      clear BK540
                      clear HB
                      have HO_7 := n0_
                      have HO_8 := n1_
                      have HO587 := n2_
                      have HO599 := n3_
                      have HO602 := n4_
                      have HO605 := n5_
                      have HO617 := n6_
                      have HO620 := n7_
                      have BK518 := n8_
                      have BK540 := n9_
                      have HB := n10_
                      clear n0_ n1_ n2_ n3_ n4_ n5_ n6_ n7_ n8_ n9_ n10_
                      (try clear hb)
                      (try clear hb2)
                      (try clear hk)
                      (try clear hi)
                      refine hK.out _ _ ⟨(blk_cell BK518.out 0).trans rfl, (blk_cell BK518.out 1).trans rfl, (blk_cell BK518.out 2).trans rfl, (blk_cell BK518.out 3).trans rfl, (blk_cell BK518.out 4).trans rfl, (blk_cell BK518.out 5).trans rfl, (blk_cell BK518.out 6).trans rfl, (blk_cell BK518.out 7).trans rfl, (blk_cell BK518.out 8).trans rfl, (blk_cell BK518.out 9).trans rfl, (blk_cell BK518.out 10).trans rfl, (blk_cell BK518.out 11).trans rfl, (blk_cell BK540.out 0).trans rfl, (blk_cell BK540.out 1).trans rfl, (blk_cell BK540.out 2).trans rfl, (blk_cell BK540.out 3).trans rfl, (blk_cell BK540.out 4).trans rfl, (blk_cell BK540.out 5).trans rfl, (blk_cell BK540.out 6).trans rfl, (blk_cell BK540.out 7).trans rfl, (blk_cell BK540.out 8).trans rfl, (blk_cell BK540.out 9).trans rfl, (blk_cell BK540.out 10).trans rfl, (blk_cell BK540.out 11).trans rfl⟩ (fun hHeld => ?_)
                      clear hK K
                      refine norm_ (a' := ?_) ?_ ?_
                      rotate_left
                      · show Act.put _ (some 91) _ = _
                        simp only [Act.put, List.setIfInBounds_toArray, List.set_cons_zero, List.set_cons_succ, i64_w, i32_w]
                        rfl
                      refine pure_ (i := 21) (N := some 92) (v := ?_) (a' := ?_) #[true, true, true, true, true, true, true, true, true, true, true, true, true, true, true, true, true, true, true, true, true, true, false] rfl rfl (any_of HT_.out (by kernel_rfl)) (fun _ _ _ h => h) (Or.inl ⟨by rfl, ?_⟩) ?_ ?_
                      rotate_left
                      · intro w'
                        go_simp
                        with_reducible rfl
                      rotate_left
                      · simp only [Act.put, List.setIfInBounds_toArray, List.set_cons_zero, List.set_cons_succ, i64_w, i32_w]
                        rfl
                      refine pure_ (i := 22) (N := some 4) (v := ?_) (a' := ?_) #[true, true, true, true, true, true, true, true, true, true, true, true, true, true, true, true, true, true, true, true, true, true, true] rfl rfl (any_of HT_.out (by kernel_rfl)) (fun _ _ _ h => h) (Or.inl ⟨by rfl, ?_⟩) ?_ ?_
                      rotate_left
                      · intro w'
                        go_simp
                        with_reducible rfl
                      rotate_left
                      · simp only [Act.put, List.setIfInBounds_toArray, List.set_cons_zero, List.set_cons_succ, i64_w, i32_w]
                        rfl
                      refine done_ (done_of HT_.out (by kernel_rfl)) ?_
                      try go_wp2
                      go_ret
                      exact ⟨by first | rfl | (simp [errW_none, errW_some] <;> rfl) | (simp [*, errW_none, errW_some] <;> rfl), by repeat (first | (with_reducible first | exact HB.out | apply below_alloc | apply pw_below_drewN | apply below_drew1 | refine below_set ?_ GE518.out | refine below_set ?_ GE540.out) | exact HB.out)⟩
                    · rw [if_neg c62] at H
                      have c62b0 : ((x9_2 == 0) == (a0_1 == ((Go.bits .and .i64 a1 1) == 1) && (a0_2 == a0_2 && (a0_3.toList == a0_3.toList && (a0_4.toList == a0_4.toList && (a0_5.toList == a0_5.toList && (a0_6.toList == a0_6.toList && (a0_7 == ((Go.bits .and .i64 a1 2) == 2) && (a0_8 == ((Go.bits .and .i64 a1 4) == 4) && (a0_9 == ((Go.bits .and .i64 a1 8) == 8))))))))))) = false := by simpa using c62
                      (try (have c62b1 : decide ((x9_2 == 0) = (a0_1 == ((Go.bits .and .i64 a1 1) == 1) && (a0_2 == a0_2 && (a0_3.toList == a0_3.toList && (a0_4.toList == a0_4.toList && (a0_5.toList == a0_5.toList && (a0_6.toList == a0_6.toList && (a0_7 == ((Go.bits .and .i64 a1 2) == 2) && (a0_8 == ((Go.bits .and .i64 a1 4) == 4) && (a0_9 == ((Go.bits .and .i64 a1 8) == 8))))))))))) = false := by simpa using c62))
                      (try (have c62b2 : ((x9_2 == 0) == (a0_1 == ((Go.bits .and .i64 a1 1) == 1) && (a0_2 == a0_2 && (a0_3.toList == a0_3.toList && (a0_4.toList == a0_4.toList && (a0_5.toList == a0_5.toList && (a0_6.toList == a0_6.toList && (a0_7 == ((Go.bits .and .i64 a1 2) == 2) && (a0_8 == ((Go.bits .and .i64 a1 4) == 4) && (a0_9 == ((Go.bits .and .i64 a1 8) == 8))))))))))) = false := by simpa using c62))
                      have fixD := c62
                      simp only [beq_self_eq_true, Bool.true_and] at fixD
                      (try (have c62b3 : ¬ ((x9_2 == 0) = (a0_1 == ((Go.bits .and .i64 a1 1) == 1) && (a0_2 == a0_2 && (a0_3.toList == a0_3.toList && (a0_4.toList == a0_4.toList && (a0_5.toList == a0_5.toList && (a0_6.toList == a0_6.toList && (a0_7 == ((Go.bits .and .i64 a1 2) == 2) && (a0_8 == ((Go.bits .and .i64 a1 4) == 4) && (a0_9 == ((Go.bits .and .i64 a1 8) == 8))))))))))) := by simpa using c62))
                      clear c62
                      exact absurd ((Option.some.inj H).trans hT.out) (by decide)
                  · rw [if_neg c61] at H
                    have c61b0 : decide (x9_2 ≤ 1) = false := decide_eq_false c61
                    clear c61
                    exact absurd ((Option.some.inj H).trans hT.out) (by decide)
                · replace c60 := Bool.eq_false_iff.mpr c60
                  subst c60
                  have H1 : (some false) = some r := by rw [if_neg (show ¬ (false = true) by decide)] at H; exact H
                  clear H
                  have H := H1
                  clear H1
                  exact absurd ((Option.some.inj H).trans hT.out) (by decide)
        · rw [if_neg c26] at H
          have c26b0 : ((t559.length : Int) == (t580.length : Int)) = false := beq_eq_false_iff_ne.mpr c26
          have c26b1 : ((t559.length : Int) != (t580.length : Int)) = true := bne_iff_ne.mpr c26
          have c26b2 : (t559.length == t580.length) = false := by first | simpa using c26 | (simp at c26 ⊢; omega)
          exact absurd ((Option.some.inj H).trans hT.out) (by decide)

end Go.Proofs.Ytojfhlbchiaccaa.Print
