-- made by wip/tools/xprint.py
import Derived.Test.YtojfhlbchiaccaaPrint0
import Derived.Test.YtojfhlbchiaccaaPrint1
import Derived.Test.YtojfhlbchiaccaaPrint2
import Derived.Test.YtojfhlbchiaccaaPrint8
namespace Go.Proofs.Ytojfhlbchiaccaa.Print
open Go.RowKit Go.Proofs.YtojfhlbchiaccaaW.PrintWords Go.Proofs.YtojfhlbchiaccaaW.PrintLast Go.Proofs.YtojfhlbchiaccaaW.PrintMore
attribute [local go_sem] max2_int min2_int max_two min_two max_three min_three max_four min_four   -- for this text's walks alone
set_option linter.unusedVariables false
set_option linter.unusedSimpArgs false

attribute [local go_sem high] eqA24 eqA54
/-! ### hornbookref23_Same: function 14 -/
mutual
def hornbookref23_Same.j0 : Nat → Bool → List (S54) → Bool → Int → ByteArray → ByteArray → ByteArray → ByteArray → Bool → Bool → Bool → List (List Int) → List (List Int) → List (S54) → Bool → Int → ByteArray → ByteArray → ByteArray → ByteArray → Bool → Bool → Bool → List (List Int) → List (List Int) → Option (Bool)
  | 0, _, _, _, _, _, _, _, _, _, _, _, _, _, _, _, _, _, _, _, _, _, _, _, _, _ => none
  | k + 1, x19, x196000, x196001, x196002, x196003, x196004, x196005, x196006, x196007, x196008, x196009, x196010, x196011, x197000, x197001, x197002, x197003, x197004, x197005, x197006, x197007, x197008, x197009, x197010, x197011 => if x19 = true then (some false) else (hornbookref23_Same.l0 k 0 x196000 x196001 x196002 x196003 x196004 x196005 x196006 x196007 x196008 x196009 x196010 x196011 x197000 x197001 x197002 x197003 x197004 x197005 x197006 x197007 x197008 x197009 x197010 x197011)
def hornbookref23_Same.l0 : Nat → Int → List (S54) → Bool → Int → ByteArray → ByteArray → ByteArray → ByteArray → Bool → Bool → Bool → List (List Int) → List (List Int) → List (S54) → Bool → Int → ByteArray → ByteArray → ByteArray → ByteArray → Bool → Bool → Bool → List (List Int) → List (List Int) → Option (Bool)
  | 0, _, _, _, _, _, _, _, _, _, _, _, _, _, _, _, _, _, _, _, _, _, _, _, _, _ => none
  | k + 1, x5, x196000, x196001, x196002, x196003, x196004, x196005, x196006, x196007, x196008, x196009, x196010, x196011, x197000, x197001, x197002, x197003, x197004, x197005, x197006, x197007, x197008, x197009, x197010, x197011 => if x5 < (x196000.length : Int) then (if 0 ≤ x5 then (if x5 < (x197000.length : Int) then (if (!((((rd_T54 x196000 x5).f0).toList) == (((rd_T54 x197000 x5).f0).toList)) || (!((((rd_T54 x196000 x5).f1).toList) == (((rd_T54 x197000 x5).f1).toList)))) = true then (some false) else (hornbookref23_Same.l0 k (wrap64 (x5 + 1)) x196000 x196001 x196002 x196003 x196004 x196005 x196006 x196007 x196008 x196009 x196010 x196011 x197000 x197001 x197002 x197003 x197004 x197005 x197006 x197007 x197008 x197009 x197010 x197011)) else (none)) else (none)) else ((hornbookref23_Texts.f k x196010 x197010).bind fun t199 => (if t199 = true then ((hornbookref23_Texts.f k x196011 x197011).bind fun t200 => (some t200)) else (some false)))
end
def hornbookref23_Same.f (k : Nat) (l0_0 : List (S54)) (a0_1 : Bool) (a0_2 : Int) (a0_3 : ByteArray) (a0_4 : ByteArray) (a0_5 : ByteArray) (a0_6 : ByteArray) (a0_7 : Bool) (a0_8 : Bool) (a0_9 : Bool) (l0_10 : List (List Int)) (l0_11 : List (List Int)) (l1_0 : List (S54)) (a1_1 : Bool) (a1_2 : Int) (a1_3 : ByteArray) (a1_4 : ByteArray) (a1_5 : ByteArray) (a1_6 : ByteArray) (a1_7 : Bool) (a1_8 : Bool) (a1_9 : Bool) (l1_10 : List (List Int)) (l1_11 : List (List Int)) : Option (Bool) := if (l0_0.length : Int) = (l1_0.length : Int) then (hornbookref23_Same.j0 k (!(a0_1 == a1_1) || (!(a0_2 == a1_2) || (!(a0_3.toList == a1_3.toList) || (!(a0_4.toList == a1_4.toList) || (!(a0_5.toList == a1_5.toList) || (!(a0_6.toList == a1_6.toList) || (!(a0_7 == a1_7) || (!(a0_8 == a1_8) || (!(a0_9 == a1_9)))))))))) l0_0 a0_1 a0_2 a0_3 a0_4 a0_5 a0_6 a0_7 a0_8 a0_9 l0_10 l0_11 l1_0 a1_1 a1_2 a1_3 a1_4 a1_5 a1_6 a1_7 a1_8 a1_9 l1_10 l1_11) else (hornbookref23_Same.j0 k true l0_0 a0_1 a0_2 a0_3 a0_4 a0_5 a0_6 a0_7 a0_8 a0_9 l0_10 l0_11 l1_0 a1_1 a1_2 a1_3 a1_4 a1_5 a1_6 a1_7 a1_8 a1_9 l1_10 l1_11)
theorem hornbookref23_Same.mono_l : ∀ k, (∀ y0 y1 y2 y3 y4 y5 y6 y7 y8 y9 y10 y11 y12 y13 y14 y15 y16 y17 y18 y19 y20 y21 y22 y23 y24, LeO (hornbookref23_Same.j0 k y0 y1 y2 y3 y4 y5 y6 y7 y8 y9 y10 y11 y12 y13 y14 y15 y16 y17 y18 y19 y20 y21 y22 y23 y24) (hornbookref23_Same.j0 (k + 1) y0 y1 y2 y3 y4 y5 y6 y7 y8 y9 y10 y11 y12 y13 y14 y15 y16 y17 y18 y19 y20 y21 y22 y23 y24)) ∧ (∀ y0 y1 y2 y3 y4 y5 y6 y7 y8 y9 y10 y11 y12 y13 y14 y15 y16 y17 y18 y19 y20 y21 y22 y23 y24, LeO (hornbookref23_Same.l0 k y0 y1 y2 y3 y4 y5 y6 y7 y8 y9 y10 y11 y12 y13 y14 y15 y16 y17 y18 y19 y20 y21 y22 y23 y24) (hornbookref23_Same.l0 (k + 1) y0 y1 y2 y3 y4 y5 y6 y7 y8 y9 y10 y11 y12 y13 y14 y15 y16 y17 y18 y19 y20 y21 y22 y23 y24))
  | 0 => ⟨fun _ _ _ _ _ _ _ _ _ _ _ _ _ _ _ _ _ _ _ _ _ _ _ _ _ r h => by simp [hornbookref23_Same.j0] at h, fun _ _ _ _ _ _ _ _ _ _ _ _ _ _ _ _ _ _ _ _ _ _ _ _ _ r h => by simp [hornbookref23_Same.l0] at h⟩
  | k + 1 => by
    obtain ⟨ih0, ih1⟩ := hornbookref23_Same.mono_l k
    refine ⟨?_, ?_⟩
    · intro y0 y1 y2 y3 y4 y5 y6 y7 y8 y9 y10 y11 y12 y13 y14 y15 y16 y17 y18 y19 y20 y21 y22 y23 y24
      unfold hornbookref23_Same.j0
      repeat' first
      | (with_reducible exact ih0 _ _ _ _ _ _ _ _ _ _ _ _ _ _ _ _ _ _ _ _ _ _ _ _ _)
      | (with_reducible exact ih1 _ _ _ _ _ _ _ _ _ _ _ _ _ _ _ _ _ _ _ _ _ _ _ _ _)
      | (with_reducible exact hornbookref23_Texts.mono _ _ _)
      | (with_reducible exact LeO.refl _)
      | (with_reducible exact LeO.none _)
      | (with_reducible refine LeO.ite ?_ ?_)
      | (with_reducible refine LeO.bind ?_ (fun _ => ?_))
      | exact ih0 _ _ _ _ _ _ _ _ _ _ _ _ _ _ _ _ _ _ _ _ _ _ _ _ _
      | exact ih1 _ _ _ _ _ _ _ _ _ _ _ _ _ _ _ _ _ _ _ _ _ _ _ _ _
      | exact hornbookref23_Texts.mono _ _ _
      | exact LeO.none _
      | refine LeO.ite ?_ ?_
      | refine LeO.bind ?_ (fun _ => ?_)
    · intro y0 y1 y2 y3 y4 y5 y6 y7 y8 y9 y10 y11 y12 y13 y14 y15 y16 y17 y18 y19 y20 y21 y22 y23 y24
      unfold hornbookref23_Same.l0
      repeat' first
      | (with_reducible exact ih0 _ _ _ _ _ _ _ _ _ _ _ _ _ _ _ _ _ _ _ _ _ _ _ _ _)
      | (with_reducible exact ih1 _ _ _ _ _ _ _ _ _ _ _ _ _ _ _ _ _ _ _ _ _ _ _ _ _)
      | (with_reducible exact hornbookref23_Texts.mono _ _ _)
      | (with_reducible exact LeO.refl _)
      | (with_reducible exact LeO.none _)
      | (with_reducible refine LeO.ite ?_ ?_)
      | (with_reducible refine LeO.bind ?_ (fun _ => ?_))
      | exact ih0 _ _ _ _ _ _ _ _ _ _ _ _ _ _ _ _ _ _ _ _ _ _ _ _ _
      | exact ih1 _ _ _ _ _ _ _ _ _ _ _ _ _ _ _ _ _ _ _ _ _ _ _ _ _
      | exact hornbookref23_Texts.mono _ _ _
      | exact LeO.none _
      | refine LeO.ite ?_ ?_
      | refine LeO.bind ?_ (fun _ => ?_)
theorem hornbookref23_Same.mono : ∀ a0 a1 a2 a3 a4 a5 a6 a7 a8 a9 a10 a11 a12 a13 a14 a15 a16 a17 a18 a19 a20 a21 a22 a23 k, LeO (hornbookref23_Same.f k a0 a1 a2 a3 a4 a5 a6 a7 a8 a9 a10 a11 a12 a13 a14 a15 a16 a17 a18 a19 a20 a21 a22 a23) (hornbookref23_Same.f (k + 1) a0 a1 a2 a3 a4 a5 a6 a7 a8 a9 a10 a11 a12 a13 a14 a15 a16 a17 a18 a19 a20 a21 a22 a23) := by
  intro a0 a1 a2 a3 a4 a5 a6 a7 a8 a9 a10 a11 a12 a13 a14 a15 a16 a17 a18 a19 a20 a21 a22 a23 k
  obtain ⟨ih0, ih1⟩ := hornbookref23_Same.mono_l k
  unfold hornbookref23_Same.f
  repeat' first
      | (with_reducible exact ih0 _ _ _ _ _ _ _ _ _ _ _ _ _ _ _ _ _ _ _ _ _ _ _ _ _)
      | (with_reducible exact ih1 _ _ _ _ _ _ _ _ _ _ _ _ _ _ _ _ _ _ _ _ _ _ _ _ _)
      | (with_reducible exact hornbookref23_Texts.mono _ _ _)
      | (with_reducible exact LeO.refl _)
      | (with_reducible exact LeO.none _)
      | (with_reducible refine LeO.ite ?_ ?_)
      | (with_reducible refine LeO.bind ?_ (fun _ => ?_))
      | exact ih0 _ _ _ _ _ _ _ _ _ _ _ _ _ _ _ _ _ _ _ _ _ _ _ _ _
      | exact ih1 _ _ _ _ _ _ _ _ _ _ _ _ _ _ _ _ _ _ _ _ _ _ _ _ _
      | exact hornbookref23_Texts.mono _ _ _
      | exact LeO.none _
      | refine LeO.ite ?_ ?_
      | refine LeO.bind ?_ (fun _ => ?_)
set_option maxHeartbeats 8000000 in
set_option maxRecDepth 100000 in
theorem hornbookref23_Same.calls (k : Nat) (A0_0 : Option Addr) (c0_0 : Nat) (l0_0 : List (S54)) (a0_1 : Bool) (a0_2 : Int) (a0_3 : ByteArray) (a0_4 : ByteArray) (a0_5 : ByteArray) (a0_6 : ByteArray) (a0_7 : Bool) (a0_8 : Bool) (a0_9 : Bool) (A0_10 : Option Addr) (c0_10 : Nat) (l0_10 : List (List Int)) (A0_11 : Option Addr) (c0_11 : Nat) (l0_11 : List (List Int)) (A1_0 : Option Addr) (c1_0 : Nat) (l1_0 : List (S54)) (a1_1 : Bool) (a1_2 : Int) (a1_3 : ByteArray) (a1_4 : ByteArray) (a1_5 : ByteArray) (a1_6 : ByteArray) (a1_7 : Bool) (a1_8 : Bool) (a1_9 : Bool) (A1_10 : Option Addr) (c1_10 : Nat) (l1_10 : List (List Int)) (A1_11 : Option Addr) (c1_11 : Nat) (l1_11 : List (List Int)) (r : Bool) (w : World) (hr0_0 : Kd.C k54 w A0_0 l0_0.length l0_0) (hc0_0 : l0_0.length ≤ c0_0) (hr0_10 : Kd.C (Kd.slice 5 (Kd.int .u8)) w A0_10 l0_10.length l0_10) (hc0_10 : l0_10.length ≤ c0_10) (hr0_11 : Kd.C (Kd.slice 5 (Kd.int .u8)) w A0_11 l0_11.length l0_11) (hc0_11 : l0_11.length ≤ c0_11) (hr1_0 : Kd.C k54 w A1_0 l1_0.length l1_0) (hc1_0 : l1_0.length ≤ c1_0) (hr1_10 : Kd.C (Kd.slice 5 (Kd.int .u8)) w A1_10 l1_10.length l1_10) (hc1_10 : l1_10.length ≤ c1_10) (hr1_11 : Kd.C (Kd.slice 5 (Kd.int .u8)) w A1_11 l1_11.length l1_11) (hc1_11 : l1_11.length ≤ c1_11) (h : hornbookref23_Same.f k l0_0 a0_1 a0_2 a0_3 a0_4 a0_5 a0_6 a0_7 a0_8 a0_9 l0_10 l0_11 l1_0 a1_1 a1_2 a1_3 a1_4 a1_5 a1_6 a1_7 a1_8 a1_9 l1_10 l1_11 = some r) :
    Calls Try.prog 14 #[.agg #[.slice A0_0 l0_0.length c0_0, .bool a0_1, .int .i64 a0_2, .string a0_3, .string a0_4, .string a0_5, .string a0_6, .bool a0_7, .bool a0_8, .bool a0_9, .slice A0_10 l0_10.length c0_10, .slice A0_11 l0_11.length c0_11], .agg #[.slice A1_0 l1_0.length c1_0, .bool a1_1, .int .i64 a1_2, .string a1_3, .string a1_4, .string a1_5, .string a1_6, .bool a1_7, .bool a1_8, .bool a1_9, .slice A1_10 l1_10.length c1_10, .slice A1_11 l1_11.length c1_11]] w fun e w' => e = .returned (.bool r) ∧ Below w.heap.size w w' := by
  have hu27 := Try.underlying27
  have hu24 := Try.underlying24
  have hu54 := Try.underlying54
  have HR0_0 := Aside0.mk hr0_0
  have HC0_0 := Aside0.mk hc0_0
  clear hr0_0 hc0_0
  have HR0_10 := Aside0.mk hr0_10
  have HC0_10 := Aside0.mk hc0_10
  clear hr0_10 hc0_10
  have HR0_11 := Aside0.mk hr0_11
  have HC0_11 := Aside0.mk hc0_11
  clear hr0_11 hc0_11
  have HR1_0 := Aside0.mk hr1_0
  have HC1_0 := Aside0.mk hc1_0
  clear hr1_0 hc1_0
  have HR1_10 := Aside0.mk hr1_10
  have HC1_10 := Aside0.mk hc1_10
  clear hr1_10 hc1_10
  have HR1_11 := Aside0.mk hr1_11
  have HC1_11 := Aside0.mk hc1_11
  clear hr1_11 hc1_11
  have HB := Aside0.mk (Below.refl w.heap.size w)
  have H : (if (l0_0.length : Int) = (l1_0.length : Int) then (hornbookref23_Same.j0 k (!(a0_1 == a1_1) || (!(a0_2 == a1_2) || (!(a0_3.toList == a1_3.toList) || (!(a0_4.toList == a1_4.toList) || (!(a0_5.toList == a1_5.toList) || (!(a0_6.toList == a1_6.toList) || (!(a0_7 == a1_7) || (!(a0_8 == a1_8) || (!(a0_9 == a1_9)))))))))) l0_0 a0_1 a0_2 a0_3 a0_4 a0_5 a0_6 a0_7 a0_8 a0_9 l0_10 l0_11 l1_0 a1_1 a1_2 a1_3 a1_4 a1_5 a1_6 a1_7 a1_8 a1_9 l1_10 l1_11) else (hornbookref23_Same.j0 k true l0_0 a0_1 a0_2 a0_3 a0_4 a0_5 a0_6 a0_7 a0_8 a0_9 l0_10 l0_11 l1_0 a1_1 a1_2 a1_3 a1_4 a1_5 a1_6 a1_7 a1_8 a1_9 l1_10 l1_11)) = some r := h
  clear h
  have HC3 := Aside0.mk H
  clear H
  go_enter Try.func14, Try.ntmps14
  go_upto_region 1 with (first | ((with_reducible refine gate_dst (N := 2) rfl ?_); refine box_event ?hg (N := 2) ?hd (cs := #[.slice A0_0 l0_0.length c0_0, .bool a0_1, .int .i64 a0_2, .string a0_3, .string a0_4, .string a0_5, .string a0_6, .bool a0_7, .bool a0_8, .bool a0_9, .slice A0_10 l0_10.length c0_10, .slice A0_11 l0_11.length c0_11]) (t := 27) ?hr ?_; (case hd => rfl); (case hg => rfl); (case hr => first | (go_simp; done) | (go_simp; rfl)); intro gb195 hg w4 hbox hb; have n0_ := Aside0.mk (below_step (by repeat (first | (with_reducible first | exact HB.out | apply below_alloc | apply pw_below_drewN | apply below_drew1) | exact HB.out)) hb); have n1_ := Aside0.mk (hbox); have n2_ := Aside0.mk ((by rw [hg]; exact (below_size (by repeat (first | (with_reducible first | exact HB.out | apply below_alloc | apply pw_below_drewN | apply below_drew1) | exact HB.out))) : w.heap.size ≤ gb195)); have n3_ := Aside0.mk ((by rw [hg]; exact (below_size (by repeat (first | (with_reducible first | exact HB.out | apply below_alloc | apply pw_below_drewN | apply below_drew1) | exact HB.out))) : w.heap.size ≤ gb195)); clear HB; have HB := n0_; have BK195 := n1_; have GW195 := n2_; have GE195 := n3_; clear n0_ n1_ n2_ n3_; clear hb hbox hg) | ((with_reducible refine gate_dst (N := 3) rfl ?_); refine box_event ?hg (N := 3) ?hd (cs := #[.slice A1_0 l1_0.length c1_0, .bool a1_1, .int .i64 a1_2, .string a1_3, .string a1_4, .string a1_5, .string a1_6, .bool a1_7, .bool a1_8, .bool a1_9, .slice A1_10 l1_10.length c1_10, .slice A1_11 l1_11.length c1_11]) (t := 27) ?hr ?_; (case hd => rfl); (case hg => rfl); (case hr => first | (go_simp; done) | (go_simp; rfl)); intro gb196 hg w5 hbox hb; have n0_ := Aside0.mk (blk_below (g := gb195) (o := .cells #[.slice A0_0 l0_0.length c0_0, .bool a0_1, .int .i64 a0_2, .string a0_3, .string a0_4, .string a0_5, .string a0_6, .bool a0_7, .bool a0_8, .bool a0_9, .slice A0_10 l0_10.length c0_10, .slice A0_11 l0_11.length c0_11] 27 (0, 0)) (by (with_reducible repeat (first | refine blk_drewN ?_ _ | refine blk_drew ?_ | refine blk_alloc ?_ _)); exact BK195.out) hb); have n1_ := Aside0.mk (below_step (by repeat (first | (with_reducible first | exact HB.out | apply below_alloc | apply pw_below_drewN | apply below_drew1 | refine below_set ?_ GE195.out) | exact HB.out)) hb); have n2_ := Aside0.mk (hbox); have n3_ := Aside0.mk ((by rw [hg]; exact (below_size (by repeat (first | (with_reducible first | exact HB.out | apply below_alloc | apply pw_below_drewN | apply below_drew1 | refine below_set ?_ GE195.out) | exact HB.out))) : w.heap.size ≤ gb196)); have n4_ := Aside0.mk ((by rw [hg]; exact (below_size (by repeat (first | (with_reducible first | exact HB.out | apply below_alloc | apply pw_below_drewN | apply below_drew1 | refine below_set ?_ GE195.out) | exact HB.out))) : w.heap.size ≤ gb196)); have n5_ := Aside0.mk ((by rw [hg]; exact Nat.ne_of_lt (blk_lt (g := gb195) (o := .cells #[.slice A0_0 l0_0.length c0_0, .bool a0_1, .int .i64 a0_2, .string a0_3, .string a0_4, .string a0_5, .string a0_6, .bool a0_7, .bool a0_8, .bool a0_9, .slice A0_10 l0_10.length c0_10, .slice A0_11 l0_11.length c0_11] 27 (0, 0)) (by (with_reducible repeat (first | refine blk_drewN ?_ _ | refine blk_drew ?_ | refine blk_alloc ?_ _)); exact BK195.out)) : gb195 ≠ gb196)); have n6_ := Aside0.mk ((by rw [hg]; exact Nat.ne_of_gt (blk_lt (g := gb195) (o := .cells #[.slice A0_0 l0_0.length c0_0, .bool a0_1, .int .i64 a0_2, .string a0_3, .string a0_4, .string a0_5, .string a0_6, .bool a0_7, .bool a0_8, .bool a0_9, .slice A0_10 l0_10.length c0_10, .slice A0_11 l0_11.length c0_11] 27 (0, 0)) (by (with_reducible repeat (first | refine blk_drewN ?_ _ | refine blk_drew ?_ | refine blk_alloc ?_ _)); exact BK195.out)) : gb196 ≠ gb195)); clear BK195; clear HB; have BK195 := n0_; have HB := n1_; have BK196 := n2_; have GW196 := n3_; have GE196 := n4_; have NB195_196 := n5_; have NB196_195 := n6_; clear n0_ n1_ n2_ n3_ n4_ n5_ n6_; clear hb hbox hg))
  repeat (go_quiet (first | ((with_reducible refine gate_dst (N := 2) rfl ?_); refine box_event ?hg (N := 2) ?hd (cs := #[.slice A0_0 l0_0.length c0_0, .bool a0_1, .int .i64 a0_2, .string a0_3, .string a0_4, .string a0_5, .string a0_6, .bool a0_7, .bool a0_8, .bool a0_9, .slice A0_10 l0_10.length c0_10, .slice A0_11 l0_11.length c0_11]) (t := 27) ?hr ?_; (case hd => rfl); (case hg => rfl); (case hr => first | (go_simp; done) | (go_simp; rfl)); intro gb195 hg w4 hbox hb; have n0_ := Aside0.mk (below_step (by repeat (first | (with_reducible first | exact HB.out | apply below_alloc | apply pw_below_drewN | apply below_drew1) | exact HB.out)) hb); have n1_ := Aside0.mk (hbox); have n2_ := Aside0.mk ((by rw [hg]; exact (below_size (by repeat (first | (with_reducible first | exact HB.out | apply below_alloc | apply pw_below_drewN | apply below_drew1) | exact HB.out))) : w.heap.size ≤ gb195)); have n3_ := Aside0.mk ((by rw [hg]; exact (below_size (by repeat (first | (with_reducible first | exact HB.out | apply below_alloc | apply pw_below_drewN | apply below_drew1) | exact HB.out))) : w.heap.size ≤ gb195)); clear HB; have HB := n0_; have BK195 := n1_; have GW195 := n2_; have GE195 := n3_; clear n0_ n1_ n2_ n3_; clear hb hbox hg) | ((with_reducible refine gate_dst (N := 3) rfl ?_); refine box_event ?hg (N := 3) ?hd (cs := #[.slice A1_0 l1_0.length c1_0, .bool a1_1, .int .i64 a1_2, .string a1_3, .string a1_4, .string a1_5, .string a1_6, .bool a1_7, .bool a1_8, .bool a1_9, .slice A1_10 l1_10.length c1_10, .slice A1_11 l1_11.length c1_11]) (t := 27) ?hr ?_; (case hd => rfl); (case hg => rfl); (case hr => first | (go_simp; done) | (go_simp; rfl)); intro gb196 hg w5 hbox hb; have n0_ := Aside0.mk (blk_below (g := gb195) (o := .cells #[.slice A0_0 l0_0.length c0_0, .bool a0_1, .int .i64 a0_2, .string a0_3, .string a0_4, .string a0_5, .string a0_6, .bool a0_7, .bool a0_8, .bool a0_9, .slice A0_10 l0_10.length c0_10, .slice A0_11 l0_11.length c0_11] 27 (0, 0)) (by (with_reducible repeat (first | refine blk_drewN ?_ _ | refine blk_drew ?_ | refine blk_alloc ?_ _)); exact BK195.out) hb); have n1_ := Aside0.mk (below_step (by repeat (first | (with_reducible first | exact HB.out | apply below_alloc | apply pw_below_drewN | apply below_drew1 | refine below_set ?_ GE195.out) | exact HB.out)) hb); have n2_ := Aside0.mk (hbox); have n3_ := Aside0.mk ((by rw [hg]; exact (below_size (by repeat (first | (with_reducible first | exact HB.out | apply below_alloc | apply pw_below_drewN | apply below_drew1 | refine below_set ?_ GE195.out) | exact HB.out))) : w.heap.size ≤ gb196)); have n4_ := Aside0.mk ((by rw [hg]; exact (below_size (by repeat (first | (with_reducible first | exact HB.out | apply below_alloc | apply pw_below_drewN | apply below_drew1 | refine below_set ?_ GE195.out) | exact HB.out))) : w.heap.size ≤ gb196)); have n5_ := Aside0.mk ((by rw [hg]; exact Nat.ne_of_lt (blk_lt (g := gb195) (o := .cells #[.slice A0_0 l0_0.length c0_0, .bool a0_1, .int .i64 a0_2, .string a0_3, .string a0_4, .string a0_5, .string a0_6, .bool a0_7, .bool a0_8, .bool a0_9, .slice A0_10 l0_10.length c0_10, .slice A0_11 l0_11.length c0_11] 27 (0, 0)) (by (with_reducible repeat (first | refine blk_drewN ?_ _ | refine blk_drew ?_ | refine blk_alloc ?_ _)); exact BK195.out)) : gb195 ≠ gb196)); have n6_ := Aside0.mk ((by rw [hg]; exact Nat.ne_of_gt (blk_lt (g := gb195) (o := .cells #[.slice A0_0 l0_0.length c0_0, .bool a0_1, .int .i64 a0_2, .string a0_3, .string a0_4, .string a0_5, .string a0_6, .bool a0_7, .bool a0_8, .bool a0_9, .slice A0_10 l0_10.length c0_10, .slice A0_11 l0_11.length c0_11] 27 (0, 0)) (by (with_reducible repeat (first | refine blk_drewN ?_ _ | refine blk_drew ?_ | refine blk_alloc ?_ _)); exact BK195.out)) : gb196 ≠ gb195)); clear BK195; clear HB; have BK195 := n0_; have HB := n1_; have BK196 := n2_; have GW196 := n3_; have GE196 := n4_; have NB195_196 := n5_; have NB196_195 := n6_; clear n0_ n1_ n2_ n3_ n4_ n5_ n6_; clear hb hbox hg)); go_upto_region 1 with (first | ((with_reducible refine gate_dst (N := 2) rfl ?_); refine box_event ?hg (N := 2) ?hd (cs := #[.slice A0_0 l0_0.length c0_0, .bool a0_1, .int .i64 a0_2, .string a0_3, .string a0_4, .string a0_5, .string a0_6, .bool a0_7, .bool a0_8, .bool a0_9, .slice A0_10 l0_10.length c0_10, .slice A0_11 l0_11.length c0_11]) (t := 27) ?hr ?_; (case hd => rfl); (case hg => rfl); (case hr => first | (go_simp; done) | (go_simp; rfl)); intro gb195 hg w4 hbox hb; have n0_ := Aside0.mk (below_step (by repeat (first | (with_reducible first | exact HB.out | apply below_alloc | apply pw_below_drewN | apply below_drew1) | exact HB.out)) hb); have n1_ := Aside0.mk (hbox); have n2_ := Aside0.mk ((by rw [hg]; exact (below_size (by repeat (first | (with_reducible first | exact HB.out | apply below_alloc | apply pw_below_drewN | apply below_drew1) | exact HB.out))) : w.heap.size ≤ gb195)); have n3_ := Aside0.mk ((by rw [hg]; exact (below_size (by repeat (first | (with_reducible first | exact HB.out | apply below_alloc | apply pw_below_drewN | apply below_drew1) | exact HB.out))) : w.heap.size ≤ gb195)); clear HB; have HB := n0_; have BK195 := n1_; have GW195 := n2_; have GE195 := n3_; clear n0_ n1_ n2_ n3_; clear hb hbox hg) | ((with_reducible refine gate_dst (N := 3) rfl ?_); refine box_event ?hg (N := 3) ?hd (cs := #[.slice A1_0 l1_0.length c1_0, .bool a1_1, .int .i64 a1_2, .string a1_3, .string a1_4, .string a1_5, .string a1_6, .bool a1_7, .bool a1_8, .bool a1_9, .slice A1_10 l1_10.length c1_10, .slice A1_11 l1_11.length c1_11]) (t := 27) ?hr ?_; (case hd => rfl); (case hg => rfl); (case hr => first | (go_simp; done) | (go_simp; rfl)); intro gb196 hg w5 hbox hb; have n0_ := Aside0.mk (blk_below (g := gb195) (o := .cells #[.slice A0_0 l0_0.length c0_0, .bool a0_1, .int .i64 a0_2, .string a0_3, .string a0_4, .string a0_5, .string a0_6, .bool a0_7, .bool a0_8, .bool a0_9, .slice A0_10 l0_10.length c0_10, .slice A0_11 l0_11.length c0_11] 27 (0, 0)) (by (with_reducible repeat (first | refine blk_drewN ?_ _ | refine blk_drew ?_ | refine blk_alloc ?_ _)); exact BK195.out) hb); have n1_ := Aside0.mk (below_step (by repeat (first | (with_reducible first | exact HB.out | apply below_alloc | apply pw_below_drewN | apply below_drew1 | refine below_set ?_ GE195.out) | exact HB.out)) hb); have n2_ := Aside0.mk (hbox); have n3_ := Aside0.mk ((by rw [hg]; exact (below_size (by repeat (first | (with_reducible first | exact HB.out | apply below_alloc | apply pw_below_drewN | apply below_drew1 | refine below_set ?_ GE195.out) | exact HB.out))) : w.heap.size ≤ gb196)); have n4_ := Aside0.mk ((by rw [hg]; exact (below_size (by repeat (first | (with_reducible first | exact HB.out | apply below_alloc | apply pw_below_drewN | apply below_drew1 | refine below_set ?_ GE195.out) | exact HB.out))) : w.heap.size ≤ gb196)); have n5_ := Aside0.mk ((by rw [hg]; exact Nat.ne_of_lt (blk_lt (g := gb195) (o := .cells #[.slice A0_0 l0_0.length c0_0, .bool a0_1, .int .i64 a0_2, .string a0_3, .string a0_4, .string a0_5, .string a0_6, .bool a0_7, .bool a0_8, .bool a0_9, .slice A0_10 l0_10.length c0_10, .slice A0_11 l0_11.length c0_11] 27 (0, 0)) (by (with_reducible repeat (first | refine blk_drewN ?_ _ | refine blk_drew ?_ | refine blk_alloc ?_ _)); exact BK195.out)) : gb195 ≠ gb196)); have n6_ := Aside0.mk ((by rw [hg]; exact Nat.ne_of_gt (blk_lt (g := gb195) (o := .cells #[.slice A0_0 l0_0.length c0_0, .bool a0_1, .int .i64 a0_2, .string a0_3, .string a0_4, .string a0_5, .string a0_6, .bool a0_7, .bool a0_8, .bool a0_9, .slice A0_10 l0_10.length c0_10, .slice A0_11 l0_11.length c0_11] 27 (0, 0)) (by (with_reducible repeat (first | refine blk_drewN ?_ _ | refine blk_drew ?_ | refine blk_alloc ?_ _)); exact BK195.out)) : gb196 ≠ gb195)); clear BK195; clear HB; have BK195 := n0_; have HB := n1_; have BK196 := n2_; have GW196 := n3_; have GE196 := n4_; have NB195_196 := n5_; have NB196_195 := n6_; clear n0_ n1_ n2_ n3_ n4_ n5_ n6_; clear hb hbox hg)))
  (try simp only [Act.put, List.setIfInBounds_toArray, List.set_cons_zero, List.set_cons_succ])
  go_cut [19] (fun v19 wc => ∃ (kq : Nat) (x19_2 : Bool), v19 = .bool x19_2 ∧ Aside0 (hornbookref23_Same.j0 kq x19_2 l0_0 a0_1 a0_2 a0_3 a0_4 a0_5 a0_6 a0_7 a0_8 a0_9 l0_10 l0_11 l1_0 a1_1 a1_2 a1_3 a1_4 a1_5 a1_6 a1_7 a1_8 a1_9 l1_10 l1_11 = some r) ∧ Aside0 (kq ≤ k) ∧ Aside0 (wc.heap[gb195]? = some (.cells #[(.slice A0_0 l0_0.length c0_0), .bool a0_1, .int .i64 a0_2, .string a0_3, .string a0_4, .string a0_5, .string a0_6, .bool a0_7, .bool a0_8, .bool a0_9, (.slice A0_10 l0_10.length c0_10), (.slice A0_11 l0_11.length c0_11)] 27 (0, 0))) ∧ Aside0 (wc.heap[gb196]? = some (.cells #[(.slice A1_0 l1_0.length c1_0), .bool a1_1, .int .i64 a1_2, .string a1_3, .string a1_4, .string a1_5, .string a1_6, .bool a1_7, .bool a1_8, .bool a1_9, (.slice A1_10 l1_10.length c1_10), (.slice A1_11 l1_11.length c1_11)] 27 (0, 0))) ∧ Aside0 (Below w.heap.size w wc))
  case first =>
    have H := HC3.out
    clear HC3
    by_cases c6 : (l0_0.length : Int) = (l1_0.length : Int)
    · rw [if_pos c6] at H
      have c6b0 : ((l0_0.length : Int) == (l1_0.length : Int)) = true := beq_iff_eq.mpr c6
      have c6b1 : ((l0_0.length : Int) != (l1_0.length : Int)) = false := bne_eq_false_iff_eq.mpr c6
      have c6b2 : (l0_0.length == l1_0.length) = true := by first | simpa using c6 | (simp at c6 ⊢; omega)
      clear c6
      (first | rw [c6b0] | (simp only [i64_w, i32_w]; rw [c6b0]) | skip)
      have H' := Aside0.mk H
      clear H
      have hnb7 := NB195_196.out
      have hnc7 := NB196_195.out
      have hcz8_0 : w5.cell? ⟨gb195, 0, none⟩ = some (.slice A0_0 l0_0.length c0_0) := (blk_cell BK195.out 0).trans rfl
      have hcz8_1 : w5.cell? ⟨gb195, 1, none⟩ = some (.bool a0_1) := (blk_cell BK195.out 1).trans rfl
      have hcz8_2 : w5.cell? ⟨gb195, 2, none⟩ = some (.int .i64 a0_2) := (blk_cell BK195.out 2).trans rfl
      have hcz8_3 : w5.cell? ⟨gb195, 3, none⟩ = some (.string a0_3) := (blk_cell BK195.out 3).trans rfl
      have hcz8_4 : w5.cell? ⟨gb195, 4, none⟩ = some (.string a0_4) := (blk_cell BK195.out 4).trans rfl
      have hcz8_5 : w5.cell? ⟨gb195, 5, none⟩ = some (.string a0_5) := (blk_cell BK195.out 5).trans rfl
      have hcz8_6 : w5.cell? ⟨gb195, 6, none⟩ = some (.string a0_6) := (blk_cell BK195.out 6).trans rfl
      have hcz8_7 : w5.cell? ⟨gb195, 7, none⟩ = some (.bool a0_7) := (blk_cell BK195.out 7).trans rfl
      have hcz8_8 : w5.cell? ⟨gb195, 8, none⟩ = some (.bool a0_8) := (blk_cell BK195.out 8).trans rfl
      have hcz8_9 : w5.cell? ⟨gb195, 9, none⟩ = some (.bool a0_9) := (blk_cell BK195.out 9).trans rfl
      have hcz8_10 : w5.cell? ⟨gb195, 10, none⟩ = some (.slice A0_10 l0_10.length c0_10) := (blk_cell BK195.out 10).trans rfl
      have hcz8_11 : w5.cell? ⟨gb195, 11, none⟩ = some (.slice A0_11 l0_11.length c0_11) := (blk_cell BK195.out 11).trans rfl
      have hfz8_0 := blk_frozen BK195.out 0
      have hfz8_1 := blk_frozen BK195.out 1
      have hfz8_2 := blk_frozen BK195.out 2
      have hfz8_3 := blk_frozen BK195.out 3
      have hfz8_4 := blk_frozen BK195.out 4
      have hfz8_5 := blk_frozen BK195.out 5
      have hfz8_6 := blk_frozen BK195.out 6
      have hfz8_7 := blk_frozen BK195.out 7
      have hfz8_8 := blk_frozen BK195.out 8
      have hfz8_9 := blk_frozen BK195.out 9
      have hfz8_10 := blk_frozen BK195.out 10
      have hfz8_11 := blk_frozen BK195.out 11
      have hcz9_0 : w5.cell? ⟨gb196, 0, none⟩ = some (.slice A1_0 l1_0.length c1_0) := (blk_cell BK196.out 0).trans rfl
      have hcz9_1 : w5.cell? ⟨gb196, 1, none⟩ = some (.bool a1_1) := (blk_cell BK196.out 1).trans rfl
      have hcz9_2 : w5.cell? ⟨gb196, 2, none⟩ = some (.int .i64 a1_2) := (blk_cell BK196.out 2).trans rfl
      have hcz9_3 : w5.cell? ⟨gb196, 3, none⟩ = some (.string a1_3) := (blk_cell BK196.out 3).trans rfl
      have hcz9_4 : w5.cell? ⟨gb196, 4, none⟩ = some (.string a1_4) := (blk_cell BK196.out 4).trans rfl
      have hcz9_5 : w5.cell? ⟨gb196, 5, none⟩ = some (.string a1_5) := (blk_cell BK196.out 5).trans rfl
      have hcz9_6 : w5.cell? ⟨gb196, 6, none⟩ = some (.string a1_6) := (blk_cell BK196.out 6).trans rfl
      have hcz9_7 : w5.cell? ⟨gb196, 7, none⟩ = some (.bool a1_7) := (blk_cell BK196.out 7).trans rfl
      have hcz9_8 : w5.cell? ⟨gb196, 8, none⟩ = some (.bool a1_8) := (blk_cell BK196.out 8).trans rfl
      have hcz9_9 : w5.cell? ⟨gb196, 9, none⟩ = some (.bool a1_9) := (blk_cell BK196.out 9).trans rfl
      have hcz9_10 : w5.cell? ⟨gb196, 10, none⟩ = some (.slice A1_10 l1_10.length c1_10) := (blk_cell BK196.out 10).trans rfl
      have hcz9_11 : w5.cell? ⟨gb196, 11, none⟩ = some (.slice A1_11 l1_11.length c1_11) := (blk_cell BK196.out 11).trans rfl
      have hfz9_0 := blk_frozen BK196.out 0
      have hfz9_1 := blk_frozen BK196.out 1
      have hfz9_2 := blk_frozen BK196.out 2
      have hfz9_3 := blk_frozen BK196.out 3
      have hfz9_4 := blk_frozen BK196.out 4
      have hfz9_5 := blk_frozen BK196.out 5
      have hfz9_6 := blk_frozen BK196.out 6
      have hfz9_7 := blk_frozen BK196.out 7
      have hfz9_8 := blk_frozen BK196.out 8
      have hfz9_9 := blk_frozen BK196.out 9
      have hfz9_10 := blk_frozen BK196.out 10
      have hfz9_11 := blk_frozen BK196.out 11
      go_wp2
      repeat (go_quiet (fail); try go_wp2)
      go_meet
      case rel => exact ⟨_, ((!(a0_1 == a1_1) || (!(a0_2 == a1_2) || (!(a0_3.toList == a1_3.toList) || (!(a0_4.toList == a1_4.toList) || (!(a0_5.toList == a1_5.toList) || (!(a0_6.toList == a1_6.toList) || (!(a0_7 == a1_7) || (!(a0_8 == a1_8) || (!(a0_9 == a1_9))))))))))), (by first | rfl | (simp; done) | (simp [*]; done)), H', ⟨by first | omega | exact Nat.le_refl _⟩, ⟨by (with_reducible repeat (first | refine blk_drewN ?_ _ | refine blk_drew ?_ | refine blk_alloc ?_ _)); exact BK195.out⟩, ⟨by (with_reducible repeat (first | refine blk_drewN ?_ _ | refine blk_drew ?_ | refine blk_alloc ?_ _)); exact BK196.out⟩, ⟨by repeat (first | (with_reducible first | exact HB.out | apply below_alloc | apply pw_below_drewN | apply below_drew1 | refine below_set ?_ GE195.out | refine below_set ?_ GE196.out) | exact HB.out)⟩⟩
    · rw [if_neg c6] at H
      have c6b0 : ((l0_0.length : Int) == (l1_0.length : Int)) = false := beq_eq_false_iff_ne.mpr c6
      have c6b1 : ((l0_0.length : Int) != (l1_0.length : Int)) = true := bne_iff_ne.mpr c6
      have c6b2 : (l0_0.length == l1_0.length) = false := by first | simpa using c6 | (simp at c6 ⊢; omega)
      (first | rw [c6b0] | (simp only [i64_w, i32_w]; rw [c6b0]) | skip)
      have H' := Aside0.mk H
      clear H
      have hnb10 := NB195_196.out
      have hnc10 := NB196_195.out
      have hcz11_0 : w5.cell? ⟨gb195, 0, none⟩ = some (.slice A0_0 l0_0.length c0_0) := (blk_cell BK195.out 0).trans rfl
      have hcz11_1 : w5.cell? ⟨gb195, 1, none⟩ = some (.bool a0_1) := (blk_cell BK195.out 1).trans rfl
      have hcz11_2 : w5.cell? ⟨gb195, 2, none⟩ = some (.int .i64 a0_2) := (blk_cell BK195.out 2).trans rfl
      have hcz11_3 : w5.cell? ⟨gb195, 3, none⟩ = some (.string a0_3) := (blk_cell BK195.out 3).trans rfl
      have hcz11_4 : w5.cell? ⟨gb195, 4, none⟩ = some (.string a0_4) := (blk_cell BK195.out 4).trans rfl
      have hcz11_5 : w5.cell? ⟨gb195, 5, none⟩ = some (.string a0_5) := (blk_cell BK195.out 5).trans rfl
      have hcz11_6 : w5.cell? ⟨gb195, 6, none⟩ = some (.string a0_6) := (blk_cell BK195.out 6).trans rfl
      have hcz11_7 : w5.cell? ⟨gb195, 7, none⟩ = some (.bool a0_7) := (blk_cell BK195.out 7).trans rfl
      have hcz11_8 : w5.cell? ⟨gb195, 8, none⟩ = some (.bool a0_8) := (blk_cell BK195.out 8).trans rfl
      have hcz11_9 : w5.cell? ⟨gb195, 9, none⟩ = some (.bool a0_9) := (blk_cell BK195.out 9).trans rfl
      have hcz11_10 : w5.cell? ⟨gb195, 10, none⟩ = some (.slice A0_10 l0_10.length c0_10) := (blk_cell BK195.out 10).trans rfl
      have hcz11_11 : w5.cell? ⟨gb195, 11, none⟩ = some (.slice A0_11 l0_11.length c0_11) := (blk_cell BK195.out 11).trans rfl
      have hfz11_0 := blk_frozen BK195.out 0
      have hfz11_1 := blk_frozen BK195.out 1
      have hfz11_2 := blk_frozen BK195.out 2
      have hfz11_3 := blk_frozen BK195.out 3
      have hfz11_4 := blk_frozen BK195.out 4
      have hfz11_5 := blk_frozen BK195.out 5
      have hfz11_6 := blk_frozen BK195.out 6
      have hfz11_7 := blk_frozen BK195.out 7
      have hfz11_8 := blk_frozen BK195.out 8
      have hfz11_9 := blk_frozen BK195.out 9
      have hfz11_10 := blk_frozen BK195.out 10
      have hfz11_11 := blk_frozen BK195.out 11
      have hcz12_0 : w5.cell? ⟨gb196, 0, none⟩ = some (.slice A1_0 l1_0.length c1_0) := (blk_cell BK196.out 0).trans rfl
      have hcz12_1 : w5.cell? ⟨gb196, 1, none⟩ = some (.bool a1_1) := (blk_cell BK196.out 1).trans rfl
      have hcz12_2 : w5.cell? ⟨gb196, 2, none⟩ = some (.int .i64 a1_2) := (blk_cell BK196.out 2).trans rfl
      have hcz12_3 : w5.cell? ⟨gb196, 3, none⟩ = some (.string a1_3) := (blk_cell BK196.out 3).trans rfl
      have hcz12_4 : w5.cell? ⟨gb196, 4, none⟩ = some (.string a1_4) := (blk_cell BK196.out 4).trans rfl
      have hcz12_5 : w5.cell? ⟨gb196, 5, none⟩ = some (.string a1_5) := (blk_cell BK196.out 5).trans rfl
      have hcz12_6 : w5.cell? ⟨gb196, 6, none⟩ = some (.string a1_6) := (blk_cell BK196.out 6).trans rfl
      have hcz12_7 : w5.cell? ⟨gb196, 7, none⟩ = some (.bool a1_7) := (blk_cell BK196.out 7).trans rfl
      have hcz12_8 : w5.cell? ⟨gb196, 8, none⟩ = some (.bool a1_8) := (blk_cell BK196.out 8).trans rfl
      have hcz12_9 : w5.cell? ⟨gb196, 9, none⟩ = some (.bool a1_9) := (blk_cell BK196.out 9).trans rfl
      have hcz12_10 : w5.cell? ⟨gb196, 10, none⟩ = some (.slice A1_10 l1_10.length c1_10) := (blk_cell BK196.out 10).trans rfl
      have hcz12_11 : w5.cell? ⟨gb196, 11, none⟩ = some (.slice A1_11 l1_11.length c1_11) := (blk_cell BK196.out 11).trans rfl
      have hfz12_0 := blk_frozen BK196.out 0
      have hfz12_1 := blk_frozen BK196.out 1
      have hfz12_2 := blk_frozen BK196.out 2
      have hfz12_3 := blk_frozen BK196.out 3
      have hfz12_4 := blk_frozen BK196.out 4
      have hfz12_5 := blk_frozen BK196.out 5
      have hfz12_6 := blk_frozen BK196.out 6
      have hfz12_7 := blk_frozen BK196.out 7
      have hfz12_8 := blk_frozen BK196.out 8
      have hfz12_9 := blk_frozen BK196.out 9
      have hfz12_10 := blk_frozen BK196.out 10
      have hfz12_11 := blk_frozen BK196.out 11
      go_wp2
      repeat (go_quiet (fail); try go_wp2)
      go_meet
      case rel => exact ⟨_, (true), (by first | rfl | (simp; done) | (simp [*]; done)), H', ⟨by first | omega | exact Nat.le_refl _⟩, ⟨by (with_reducible repeat (first | refine blk_drewN ?_ _ | refine blk_drew ?_ | refine blk_alloc ?_ _)); exact BK195.out⟩, ⟨by (with_reducible repeat (first | refine blk_drewN ?_ _ | refine blk_drew ?_ | refine blk_alloc ?_ _)); exact BK196.out⟩, ⟨by repeat (first | (with_reducible first | exact HB.out | apply below_alloc | apply pw_below_drewN | apply below_drew1 | refine below_set ?_ GE195.out | refine below_set ?_ GE196.out) | exact HB.out)⟩⟩
  case rest =>
    clear HC3
    try clear c1
    try clear p2
    try clear c6
    try clear c6b0
    try clear c6b1
    try clear c6b2
    try clear c7
    try clear c10
    try clear hcz11_0
    try clear hcz11_1
    try clear hcz11_10
    try clear hcz11_11
    try clear hcz11_2
    try clear hcz11_3
    try clear hcz11_4
    try clear hcz11_5
    try clear hcz11_6
    try clear hcz11_7
    try clear hcz11_8
    try clear hcz11_9
    try clear hcz12_0
    try clear hcz12_1
    try clear hcz12_10
    try clear hcz12_11
    try clear hcz12_2
    try clear hcz12_3
    try clear hcz12_4
    try clear hcz12_5
    try clear hcz12_6
    try clear hcz12_7
    try clear hcz12_8
    try clear hcz12_9
    try clear hcz8_0
    try clear hcz8_1
    try clear hcz8_10
    try clear hcz8_11
    try clear hcz8_2
    try clear hcz8_3
    try clear hcz8_4
    try clear hcz8_5
    try clear hcz8_6
    try clear hcz8_7
    try clear hcz8_8
    try clear hcz8_9
    try clear hcz9_0
    try clear hcz9_1
    try clear hcz9_10
    try clear hcz9_11
    try clear hcz9_2
    try clear hcz9_3
    try clear hcz9_4
    try clear hcz9_5
    try clear hcz9_6
    try clear hcz9_7
    try clear hcz9_8
    try clear hcz9_9
    try clear hfz11_0
    try clear hfz11_1
    try clear hfz11_10
    try clear hfz11_11
    try clear hfz11_2
    try clear hfz11_3
    try clear hfz11_4
    try clear hfz11_5
    try clear hfz11_6
    try clear hfz11_7
    try clear hfz11_8
    try clear hfz11_9
    try clear hfz12_0
    try clear hfz12_1
    try clear hfz12_10
    try clear hfz12_11
    try clear hfz12_2
    try clear hfz12_3
    try clear hfz12_4
    try clear hfz12_5
    try clear hfz12_6
    try clear hfz12_7
    try clear hfz12_8
    try clear hfz12_9
    try clear hfz8_0
    try clear hfz8_1
    try clear hfz8_10
    try clear hfz8_11
    try clear hfz8_2
    try clear hfz8_3
    try clear hfz8_4
    try clear hfz8_5
    try clear hfz8_6
    try clear hfz8_7
    try clear hfz8_8
    try clear hfz8_9
    try clear hfz9_0
    try clear hfz9_1
    try clear hfz9_10
    try clear hfz9_11
    try clear hfz9_2
    try clear hfz9_3
    try clear hfz9_4
    try clear hfz9_5
    try clear hfz9_6
    try clear hfz9_7
    try clear hfz9_8
    try clear hfz9_9
    obtain ⟨kq, x19_2, rfl, HA, HJ2, BK195, BK196, HB⟩ := hcut
    cases kq with
    | zero => exact absurd HA.out (by simp [hornbookref23_Same.j0])
    | succ kj2 =>
      have H := HA.out
      clear HA
      simp only [hornbookref23_Same.j0] at H
      by_cases c13 : x19_2 = true
      · subst c13
        have H1 : (some false) = some r := by rw [if_pos rfl] at H; exact H
        clear H
        have H := H1
        clear H1
        obtain rfl := Option.some.inj H
        go_wp2
        repeat (go_quiet (fail); try go_wp2)
        go_ret
        exact ⟨by first | rfl | (simp [errW_none, errW_some] <;> rfl) | (simp [*, errW_none, errW_some] <;> rfl), by repeat (first | (with_reducible first | exact HB.out | apply below_alloc | apply pw_below_drewN | apply below_drew1 | refine below_set ?_ GE195.out | refine below_set ?_ GE196.out) | exact HB.out)⟩
      · replace c13 := Bool.eq_false_iff.mpr c13
        subst c13
        have H1 : (hornbookref23_Same.l0 kj2 0 l0_0 a0_1 a0_2 a0_3 a0_4 a0_5 a0_6 a0_7 a0_8 a0_9 l0_10 l0_11 l1_0 a1_1 a1_2 a1_3 a1_4 a1_5 a1_6 a1_7 a1_8 a1_9 l1_10 l1_11) = some r := by rw [if_neg (show ¬ (false = true) by decide)] at H; exact H
        clear H
        have H := H1
        clear H1
        have H' := Aside0.mk H
        clear H
        go_wp2
        repeat (go_quiet (fail); try go_wp2)
        go_loopg [5] kj2 (fun kq v5 w' => ∃ (x5_2 : Int), v5 = .int .i64 x5_2 ∧ Aside0 (hornbookref23_Same.l0 kq x5_2 l0_0 a0_1 a0_2 a0_3 a0_4 a0_5 a0_6 a0_7 a0_8 a0_9 l0_10 l0_11 l1_0 a1_1 a1_2 a1_3 a1_4 a1_5 a1_6 a1_7 a1_8 a1_9 l1_10 l1_11 = some r) ∧ Aside0 (kq ≤ kj2) ∧ Aside0 (w'.heap[gb195]? = some (.cells #[(.slice A0_0 l0_0.length c0_0), .bool a0_1, .int .i64 a0_2, .string a0_3, .string a0_4, .string a0_5, .string a0_6, .bool a0_7, .bool a0_8, .bool a0_9, (.slice A0_10 l0_10.length c0_10), (.slice A0_11 l0_11.length c0_11)] 27 (0, 0))) ∧ Aside0 (w'.heap[gb196]? = some (.cells #[(.slice A1_0 l1_0.length c1_0), .bool a1_1, .int .i64 a1_2, .string a1_3, .string a1_4, .string a1_5, .string a1_6, .bool a1_7, .bool a1_8, .bool a1_9, (.slice A1_10 l1_10.length c1_10), (.slice A1_11 l1_11.length c1_11)] 27 (0, 0))) ∧ Aside0 (Below w.heap.size w w'))
        case atStart => exact ⟨(0), (by first | rfl | (simp; done) | (simp [*]; done)), H', ⟨Nat.le_refl _⟩, ⟨by (with_reducible repeat (first | refine blk_drewN ?_ _ | refine blk_drew ?_ | refine blk_alloc ?_ _)); exact BK195.out⟩, ⟨by (with_reducible repeat (first | refine blk_drewN ?_ _ | refine blk_drew ?_ | refine blk_alloc ?_ _)); exact BK196.out⟩, ⟨by repeat (first | (with_reducible first | exact HB.out | apply below_alloc | apply pw_below_drewN | apply below_drew1 | refine below_set ?_ GE195.out | refine below_set ?_ GE196.out) | exact HB.out)⟩⟩
        case round =>
          clear H'
          try clear c1
          try clear p2
          try clear c6
          try clear c6b0
          try clear c6b1
          try clear c6b2
          try clear c7
          try clear c10
          try clear c13
          try clear hcz11_0
          try clear hcz11_1
          try clear hcz11_10
          try clear hcz11_11
          try clear hcz11_2
          try clear hcz11_3
          try clear hcz11_4
          try clear hcz11_5
          try clear hcz11_6
          try clear hcz11_7
          try clear hcz11_8
          try clear hcz11_9
          try clear hcz12_0
          try clear hcz12_1
          try clear hcz12_10
          try clear hcz12_11
          try clear hcz12_2
          try clear hcz12_3
          try clear hcz12_4
          try clear hcz12_5
          try clear hcz12_6
          try clear hcz12_7
          try clear hcz12_8
          try clear hcz12_9
          try clear hcz8_0
          try clear hcz8_1
          try clear hcz8_10
          try clear hcz8_11
          try clear hcz8_2
          try clear hcz8_3
          try clear hcz8_4
          try clear hcz8_5
          try clear hcz8_6
          try clear hcz8_7
          try clear hcz8_8
          try clear hcz8_9
          try clear hcz9_0
          try clear hcz9_1
          try clear hcz9_10
          try clear hcz9_11
          try clear hcz9_2
          try clear hcz9_3
          try clear hcz9_4
          try clear hcz9_5
          try clear hcz9_6
          try clear hcz9_7
          try clear hcz9_8
          try clear hcz9_9
          try clear hfz11_0
          try clear hfz11_1
          try clear hfz11_10
          try clear hfz11_11
          try clear hfz11_2
          try clear hfz11_3
          try clear hfz11_4
          try clear hfz11_5
          try clear hfz11_6
          try clear hfz11_7
          try clear hfz11_8
          try clear hfz11_9
          try clear hfz12_0
          try clear hfz12_1
          try clear hfz12_10
          try clear hfz12_11
          try clear hfz12_2
          try clear hfz12_3
          try clear hfz12_4
          try clear hfz12_5
          try clear hfz12_6
          try clear hfz12_7
          try clear hfz12_8
          try clear hfz12_9
          try clear hfz8_0
          try clear hfz8_1
          try clear hfz8_10
          try clear hfz8_11
          try clear hfz8_2
          try clear hfz8_3
          try clear hfz8_4
          try clear hfz8_5
          try clear hfz8_6
          try clear hfz8_7
          try clear hfz8_8
          try clear hfz8_9
          try clear hfz9_0
          try clear hfz9_1
          try clear hfz9_10
          try clear hfz9_11
          try clear hfz9_2
          try clear hfz9_3
          try clear hfz9_4
          try clear hfz9_5
          try clear hfz9_6
          try clear hfz9_7
          try clear hfz9_8
          try clear hfz9_9
          try clear p2
          obtain ⟨x5_2, rfl, HA, HK2, BK195, BK196, HB⟩ := hrel
          cases gk with
          | zero => exact absurd HA.out (by simp [hornbookref23_Same.l0])
          | succ k2 =>
            have H := HA.out
            clear HA
            simp only [hornbookref23_Same.l0] at H
            by_cases c14 : x5_2 < (l0_0.length : Int)
            · rw [if_pos c14] at H
              have c14b0 : decide (x5_2 < (l0_0.length : Int)) = true := decide_eq_true c14
              clear c14
              by_cases c15 : 0 ≤ x5_2
              · rw [if_pos c15] at H
                have c15b0 : decide (0 ≤ x5_2) = true := decide_eq_true c15
                clear c15
                by_cases c16 : x5_2 < (l1_0.length : Int)
                · rw [if_pos c16] at H
                  have c16b0 : decide (x5_2 < (l1_0.length : Int)) = true := decide_eq_true c16
                  clear c16
                  by_cases c17 : (!((((rd_T54 l0_0 x5_2).f0).toList) == (((rd_T54 l1_0 x5_2).f0).toList)) || (!((((rd_T54 l0_0 x5_2).f1).toList) == (((rd_T54 l1_0 x5_2).f1).toList)))) = true
                  · rw [if_pos c17] at H
                    have c17b0 : (!((((rd_T54 l0_0 x5_2).f0).toList) == (((rd_T54 l1_0 x5_2).f0).toList)) || (!((((rd_T54 l0_0 x5_2).f1).toList) == (((rd_T54 l1_0 x5_2).f1).toList)))) = true := c17
                    clear c17
                    obtain rfl := Option.some.inj H
                    have hnb18 := NB195_196.out
                    have hnc18 := NB196_195.out
                    have hcz19_0 : wr.cell? ⟨gb195, 0, none⟩ = some (.slice A0_0 l0_0.length c0_0) := (blk_cell BK195.out 0).trans rfl
                    have hcz19_1 : wr.cell? ⟨gb195, 1, none⟩ = some (.bool a0_1) := (blk_cell BK195.out 1).trans rfl
                    have hcz19_2 : wr.cell? ⟨gb195, 2, none⟩ = some (.int .i64 a0_2) := (blk_cell BK195.out 2).trans rfl
                    have hcz19_3 : wr.cell? ⟨gb195, 3, none⟩ = some (.string a0_3) := (blk_cell BK195.out 3).trans rfl
                    have hcz19_4 : wr.cell? ⟨gb195, 4, none⟩ = some (.string a0_4) := (blk_cell BK195.out 4).trans rfl
                    have hcz19_5 : wr.cell? ⟨gb195, 5, none⟩ = some (.string a0_5) := (blk_cell BK195.out 5).trans rfl
                    have hcz19_6 : wr.cell? ⟨gb195, 6, none⟩ = some (.string a0_6) := (blk_cell BK195.out 6).trans rfl
                    have hcz19_7 : wr.cell? ⟨gb195, 7, none⟩ = some (.bool a0_7) := (blk_cell BK195.out 7).trans rfl
                    have hcz19_8 : wr.cell? ⟨gb195, 8, none⟩ = some (.bool a0_8) := (blk_cell BK195.out 8).trans rfl
                    have hcz19_9 : wr.cell? ⟨gb195, 9, none⟩ = some (.bool a0_9) := (blk_cell BK195.out 9).trans rfl
                    have hcz19_10 : wr.cell? ⟨gb195, 10, none⟩ = some (.slice A0_10 l0_10.length c0_10) := (blk_cell BK195.out 10).trans rfl
                    have hcz19_11 : wr.cell? ⟨gb195, 11, none⟩ = some (.slice A0_11 l0_11.length c0_11) := (blk_cell BK195.out 11).trans rfl
                    have hfz19_0 := blk_frozen BK195.out 0
                    have hfz19_1 := blk_frozen BK195.out 1
                    have hfz19_2 := blk_frozen BK195.out 2
                    have hfz19_3 := blk_frozen BK195.out 3
                    have hfz19_4 := blk_frozen BK195.out 4
                    have hfz19_5 := blk_frozen BK195.out 5
                    have hfz19_6 := blk_frozen BK195.out 6
                    have hfz19_7 := blk_frozen BK195.out 7
                    have hfz19_8 := blk_frozen BK195.out 8
                    have hfz19_9 := blk_frozen BK195.out 9
                    have hfz19_10 := blk_frozen BK195.out 10
                    have hfz19_11 := blk_frozen BK195.out 11
                    have p197 : 0 ≤ (x5_2 : Int) := of_decide_eq_true (by first | (with_reducible assumption) | assumption)
                    have q197 : x5_2 < (l0_0.length : Int) := of_decide_eq_true (by first | (with_reducible assumption) | assumption)
                    obtain ⟨ad197, e197, hx197_0, hx197_1⟩ := at_T54 HR0_0.out x5_2 p197 q197
                    cases e197
                    replace hx197_0 := (HB.out.cell (World.block_lt_of_cell? w _ hx197_0)).trans hx197_0
                    replace hx197_1 := (HB.out.cell (World.block_lt_of_cell? w _ hx197_1)).trans hx197_1
                    replace p197 := eq_true p197
                    replace q197 := eq_true q197
                    have hcz20_0 : wr.cell? ⟨gb196, 0, none⟩ = some (.slice A1_0 l1_0.length c1_0) := (blk_cell BK196.out 0).trans rfl
                    have hcz20_1 : wr.cell? ⟨gb196, 1, none⟩ = some (.bool a1_1) := (blk_cell BK196.out 1).trans rfl
                    have hcz20_2 : wr.cell? ⟨gb196, 2, none⟩ = some (.int .i64 a1_2) := (blk_cell BK196.out 2).trans rfl
                    have hcz20_3 : wr.cell? ⟨gb196, 3, none⟩ = some (.string a1_3) := (blk_cell BK196.out 3).trans rfl
                    have hcz20_4 : wr.cell? ⟨gb196, 4, none⟩ = some (.string a1_4) := (blk_cell BK196.out 4).trans rfl
                    have hcz20_5 : wr.cell? ⟨gb196, 5, none⟩ = some (.string a1_5) := (blk_cell BK196.out 5).trans rfl
                    have hcz20_6 : wr.cell? ⟨gb196, 6, none⟩ = some (.string a1_6) := (blk_cell BK196.out 6).trans rfl
                    have hcz20_7 : wr.cell? ⟨gb196, 7, none⟩ = some (.bool a1_7) := (blk_cell BK196.out 7).trans rfl
                    have hcz20_8 : wr.cell? ⟨gb196, 8, none⟩ = some (.bool a1_8) := (blk_cell BK196.out 8).trans rfl
                    have hcz20_9 : wr.cell? ⟨gb196, 9, none⟩ = some (.bool a1_9) := (blk_cell BK196.out 9).trans rfl
                    have hcz20_10 : wr.cell? ⟨gb196, 10, none⟩ = some (.slice A1_10 l1_10.length c1_10) := (blk_cell BK196.out 10).trans rfl
                    have hcz20_11 : wr.cell? ⟨gb196, 11, none⟩ = some (.slice A1_11 l1_11.length c1_11) := (blk_cell BK196.out 11).trans rfl
                    have hfz20_0 := blk_frozen BK196.out 0
                    have hfz20_1 := blk_frozen BK196.out 1
                    have hfz20_2 := blk_frozen BK196.out 2
                    have hfz20_3 := blk_frozen BK196.out 3
                    have hfz20_4 := blk_frozen BK196.out 4
                    have hfz20_5 := blk_frozen BK196.out 5
                    have hfz20_6 := blk_frozen BK196.out 6
                    have hfz20_7 := blk_frozen BK196.out 7
                    have hfz20_8 := blk_frozen BK196.out 8
                    have hfz20_9 := blk_frozen BK196.out 9
                    have hfz20_10 := blk_frozen BK196.out 10
                    have hfz20_11 := blk_frozen BK196.out 11
                    have p198 : 0 ≤ (x5_2 : Int) := of_decide_eq_true (by first | (with_reducible assumption) | assumption)
                    have q198 : x5_2 < (l1_0.length : Int) := of_decide_eq_true (by first | (with_reducible assumption) | assumption)
                    obtain ⟨ad198, e198, hx198_0, hx198_1⟩ := at_T54 HR1_0.out x5_2 p198 q198
                    cases e198
                    replace hx198_0 := (HB.out.cell (World.block_lt_of_cell? w _ hx198_0)).trans hx198_0
                    replace hx198_1 := (HB.out.cell (World.block_lt_of_cell? w _ hx198_1)).trans hx198_1
                    replace p198 := eq_true p198
                    replace q198 := eq_true q198
                    go_wp2
                    repeat (go_quiet (fail); try go_wp2)
                    go_ret
                    exact ⟨by first | rfl | (simp [errW_none, errW_some] <;> rfl) | (simp [*, errW_none, errW_some] <;> rfl), by repeat (first | (with_reducible first | exact HB.out | apply below_alloc | apply pw_below_drewN | apply below_drew1 | refine below_set ?_ GE195.out | refine below_set ?_ GE196.out) | exact HB.out)⟩
                  · rw [if_neg c17] at H
                    have c17b0 : (!((((rd_T54 l0_0 x5_2).f0).toList) == (((rd_T54 l1_0 x5_2).f0).toList)) || (!((((rd_T54 l0_0 x5_2).f1).toList) == (((rd_T54 l1_0 x5_2).f1).toList)))) = false := by simpa using c17
                    clear c17
                    have H' := Aside0.mk H
                    clear H
                    have hnb21 := NB195_196.out
                    have hnc21 := NB196_195.out
                    have hcz22_0 : wr.cell? ⟨gb195, 0, none⟩ = some (.slice A0_0 l0_0.length c0_0) := (blk_cell BK195.out 0).trans rfl
                    have hcz22_1 : wr.cell? ⟨gb195, 1, none⟩ = some (.bool a0_1) := (blk_cell BK195.out 1).trans rfl
                    have hcz22_2 : wr.cell? ⟨gb195, 2, none⟩ = some (.int .i64 a0_2) := (blk_cell BK195.out 2).trans rfl
                    have hcz22_3 : wr.cell? ⟨gb195, 3, none⟩ = some (.string a0_3) := (blk_cell BK195.out 3).trans rfl
                    have hcz22_4 : wr.cell? ⟨gb195, 4, none⟩ = some (.string a0_4) := (blk_cell BK195.out 4).trans rfl
                    have hcz22_5 : wr.cell? ⟨gb195, 5, none⟩ = some (.string a0_5) := (blk_cell BK195.out 5).trans rfl
                    have hcz22_6 : wr.cell? ⟨gb195, 6, none⟩ = some (.string a0_6) := (blk_cell BK195.out 6).trans rfl
                    have hcz22_7 : wr.cell? ⟨gb195, 7, none⟩ = some (.bool a0_7) := (blk_cell BK195.out 7).trans rfl
                    have hcz22_8 : wr.cell? ⟨gb195, 8, none⟩ = some (.bool a0_8) := (blk_cell BK195.out 8).trans rfl
                    have hcz22_9 : wr.cell? ⟨gb195, 9, none⟩ = some (.bool a0_9) := (blk_cell BK195.out 9).trans rfl
                    have hcz22_10 : wr.cell? ⟨gb195, 10, none⟩ = some (.slice A0_10 l0_10.length c0_10) := (blk_cell BK195.out 10).trans rfl
                    have hcz22_11 : wr.cell? ⟨gb195, 11, none⟩ = some (.slice A0_11 l0_11.length c0_11) := (blk_cell BK195.out 11).trans rfl
                    have hfz22_0 := blk_frozen BK195.out 0
                    have hfz22_1 := blk_frozen BK195.out 1
                    have hfz22_2 := blk_frozen BK195.out 2
                    have hfz22_3 := blk_frozen BK195.out 3
                    have hfz22_4 := blk_frozen BK195.out 4
                    have hfz22_5 := blk_frozen BK195.out 5
                    have hfz22_6 := blk_frozen BK195.out 6
                    have hfz22_7 := blk_frozen BK195.out 7
                    have hfz22_8 := blk_frozen BK195.out 8
                    have hfz22_9 := blk_frozen BK195.out 9
                    have hfz22_10 := blk_frozen BK195.out 10
                    have hfz22_11 := blk_frozen BK195.out 11
                    have p197 : 0 ≤ (x5_2 : Int) := of_decide_eq_true (by first | (with_reducible assumption) | assumption)
                    have q197 : x5_2 < (l0_0.length : Int) := of_decide_eq_true (by first | (with_reducible assumption) | assumption)
                    obtain ⟨ad197, e197, hx197_0, hx197_1⟩ := at_T54 HR0_0.out x5_2 p197 q197
                    cases e197
                    replace hx197_0 := (HB.out.cell (World.block_lt_of_cell? w _ hx197_0)).trans hx197_0
                    replace hx197_1 := (HB.out.cell (World.block_lt_of_cell? w _ hx197_1)).trans hx197_1
                    replace p197 := eq_true p197
                    replace q197 := eq_true q197
                    have hcz23_0 : wr.cell? ⟨gb196, 0, none⟩ = some (.slice A1_0 l1_0.length c1_0) := (blk_cell BK196.out 0).trans rfl
                    have hcz23_1 : wr.cell? ⟨gb196, 1, none⟩ = some (.bool a1_1) := (blk_cell BK196.out 1).trans rfl
                    have hcz23_2 : wr.cell? ⟨gb196, 2, none⟩ = some (.int .i64 a1_2) := (blk_cell BK196.out 2).trans rfl
                    have hcz23_3 : wr.cell? ⟨gb196, 3, none⟩ = some (.string a1_3) := (blk_cell BK196.out 3).trans rfl
                    have hcz23_4 : wr.cell? ⟨gb196, 4, none⟩ = some (.string a1_4) := (blk_cell BK196.out 4).trans rfl
                    have hcz23_5 : wr.cell? ⟨gb196, 5, none⟩ = some (.string a1_5) := (blk_cell BK196.out 5).trans rfl
                    have hcz23_6 : wr.cell? ⟨gb196, 6, none⟩ = some (.string a1_6) := (blk_cell BK196.out 6).trans rfl
                    have hcz23_7 : wr.cell? ⟨gb196, 7, none⟩ = some (.bool a1_7) := (blk_cell BK196.out 7).trans rfl
                    have hcz23_8 : wr.cell? ⟨gb196, 8, none⟩ = some (.bool a1_8) := (blk_cell BK196.out 8).trans rfl
                    have hcz23_9 : wr.cell? ⟨gb196, 9, none⟩ = some (.bool a1_9) := (blk_cell BK196.out 9).trans rfl
                    have hcz23_10 : wr.cell? ⟨gb196, 10, none⟩ = some (.slice A1_10 l1_10.length c1_10) := (blk_cell BK196.out 10).trans rfl
                    have hcz23_11 : wr.cell? ⟨gb196, 11, none⟩ = some (.slice A1_11 l1_11.length c1_11) := (blk_cell BK196.out 11).trans rfl
                    have hfz23_0 := blk_frozen BK196.out 0
                    have hfz23_1 := blk_frozen BK196.out 1
                    have hfz23_2 := blk_frozen BK196.out 2
                    have hfz23_3 := blk_frozen BK196.out 3
                    have hfz23_4 := blk_frozen BK196.out 4
                    have hfz23_5 := blk_frozen BK196.out 5
                    have hfz23_6 := blk_frozen BK196.out 6
                    have hfz23_7 := blk_frozen BK196.out 7
                    have hfz23_8 := blk_frozen BK196.out 8
                    have hfz23_9 := blk_frozen BK196.out 9
                    have hfz23_10 := blk_frozen BK196.out 10
                    have hfz23_11 := blk_frozen BK196.out 11
                    have p198 : 0 ≤ (x5_2 : Int) := of_decide_eq_true (by first | (with_reducible assumption) | assumption)
                    have q198 : x5_2 < (l1_0.length : Int) := of_decide_eq_true (by first | (with_reducible assumption) | assumption)
                    obtain ⟨ad198, e198, hx198_0, hx198_1⟩ := at_T54 HR1_0.out x5_2 p198 q198
                    cases e198
                    replace hx198_0 := (HB.out.cell (World.block_lt_of_cell? w _ hx198_0)).trans hx198_0
                    replace hx198_1 := (HB.out.cell (World.block_lt_of_cell? w _ hx198_1)).trans hx198_1
                    replace p198 := eq_true p198
                    replace q198 := eq_true q198
                    go_wp2
                    repeat (go_quiet (fail); try go_wp2)
                    go_roundg k2
                    case measure => have := HJ2.out; have := HK2.out; omega
                    case rel => exact ⟨(wrap64 (x5_2 + 1)), (by first | rfl | (simp; done) | (simp [*]; done)), H', ⟨by have := HJ2.out; have := HK2.out; omega⟩, ⟨by (with_reducible repeat (first | refine blk_drewN ?_ _ | refine blk_drew ?_ | refine blk_alloc ?_ _)); exact BK195.out⟩, ⟨by (with_reducible repeat (first | refine blk_drewN ?_ _ | refine blk_drew ?_ | refine blk_alloc ?_ _)); exact BK196.out⟩, ⟨by repeat (first | (with_reducible first | exact HB.out | apply below_alloc | apply pw_below_drewN | apply below_drew1 | refine below_set ?_ GE195.out | refine below_set ?_ GE196.out) | exact HB.out)⟩⟩
                · rw [if_neg c16] at H
                  exact absurd H (by simp)
              · rw [if_neg c15] at H
                exact absurd H (by simp)
            · rw [if_neg c14] at H
              have c14b0 : decide (x5_2 < (l0_0.length : Int)) = false := decide_eq_false c14
              clear c14
              replace H := Option.bind_eq_some_iff.mp H
              obtain ⟨t199, A240, H⟩ := H
              replace H : (if t199 = true then ((hornbookref23_Texts.f k2 l0_11 l1_11).bind fun t200 => (some t200)) else (some false)) = some r := H
              have A24 := Aside0.mk A240
              clear A240
              by_cases c25 : t199 = true
              · subst c25
                have H1 : ((hornbookref23_Texts.f k2 l0_11 l1_11).bind fun t200 => (some t200)) = some r := by rw [if_pos rfl] at H; exact H
                clear H
                have H := H1
                clear H1
                replace H := Option.bind_eq_some_iff.mp H
                obtain ⟨t200, A260, H⟩ := H
                replace H : (some t200) = some r := H
                have A26 := Aside0.mk A260
                clear A260
                obtain rfl := Option.some.inj H
                have hnb27 := NB195_196.out
                have hnc27 := NB196_195.out
                have hcz28_0 : wr.cell? ⟨gb195, 0, none⟩ = some (.slice A0_0 l0_0.length c0_0) := (blk_cell BK195.out 0).trans rfl
                have hcz28_1 : wr.cell? ⟨gb195, 1, none⟩ = some (.bool a0_1) := (blk_cell BK195.out 1).trans rfl
                have hcz28_2 : wr.cell? ⟨gb195, 2, none⟩ = some (.int .i64 a0_2) := (blk_cell BK195.out 2).trans rfl
                have hcz28_3 : wr.cell? ⟨gb195, 3, none⟩ = some (.string a0_3) := (blk_cell BK195.out 3).trans rfl
                have hcz28_4 : wr.cell? ⟨gb195, 4, none⟩ = some (.string a0_4) := (blk_cell BK195.out 4).trans rfl
                have hcz28_5 : wr.cell? ⟨gb195, 5, none⟩ = some (.string a0_5) := (blk_cell BK195.out 5).trans rfl
                have hcz28_6 : wr.cell? ⟨gb195, 6, none⟩ = some (.string a0_6) := (blk_cell BK195.out 6).trans rfl
                have hcz28_7 : wr.cell? ⟨gb195, 7, none⟩ = some (.bool a0_7) := (blk_cell BK195.out 7).trans rfl
                have hcz28_8 : wr.cell? ⟨gb195, 8, none⟩ = some (.bool a0_8) := (blk_cell BK195.out 8).trans rfl
                have hcz28_9 : wr.cell? ⟨gb195, 9, none⟩ = some (.bool a0_9) := (blk_cell BK195.out 9).trans rfl
                have hcz28_10 : wr.cell? ⟨gb195, 10, none⟩ = some (.slice A0_10 l0_10.length c0_10) := (blk_cell BK195.out 10).trans rfl
                have hcz28_11 : wr.cell? ⟨gb195, 11, none⟩ = some (.slice A0_11 l0_11.length c0_11) := (blk_cell BK195.out 11).trans rfl
                have hfz28_0 := blk_frozen BK195.out 0
                have hfz28_1 := blk_frozen BK195.out 1
                have hfz28_2 := blk_frozen BK195.out 2
                have hfz28_3 := blk_frozen BK195.out 3
                have hfz28_4 := blk_frozen BK195.out 4
                have hfz28_5 := blk_frozen BK195.out 5
                have hfz28_6 := blk_frozen BK195.out 6
                have hfz28_7 := blk_frozen BK195.out 7
                have hfz28_8 := blk_frozen BK195.out 8
                have hfz28_9 := blk_frozen BK195.out 9
                have hfz28_10 := blk_frozen BK195.out 10
                have hfz28_11 := blk_frozen BK195.out 11
                have hcz29_0 : wr.cell? ⟨gb196, 0, none⟩ = some (.slice A1_0 l1_0.length c1_0) := (blk_cell BK196.out 0).trans rfl
                have hcz29_1 : wr.cell? ⟨gb196, 1, none⟩ = some (.bool a1_1) := (blk_cell BK196.out 1).trans rfl
                have hcz29_2 : wr.cell? ⟨gb196, 2, none⟩ = some (.int .i64 a1_2) := (blk_cell BK196.out 2).trans rfl
                have hcz29_3 : wr.cell? ⟨gb196, 3, none⟩ = some (.string a1_3) := (blk_cell BK196.out 3).trans rfl
                have hcz29_4 : wr.cell? ⟨gb196, 4, none⟩ = some (.string a1_4) := (blk_cell BK196.out 4).trans rfl
                have hcz29_5 : wr.cell? ⟨gb196, 5, none⟩ = some (.string a1_5) := (blk_cell BK196.out 5).trans rfl
                have hcz29_6 : wr.cell? ⟨gb196, 6, none⟩ = some (.string a1_6) := (blk_cell BK196.out 6).trans rfl
                have hcz29_7 : wr.cell? ⟨gb196, 7, none⟩ = some (.bool a1_7) := (blk_cell BK196.out 7).trans rfl
                have hcz29_8 : wr.cell? ⟨gb196, 8, none⟩ = some (.bool a1_8) := (blk_cell BK196.out 8).trans rfl
                have hcz29_9 : wr.cell? ⟨gb196, 9, none⟩ = some (.bool a1_9) := (blk_cell BK196.out 9).trans rfl
                have hcz29_10 : wr.cell? ⟨gb196, 10, none⟩ = some (.slice A1_10 l1_10.length c1_10) := (blk_cell BK196.out 10).trans rfl
                have hcz29_11 : wr.cell? ⟨gb196, 11, none⟩ = some (.slice A1_11 l1_11.length c1_11) := (blk_cell BK196.out 11).trans rfl
                have hfz29_0 := blk_frozen BK196.out 0
                have hfz29_1 := blk_frozen BK196.out 1
                have hfz29_2 := blk_frozen BK196.out 2
                have hfz29_3 := blk_frozen BK196.out 3
                have hfz29_4 := blk_frozen BK196.out 4
                have hfz29_5 := blk_frozen BK196.out 5
                have hfz29_6 := blk_frozen BK196.out 6
                have hfz29_7 := blk_frozen BK196.out 7
                have hfz29_8 := blk_frozen BK196.out 8
                have hfz29_9 := blk_frozen BK196.out 9
                have hfz29_10 := blk_frozen BK196.out 10
                have hfz29_11 := blk_frozen BK196.out 11
                go_wp2_with (first | (go_at_call 31; (with_reducible refine (hornbookref23_Texts.calls k2 _ _ l0_10 _ _ l1_10 true _ ?side1 ?side2 ?side3 ?side4 A24.out).mono ?_); (case side1 => repeat (first | exact (Kd.C_below HR0_10.out HB.out) | (with_reducible refine Kd.C_alloc ?_ _) | (with_reducible refine Kd.C_drewN ?_ _) | (with_reducible refine Kd.C_drew ?_))); (case side2 => exact HC0_10.out); (case side3 => repeat (first | exact (Kd.C_below HR1_10.out HB.out) | (with_reducible refine Kd.C_alloc ?_ _) | (with_reducible refine Kd.C_drewN ?_ _) | (with_reducible refine Kd.C_drew ?_))); (case side4 => exact HC1_10.out); rintro e w30 ⟨rfl, hb⟩; have n0_ := Aside0.mk (blk_below (g := gb195) (o := .cells #[.slice A0_0 l0_0.length c0_0, .bool a0_1, .int .i64 a0_2, .string a0_3, .string a0_4, .string a0_5, .string a0_6, .bool a0_7, .bool a0_8, .bool a0_9, .slice A0_10 l0_10.length c0_10, .slice A0_11 l0_11.length c0_11] 27 (0, 0)) (by (with_reducible repeat (first | refine blk_drewN ?_ _ | refine blk_drew ?_ | refine blk_alloc ?_ _)); exact BK195.out) hb); have n1_ := Aside0.mk (blk_below (g := gb196) (o := .cells #[.slice A1_0 l1_0.length c1_0, .bool a1_1, .int .i64 a1_2, .string a1_3, .string a1_4, .string a1_5, .string a1_6, .bool a1_7, .bool a1_8, .bool a1_9, .slice A1_10 l1_10.length c1_10, .slice A1_11 l1_11.length c1_11] 27 (0, 0)) (by (with_reducible repeat (first | refine blk_drewN ?_ _ | refine blk_drew ?_ | refine blk_alloc ?_ _)); exact BK196.out) hb); have n2_ := Aside0.mk (below_step (by repeat (first | (with_reducible first | exact HB.out | apply below_alloc | apply pw_below_drewN | apply below_drew1 | refine below_set ?_ GE195.out | refine below_set ?_ GE196.out) | exact HB.out)) hb); clear BK195; clear BK196; clear HB; have BK195 := n0_; have BK196 := n1_; have HB := n2_; clear n0_ n1_ n2_; (try clear hb); (try clear hb2); (try clear hk); (try clear hi); have hcz31_0 : w30.cell? ⟨gb195, 0, none⟩ = some (.slice A0_0 l0_0.length c0_0) := (blk_cell BK195.out 0).trans rfl; have hcz31_1 : w30.cell? ⟨gb195, 1, none⟩ = some (.bool a0_1) := (blk_cell BK195.out 1).trans rfl; have hcz31_2 : w30.cell? ⟨gb195, 2, none⟩ = some (.int .i64 a0_2) := (blk_cell BK195.out 2).trans rfl; have hcz31_3 : w30.cell? ⟨gb195, 3, none⟩ = some (.string a0_3) := (blk_cell BK195.out 3).trans rfl; have hcz31_4 : w30.cell? ⟨gb195, 4, none⟩ = some (.string a0_4) := (blk_cell BK195.out 4).trans rfl; have hcz31_5 : w30.cell? ⟨gb195, 5, none⟩ = some (.string a0_5) := (blk_cell BK195.out 5).trans rfl; have hcz31_6 : w30.cell? ⟨gb195, 6, none⟩ = some (.string a0_6) := (blk_cell BK195.out 6).trans rfl; have hcz31_7 : w30.cell? ⟨gb195, 7, none⟩ = some (.bool a0_7) := (blk_cell BK195.out 7).trans rfl; have hcz31_8 : w30.cell? ⟨gb195, 8, none⟩ = some (.bool a0_8) := (blk_cell BK195.out 8).trans rfl; have hcz31_9 : w30.cell? ⟨gb195, 9, none⟩ = some (.bool a0_9) := (blk_cell BK195.out 9).trans rfl; have hcz31_10 : w30.cell? ⟨gb195, 10, none⟩ = some (.slice A0_10 l0_10.length c0_10) := (blk_cell BK195.out 10).trans rfl; have hcz31_11 : w30.cell? ⟨gb195, 11, none⟩ = some (.slice A0_11 l0_11.length c0_11) := (blk_cell BK195.out 11).trans rfl; have hfz31_0 := blk_frozen BK195.out 0; have hfz31_1 := blk_frozen BK195.out 1; have hfz31_2 := blk_frozen BK195.out 2; have hfz31_3 := blk_frozen BK195.out 3; have hfz31_4 := blk_frozen BK195.out 4; have hfz31_5 := blk_frozen BK195.out 5; have hfz31_6 := blk_frozen BK195.out 6; have hfz31_7 := blk_frozen BK195.out 7; have hfz31_8 := blk_frozen BK195.out 8; have hfz31_9 := blk_frozen BK195.out 9; have hfz31_10 := blk_frozen BK195.out 10; have hfz31_11 := blk_frozen BK195.out 11; have hcz32_0 : w30.cell? ⟨gb196, 0, none⟩ = some (.slice A1_0 l1_0.length c1_0) := (blk_cell BK196.out 0).trans rfl; have hcz32_1 : w30.cell? ⟨gb196, 1, none⟩ = some (.bool a1_1) := (blk_cell BK196.out 1).trans rfl; have hcz32_2 : w30.cell? ⟨gb196, 2, none⟩ = some (.int .i64 a1_2) := (blk_cell BK196.out 2).trans rfl; have hcz32_3 : w30.cell? ⟨gb196, 3, none⟩ = some (.string a1_3) := (blk_cell BK196.out 3).trans rfl; have hcz32_4 : w30.cell? ⟨gb196, 4, none⟩ = some (.string a1_4) := (blk_cell BK196.out 4).trans rfl; have hcz32_5 : w30.cell? ⟨gb196, 5, none⟩ = some (.string a1_5) := (blk_cell BK196.out 5).trans rfl; have hcz32_6 : w30.cell? ⟨gb196, 6, none⟩ = some (.string a1_6) := (blk_cell BK196.out 6).trans rfl; have hcz32_7 : w30.cell? ⟨gb196, 7, none⟩ = some (.bool a1_7) := (blk_cell BK196.out 7).trans rfl; have hcz32_8 : w30.cell? ⟨gb196, 8, none⟩ = some (.bool a1_8) := (blk_cell BK196.out 8).trans rfl; have hcz32_9 : w30.cell? ⟨gb196, 9, none⟩ = some (.bool a1_9) := (blk_cell BK196.out 9).trans rfl; have hcz32_10 : w30.cell? ⟨gb196, 10, none⟩ = some (.slice A1_10 l1_10.length c1_10) := (blk_cell BK196.out 10).trans rfl; have hcz32_11 : w30.cell? ⟨gb196, 11, none⟩ = some (.slice A1_11 l1_11.length c1_11) := (blk_cell BK196.out 11).trans rfl; have hfz32_0 := blk_frozen BK196.out 0; have hfz32_1 := blk_frozen BK196.out 1; have hfz32_2 := blk_frozen BK196.out 2; have hfz32_3 := blk_frozen BK196.out 3; have hfz32_4 := blk_frozen BK196.out 4; have hfz32_5 := blk_frozen BK196.out 5; have hfz32_6 := blk_frozen BK196.out 6; have hfz32_7 := blk_frozen BK196.out 7; have hfz32_8 := blk_frozen BK196.out 8; have hfz32_9 := blk_frozen BK196.out 9; have hfz32_10 := blk_frozen BK196.out 10; have hfz32_11 := blk_frozen BK196.out 11) | (go_at_call 31; (with_reducible refine (hornbookref23_Texts.calls k2 _ _ l0_11 _ _ l1_11 t200 _ ?side1 ?side2 ?side3 ?side4 A26.out).mono ?_); (case side1 => repeat (first | exact (Kd.C_below HR0_11.out HB.out) | (with_reducible refine Kd.C_alloc ?_ _) | (with_reducible refine Kd.C_drewN ?_ _) | (with_reducible refine Kd.C_drew ?_))); (case side2 => exact HC0_11.out); (case side3 => repeat (first | exact (Kd.C_below HR1_11.out HB.out) | (with_reducible refine Kd.C_alloc ?_ _) | (with_reducible refine Kd.C_drewN ?_ _) | (with_reducible refine Kd.C_drew ?_))); (case side4 => exact HC1_11.out); rintro e w33 ⟨rfl, hb⟩; have n0_ := Aside0.mk (blk_below (g := gb195) (o := .cells #[.slice A0_0 l0_0.length c0_0, .bool a0_1, .int .i64 a0_2, .string a0_3, .string a0_4, .string a0_5, .string a0_6, .bool a0_7, .bool a0_8, .bool a0_9, .slice A0_10 l0_10.length c0_10, .slice A0_11 l0_11.length c0_11] 27 (0, 0)) (by (with_reducible repeat (first | refine blk_drewN ?_ _ | refine blk_drew ?_ | refine blk_alloc ?_ _)); exact BK195.out) hb); have n1_ := Aside0.mk (blk_below (g := gb196) (o := .cells #[.slice A1_0 l1_0.length c1_0, .bool a1_1, .int .i64 a1_2, .string a1_3, .string a1_4, .string a1_5, .string a1_6, .bool a1_7, .bool a1_8, .bool a1_9, .slice A1_10 l1_10.length c1_10, .slice A1_11 l1_11.length c1_11] 27 (0, 0)) (by (with_reducible repeat (first | refine blk_drewN ?_ _ | refine blk_drew ?_ | refine blk_alloc ?_ _)); exact BK196.out) hb); have n2_ := Aside0.mk (below_step (by repeat (first | (with_reducible first | exact HB.out | apply below_alloc | apply pw_below_drewN | apply below_drew1 | refine below_set ?_ GE195.out | refine below_set ?_ GE196.out) | exact HB.out)) hb); clear BK195; clear BK196; clear HB; have BK195 := n0_; have BK196 := n1_; have HB := n2_; clear n0_ n1_ n2_; (try clear hb); (try clear hb2); (try clear hk); (try clear hi)))
                repeat (go_quiet (first | (go_at_call 31; (with_reducible refine (hornbookref23_Texts.calls k2 _ _ l0_10 _ _ l1_10 true _ ?side1 ?side2 ?side3 ?side4 A24.out).mono ?_); (case side1 => repeat (first | exact (Kd.C_below HR0_10.out HB.out) | (with_reducible refine Kd.C_alloc ?_ _) | (with_reducible refine Kd.C_drewN ?_ _) | (with_reducible refine Kd.C_drew ?_))); (case side2 => exact HC0_10.out); (case side3 => repeat (first | exact (Kd.C_below HR1_10.out HB.out) | (with_reducible refine Kd.C_alloc ?_ _) | (with_reducible refine Kd.C_drewN ?_ _) | (with_reducible refine Kd.C_drew ?_))); (case side4 => exact HC1_10.out); rintro e w30 ⟨rfl, hb⟩; have n0_ := Aside0.mk (blk_below (g := gb195) (o := .cells #[.slice A0_0 l0_0.length c0_0, .bool a0_1, .int .i64 a0_2, .string a0_3, .string a0_4, .string a0_5, .string a0_6, .bool a0_7, .bool a0_8, .bool a0_9, .slice A0_10 l0_10.length c0_10, .slice A0_11 l0_11.length c0_11] 27 (0, 0)) (by (with_reducible repeat (first | refine blk_drewN ?_ _ | refine blk_drew ?_ | refine blk_alloc ?_ _)); exact BK195.out) hb); have n1_ := Aside0.mk (blk_below (g := gb196) (o := .cells #[.slice A1_0 l1_0.length c1_0, .bool a1_1, .int .i64 a1_2, .string a1_3, .string a1_4, .string a1_5, .string a1_6, .bool a1_7, .bool a1_8, .bool a1_9, .slice A1_10 l1_10.length c1_10, .slice A1_11 l1_11.length c1_11] 27 (0, 0)) (by (with_reducible repeat (first | refine blk_drewN ?_ _ | refine blk_drew ?_ | refine blk_alloc ?_ _)); exact BK196.out) hb); have n2_ := Aside0.mk (below_step (by repeat (first | (with_reducible first | exact HB.out | apply below_alloc | apply pw_below_drewN | apply below_drew1 | refine below_set ?_ GE195.out | refine below_set ?_ GE196.out) | exact HB.out)) hb); clear BK195; clear BK196; clear HB; have BK195 := n0_; have BK196 := n1_; have HB := n2_; clear n0_ n1_ n2_; (try clear hb); (try clear hb2); (try clear hk); (try clear hi); have hcz31_0 : w30.cell? ⟨gb195, 0, none⟩ = some (.slice A0_0 l0_0.length c0_0) := (blk_cell BK195.out 0).trans rfl; have hcz31_1 : w30.cell? ⟨gb195, 1, none⟩ = some (.bool a0_1) := (blk_cell BK195.out 1).trans rfl; have hcz31_2 : w30.cell? ⟨gb195, 2, none⟩ = some (.int .i64 a0_2) := (blk_cell BK195.out 2).trans rfl; have hcz31_3 : w30.cell? ⟨gb195, 3, none⟩ = some (.string a0_3) := (blk_cell BK195.out 3).trans rfl; have hcz31_4 : w30.cell? ⟨gb195, 4, none⟩ = some (.string a0_4) := (blk_cell BK195.out 4).trans rfl; have hcz31_5 : w30.cell? ⟨gb195, 5, none⟩ = some (.string a0_5) := (blk_cell BK195.out 5).trans rfl; have hcz31_6 : w30.cell? ⟨gb195, 6, none⟩ = some (.string a0_6) := (blk_cell BK195.out 6).trans rfl; have hcz31_7 : w30.cell? ⟨gb195, 7, none⟩ = some (.bool a0_7) := (blk_cell BK195.out 7).trans rfl; have hcz31_8 : w30.cell? ⟨gb195, 8, none⟩ = some (.bool a0_8) := (blk_cell BK195.out 8).trans rfl; have hcz31_9 : w30.cell? ⟨gb195, 9, none⟩ = some (.bool a0_9) := (blk_cell BK195.out 9).trans rfl; have hcz31_10 : w30.cell? ⟨gb195, 10, none⟩ = some (.slice A0_10 l0_10.length c0_10) := (blk_cell BK195.out 10).trans rfl; have hcz31_11 : w30.cell? ⟨gb195, 11, none⟩ = some (.slice A0_11 l0_11.length c0_11) := (blk_cell BK195.out 11).trans rfl; have hfz31_0 := blk_frozen BK195.out 0; have hfz31_1 := blk_frozen BK195.out 1; have hfz31_2 := blk_frozen BK195.out 2; have hfz31_3 := blk_frozen BK195.out 3; have hfz31_4 := blk_frozen BK195.out 4; have hfz31_5 := blk_frozen BK195.out 5; have hfz31_6 := blk_frozen BK195.out 6; have hfz31_7 := blk_frozen BK195.out 7; have hfz31_8 := blk_frozen BK195.out 8; have hfz31_9 := blk_frozen BK195.out 9; have hfz31_10 := blk_frozen BK195.out 10; have hfz31_11 := blk_frozen BK195.out 11; have hcz32_0 : w30.cell? ⟨gb196, 0, none⟩ = some (.slice A1_0 l1_0.length c1_0) := (blk_cell BK196.out 0).trans rfl; have hcz32_1 : w30.cell? ⟨gb196, 1, none⟩ = some (.bool a1_1) := (blk_cell BK196.out 1).trans rfl; have hcz32_2 : w30.cell? ⟨gb196, 2, none⟩ = some (.int .i64 a1_2) := (blk_cell BK196.out 2).trans rfl; have hcz32_3 : w30.cell? ⟨gb196, 3, none⟩ = some (.string a1_3) := (blk_cell BK196.out 3).trans rfl; have hcz32_4 : w30.cell? ⟨gb196, 4, none⟩ = some (.string a1_4) := (blk_cell BK196.out 4).trans rfl; have hcz32_5 : w30.cell? ⟨gb196, 5, none⟩ = some (.string a1_5) := (blk_cell BK196.out 5).trans rfl; have hcz32_6 : w30.cell? ⟨gb196, 6, none⟩ = some (.string a1_6) := (blk_cell BK196.out 6).trans rfl; have hcz32_7 : w30.cell? ⟨gb196, 7, none⟩ = some (.bool a1_7) := (blk_cell BK196.out 7).trans rfl; have hcz32_8 : w30.cell? ⟨gb196, 8, none⟩ = some (.bool a1_8) := (blk_cell BK196.out 8).trans rfl; have hcz32_9 : w30.cell? ⟨gb196, 9, none⟩ = some (.bool a1_9) := (blk_cell BK196.out 9).trans rfl; have hcz32_10 : w30.cell? ⟨gb196, 10, none⟩ = some (.slice A1_10 l1_10.length c1_10) := (blk_cell BK196.out 10).trans rfl; have hcz32_11 : w30.cell? ⟨gb196, 11, none⟩ = some (.slice A1_11 l1_11.length c1_11) := (blk_cell BK196.out 11).trans rfl; have hfz32_0 := blk_frozen BK196.out 0; have hfz32_1 := blk_frozen BK196.out 1; have hfz32_2 := blk_frozen BK196.out 2; have hfz32_3 := blk_frozen BK196.out 3; have hfz32_4 := blk_frozen BK196.out 4; have hfz32_5 := blk_frozen BK196.out 5; have hfz32_6 := blk_frozen BK196.out 6; have hfz32_7 := blk_frozen BK196.out 7; have hfz32_8 := blk_frozen BK196.out 8; have hfz32_9 := blk_frozen BK196.out 9; have hfz32_10 := blk_frozen BK196.out 10; have hfz32_11 := blk_frozen BK196.out 11) | (go_at_call 31; (with_reducible refine (hornbookref23_Texts.calls k2 _ _ l0_11 _ _ l1_11 t200 _ ?side1 ?side2 ?side3 ?side4 A26.out).mono ?_); (case side1 => repeat (first | exact (Kd.C_below HR0_11.out HB.out) | (with_reducible refine Kd.C_alloc ?_ _) | (with_reducible refine Kd.C_drewN ?_ _) | (with_reducible refine Kd.C_drew ?_))); (case side2 => exact HC0_11.out); (case side3 => repeat (first | exact (Kd.C_below HR1_11.out HB.out) | (with_reducible refine Kd.C_alloc ?_ _) | (with_reducible refine Kd.C_drewN ?_ _) | (with_reducible refine Kd.C_drew ?_))); (case side4 => exact HC1_11.out); rintro e w33 ⟨rfl, hb⟩; have n0_ := Aside0.mk (blk_below (g := gb195) (o := .cells #[.slice A0_0 l0_0.length c0_0, .bool a0_1, .int .i64 a0_2, .string a0_3, .string a0_4, .string a0_5, .string a0_6, .bool a0_7, .bool a0_8, .bool a0_9, .slice A0_10 l0_10.length c0_10, .slice A0_11 l0_11.length c0_11] 27 (0, 0)) (by (with_reducible repeat (first | refine blk_drewN ?_ _ | refine blk_drew ?_ | refine blk_alloc ?_ _)); exact BK195.out) hb); have n1_ := Aside0.mk (blk_below (g := gb196) (o := .cells #[.slice A1_0 l1_0.length c1_0, .bool a1_1, .int .i64 a1_2, .string a1_3, .string a1_4, .string a1_5, .string a1_6, .bool a1_7, .bool a1_8, .bool a1_9, .slice A1_10 l1_10.length c1_10, .slice A1_11 l1_11.length c1_11] 27 (0, 0)) (by (with_reducible repeat (first | refine blk_drewN ?_ _ | refine blk_drew ?_ | refine blk_alloc ?_ _)); exact BK196.out) hb); have n2_ := Aside0.mk (below_step (by repeat (first | (with_reducible first | exact HB.out | apply below_alloc | apply pw_below_drewN | apply below_drew1 | refine below_set ?_ GE195.out | refine below_set ?_ GE196.out) | exact HB.out)) hb); clear BK195; clear BK196; clear HB; have BK195 := n0_; have BK196 := n1_; have HB := n2_; clear n0_ n1_ n2_; (try clear hb); (try clear hb2); (try clear hk); (try clear hi))); try go_wp2_with (first | (go_at_call 31; (with_reducible refine (hornbookref23_Texts.calls k2 _ _ l0_10 _ _ l1_10 true _ ?side1 ?side2 ?side3 ?side4 A24.out).mono ?_); (case side1 => repeat (first | exact (Kd.C_below HR0_10.out HB.out) | (with_reducible refine Kd.C_alloc ?_ _) | (with_reducible refine Kd.C_drewN ?_ _) | (with_reducible refine Kd.C_drew ?_))); (case side2 => exact HC0_10.out); (case side3 => repeat (first | exact (Kd.C_below HR1_10.out HB.out) | (with_reducible refine Kd.C_alloc ?_ _) | (with_reducible refine Kd.C_drewN ?_ _) | (with_reducible refine Kd.C_drew ?_))); (case side4 => exact HC1_10.out); rintro e w30 ⟨rfl, hb⟩; have n0_ := Aside0.mk (blk_below (g := gb195) (o := .cells #[.slice A0_0 l0_0.length c0_0, .bool a0_1, .int .i64 a0_2, .string a0_3, .string a0_4, .string a0_5, .string a0_6, .bool a0_7, .bool a0_8, .bool a0_9, .slice A0_10 l0_10.length c0_10, .slice A0_11 l0_11.length c0_11] 27 (0, 0)) (by (with_reducible repeat (first | refine blk_drewN ?_ _ | refine blk_drew ?_ | refine blk_alloc ?_ _)); exact BK195.out) hb); have n1_ := Aside0.mk (blk_below (g := gb196) (o := .cells #[.slice A1_0 l1_0.length c1_0, .bool a1_1, .int .i64 a1_2, .string a1_3, .string a1_4, .string a1_5, .string a1_6, .bool a1_7, .bool a1_8, .bool a1_9, .slice A1_10 l1_10.length c1_10, .slice A1_11 l1_11.length c1_11] 27 (0, 0)) (by (with_reducible repeat (first | refine blk_drewN ?_ _ | refine blk_drew ?_ | refine blk_alloc ?_ _)); exact BK196.out) hb); have n2_ := Aside0.mk (below_step (by repeat (first | (with_reducible first | exact HB.out | apply below_alloc | apply pw_below_drewN | apply below_drew1 | refine below_set ?_ GE195.out | refine below_set ?_ GE196.out) | exact HB.out)) hb); clear BK195; clear BK196; clear HB; have BK195 := n0_; have BK196 := n1_; have HB := n2_; clear n0_ n1_ n2_; (try clear hb); (try clear hb2); (try clear hk); (try clear hi); have hcz31_0 : w30.cell? ⟨gb195, 0, none⟩ = some (.slice A0_0 l0_0.length c0_0) := (blk_cell BK195.out 0).trans rfl; have hcz31_1 : w30.cell? ⟨gb195, 1, none⟩ = some (.bool a0_1) := (blk_cell BK195.out 1).trans rfl; have hcz31_2 : w30.cell? ⟨gb195, 2, none⟩ = some (.int .i64 a0_2) := (blk_cell BK195.out 2).trans rfl; have hcz31_3 : w30.cell? ⟨gb195, 3, none⟩ = some (.string a0_3) := (blk_cell BK195.out 3).trans rfl; have hcz31_4 : w30.cell? ⟨gb195, 4, none⟩ = some (.string a0_4) := (blk_cell BK195.out 4).trans rfl; have hcz31_5 : w30.cell? ⟨gb195, 5, none⟩ = some (.string a0_5) := (blk_cell BK195.out 5).trans rfl; have hcz31_6 : w30.cell? ⟨gb195, 6, none⟩ = some (.string a0_6) := (blk_cell BK195.out 6).trans rfl; have hcz31_7 : w30.cell? ⟨gb195, 7, none⟩ = some (.bool a0_7) := (blk_cell BK195.out 7).trans rfl; have hcz31_8 : w30.cell? ⟨gb195, 8, none⟩ = some (.bool a0_8) := (blk_cell BK195.out 8).trans rfl; have hcz31_9 : w30.cell? ⟨gb195, 9, none⟩ = some (.bool a0_9) := (blk_cell BK195.out 9).trans rfl; have hcz31_10 : w30.cell? ⟨gb195, 10, none⟩ = some (.slice A0_10 l0_10.length c0_10) := (blk_cell BK195.out 10).trans rfl; have hcz31_11 : w30.cell? ⟨gb195, 11, none⟩ = some (.slice A0_11 l0_11.length c0_11) := (blk_cell BK195.out 11).trans rfl; have hfz31_0 := blk_frozen BK195.out 0; have hfz31_1 := blk_frozen BK195.out 1; have hfz31_2 := blk_frozen BK195.out 2; have hfz31_3 := blk_frozen BK195.out 3; have hfz31_4 := blk_frozen BK195.out 4; have hfz31_5 := blk_frozen BK195.out 5; have hfz31_6 := blk_frozen BK195.out 6; have hfz31_7 := blk_frozen BK195.out 7; have hfz31_8 := blk_frozen BK195.out 8; have hfz31_9 := blk_frozen BK195.out 9; have hfz31_10 := blk_frozen BK195.out 10; have hfz31_11 := blk_frozen BK195.out 11; have hcz32_0 : w30.cell? ⟨gb196, 0, none⟩ = some (.slice A1_0 l1_0.length c1_0) := (blk_cell BK196.out 0).trans rfl; have hcz32_1 : w30.cell? ⟨gb196, 1, none⟩ = some (.bool a1_1) := (blk_cell BK196.out 1).trans rfl; have hcz32_2 : w30.cell? ⟨gb196, 2, none⟩ = some (.int .i64 a1_2) := (blk_cell BK196.out 2).trans rfl; have hcz32_3 : w30.cell? ⟨gb196, 3, none⟩ = some (.string a1_3) := (blk_cell BK196.out 3).trans rfl; have hcz32_4 : w30.cell? ⟨gb196, 4, none⟩ = some (.string a1_4) := (blk_cell BK196.out 4).trans rfl; have hcz32_5 : w30.cell? ⟨gb196, 5, none⟩ = some (.string a1_5) := (blk_cell BK196.out 5).trans rfl; have hcz32_6 : w30.cell? ⟨gb196, 6, none⟩ = some (.string a1_6) := (blk_cell BK196.out 6).trans rfl; have hcz32_7 : w30.cell? ⟨gb196, 7, none⟩ = some (.bool a1_7) := (blk_cell BK196.out 7).trans rfl; have hcz32_8 : w30.cell? ⟨gb196, 8, none⟩ = some (.bool a1_8) := (blk_cell BK196.out 8).trans rfl; have hcz32_9 : w30.cell? ⟨gb196, 9, none⟩ = some (.bool a1_9) := (blk_cell BK196.out 9).trans rfl; have hcz32_10 : w30.cell? ⟨gb196, 10, none⟩ = some (.slice A1_10 l1_10.length c1_10) := (blk_cell BK196.out 10).trans rfl; have hcz32_11 : w30.cell? ⟨gb196, 11, none⟩ = some (.slice A1_11 l1_11.length c1_11) := (blk_cell BK196.out 11).trans rfl; have hfz32_0 := blk_frozen BK196.out 0; have hfz32_1 := blk_frozen BK196.out 1; have hfz32_2 := blk_frozen BK196.out 2; have hfz32_3 := blk_frozen BK196.out 3; have hfz32_4 := blk_frozen BK196.out 4; have hfz32_5 := blk_frozen BK196.out 5; have hfz32_6 := blk_frozen BK196.out 6; have hfz32_7 := blk_frozen BK196.out 7; have hfz32_8 := blk_frozen BK196.out 8; have hfz32_9 := blk_frozen BK196.out 9; have hfz32_10 := blk_frozen BK196.out 10; have hfz32_11 := blk_frozen BK196.out 11) | (go_at_call 31; (with_reducible refine (hornbookref23_Texts.calls k2 _ _ l0_11 _ _ l1_11 t200 _ ?side1 ?side2 ?side3 ?side4 A26.out).mono ?_); (case side1 => repeat (first | exact (Kd.C_below HR0_11.out HB.out) | (with_reducible refine Kd.C_alloc ?_ _) | (with_reducible refine Kd.C_drewN ?_ _) | (with_reducible refine Kd.C_drew ?_))); (case side2 => exact HC0_11.out); (case side3 => repeat (first | exact (Kd.C_below HR1_11.out HB.out) | (with_reducible refine Kd.C_alloc ?_ _) | (with_reducible refine Kd.C_drewN ?_ _) | (with_reducible refine Kd.C_drew ?_))); (case side4 => exact HC1_11.out); rintro e w33 ⟨rfl, hb⟩; have n0_ := Aside0.mk (blk_below (g := gb195) (o := .cells #[.slice A0_0 l0_0.length c0_0, .bool a0_1, .int .i64 a0_2, .string a0_3, .string a0_4, .string a0_5, .string a0_6, .bool a0_7, .bool a0_8, .bool a0_9, .slice A0_10 l0_10.length c0_10, .slice A0_11 l0_11.length c0_11] 27 (0, 0)) (by (with_reducible repeat (first | refine blk_drewN ?_ _ | refine blk_drew ?_ | refine blk_alloc ?_ _)); exact BK195.out) hb); have n1_ := Aside0.mk (blk_below (g := gb196) (o := .cells #[.slice A1_0 l1_0.length c1_0, .bool a1_1, .int .i64 a1_2, .string a1_3, .string a1_4, .string a1_5, .string a1_6, .bool a1_7, .bool a1_8, .bool a1_9, .slice A1_10 l1_10.length c1_10, .slice A1_11 l1_11.length c1_11] 27 (0, 0)) (by (with_reducible repeat (first | refine blk_drewN ?_ _ | refine blk_drew ?_ | refine blk_alloc ?_ _)); exact BK196.out) hb); have n2_ := Aside0.mk (below_step (by repeat (first | (with_reducible first | exact HB.out | apply below_alloc | apply pw_below_drewN | apply below_drew1 | refine below_set ?_ GE195.out | refine below_set ?_ GE196.out) | exact HB.out)) hb); clear BK195; clear BK196; clear HB; have BK195 := n0_; have BK196 := n1_; have HB := n2_; clear n0_ n1_ n2_; (try clear hb); (try clear hb2); (try clear hk); (try clear hi))))
                go_ret
                exact ⟨by first | rfl | (simp [errW_none, errW_some] <;> rfl) | (simp [*, errW_none, errW_some] <;> rfl), by repeat (first | (with_reducible first | exact HB.out | apply below_alloc | apply pw_below_drewN | apply below_drew1 | refine below_set ?_ GE195.out | refine below_set ?_ GE196.out) | exact HB.out)⟩
              · replace c25 := Bool.eq_false_iff.mpr c25
                subst c25
                have H1 : (some false) = some r := by rw [if_neg (show ¬ (false = true) by decide)] at H; exact H
                clear H
                have H := H1
                clear H1
                obtain rfl := Option.some.inj H
                have hnb34 := NB195_196.out
                have hnc34 := NB196_195.out
                have hcz35_0 : wr.cell? ⟨gb195, 0, none⟩ = some (.slice A0_0 l0_0.length c0_0) := (blk_cell BK195.out 0).trans rfl
                have hcz35_1 : wr.cell? ⟨gb195, 1, none⟩ = some (.bool a0_1) := (blk_cell BK195.out 1).trans rfl
                have hcz35_2 : wr.cell? ⟨gb195, 2, none⟩ = some (.int .i64 a0_2) := (blk_cell BK195.out 2).trans rfl
                have hcz35_3 : wr.cell? ⟨gb195, 3, none⟩ = some (.string a0_3) := (blk_cell BK195.out 3).trans rfl
                have hcz35_4 : wr.cell? ⟨gb195, 4, none⟩ = some (.string a0_4) := (blk_cell BK195.out 4).trans rfl
                have hcz35_5 : wr.cell? ⟨gb195, 5, none⟩ = some (.string a0_5) := (blk_cell BK195.out 5).trans rfl
                have hcz35_6 : wr.cell? ⟨gb195, 6, none⟩ = some (.string a0_6) := (blk_cell BK195.out 6).trans rfl
                have hcz35_7 : wr.cell? ⟨gb195, 7, none⟩ = some (.bool a0_7) := (blk_cell BK195.out 7).trans rfl
                have hcz35_8 : wr.cell? ⟨gb195, 8, none⟩ = some (.bool a0_8) := (blk_cell BK195.out 8).trans rfl
                have hcz35_9 : wr.cell? ⟨gb195, 9, none⟩ = some (.bool a0_9) := (blk_cell BK195.out 9).trans rfl
                have hcz35_10 : wr.cell? ⟨gb195, 10, none⟩ = some (.slice A0_10 l0_10.length c0_10) := (blk_cell BK195.out 10).trans rfl
                have hcz35_11 : wr.cell? ⟨gb195, 11, none⟩ = some (.slice A0_11 l0_11.length c0_11) := (blk_cell BK195.out 11).trans rfl
                have hfz35_0 := blk_frozen BK195.out 0
                have hfz35_1 := blk_frozen BK195.out 1
                have hfz35_2 := blk_frozen BK195.out 2
                have hfz35_3 := blk_frozen BK195.out 3
                have hfz35_4 := blk_frozen BK195.out 4
                have hfz35_5 := blk_frozen BK195.out 5
                have hfz35_6 := blk_frozen BK195.out 6
                have hfz35_7 := blk_frozen BK195.out 7
                have hfz35_8 := blk_frozen BK195.out 8
                have hfz35_9 := blk_frozen BK195.out 9
                have hfz35_10 := blk_frozen BK195.out 10
                have hfz35_11 := blk_frozen BK195.out 11
                have hcz36_0 : wr.cell? ⟨gb196, 0, none⟩ = some (.slice A1_0 l1_0.length c1_0) := (blk_cell BK196.out 0).trans rfl
                have hcz36_1 : wr.cell? ⟨gb196, 1, none⟩ = some (.bool a1_1) := (blk_cell BK196.out 1).trans rfl
                have hcz36_2 : wr.cell? ⟨gb196, 2, none⟩ = some (.int .i64 a1_2) := (blk_cell BK196.out 2).trans rfl
                have hcz36_3 : wr.cell? ⟨gb196, 3, none⟩ = some (.string a1_3) := (blk_cell BK196.out 3).trans rfl
                have hcz36_4 : wr.cell? ⟨gb196, 4, none⟩ = some (.string a1_4) := (blk_cell BK196.out 4).trans rfl
                have hcz36_5 : wr.cell? ⟨gb196, 5, none⟩ = some (.string a1_5) := (blk_cell BK196.out 5).trans rfl
                have hcz36_6 : wr.cell? ⟨gb196, 6, none⟩ = some (.string a1_6) := (blk_cell BK196.out 6).trans rfl
                have hcz36_7 : wr.cell? ⟨gb196, 7, none⟩ = some (.bool a1_7) := (blk_cell BK196.out 7).trans rfl
                have hcz36_8 : wr.cell? ⟨gb196, 8, none⟩ = some (.bool a1_8) := (blk_cell BK196.out 8).trans rfl
                have hcz36_9 : wr.cell? ⟨gb196, 9, none⟩ = some (.bool a1_9) := (blk_cell BK196.out 9).trans rfl
                have hcz36_10 : wr.cell? ⟨gb196, 10, none⟩ = some (.slice A1_10 l1_10.length c1_10) := (blk_cell BK196.out 10).trans rfl
                have hcz36_11 : wr.cell? ⟨gb196, 11, none⟩ = some (.slice A1_11 l1_11.length c1_11) := (blk_cell BK196.out 11).trans rfl
                have hfz36_0 := blk_frozen BK196.out 0
                have hfz36_1 := blk_frozen BK196.out 1
                have hfz36_2 := blk_frozen BK196.out 2
                have hfz36_3 := blk_frozen BK196.out 3
                have hfz36_4 := blk_frozen BK196.out 4
                have hfz36_5 := blk_frozen BK196.out 5
                have hfz36_6 := blk_frozen BK196.out 6
                have hfz36_7 := blk_frozen BK196.out 7
                have hfz36_8 := blk_frozen BK196.out 8
                have hfz36_9 := blk_frozen BK196.out 9
                have hfz36_10 := blk_frozen BK196.out 10
                have hfz36_11 := blk_frozen BK196.out 11
                go_wp2_with (first | (go_at_call 31; (with_reducible refine (hornbookref23_Texts.calls k2 _ _ l0_10 _ _ l1_10 false _ ?side1 ?side2 ?side3 ?side4 A24.out).mono ?_); (case side1 => repeat (first | exact (Kd.C_below HR0_10.out HB.out) | (with_reducible refine Kd.C_alloc ?_ _) | (with_reducible refine Kd.C_drewN ?_ _) | (with_reducible refine Kd.C_drew ?_))); (case side2 => exact HC0_10.out); (case side3 => repeat (first | exact (Kd.C_below HR1_10.out HB.out) | (with_reducible refine Kd.C_alloc ?_ _) | (with_reducible refine Kd.C_drewN ?_ _) | (with_reducible refine Kd.C_drew ?_))); (case side4 => exact HC1_10.out); rintro e w37 ⟨rfl, hb⟩; have n0_ := Aside0.mk (blk_below (g := gb195) (o := .cells #[.slice A0_0 l0_0.length c0_0, .bool a0_1, .int .i64 a0_2, .string a0_3, .string a0_4, .string a0_5, .string a0_6, .bool a0_7, .bool a0_8, .bool a0_9, .slice A0_10 l0_10.length c0_10, .slice A0_11 l0_11.length c0_11] 27 (0, 0)) (by (with_reducible repeat (first | refine blk_drewN ?_ _ | refine blk_drew ?_ | refine blk_alloc ?_ _)); exact BK195.out) hb); have n1_ := Aside0.mk (blk_below (g := gb196) (o := .cells #[.slice A1_0 l1_0.length c1_0, .bool a1_1, .int .i64 a1_2, .string a1_3, .string a1_4, .string a1_5, .string a1_6, .bool a1_7, .bool a1_8, .bool a1_9, .slice A1_10 l1_10.length c1_10, .slice A1_11 l1_11.length c1_11] 27 (0, 0)) (by (with_reducible repeat (first | refine blk_drewN ?_ _ | refine blk_drew ?_ | refine blk_alloc ?_ _)); exact BK196.out) hb); have n2_ := Aside0.mk (below_step (by repeat (first | (with_reducible first | exact HB.out | apply below_alloc | apply pw_below_drewN | apply below_drew1 | refine below_set ?_ GE195.out | refine below_set ?_ GE196.out) | exact HB.out)) hb); clear BK195; clear BK196; clear HB; have BK195 := n0_; have BK196 := n1_; have HB := n2_; clear n0_ n1_ n2_; (try clear hb); (try clear hb2); (try clear hk); (try clear hi)))
                repeat (go_quiet (first | (go_at_call 31; (with_reducible refine (hornbookref23_Texts.calls k2 _ _ l0_10 _ _ l1_10 false _ ?side1 ?side2 ?side3 ?side4 A24.out).mono ?_); (case side1 => repeat (first | exact (Kd.C_below HR0_10.out HB.out) | (with_reducible refine Kd.C_alloc ?_ _) | (with_reducible refine Kd.C_drewN ?_ _) | (with_reducible refine Kd.C_drew ?_))); (case side2 => exact HC0_10.out); (case side3 => repeat (first | exact (Kd.C_below HR1_10.out HB.out) | (with_reducible refine Kd.C_alloc ?_ _) | (with_reducible refine Kd.C_drewN ?_ _) | (with_reducible refine Kd.C_drew ?_))); (case side4 => exact HC1_10.out); rintro e w37 ⟨rfl, hb⟩; have n0_ := Aside0.mk (blk_below (g := gb195) (o := .cells #[.slice A0_0 l0_0.length c0_0, .bool a0_1, .int .i64 a0_2, .string a0_3, .string a0_4, .string a0_5, .string a0_6, .bool a0_7, .bool a0_8, .bool a0_9, .slice A0_10 l0_10.length c0_10, .slice A0_11 l0_11.length c0_11] 27 (0, 0)) (by (with_reducible repeat (first | refine blk_drewN ?_ _ | refine blk_drew ?_ | refine blk_alloc ?_ _)); exact BK195.out) hb); have n1_ := Aside0.mk (blk_below (g := gb196) (o := .cells #[.slice A1_0 l1_0.length c1_0, .bool a1_1, .int .i64 a1_2, .string a1_3, .string a1_4, .string a1_5, .string a1_6, .bool a1_7, .bool a1_8, .bool a1_9, .slice A1_10 l1_10.length c1_10, .slice A1_11 l1_11.length c1_11] 27 (0, 0)) (by (with_reducible repeat (first | refine blk_drewN ?_ _ | refine blk_drew ?_ | refine blk_alloc ?_ _)); exact BK196.out) hb); have n2_ := Aside0.mk (below_step (by repeat (first | (with_reducible first | exact HB.out | apply below_alloc | apply pw_below_drewN | apply below_drew1 | refine below_set ?_ GE195.out | refine below_set ?_ GE196.out) | exact HB.out)) hb); clear BK195; clear BK196; clear HB; have BK195 := n0_; have BK196 := n1_; have HB := n2_; clear n0_ n1_ n2_; (try clear hb); (try clear hb2); (try clear hk); (try clear hi))); try go_wp2_with (first | (go_at_call 31; (with_reducible refine (hornbookref23_Texts.calls k2 _ _ l0_10 _ _ l1_10 false _ ?side1 ?side2 ?side3 ?side4 A24.out).mono ?_); (case side1 => repeat (first | exact (Kd.C_below HR0_10.out HB.out) | (with_reducible refine Kd.C_alloc ?_ _) | (with_reducible refine Kd.C_drewN ?_ _) | (with_reducible refine Kd.C_drew ?_))); (case side2 => exact HC0_10.out); (case side3 => repeat (first | exact (Kd.C_below HR1_10.out HB.out) | (with_reducible refine Kd.C_alloc ?_ _) | (with_reducible refine Kd.C_drewN ?_ _) | (with_reducible refine Kd.C_drew ?_))); (case side4 => exact HC1_10.out); rintro e w37 ⟨rfl, hb⟩; have n0_ := Aside0.mk (blk_below (g := gb195) (o := .cells #[.slice A0_0 l0_0.length c0_0, .bool a0_1, .int .i64 a0_2, .string a0_3, .string a0_4, .string a0_5, .string a0_6, .bool a0_7, .bool a0_8, .bool a0_9, .slice A0_10 l0_10.length c0_10, .slice A0_11 l0_11.length c0_11] 27 (0, 0)) (by (with_reducible repeat (first | refine blk_drewN ?_ _ | refine blk_drew ?_ | refine blk_alloc ?_ _)); exact BK195.out) hb); have n1_ := Aside0.mk (blk_below (g := gb196) (o := .cells #[.slice A1_0 l1_0.length c1_0, .bool a1_1, .int .i64 a1_2, .string a1_3, .string a1_4, .string a1_5, .string a1_6, .bool a1_7, .bool a1_8, .bool a1_9, .slice A1_10 l1_10.length c1_10, .slice A1_11 l1_11.length c1_11] 27 (0, 0)) (by (with_reducible repeat (first | refine blk_drewN ?_ _ | refine blk_drew ?_ | refine blk_alloc ?_ _)); exact BK196.out) hb); have n2_ := Aside0.mk (below_step (by repeat (first | (with_reducible first | exact HB.out | apply below_alloc | apply pw_below_drewN | apply below_drew1 | refine below_set ?_ GE195.out | refine below_set ?_ GE196.out) | exact HB.out)) hb); clear BK195; clear BK196; clear HB; have BK195 := n0_; have BK196 := n1_; have HB := n2_; clear n0_ n1_ n2_; (try clear hb); (try clear hb2); (try clear hk); (try clear hi))))
                go_ret
                exact ⟨by first | rfl | (simp [errW_none, errW_some] <;> rfl) | (simp [*, errW_none, errW_some] <;> rfl), by repeat (first | (with_reducible first | exact HB.out | apply below_alloc | apply pw_below_drewN | apply below_drew1 | refine below_set ?_ GE195.out | refine below_set ?_ GE196.out) | exact HB.out)⟩

end Go.Proofs.Ytojfhlbchiaccaa.Print
