/- glyph.values: a range over strings.SplitSeq. -/
import Derived.Test.YtgdlmgdcoedfoaaGreatDoorFours
import Derived.RangeFuncNested
import Derived.RangeFuncBound
import Derived.RangeFuncCalls
import Derived.RangeFuncLeaves
import Derived.RangeFuncBox
import Derived.Shelf.Abstract
import Derived.Shelf.RegionOpen
import Derived.WalkKit
import Derived.OwnWalkIn
import Derived.TacticsInMore
import Derived.LoopNIn
import Derived.LoopIn
import Derived.Maps.AppendAt
namespace Go.Proofs.YtgdlmgdcoedfoaaGreatDoor.Agl
open Go.RowKit Go.Shelf Go.Proofs.YtgdlmgdcoedfoaaGreatDoorW.PrintWords Go.Proofs.YtgdlmgdcoedfoaaGreatDoorW.PrintLast Go.Proofs.YtgdlmgdcoedfoaaGreatDoorW.PrintMore
set_option linter.unusedVariables false
set_option linter.unusedSimpArgs false

attribute [local go_sem] Oper.semAt_some
theorem indexByte_lt : ∀ (l : List UInt8) (c : UInt8), 0 ≤ Lib.indexByte l c → Lib.indexByte l c < l.length
  | [], _, h => absurd h (by unfold Lib.indexByte; omega)
  | b :: l, c, h => by
    have ih := indexByte_lt l c
    have hg := Lib.indexByte_ge l c
    unfold Lib.indexByte at h ⊢
    rw [List.length_cons]
    by_cases hb : (b == c) = true
    · rw [if_pos hb]; omega
    · rw [if_neg hb] at h ⊢
      by_cases hm : (Lib.indexByte l c == -1) = true
      · rw [if_pos hm] at h; omega
      · rw [if_neg hm] at h ⊢
        have : Lib.indexByte l c ≠ -1 := fun e => hm (by rw [e]; rfl)
        have := ih (by omega)
        omega
/-- The pieces between commas. -/
def pieces : Nat → List UInt8 → List (List UInt8)
  | 0, l => [l]
  | k + 1, l => if Lib.indexByte l 44 < 0 then [l] else l.take (Lib.indexByte l 44).toNat :: pieces k (l.drop ((Lib.indexByte l 44).toNat + 1))
set_option maxHeartbeats 800000 in
set_option maxRecDepth 100000 in
theorem split_in (l bs bp bv : Nat) (s : ByteArray) (J : List (List UInt8) → World → Prop) (hs : s.size ≤ 100000) (hne1 : bs ≠ bp) (hne2 : bs ≠ bv)
    (hJs : ∀ pre W v, J pre W → J pre (W.setCell ⟨bs, 0, none⟩ v))
    (hY : ∀ pre x rest W, J pre W → pre ++ x :: rest = pieces s.size s.data.toList → YieldAt Fence.wide (3 - 1) Tryz.prog l #[.string ⟨x.toArray⟩] W fun e W' => e = .returned (.bool true) ∧ J (pre ++ [x]) W' ∧ ∀ j, j = bs ∨ j = bp ∨ j = bv → W'.heap[j]? = W.heap[j]?)
    (W : World) (hp : W.cell? ⟨bp, 0, none⟩ = some (.string ⟨#[44]⟩)) (hc : W.cell? ⟨bs, 0, none⟩ = some (.string s)) (hv : W.cell? ⟨bv, 0, none⟩ = some (.int .i64 0)) (hf : W.frozen? ⟨bs, 0, none⟩ = false) (h0 : J [] W) :
    CallsIn Fence.wide 3 Tryz.prog 133 #[.func (.yield l) #[] #[], .pointer (some ⟨bp, 0, none⟩), .pointer (some ⟨bs, 0, none⟩), .pointer (some ⟨bv, 0, none⟩)] W fun e W' => (∃ v, e = .returned v) ∧ J (pieces s.size s.data.toList) W' := by
  refine callsIn_of_wp Tryz.func133 rfl trivial ?_ rfl
  simp only [Tryz.ntmps133, List.size_toArray, List.length_cons, List.length_nil, Nat.reduceAdd, Nat.reduceSub, Array.replicate_succ, Array.replicate_zero, List.push_toArray, List.append_toArray, List.nil_append, List.cons_append]
  have h44 : (⟨#[44]⟩ : ByteArray).size = 1 := rfl
  gi_wp2
  clear h44
  gi_loopw [7] (fun _ wr => ∃ (k : Nat) (pre : List (List UInt8)) (x : ByteArray), wr.cell? ⟨bs, 0, none⟩ = some (.string x) ∧ wr.frozen? ⟨bs, 0, none⟩ = false ∧ wr.cell? ⟨bp, 0, none⟩ = some (.string ⟨#[44]⟩) ∧ wr.cell? ⟨bv, 0, none⟩ = some (.int .i64 0) ∧ J pre wr ∧ pre ++ pieces k x.data.toList = pieces s.size s.data.toList ∧ x.size ≤ k ∧ x.size ≤ 100000)
    (fun _ wr => match wr.cell? ⟨bs, 0, none⟩ with | some (.string x) => x.size | _ => 0)
  case atStart => exact ⟨s.size, [], s, hc, hf, hp, hv, h0, rfl, Nat.le_refl _, hs⟩
  case round =>
    obtain ⟨k, pre, x, hc, hf, hp, hv, hJ, hpc, hk, hx⟩ := hrel
    obtain ⟨i, hi⟩ : ∃ i, Lib.indexByte x.data.toList 44 = i := ⟨_, rfl⟩
    have hIx : Calls Tryz.prog 81 #[.string x, .string ⟨#[44]⟩] wr fun e w' => e = .returned (.int .i64 (Lib.indexByte x.data.toList 44)) ∧ wr = w' := (Tryz.strings_Index_one x 44 wr).mono fun e w' h => ⟨h.1, h.2.symm⟩
    rw [hi] at hIx
    have hge := Lib.indexByte_ge x.data.toList 44
    rw [hi] at hge
    by_cases hlt : i < 0
    · have hpk : pieces k x.data.toList = [x.data.toList] := by
        cases k with
        | zero => rfl
        | succ k => simp only [pieces]; rw [hi, if_pos hlt]
      rw [hpk] at hpc
      obtain ⟨fn, tmps, assign, body, hy, hR⟩ := hY pre x.data.toList [] wr hJ hpc
      have hxe : (⟨x.data.toList.toArray⟩ : ByteArray) = x := by simp
      rw [hxe] at hy
      gi_wp2_with (refine ⟨trivial, ?_⟩; gi_at_call 81; refine (callsIn_wide.2 hIx).mono ?_; rintro e w' ⟨rfl, rfl⟩)
      refine hR.mono ?_
      rintro e W3 ⟨rfl, hJ3, hk3⟩
      gi_wp2
      go_end0
      rw [← hpc]
      exact ⟨⟨_, rfl⟩, hJ3⟩
    · obtain ⟨m, rfl⟩ : ∃ m : Nat, i = m := ⟨i.toNat, by omega⟩
      have hml : m < x.data.toList.length := by
        have := indexByte_lt x.data.toList 44 (by rw [hi]; omega)
        rw [hi] at this; omega
      rw [data_length] at hml
      obtain ⟨k, rfl⟩ : ∃ k', k = k' + 1 := ⟨k - 1, by omega⟩
      have hpk : pieces (k + 1) x.data.toList = x.data.toList.take m :: pieces k (x.data.toList.drop (m + 1)) := by
        simp only [pieces]; rw [hi, if_neg (by omega), Int.toNat_natCast]
      rw [hpk] at hpc
      obtain ⟨fn, tmps, assign, body, hy, hR⟩ := hY pre (x.data.toList.take m) _ wr hJ hpc
      obtain ⟨q, hq⟩ : ∃ q, x.extract 0 m = q := ⟨_, rfl⟩
      obtain ⟨y, hyy⟩ : ∃ y, x.extract (m + 1) x.size = y := ⟨_, rfl⟩
      have hqe : (⟨(x.data.toList.take m).toArray⟩ : ByteArray) = q := by
        have h : q.data.toList = x.data.toList.take m := by rw [← hq, Lib.extract_data]; simp
        rw [← h]
      have hyl : y.data.toList = x.data.toList.drop (m + 1) := by
        rw [← hyy, Lib.extract_data, List.take_of_length_le (by rw [List.length_drop, data_length]; omega)]
      have hys : y.size = x.size - (m + 1) := by rw [← data_length, hyl, List.length_drop, data_length]
      rw [hqe] at hy
      have HYL := Aside0.mk hyl; have HYS := Aside0.mk hys; have HPC := Aside0.mk hpc
      clear hqe hyl hys hpk hpc hi hge hJ
      have hm1 : (m : Int) ≤ x.size := by omega
      have hm2 : (m : Int) + 1 ≤ x.size := by omega
      gi_wp2_with (refine ⟨trivial, ?_⟩; gi_at_call 81; refine (callsIn_wide.2 hIx).mono ?_; rintro e w' ⟨rfl, rfl⟩)
      refine hR.mono ?_
      rintro e W3 ⟨rfl, hJ3, hk3⟩
      have hc3 := (World.cell?_of_block (a := ⟨bs, 0, none⟩) (hk3 bs (.inl rfl))).trans hc
      have hf3 := (World.frozen?_of_block (a := ⟨bs, 0, none⟩) (hk3 bs (.inl rfl))).trans hf
      have hp3 := (World.cell?_of_block (a := ⟨bp, 0, none⟩) (hk3 bp (.inr (.inl rfl)))).trans hp
      have hv3 := (World.cell?_of_block (a := ⟨bv, 0, none⟩) (hk3 bv (.inr (.inr rfl)))).trans hv
      have h44 : (⟨#[44]⟩ : ByteArray).size = 1 := rfl
      have HC0 := Aside0.mk hc
      clear hc hf hp hv hk3 hR hy hIx
      gi_wp2
      have hcY : (W3.setCell ⟨bs, 0, none⟩ (.string y)).cell? ⟨bs, 0, none⟩ = some (.string y) := World.cell?_setCell_same' _ _ _ (by rw [hc3]; rfl)
      refine ⟨⟨k, pre ++ [x.data.toList.take m], y, hcY, ?_, ?_, ?_, hJs _ _ _ hJ3, ?_, ?_, ?_⟩, ?_⟩
      · rw [World.frozen?_setCell]; exact hf3
      · rw [World.cell?_of_block (Below.heap_setCell W3 _ _ bp (by show bp ≠ bs; omega))]; exact hp3
      · rw [World.cell?_of_block (Below.heap_setCell W3 _ _ bv (by show bv ≠ bs; omega))]; exact hv3
      · rw [HYL.out, ← HPC.out, List.append_assoc]; rfl
      · have := HYS.out; omega
      · have := HYS.out; omega
      · have := HYS.out
        rw [hcY, HC0.out]
        show y.size < x.size
        omega
end Go.Proofs.YtgdlmgdcoedfoaaGreatDoor.Agl
