/- The ways of agl.part: fours. glyph.values: a range over strings.SplitSeq. glyph.values: what digits tell, pieces between commas. -/
import Derived.Test.YtgdlmgdcoedfoaaGreatDoorPart
import Derived.RangeFuncNested
import Derived.RangeFuncBound
import Derived.RangeFuncCalls
import Derived.RangeFuncLeaves
import Derived.RangeFuncBox
import Derived.Shelf.Abstract
import Derived.Shelf.RegionOpen
import Derived.WalkKit
import Derived.OwnWalkIn
import Derived.TacticsInMore
import Derived.LoopNIn
import Derived.LoopIn
import Derived.Maps.AppendAt
namespace Go.Proofs.YtgdlmgdcoedfoaaGreatDoor.Agl
open Go.RowKit Go.Proofs.YtgdlmgdcoedfoaaGreatDoorW.PrintWords Go.Proofs.YtgdlmgdcoedfoaaGreatDoorW.PrintLast Go.Proofs.YtgdlmgdcoedfoaaGreatDoorW.PrintMore
set_option linter.unusedVariables false
set_option linter.unusedSimpArgs false

theorem info3 : (Tryz.prog.info? 3).map (fun i => (i.zero, i.size, i.bytes)) = some (some (.int .i64 0), 1, 8) := by kernel_rfl
/-- n groups of four digits: their values, if each may be. -/
def foursL : Nat → List UInt8 → Option (List Int)
  | 0, _ => some []
  | n + 1, l => if numB ⟨(l.take 4).toArray⟩ = true then (foursL n (l.drop 4)).map (hexv (bytesOf ⟨(l.take 4).toArray⟩) :: ·) else none
def tailUni (s : ByteArray) : ByteArray := ⟨(Lib.trimPrefix s.data.toList [117, 110, 105]).toArray⟩
def foursR (s : ByteArray) : Option (List Int) :=
  if Lib.hasPrefix s.data.toList [117, 110, 105] = true ∧ (tailUni s).size ≠ 0 ∧ (tailUni s).size % 4 = 0 then foursL ((tailUni s).size / 4) (tailUni s).data.toList else none
set_option maxHeartbeats 400000 in
set_option maxRecDepth 100000 in
theorem fours33 (s : ByteArray) (w : World) (hs : s.size ≤ 100000) :
    Calls Tryz.prog 33 #[.string s] w fun e W' => ∃ (v : Value) (xs : List Int), e = .returned (.tuple #[v, .bool (foursR s).isSome]) ∧ Kd.R (Kd.int .i64) 3 W' w.heap.size (fun _ => True) v xs ∧ (∀ ys, foursR s = some ys → xs = ys) ∧ Below w.heap.size w W' := by
  have CP := Aside0.mk (cutp54 s ⟨#[117, 110, 105]⟩ w)
  have hts : (tailUni s).size ≤ s.size := by
    unfold tailUni
    rw [← data_length, ← data_length]
    unfold Lib.trimPrefix
    split <;> simp
  obtain ⟨t, ht⟩ : ∃ t, tailUni s = t := ⟨_, rfl⟩
  rw [ht] at hts
  have ht2 : (⟨(Lib.trimPrefix s.data.toList [117, 110, 105]).toArray⟩ : ByteArray) = t := ht
  have hF : foursR s = if Lib.hasPrefix s.data.toList [117, 110, 105] = true ∧ t.size ≠ 0 ∧ t.size % 4 = 0 then foursL (t.size / 4) t.data.toList else none := by rw [← ht]; rfl
  rw [show (⟨#[117, 110, 105]⟩ : ByteArray).data.toList = [117, 110, 105] from rfl, ht2] at CP
  obtain ⟨F, hFF⟩ : ∃ F, foursR s = F := ⟨_, rfl⟩
  rw [hFF]
  rw [hFF] at hF
  obtain ⟨p, hp⟩ : ∃ p, Lib.hasPrefix s.data.toList [117, 110, 105] = p := ⟨_, rfl⟩
  rw [hp] at CP hF
  have HF := Aside0.mk hF
  clear hp hF hFF ht2 ht
  go_enter Tryz.func33, Tryz.ntmps33
  cases p with
  | false =>
    go_wp2_with (go_at_call 54; refine CP.out.mono ?_; rintro e W1 ⟨rfl, rfl⟩)
    go_ret2
    have h := HF.out
    rw [if_neg (by simp)] at h
    subst h
    exact ⟨_, [], rfl, Kd.R_nil _ _ _ _ _, (fun ys h => by cases h), Below.refl _ _⟩
  | true =>
    by_cases h0 : t.size = 0
    · have he : t.toList.isEmpty = true := by
        rw [List.isEmpty_iff, ByteArray.toList_eq]
        exact List.eq_nil_of_length_eq_zero (by rw [data_length]; exact h0)
      go_wp2_with (go_at_call 54; refine CP.out.mono ?_; rintro e W1 ⟨rfl, rfl⟩)
      go_ret2
      have h := HF.out
      rw [if_neg (fun h => h.2.1 h0)] at h
      subst h
      exact ⟨_, [], rfl, Kd.R_nil _ _ _ _ _, (fun ys h => by cases h), Below.refl _ _⟩
    · have he : t.toList.isEmpty = false := by
        rw [List.isEmpty_eq_false_iff, ByteArray.toList_eq]
        intro h
        exact h0 (by rw [← data_length, h]; rfl)
      by_cases h4 : t.size % 4 = 0
      · have h4i : (t.size : Int) % 4 = 0 := by omega
        have h := HF.out
        rw [if_pos ⟨rfl, h0, h4⟩] at h
        have HF2 := Aside0.mk h
        clear h HF h0 h4
        have h4n : t.size % 4 = 0 := by omega
        obtain ⟨n, hn⟩ : ∃ n, t.size = 4 * n := ⟨t.size / 4, by omega⟩
        have hn2 : t.size / 4 = n := by omega
        rw [hn2] at HF2
        have hn3 : n ≤ 30000 := by omega
        have HN := Aside0.mk hn
        go_wp2_with (go_at_call 54; refine CP.out.mono ?_; rintro e W1 ⟨rfl, rfl⟩)
        clear hn2 hn h4n h4i he CP
        go_loopw [4, 6] (fun z o wr => ∃ (k : Nat) (x : ByteArray) (acc : List Int), k ≤ n ∧ z = .string x ∧ x.size = 4 * (n - k) ∧ F = (foursL (n - k) x.data.toList).map (acc ++ ·) ∧ acc.length = k ∧ Kd.R (Kd.int .i64) 3 wr w.heap.size (fun _ => True) o acc ∧ Below w.heap.size w wr) (fun z _ _ => match z with | .string x => x.size | _ => 0)
        case atStart => exact ⟨0, t, [], Nat.zero_le _, rfl, HN.out, by rw [HF2.out]; simp, rfl, Kd.R_nil _ _ _ _ _, Below.refl _ _⟩
        case round =>
          obtain ⟨k, x, acc, hk, rfl, hx, hFF, hal, hR, hB⟩ := hrel
          obtain ⟨v6, hv6⟩ : ∃ v6, u6 = v6 := ⟨_, rfl⟩
          rw [hv6] at hR ⊢
          have HFF := Aside0.mk hFF; have HR := Aside0.mk hR; have HB := Aside0.mk hB
          clear hFF hR hB
          by_cases hlt : k < n
          · have he : x.toList.isEmpty = false := by
              rw [List.isEmpty_eq_false_iff, ByteArray.toList_eq]
              intro h
              have := data_length x
              rw [h] at this; simp at this; omega
            have hx4 : 4 ≤ x.size := by omega
            have hx5 : (4 : Int) ≤ x.size := by omega
            obtain ⟨q, hq⟩ : ∃ q, x.extract 0 4 = q := ⟨_, rfl⟩
            obtain ⟨y, hy⟩ : ∃ y, x.extract 4 (4 * (n - k)) = y := ⟨_, rfl⟩
            have hql : q.data.toList = x.data.toList.take 4 := by rw [← hq, Lib.extract_data]; simp
            have hyl : y.data.toList = x.data.toList.drop 4 := by
              rw [← hy, Lib.extract_data]
              rw [List.take_of_length_le (by rw [List.length_drop, data_length]; omega)]
            have hqs : q.size = 4 := by rw [← data_length, hql, List.length_take, data_length]; omega
            have hys : y.size = 4 * (n - (k + 1)) := by rw [← data_length, hyl, List.length_drop, data_length]; omega
            have hqe : (⟨(x.data.toList.take 4).toArray⟩ : ByteArray) = q := by
              rw [← hql]
            have hFF := HFF.out
            rw [show n - k = (n - (k + 1)) + 1 by omega] at hFF
            simp only [foursL] at hFF
            rw [hqe, ← hyl] at hFF
            have NU := Aside0.mk (fun W => number55 q W (by omega) (by omega))
            have hv : numB q = true → numV q = hexv (bytesOf q) := fun h => by
              unfold numB at h; rw [Bool.and_eq_true] at h
              unfold numV; rw [if_pos h.1]
            obtain ⟨b, hb⟩ : ∃ b, numB q = b := ⟨_, rfl⟩
            obtain ⟨v, hvv⟩ : ∃ v, numV q = v := ⟨_, rfl⟩
            rw [hb, hvv] at NU hv
            rw [hb] at hFF
            have HFN := Aside0.mk hFF; have HV := Aside0.mk hv
            clear HFF hFF hv hb hvv hqe hql hyl
            have HYS := Aside0.mk hys
            clear hys
            cases b with
            | false =>
              have h := HFN.out
              rw [if_neg (by decide)] at h
              go_wp2_with (go_at_call 55; refine (NU.out wr).mono ?_; rintro e W2 ⟨rfl, hb⟩; have HB2 := Aside0.mk hb; clear hb)
              go_ret2
              subst h
              exact ⟨_, [], rfl, Kd.R_nil _ _ _ _ _, (fun ys h => by cases h), below_step HB.out HB2.out⟩
            | true =>
              go_wp2_with (first
                | (go_at_call 55; refine (NU.out wr).mono ?_; rintro e W2 ⟨rfl, hb⟩; have HB2 := Aside0.mk hb; clear hb)
                | ((with_reducible refine gate_builtin (b := .append) (xs := #[.tmp 38, .tmp 40]) rfl ?_); at_builtin; go_loud (refine Kd.R_append (Kd.int .i64) (w0 := w) w.heap.size rfl (.tmp 38) (.tmp 40) 22 3 (.int .i64 0) 8 rfl Tryz.underlying22 info3 rfl (by decide) (by omega) v6 acc v [.int .i64 v] (fun _ => True) (fun _ => False) rfl rfl ?aP (fun _ hk => hk.elim) ?aF ?aO ?aB ?aS ?aL ?_; (case aP => rfl); (case aF => exact fun _ _ => trivial); (case aO => exact Kd.R_below HR.out HB2.out); (case aB => exact below_step HB.out HB2.out); (case aS => exact Nat.le_trans HB.out.size HB2.out.size); (case aL => omega); intro v8 w8 ho8 hb8 hg8 hat8; have HO8 := Aside0.mk ho8; have HB8 := Aside0.mk hb8; clear ho8 hb8 hg8 hat8)))
              refine ⟨⟨k + 1, y, acc ++ [v], by omega, by first | rfl | rw [hy], HYS.out, ?_, by simp; omega, HO8.out, HB8.out⟩, ?_⟩
              · rw [HFN.out, if_pos trivial, HV.out trivial]
                cases foursL (n - (k + 1)) y.data.toList with
                | none => rfl
                | some l => simp
              · have := HYS.out
                (try simp only [hy]); omega
          · obtain rfl : k = n := by omega
            have hxs : x.size = 0 := by omega
            have he : x.toList.isEmpty = true := by
              rw [List.isEmpty_iff, ByteArray.toList_eq]
              exact List.eq_nil_of_length_eq_zero (by rw [data_length]; exact hxs)
            have h := HFF.out
            rw [Nat.sub_self] at h
            simp only [foursL, Option.map_some, List.append_nil] at h
            subst h
            clear HFF HF2
            go_wp2
            go_ret2
            exact ⟨_, acc, rfl, HR.out, (fun ys h => (Option.some.inj h)), HB.out⟩
      · have h4i : ¬ (t.size : Int) % 4 = 0 := by omega
        go_wp2_with (go_at_call 54; refine CP.out.mono ?_; rintro e W1 ⟨rfl, rfl⟩)
        go_ret2
        have h := HF.out
        rw [if_neg (fun h => h4 h.2.2)] at h
        subst h
        exact ⟨_, [], rfl, Kd.R_nil _ _ _ _ _, (fun ys h => by cases h), Below.refl _ _⟩
end Go.Proofs.YtgdlmgdcoedfoaaGreatDoor.Agl
namespace Go.Proofs.YtgdlmgdcoedfoaaGreatDoor.Agl
open Go.RowKit Go.Shelf Go.Proofs.YtgdlmgdcoedfoaaGreatDoorW.PrintWords Go.Proofs.YtgdlmgdcoedfoaaGreatDoorW.PrintLast Go.Proofs.YtgdlmgdcoedfoaaGreatDoorW.PrintMore
set_option linter.unusedVariables false
set_option linter.unusedSimpArgs false

attribute [local go_sem] Oper.semAt_some
theorem indexByte_lt : ∀ (l : List UInt8) (c : UInt8), 0 ≤ Lib.indexByte l c → Lib.indexByte l c < l.length
  | [], _, h => absurd h (by unfold Lib.indexByte; omega)
  | b :: l, c, h => by
    have ih := indexByte_lt l c
    have hg := Lib.indexByte_ge l c
    unfold Lib.indexByte at h ⊢
    rw [List.length_cons]
    by_cases hb : (b == c) = true
    · rw [if_pos hb]; omega
    · rw [if_neg hb] at h ⊢
      by_cases hm : (Lib.indexByte l c == -1) = true
      · rw [if_pos hm] at h; omega
      · rw [if_neg hm] at h ⊢
        have : Lib.indexByte l c ≠ -1 := fun e => hm (by rw [e]; rfl)
        have := ih (by omega)
        omega
/-- The pieces between commas. -/
def pieces : Nat → List UInt8 → List (List UInt8)
  | 0, l => [l]
  | k + 1, l => if Lib.indexByte l 44 < 0 then [l] else l.take (Lib.indexByte l 44).toNat :: pieces k (l.drop ((Lib.indexByte l 44).toNat + 1))
set_option maxHeartbeats 800000 in
set_option maxRecDepth 100000 in
theorem split_in (l bs bp bv : Nat) (s : ByteArray) (J : List (List UInt8) → World → Prop) (hs : s.size ≤ 100000) (hne1 : bs ≠ bp) (hne2 : bs ≠ bv)
    (hJs : ∀ pre W v, J pre W → J pre (W.setCell ⟨bs, 0, none⟩ v))
    (hY : ∀ pre x rest W, J pre W → pre ++ x :: rest = pieces s.size s.data.toList → YieldAt Fence.wide (3 - 1) Tryz.prog l #[.string ⟨x.toArray⟩] W fun e W' => e = .returned (.bool true) ∧ J (pre ++ [x]) W' ∧ ∀ j, j = bs ∨ j = bp ∨ j = bv → W'.heap[j]? = W.heap[j]?)
    (W : World) (hp : W.cell? ⟨bp, 0, none⟩ = some (.string ⟨#[44]⟩)) (hc : W.cell? ⟨bs, 0, none⟩ = some (.string s)) (hv : W.cell? ⟨bv, 0, none⟩ = some (.int .i64 0)) (hf : W.frozen? ⟨bs, 0, none⟩ = false) (h0 : J [] W) :
    CallsIn Fence.wide 3 Tryz.prog 133 #[.func (.yield l) #[] #[], .pointer (some ⟨bp, 0, none⟩), .pointer (some ⟨bs, 0, none⟩), .pointer (some ⟨bv, 0, none⟩)] W fun e W' => (∃ v, e = .returned v) ∧ J (pieces s.size s.data.toList) W' := by
  refine callsIn_of_wp Tryz.func133 rfl trivial ?_ rfl
  simp only [Tryz.ntmps133, List.size_toArray, List.length_cons, List.length_nil, Nat.reduceAdd, Nat.reduceSub, Array.replicate_succ, Array.replicate_zero, List.push_toArray, List.append_toArray, List.nil_append, List.cons_append]
  have h44 : (⟨#[44]⟩ : ByteArray).size = 1 := rfl
  gi_wp2
  clear h44
  gi_loopw [7] (fun _ wr => ∃ (k : Nat) (pre : List (List UInt8)) (x : ByteArray), wr.cell? ⟨bs, 0, none⟩ = some (.string x) ∧ wr.frozen? ⟨bs, 0, none⟩ = false ∧ wr.cell? ⟨bp, 0, none⟩ = some (.string ⟨#[44]⟩) ∧ wr.cell? ⟨bv, 0, none⟩ = some (.int .i64 0) ∧ J pre wr ∧ pre ++ pieces k x.data.toList = pieces s.size s.data.toList ∧ x.size ≤ k ∧ x.size ≤ 100000)
    (fun _ wr => match wr.cell? ⟨bs, 0, none⟩ with | some (.string x) => x.size | _ => 0)
  case atStart => exact ⟨s.size, [], s, hc, hf, hp, hv, h0, rfl, Nat.le_refl _, hs⟩
  case round =>
    obtain ⟨k, pre, x, hc, hf, hp, hv, hJ, hpc, hk, hx⟩ := hrel
    obtain ⟨i, hi⟩ : ∃ i, Lib.indexByte x.data.toList 44 = i := ⟨_, rfl⟩
    have hIx : Calls Tryz.prog 81 #[.string x, .string ⟨#[44]⟩] wr fun e w' => e = .returned (.int .i64 (Lib.indexByte x.data.toList 44)) ∧ wr = w' := (Tryz.strings_Index_one x 44 wr).mono fun e w' h => ⟨h.1, h.2.symm⟩
    rw [hi] at hIx
    have hge := Lib.indexByte_ge x.data.toList 44
    rw [hi] at hge
    by_cases hlt : i < 0
    · have hpk : pieces k x.data.toList = [x.data.toList] := by
        cases k with
        | zero => rfl
        | succ k => simp only [pieces]; rw [hi, if_pos hlt]
      rw [hpk] at hpc
      obtain ⟨fn, tmps, assign, body, hy, hR⟩ := hY pre x.data.toList [] wr hJ hpc
      have hxe : (⟨x.data.toList.toArray⟩ : ByteArray) = x := by simp
      rw [hxe] at hy
      gi_wp2_with (refine ⟨trivial, ?_⟩; gi_at_call 81; refine (callsIn_wide.2 hIx).mono ?_; rintro e w' ⟨rfl, rfl⟩)
      refine hR.mono ?_
      rintro e W3 ⟨rfl, hJ3, hk3⟩
      gi_wp2
      go_end0
      rw [← hpc]
      exact ⟨⟨_, rfl⟩, hJ3⟩
    · obtain ⟨m, rfl⟩ : ∃ m : Nat, i = m := ⟨i.toNat, by omega⟩
      have hml : m < x.data.toList.length := by
        have := indexByte_lt x.data.toList 44 (by rw [hi]; omega)
        rw [hi] at this; omega
      rw [data_length] at hml
      obtain ⟨k, rfl⟩ : ∃ k', k = k' + 1 := ⟨k - 1, by omega⟩
      have hpk : pieces (k + 1) x.data.toList = x.data.toList.take m :: pieces k (x.data.toList.drop (m + 1)) := by
        simp only [pieces]; rw [hi, if_neg (by omega), Int.toNat_natCast]
      rw [hpk] at hpc
      obtain ⟨fn, tmps, assign, body, hy, hR⟩ := hY pre (x.data.toList.take m) _ wr hJ hpc
      obtain ⟨q, hq⟩ : ∃ q, x.extract 0 m = q := ⟨_, rfl⟩
      obtain ⟨y, hyy⟩ : ∃ y, x.extract (m + 1) x.size = y := ⟨_, rfl⟩
      have hqe : (⟨(x.data.toList.take m).toArray⟩ : ByteArray) = q := by
        have h : q.data.toList = x.data.toList.take m := by rw [← hq, Lib.extract_data]; simp
        rw [← h]
      have hyl : y.data.toList = x.data.toList.drop (m + 1) := by
        rw [← hyy, Lib.extract_data, List.take_of_length_le (by rw [List.length_drop, data_length]; omega)]
      have hys : y.size = x.size - (m + 1) := by rw [← data_length, hyl, List.length_drop, data_length]
      rw [hqe] at hy
      have HYL := Aside0.mk hyl; have HYS := Aside0.mk hys; have HPC := Aside0.mk hpc
      clear hqe hyl hys hpk hpc hi hge hJ
      have hm1 : (m : Int) ≤ x.size := by omega
      have hm2 : (m : Int) + 1 ≤ x.size := by omega
      gi_wp2_with (refine ⟨trivial, ?_⟩; gi_at_call 81; refine (callsIn_wide.2 hIx).mono ?_; rintro e w' ⟨rfl, rfl⟩)
      refine hR.mono ?_
      rintro e W3 ⟨rfl, hJ3, hk3⟩
      have hc3 := (World.cell?_of_block (a := ⟨bs, 0, none⟩) (hk3 bs (.inl rfl))).trans hc
      have hf3 := (World.frozen?_of_block (a := ⟨bs, 0, none⟩) (hk3 bs (.inl rfl))).trans hf
      have hp3 := (World.cell?_of_block (a := ⟨bp, 0, none⟩) (hk3 bp (.inr (.inl rfl)))).trans hp
      have hv3 := (World.cell?_of_block (a := ⟨bv, 0, none⟩) (hk3 bv (.inr (.inr rfl)))).trans hv
      have h44 : (⟨#[44]⟩ : ByteArray).size = 1 := rfl
      have HC0 := Aside0.mk hc
      clear hc hf hp hv hk3 hR hy hIx
      gi_wp2
      have hcY : (W3.setCell ⟨bs, 0, none⟩ (.string y)).cell? ⟨bs, 0, none⟩ = some (.string y) := World.cell?_setCell_same' _ _ _ (by rw [hc3]; rfl)
      refine ⟨⟨k, pre ++ [x.data.toList.take m], y, hcY, ?_, ?_, ?_, hJs _ _ _ hJ3, ?_, ?_, ?_⟩, ?_⟩
      · rw [World.frozen?_setCell]; exact hf3
      · rw [World.cell?_of_block (Below.heap_setCell W3 _ _ bp (by show bp ≠ bs; omega))]; exact hp3
      · rw [World.cell?_of_block (Below.heap_setCell W3 _ _ bv (by show bv ≠ bs; omega))]; exact hv3
      · rw [HYL.out, ← HPC.out, List.append_assoc]; rfl
      · have := HYS.out; omega
      · have := HYS.out; omega
      · have := HYS.out
        rw [hcY, HC0.out]
        show y.size < x.size
        omega
end Go.Proofs.YtgdlmgdcoedfoaaGreatDoor.Agl
namespace Go.Proofs.YtgdlmgdcoedfoaaGreatDoor.Agl
open Go.RowKit Go.Shelf Go.Proofs.YtgdlmgdcoedfoaaGreatDoorW.PrintWords Go.Proofs.YtgdlmgdcoedfoaaGreatDoorW.PrintLast Go.Proofs.YtgdlmgdcoedfoaaGreatDoorW.PrintMore
set_option linter.unusedVariables false
set_option linter.unusedSimpArgs false

attribute [local go_sem] Oper.semAt_some
set_option maxHeartbeats 400000 in
set_option maxRecDepth 100000 in
theorem seq101 (s : ByteArray) (W : World) : Calls Tryz.prog 101 #[.string s, .string ⟨#[44]⟩, .int .i64 0] W fun e W' =>
    e = .returned (.func (.func 133) #[] #[.pointer (some ⟨W.heap.size + 1, 0, none⟩), .pointer (some ⟨W.heap.size, 0, none⟩), .pointer (some ⟨W.heap.size + 2, 0, none⟩)]) ∧ ((W.alloc (.cells #[.string s] 9)).alloc (.cells #[.string ⟨#[44]⟩] 9)).alloc (.cells #[.int .i64 0] 3) = W' := by
  go_enter Tryz.func101, Tryz.ntmps101
  go_wp2
  go_ret
  exact ⟨rfl, rfl⟩
set_option maxHeartbeats 400000 in
set_option maxRecDepth 100000 in
theorem seq75 (s : ByteArray) (W : World) : Calls Tryz.prog 75 #[.string s, .string ⟨#[44]⟩] W fun e W' =>
    e = .returned (.func (.func 133) #[] #[.pointer (some ⟨W.heap.size + 1, 0, none⟩), .pointer (some ⟨W.heap.size, 0, none⟩), .pointer (some ⟨W.heap.size + 2, 0, none⟩)]) ∧ ((W.alloc (.cells #[.string s] 9)).alloc (.cells #[.string ⟨#[44]⟩] 9)).alloc (.cells #[.int .i64 0] 3) = W' := by
  go_enter Tryz.func75, Tryz.ntmps75
  go_wp2_with (go_at_call 101; refine (seq101 s W).mono ?_; rintro e W' ⟨rfl, rfl⟩)
  go_ret
  exact ⟨rfl, rfl⟩
theorem far_put {W : World} {l k : Nat} {o : Obj} (h : k ≠ l) : (W.putObj l o).heap[k]? = W.heap[k]? := World.putObj_heap_other h
/-- A range over a function value, no loop around it: the record and the mark are laid, and the value is called. -/
theorem range_plain {P : Program} {g : Operand} {ps : Array Tmp} {assign body : Code} {Q : Exit → Act → World → Prop} {a : Act} {w : World} {n gf : Nat} {lb : Array Value} (h1 : 1 ≤ n) (hg : a.eval g = .func (.func gf) #[] lb)
    (eg : ∀ args w, (callFunc gf args).run P w = .ok (.enter gf args) w)
    (hcall : ∀ (fn : FuncId) (rec : LoopState → Option Code → Loop), (rec = fun st pe => { state := st, pending := pe, fn, tmps := a.tmps, params := ps, assign, body, defers := w.heap.size }) →
      CallsIn Fence.wide (n - 1) P gf (#[.func (.yield (w.heap.size + 1)) #[] #[]] ++ lb) ((w.alloc (.deferred (some []))).alloc (.loop (rec .ready none))) (rangePost Fence.wide n P (w.heap.size + 1) Q { a with defers := [{ target := .collected w.heap.size, args := #[] }] ++ a.defers })) :
    (Code.rangeFunc g ps assign body).wpIn Fence.wide n P Q a w := by
  refine wpIn_rangeFunc ?_
  intro fn _
  obtain ⟨rec, hrec⟩ : ∃ rec : LoopState → Option Code → Loop, rec = fun st pe => { state := st, pending := pe, fn, tmps := a.tmps, params := ps, assign, body, defers := w.heap.size } := ⟨_, rfl⟩
  obtain ⟨W1, hW1⟩ : ∃ W1, (w.alloc (.deferred (some []))).alloc (.loop (rec .ready none)) = W1 := ⟨_, rfl⟩
  refine ⟨w.heap.size + 1, [{ target := .collected w.heap.size, args := #[] }], W1, { target := .fn (.func gf) lb, args := #[.func (.yield (w.heap.size + 1)) #[] #[]] }, W1, gf, #[.func (.yield (w.heap.size + 1)) #[] #[]] ++ lb, W1, ?_, ?_, ?_, ?_, fun _ => h1, ?_⟩
  · rw [← hW1, hrec]; exact run_enterLoop_outer _ _ _ _ _
  · simp only [resolve, hg]
    simp [go_sem]
  · intro f' _; trivial
  · simp [invoke, go_sem, eg]
  · rw [← hW1]; exact hcall fn rec hrec
def pval (l : List UInt8) : Int := hexv (bytesOf ⟨l.toArray⟩)
/-- The state between two rounds. -/
def VI (w : World) (pre : List (List UInt8)) (W : World) : Prop :=
  (∃ v, W.heap[w.heap.size]? = some (.cells #[v] 22 (0, 0)) ∧ W.ownsRow (w.heap.size + 6) 3 1 v (pre.map pval).length (encs (Value.int .i64) (pre.map pval))) ∧ Below w.heap.size w W ∧ w.heap.size + 6 ≤ W.heap.size
theorem VI.move {w : World} {pre : List (List UInt8)} {W W' : World} (h : VI w pre W) (hm : ∀ k, k = w.heap.size ∨ w.heap.size + 5 < k → W'.heap[k]? = W.heap[k]?) (hb : Below w.heap.size w W') (hs : w.heap.size + 6 ≤ W'.heap.size) : VI w pre W' := by
  obtain ⟨⟨v, h1, h2⟩, _, _⟩ := h
  exact ⟨⟨v, (hm _ (.inl rfl)).trans h1, own_move h2 (fun k hk => hm k (.inr (by have := own_base h2 k hk; omega)))⟩, hb, hs⟩
/-- A block of the loop's own turns. -/
theorem VI.put {w : World} {pre : List (List UInt8)} {W : World} (h : VI w pre W) (l : Nat) (o : Obj) (h0 : w.heap.size < l) (h5 : l ≤ w.heap.size + 5) : VI w pre (W.putObj l o) :=
  h.move (fun k hk => World.putObj_heap_other (by omega)) (h.2.1.grown (grownBy_putObj' W l o) (by have := h.2.2; omega) (fun k e => by cases e; omega)) (by rw [World.putObj_size]; exact h.2.2)
theorem VI.set {w : World} {pre : List (List UInt8)} {W : World} (h : VI w pre W) (b : Nat) (u : Value) (h0 : w.heap.size < b) (h5 : b ≤ w.heap.size + 5) : VI w pre (W.setCell ⟨b, 0, none⟩ u) :=
  h.move (fun k hk => Below.heap_setCell W _ _ k (by show k ≠ b; omega)) (Below.setCell h.2.1 (p := ⟨b, 0, none⟩) (show w.heap.size ≤ b by omega) u) (by rw [show (W.setCell ⟨b, 0, none⟩ u).heap.size = W.heap.size by simp [World.setCell]]; exact h.2.2)
theorem below_put {n₀ : Nat} {w W : World} (h : Below n₀ w W) {l : Nat} {o : Obj} (hl : n₀ ≤ l) (hsz : n₀ ≤ W.heap.size) : Below n₀ w (W.putObj l o) :=
  h.grown (grownBy_putObj' W l o) hsz (fun k e => by cases e; exact hl)
theorem pieces_len : ∀ (k : Nat) (l : List UInt8), (pieces k l).length ≤ k + 1
  | 0, _ => by simp [pieces]
  | k + 1, l => by
    simp only [pieces]
    split
    · simp
    · rw [List.length_cons]
      have := pieces_len k (l.drop ((Lib.indexByte l 44).toNat + 1))
      omega
theorem own_row_slice {W : World} {base e sz : Nat} {v : Value} {n : Nat} {zs : List Value} (h : W.ownsRow base e sz v n zs) : ∃ A c, v = .slice A n c := by
  rcases h.2 with ⟨rfl, rfl⟩ | ⟨g, cap, cur, rfl, _⟩
  · exact ⟨_, _, rfl⟩
  · exact ⟨_, _, rfl⟩
def valuesL (s : ByteArray) : List Int := (pieces s.size s.data.toList).map pval
set_option maxHeartbeats 800000 in
set_option maxRecDepth 100000 in
theorem values50 (s : ByteArray) (w : World) (hs : s.size ≤ 100000) (hx : ∀ p ∈ pieces s.size s.data.toList, 1 ≤ p.length ∧ p.length ≤ 7 ∧ hexAll p = true) :
    Calls Tryz.prog 50 #[.string s] w fun e W' => ∃ v : Value, e = .returned v ∧ Kd.R (Kd.int .i64) 3 W' w.heap.size (fun _ => True) v (valuesL s) ∧ Below w.heap.size w W' := by
  have HX := Aside0.mk hx
  clear hx
  refine (callsIn_wide (n := 6)).1 ?_
  refine callsIn_of_wp_marks Tryz.func50 rfl trivial ?_ rfl
  simp only [Tryz.ntmps50, List.size_toArray, List.length_cons, List.length_nil, Nat.reduceAdd, Nat.reduceSub, Array.replicate_succ, Array.replicate_zero, List.push_toArray, List.append_toArray, List.nil_append, List.cons_append]
  gi_wp2_with (refine ⟨trivial, ?_⟩; gi_at_call 75; refine (callsIn_wide.2 (seq75 s _)).mono ?_; rintro e w' ⟨rfl, rfl⟩)
  obtain ⟨w1, hw1⟩ : ∃ w1, (((w.alloc (.cells #[.slice none 0 0] 22)).alloc (.cells #[.string s] 9)).alloc (.cells #[.string ⟨#[44]⟩] 9)).alloc (.cells #[.int .i64 0] 3) = w1 := ⟨_, rfl⟩
  have e1 : (w.alloc (.cells #[.slice none 0 0] 22)).heap.size = w.heap.size + 1 := World.size_alloc _ _
  have e2 : ((w.alloc (.cells #[.slice none 0 0] 22)).alloc (.cells #[.string s] 9)).heap.size = w.heap.size + 2 := by rw [World.size_alloc, e1]
  have e3 : (((w.alloc (.cells #[.slice none 0 0] 22)).alloc (.cells #[.string s] 9)).alloc (.cells #[.string ⟨#[44]⟩] 9)).heap.size = w.heap.size + 3 := by rw [World.size_alloc, e2]
  have hs1 : w1.heap.size = w.heap.size + 4 := by rw [← hw1, World.size_alloc, e3]
  have hO : w1.heap[w.heap.size]? = some (.cells #[.slice none 0 0] 22 (0, 0)) := by
    rw [← hw1, Below.heap_alloc _ _ _ (by omega), Below.heap_alloc _ _ _ (by omega), Below.heap_alloc _ _ _ (by omega)]; exact World.alloc_heap_new _ _
  have hS : w1.heap[w.heap.size + 1]? = some (.cells #[.string s] 9 (0, 0)) := by
    rw [← hw1, Below.heap_alloc _ _ _ (by omega), Below.heap_alloc _ _ _ (by omega), ← e1]; exact World.alloc_heap_new _ _
  have hP : w1.heap[w.heap.size + 2]? = some (.cells #[.string ⟨#[44]⟩] 9 (0, 0)) := by
    rw [← hw1, Below.heap_alloc _ _ _ (by omega), ← e2]; exact World.alloc_heap_new _ _
  have hV : w1.heap[w.heap.size + 3]? = some (.cells #[.int .i64 0] 3 (0, 0)) := by
    rw [← hw1, ← e3]; exact World.alloc_heap_new _ _
  have hB1 : Below w.heap.size w w1 := by
    rw [← hw1]
    exact (((Below.alloc (Below.refl _ _) (Nat.le_refl _) _).alloc (by omega) _).alloc (by omega) _).alloc (by omega) _
  rw [hw1]
  simp only [Nat.add_assoc, Nat.reduceAdd]
  clear hw1 e1 e2 e3
  refine range_plain (n := 6) (by omega) rfl (enters_of Tryz.func133 (by kernel_rfl) rfl) ?_
  intro fn rec hrec
  obtain ⟨W1, hW1⟩ : ∃ W1, (w1.alloc (.deferred (some []))).alloc (.loop (rec .ready none)) = W1 := ⟨_, rfl⟩
  have e1 : (w1.alloc (.deferred (some []))).heap.size = w.heap.size + 5 := by rw [World.size_alloc, hs1]
  have hs2 : W1.heap.size = w.heap.size + 6 := by rw [← hW1, World.size_alloc, e1]
  have hold : ∀ k, k < w.heap.size + 4 → W1.heap[k]? = w1.heap[k]? := fun k hk => by rw [← hW1, Below.heap_alloc _ _ _ (by omega), Below.heap_alloc _ _ _ (by omega)]
  have hD : W1.heap[w.heap.size + 4]? = some (.deferred (some [])) := by rw [← hW1, Below.heap_alloc _ _ _ (by omega), ← hs1]; exact World.alloc_heap_new _ _
  have hL : W1.heap[w.heap.size + 5]? = some (.loop (rec .ready none)) := by rw [← hW1, ← e1]; exact World.alloc_heap_new _ _
  have hB2 : Below w.heap.size w W1 := by rw [← hW1]; exact (hB1.alloc (by omega) _).alloc (by omega) _
  have hO := (hold _ (by omega)).trans hO
  have hS := (hold _ (by omega)).trans hS
  have hP := (hold _ (by omega)).trans hP
  have hV := (hold _ (by omega)).trans hV
  rw [hs1, hW1]
  clear hW1 e1 hold hB1 hs1
  have hone : ∀ {b T : Nat} {v : Value}, W1.heap[b]? = some (.cells #[v] T (0, 0)) → W1.cell? ⟨b, 0, none⟩ = some v ∧ W1.frozen? ⟨b, 0, none⟩ = false := fun h => ⟨by simp [World.cell?, h], by simp [World.frozen?, h]⟩
  refine callsIn_wide.2 ((callsIn_wide (n := 3)).1 ((split_in (w.heap.size + 5) (w.heap.size + 1) (w.heap.size + 2) (w.heap.size + 3) s
    (fun pre W => VI w pre W ∧ W.heap[w.heap.size + 5]? = some (.loop (rec .ready none)) ∧ W.heap[w.heap.size + 4]? = some (.deferred (some [])))
    hs (by omega) (by omega) ?hJs ?hY W1 (hone hP).1 (hone hS).1 (hone hV).1 (hone hS).2 ⟨⟨⟨_, hO, World.ownsRow_nil _ _ _ _⟩, hB2, by omega⟩, hL, hD⟩).mono ?done))
  case hJs =>
    rintro pre W v ⟨h1, h2, h3⟩
    exact ⟨h1.set _ v (by omega) (by omega), (Below.heap_setCell W _ _ _ (by show w.heap.size + 5 ≠ w.heap.size + 1; omega)).trans h2, (Below.heap_setCell W _ _ _ (by show w.heap.size + 4 ≠ w.heap.size + 1; omega)).trans h3⟩
  case hY =>
    rintro pre x rest W ⟨hI, hl, hd⟩ hpc
    have hy := run_yield (P := Tryz.prog) (args := #[.string ⟨x.toArray⟩]) hl (by rw [hrec]; rfl)
    have hbg := run_beginRound (P := Tryz.prog) hl (by rw [hrec])
    have hre : ({ rec .ready none with state := .ready, pending := none } : Loop) = rec .ready none := by rw [hrec]
    have HRE := Aside0.mk hre
    have HBG := Aside0.mk hbg
    simp only [hrec] at hy
    refine ⟨fn, _, _, _, hy, roundIn_of_wpIn trivial ?_⟩
    clear hre hrec hbg
    have hx := HX.out x (by rw [← hpc]; simp)
    have hplen : (pre.map pval).length ≤ 100001 := by
      have h1 := congrArg List.length hpc
      have h2 := pieces_len s.size s.data.toList
      rw [List.length_append, List.length_cons] at h1
      rw [List.length_map]; omega
    obtain ⟨xs, hxs⟩ : ∃ xs : ByteArray, (⟨x.toArray⟩ : ByteArray) = xs := ⟨_, rfl⟩
    have hxl : xs.data.toList = x := by rw [← hxs]
    have hxz : xs.size = x.length := by rw [← data_length, hxl]
    have PA := Aside0.mk (fun W => parse16 xs W (by omega) (by omega) (hexAll_U (by rw [hxl]; exact hx.2.2)))
    have hpv : pval x = hexv (bytesOf xs) := by unfold pval; rw [hxs]
    rw [← hpv] at PA
    obtain ⟨z, hz⟩ : ∃ z, pval x = z := ⟨_, rfl⟩
    rw [hz] at PA
    have HZ := Aside0.mk hz
    rw [hxs]
    clear hpv hz hxs hxl hxz hx hy
    gi_wp2
    refine ⟨_, HBG.out, ?_⟩
    have hI2 := hI.put (w.heap.size + 5) (.loop { rec .ready none with state := .busy }) (by omega) (by omega)
    have hl2 : (W.putObj (w.heap.size + 5) (.loop { rec .ready none with state := .busy })).heap[w.heap.size + 5]? = some (.loop { rec .ready none with state := .busy }) := World.putObj_heap_same (by have := hI.2.2; omega)
    have hd2 := (far_put (W := W) (l := w.heap.size + 5) (o := .loop { rec .ready none with state := .busy }) (k := w.heap.size + 4) (by omega)).trans hd
    have hold2 : ∀ k, k < w.heap.size + 4 → (W.putObj (w.heap.size + 5) (.loop { rec .ready none with state := .busy })).heap[k]? = W.heap[k]? := fun k hk => far_put (by omega)
    obtain ⟨W2, hW2⟩ : ∃ W2, W.putObj (w.heap.size + 5) (.loop { rec .ready none with state := .busy }) = W2 := ⟨_, rfl⟩
    rw [hW2] at hI2 hl2 hd2 hold2 ⊢
    obtain ⟨⟨v, hO2, hR2⟩, hB2, hs2⟩ := hI2
    obtain ⟨ys, hys⟩ : ∃ ys, pre.map pval = ys := ⟨_, rfl⟩
    rw [hys] at hR2 hplen
    have HYS := Aside0.mk hys
    have c2 : W2.cell? ⟨w.heap.size, 0, none⟩ = some v := by simp [World.cell?, hO2]
    obtain ⟨i0, hi, hz0, hz1, hz2⟩ := info_parts info3
    have HR2 := Aside0.mk hR2; have HB2 := Aside0.mk hB2; have HO2 := Aside0.mk hO2; have HL2 := Aside0.mk hl2; have HD2 := Aside0.mk hd2; have HOLD := Aside0.mk hold2
    have HI0 := Aside0.mk (And.intro hi (And.intro hz0 (And.intro hz1 hz2)))
    clear hW2 HBG hI hl hd hys hR2 hB2 hO2 hl2 hd2 hold2 hi hz0 hz1 hz2
    gi_wp2_with (first
      | (refine ⟨trivial, ?_⟩; gi_at_call 76; refine (CallsIn.inRound (w.heap.size + 5) (callsIn_wide.2 (PA.out W2))).mono ?_; rintro e W3 ⟨rfl, hb3⟩; have hO3 := (hb3.block w.heap.size (by omega)).trans HO2.out; have c3 : W3.cell? ⟨w.heap.size, 0, none⟩ = some v := (by simp [World.cell?, hO3]); have hs3 := hb3.size; have HB3 := Aside0.mk hb3; have HO3 := Aside0.mk hO3; have hR3 := own_move HR2.out (fun k hk => hb3.block k (own_lt HR2.out k hk)); obtain ⟨Av, cv, rfl⟩ := own_row_slice hR3; have HR3 := Aside0.mk hR3; clear hb3 hO3 hR3)
      | (gi_at_builtin; go_loud (refine wpListIn_append_own _ rfl _ _ 22 rfl (w.heap.size + 6) 3 i0 (.int .i64 0) 1 8 Tryz.underlying22 HI0.out.1 HI0.out.2.1 HI0.out.2.2.1 HI0.out.2.2.2 rfl (by decide) _ _ _ rfl (HR3.out.alloc _) ⟨W3.heap.size, 0, none⟩ 1 1 [.int .i64 z] rfl rfl (cell_one_new _ _ _) (by simp [Value.oneCell']) (by unfold maxLen; omega) (by omega) (by rw [World.size_alloc]; omega) ?_; intro v' w4 hown' hgrow _; obtain ⟨g', cap', rfl⟩ := ownsRow_succ hown'; have hO4 := hgrow.block w.heap.size (by rw [World.size_alloc]; omega) (fun e => by have := own_base HR3.out _ e.symm; omega); have hO5 := hO4.trans ((Below.heap_alloc W3 _ _ (by omega)).trans HO3.out); have c4 : w4.cell? ⟨w.heap.size, 0, none⟩ = some _ := (by simp [World.cell?, hO5]; rfl); have f4 : w4.frozen? ⟨w.heap.size, 0, none⟩ = false := (by simp [World.frozen?, hO5]); have HOW := Aside0.mk hown'; have HG4 := Aside0.mk hgrow; have HO5 := Aside0.mk hO5; clear hown' hgrow hO4 hO5)))
    obtain ⟨W5, hW5⟩ : ∃ W5, w4.setCell ⟨w.heap.size, 0, none⟩ (.slice (some ⟨g', 0, none⟩) (ys.length + 1) cap') = W5 := ⟨_, rfl⟩
    have hsz4 := HG4.out.size
    rw [World.size_alloc] at hsz4
    have hsz5 : W5.heap.size = w4.heap.size := by rw [← hW5]; simp [World.setCell]
    have hkeep : ∀ k, w.heap.size < k → k ≤ w.heap.size + 5 → W5.heap[k]? = W2.heap[k]? := fun k h1 h2 => by
      rw [← hW5, Below.heap_setCell w4 _ _ k (by show k ≠ w.heap.size; omega), HG4.out.block k (by rw [World.size_alloc]; omega) (fun e => by have := own_base HR3.out k e.symm; omega), Below.heap_alloc W3 _ k (by omega)]
      exact HB3.out.block k (by omega)
    have hl5 := (hkeep (w.heap.size + 5) (by omega) (by omega)).trans HL2.out
    have hd5 := (hkeep (w.heap.size + 4) (by omega) (by omega)).trans HD2.out
    have hend := run_endRound (P := Tryz.prog) none hl5
    have hB5 : Below w.heap.size w W5 := by
      rw [← hW5]
      refine Below.setCell ?_ (p := ⟨w.heap.size, 0, none⟩) (Nat.le_refl _) _
      exact (Below.alloc (HB2.out.trans (HB3.out.mono (by omega))) (by omega) _).grown HG4.out (by rw [World.size_alloc]; omega) (fun k e => by have := own_base HR3.out k e; omega)
    have hVI : VI w (pre ++ [x]) W5 := by
      refine ⟨⟨.slice (some ⟨g', 0, none⟩) (ys.length + 1) cap', ?_, ?_⟩, hB5, by omega⟩
      · rw [← hW5]; simp [World.setCell, Array.getElem?_modify, HO5.out]
      · rw [List.map_append, HYS.out, List.map_cons, List.map_nil, HZ.out]
        have e : (ys ++ [z]).length = ys.length + 1 := by simp
        have e2 : encs (Value.int .i64) ys ++ [.int .i64 z] = encs (Value.int .i64) (ys ++ [z]) := by simp [encs]
        rw [e, ← e2]
        have h := HOW.out
        refine own_move h (fun k hk => ?_)
        rw [← hW5]
        exact Below.heap_setCell w4 _ _ k (by show k ≠ w.heap.size; have := own_base h k hk; omega)
    rw [hW5]
    refine ⟨_, _, hend, rfl, ⟨hVI.put _ _ (by omega) (by omega), ?_, (far_put (by omega)).trans hd5⟩, ?_⟩
    · rw [World.putObj_heap_same (by omega)]
      exact congrArg (fun r => some (Obj.loop r)) HRE.out
    · have hh : ∀ k, w.heap.size < k → k < w.heap.size + 4 → W5.heap[k]? = W.heap[k]? := fun k h1 h2 => (hkeep k h1 (by omega)).trans (HOLD.out k h2)
      exact ⟨(far_put (by omega)).trans (hh _ (by omega) (by omega)), (far_put (by omega)).trans (hh _ (by omega) (by omega)), (far_put (by omega)).trans (hh _ (by omega) (by omega))⟩
  case done =>
    rintro e W ⟨⟨v, rfl⟩, hI, hl, hd⟩
    have hend := run_endLoop (P := Tryz.prog) hl (by rw [hrec]; simp)
    have hpn : (rec .ready none).pending = none := by rw [hrec]
    obtain ⟨o, ho⟩ : ∃ o : Obj, Obj.loop { rec .ready none with state := .exhausted } = o := ⟨_, rfl⟩
    have hend2 : (Instr.endLoop (w.heap.size + 5)).run Tryz.prog W = .ok none (W.putObj (w.heap.size + 5) o) := by rw [hend, ← ho]; simp only [hpn]
    have hd2 := (far_put (W := W) (l := w.heap.size + 5) (o := o) (k := w.heap.size + 4) (by omega)).trans hd
    obtain ⟨⟨u, hO2, hR2⟩, hB2, hs2⟩ := hI.put (w.heap.size + 5) o (by omega) (by omega)
    refine ⟨none, _, hend2, ?_⟩
    obtain ⟨W4, hW4⟩ : ∃ W4, W.putObj (w.heap.size + 5) o = W4 := ⟨_, rfl⟩
    rw [hW4] at hd2 hO2 hR2 hB2 hs2 ⊢
    have c2 : W4.cell? ⟨w.heap.size, 0, none⟩ = some u := by simp [World.cell?, hO2]
    have HD := Aside0.mk hd2; have HR2 := Aside0.mk hR2; have HB2 := Aside0.mk hB2
    clear hend hend2 ho hpn hW4 hl hd hI hd2 hR2 hB2 hO2
    gi_wp2
    refine ⟨by simp, .inl ⟨_, _, rfl, run_takeDeferred HD.out, ?_⟩⟩
    refine ⟨_, results_tmp rfl _ _ _, u, rfl, ?_, ?_⟩
    · have h := Kd.R_lower (base' := w.heap.size) (Kd.R_of_own (ok := fun k => w.heap.size + 5 < k) (h1 := fun _ => rfl) HR2.out (fun k hk => by have := own_base HR2.out k hk; omega)) (by omega)
      exact Kd.R_mono (Kd.R_move h (fun k hk => far_put (by omega))) (fun _ _ => trivial)
    · exact below_put HB2.out (by omega) (by omega)
end Go.Proofs.YtgdlmgdcoedfoaaGreatDoor.Agl
