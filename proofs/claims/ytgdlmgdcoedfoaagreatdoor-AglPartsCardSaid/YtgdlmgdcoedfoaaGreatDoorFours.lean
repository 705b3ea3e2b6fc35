/- The ways of agl.part: fours. -/
import Derived.Test.YtgdlmgdcoedfoaaGreatDoorPart
namespace Go.Proofs.YtgdlmgdcoedfoaaGreatDoor.Agl
open Go.RowKit Go.Proofs.YtgdlmgdcoedfoaaGreatDoorW.PrintWords Go.Proofs.YtgdlmgdcoedfoaaGreatDoorW.PrintLast Go.Proofs.YtgdlmgdcoedfoaaGreatDoorW.PrintMore
set_option linter.unusedVariables false
set_option linter.unusedSimpArgs false

theorem info3 : (Tryz.prog.info? 3).map (fun i => (i.zero, i.size, i.bytes)) = some (some (.int .i64 0), 1, 8) := by kernel_rfl
/-- n groups of four digits: their values, if each may be. -/
def foursL : Nat → List UInt8 → Option (List Int)
  | 0, _ => some []
  | n + 1, l => if numB ⟨(l.take 4).toArray⟩ = true then (foursL n (l.drop 4)).map (hexv (bytesOf ⟨(l.take 4).toArray⟩) :: ·) else none
def tailUni (s : ByteArray) : ByteArray := ⟨(Lib.trimPrefix s.data.toList [117, 110, 105]).toArray⟩
def foursR (s : ByteArray) : Option (List Int) :=
  if Lib.hasPrefix s.data.toList [117, 110, 105] = true ∧ (tailUni s).size ≠ 0 ∧ (tailUni s).size % 4 = 0 then foursL ((tailUni s).size / 4) (tailUni s).data.toList else none
set_option maxHeartbeats 400000 in
set_option maxRecDepth 100000 in
theorem fours33 (s : ByteArray) (w : World) (hs : s.size ≤ 100000) :
    Calls Tryz.prog 33 #[.string s] w fun e W' => ∃ (v : Value) (xs : List Int), e = .returned (.tuple #[v, .bool (foursR s).isSome]) ∧ Kd.R (Kd.int .i64) 3 W' w.heap.size (fun _ => True) v xs ∧ (∀ ys, foursR s = some ys → xs = ys) ∧ Below w.heap.size w W' := by
  have CP := Aside0.mk (cutp54 s ⟨#[117, 110, 105]⟩ w)
  have hts : (tailUni s).size ≤ s.size := by
    unfold tailUni
    rw [← data_length, ← data_length]
    unfold Lib.trimPrefix
    split <;> simp
  obtain ⟨t, ht⟩ : ∃ t, tailUni s = t := ⟨_, rfl⟩
  rw [ht] at hts
  have ht2 : (⟨(Lib.trimPrefix s.data.toList [117, 110, 105]).toArray⟩ : ByteArray) = t := ht
  have hF : foursR s = if Lib.hasPrefix s.data.toList [117, 110, 105] = true ∧ t.size ≠ 0 ∧ t.size % 4 = 0 then foursL (t.size / 4) t.data.toList else none := by rw [← ht]; rfl
  rw [show (⟨#[117, 110, 105]⟩ : ByteArray).data.toList = [117, 110, 105] from rfl, ht2] at CP
  obtain ⟨F, hFF⟩ : ∃ F, foursR s = F := ⟨_, rfl⟩
  rw [hFF]
  rw [hFF] at hF
  obtain ⟨p, hp⟩ : ∃ p, Lib.hasPrefix s.data.toList [117, 110, 105] = p := ⟨_, rfl⟩
  rw [hp] at CP hF
  have HF := Aside0.mk hF
  clear hp hF hFF ht2 ht
  go_enter Tryz.func33, Tryz.ntmps33
  cases p with
  | false =>
    go_wp2_with (go_at_call 54; refine CP.out.mono ?_; rintro e W1 ⟨rfl, rfl⟩)
    go_ret2
    have h := HF.out
    rw [if_neg (by simp)] at h
    subst h
    exact ⟨_, [], rfl, Kd.R_nil _ _ _ _ _, (fun ys h => by cases h), Below.refl _ _⟩
  | true =>
    by_cases h0 : t.size = 0
    · have he : t.toList.isEmpty = true := by
        rw [List.isEmpty_iff, ByteArray.toList_eq]
        exact List.eq_nil_of_length_eq_zero (by rw [data_length]; exact h0)
      go_wp2_with (go_at_call 54; refine CP.out.mono ?_; rintro e W1 ⟨rfl, rfl⟩)
      go_ret2
      have h := HF.out
      rw [if_neg (fun h => h.2.1 h0)] at h
      subst h
      exact ⟨_, [], rfl, Kd.R_nil _ _ _ _ _, (fun ys h => by cases h), Below.refl _ _⟩
    · have he : t.toList.isEmpty = false := by
        rw [List.isEmpty_eq_false_iff, ByteArray.toList_eq]
        intro h
        exact h0 (by rw [← data_length, h]; rfl)
      by_cases h4 : t.size % 4 = 0
      · have h4i : (t.size : Int) % 4 = 0 := by omega
        have h := HF.out
        rw [if_pos ⟨rfl, h0, h4⟩] at h
        have HF2 := Aside0.mk h
        clear h HF h0 h4
        have h4n : t.size % 4 = 0 := by omega
        obtain ⟨n, hn⟩ : ∃ n, t.size = 4 * n := ⟨t.size / 4, by omega⟩
        have hn2 : t.size / 4 = n := by omega
        rw [hn2] at HF2
        have hn3 : n ≤ 30000 := by omega
        have HN := Aside0.mk hn
        go_wp2_with (go_at_call 54; refine CP.out.mono ?_; rintro e W1 ⟨rfl, rfl⟩)
        clear hn2 hn h4n h4i he CP
        go_loopw [4, 6] (fun z o wr => ∃ (k : Nat) (x : ByteArray) (acc : List Int), k ≤ n ∧ z = .string x ∧ x.size = 4 * (n - k) ∧ F = (foursL (n - k) x.data.toList).map (acc ++ ·) ∧ acc.length = k ∧ Kd.R (Kd.int .i64) 3 wr w.heap.size (fun _ => True) o acc ∧ Below w.heap.size w wr) (fun z _ _ => match z with | .string x => x.size | _ => 0)
        case atStart => exact ⟨0, t, [], Nat.zero_le _, rfl, HN.out, by rw [HF2.out]; simp, rfl, Kd.R_nil _ _ _ _ _, Below.refl _ _⟩
        case round =>
          obtain ⟨k, x, acc, hk, rfl, hx, hFF, hal, hR, hB⟩ := hrel
          obtain ⟨v6, hv6⟩ : ∃ v6, u6 = v6 := ⟨_, rfl⟩
          rw [hv6] at hR ⊢
          have HFF := Aside0.mk hFF; have HR := Aside0.mk hR; have HB := Aside0.mk hB
          clear hFF hR hB
          by_cases hlt : k < n
          · have he : x.toList.isEmpty = false := by
              rw [List.isEmpty_eq_false_iff, ByteArray.toList_eq]
              intro h
              have := data_length x
              rw [h] at this; simp at this; omega
            have hx4 : 4 ≤ x.size := by omega
            have hx5 : (4 : Int) ≤ x.size := by omega
            obtain ⟨q, hq⟩ : ∃ q, x.extract 0 4 = q := ⟨_, rfl⟩
            obtain ⟨y, hy⟩ : ∃ y, x.extract 4 (4 * (n - k)) = y := ⟨_, rfl⟩
            have hql : q.data.toList = x.data.toList.take 4 := by rw [← hq, Lib.extract_data]; simp
            have hyl : y.data.toList = x.data.toList.drop 4 := by
              rw [← hy, Lib.extract_data]
              rw [List.take_of_length_le (by rw [List.length_drop, data_length]; omega)]
            have hqs : q.size = 4 := by rw [← data_length, hql, List.length_take, data_length]; omega
            have hys : y.size = 4 * (n - (k + 1)) := by rw [← data_length, hyl, List.length_drop, data_length]; omega
            have hqe : (⟨(x.data.toList.take 4).toArray⟩ : ByteArray) = q := by
              rw [← hql]
            have hFF := HFF.out
            rw [show n - k = (n - (k + 1)) + 1 by omega] at hFF
            simp only [foursL] at hFF
            rw [hqe, ← hyl] at hFF
            have NU := Aside0.mk (fun W => number55 q W (by omega) (by omega))
            have hv : numB q = true → numV q = hexv (bytesOf q) := fun h => by
              unfold numB at h; rw [Bool.and_eq_true] at h
              unfold numV; rw [if_pos h.1]
            obtain ⟨b, hb⟩ : ∃ b, numB q = b := ⟨_, rfl⟩
            obtain ⟨v, hvv⟩ : ∃ v, numV q = v := ⟨_, rfl⟩
            rw [hb, hvv] at NU hv
            rw [hb] at hFF
            have HFN := Aside0.mk hFF; have HV := Aside0.mk hv
            clear HFF hFF hv hb hvv hqe hql hyl
            have HYS := Aside0.mk hys
            clear hys
            cases b with
            | false =>
              have h := HFN.out
              rw [if_neg (by decide)] at h
              go_wp2_with (go_at_call 55; refine (NU.out wr).mono ?_; rintro e W2 ⟨rfl, hb⟩; have HB2 := Aside0.mk hb; clear hb)
              go_ret2
              subst h
              exact ⟨_, [], rfl, Kd.R_nil _ _ _ _ _, (fun ys h => by cases h), below_step HB.out HB2.out⟩
            | true =>
              go_wp2_with (first
                | (go_at_call 55; refine (NU.out wr).mono ?_; rintro e W2 ⟨rfl, hb⟩; have HB2 := Aside0.mk hb; clear hb)
                | ((with_reducible refine gate_builtin (b := .append) (xs := #[.tmp 38, .tmp 40]) rfl ?_); at_builtin; go_loud (refine Kd.R_append (Kd.int .i64) (w0 := w) w.heap.size rfl (.tmp 38) (.tmp 40) 22 3 (.int .i64 0) 8 rfl Tryz.underlying22 info3 rfl (by decide) (by omega) v6 acc v [.int .i64 v] (fun _ => True) (fun _ => False) rfl rfl ?aP (fun _ hk => hk.elim) ?aF ?aO ?aB ?aS ?aL ?_; (case aP => rfl); (case aF => exact fun _ _ => trivial); (case aO => exact Kd.R_below HR.out HB2.out); (case aB => exact below_step HB.out HB2.out); (case aS => exact Nat.le_trans HB.out.size HB2.out.size); (case aL => omega); intro v8 w8 ho8 hb8 hg8 hat8; have HO8 := Aside0.mk ho8; have HB8 := Aside0.mk hb8; clear ho8 hb8 hg8 hat8)))
              refine ⟨⟨k + 1, y, acc ++ [v], by omega, by first | rfl | rw [hy], HYS.out, ?_, by simp; omega, HO8.out, HB8.out⟩, ?_⟩
              · rw [HFN.out, if_pos trivial, HV.out trivial]
                cases foursL (n - (k + 1)) y.data.toList with
                | none => rfl
                | some l => simp
              · have := HYS.out
                (try simp only [hy]); omega
          · obtain rfl : k = n := by omega
            have hxs : x.size = 0 := by omega
            have he : x.toList.isEmpty = true := by
              rw [List.isEmpty_iff, ByteArray.toList_eq]
              exact List.eq_nil_of_length_eq_zero (by rw [data_length]; exact hxs)
            have h := HFF.out
            rw [Nat.sub_self] at h
            simp only [foursL, Option.map_some, List.append_nil] at h
            subst h
            clear HFF HF2
            go_wp2
            go_ret2
            exact ⟨_, acc, rfl, HR.out, (fun ys h => (Option.some.inj h)), HB.out⟩
      · have h4i : ¬ (t.size : Int) % 4 = 0 := by omega
        go_wp2_with (go_at_call 54; refine CP.out.mono ?_; rintro e W1 ⟨rfl, rfl⟩)
        go_ret2
        have h := HF.out
        rw [if_neg (fun h => h4 h.2.2)] at h
        subst h
        exact ⟨_, [], rfl, Kd.R_nil _ _ _ _ _, (fun ys h => by cases h), Below.refl _ _⟩
end Go.Proofs.YtgdlmgdcoedfoaaGreatDoor.Agl
