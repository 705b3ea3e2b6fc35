/- The ways of agl.part: one, fours. -/
import Derived.Test.YtgdlmgdcoedfoaaGreatDoorNumber
import Derived.Test.YtgdlmgdcoedfoaaGreatDoorConcat
import Derived.Test.YtgdlmgdcoedfoaaGreatDoorWRepsOne
namespace Go.Proofs.YtgdlmgdcoedfoaaGreatDoor.Agl
open Go.RowKit Go.Proofs.YtgdlmgdcoedfoaaGreatDoorW.PrintWords Go.Proofs.YtgdlmgdcoedfoaaGreatDoorW.PrintLast Go.Proofs.YtgdlmgdcoedfoaaGreatDoorW.PrintMore
set_option linter.unusedVariables false
set_option linter.unusedSimpArgs false

theorem cutp54 (s p : ByteArray) (w : World) : Calls Tryz.prog 54 #[.string s, .string p] w fun e w' =>
    e = .returned (.tuple #[.string ⟨(Lib.trimPrefix s.data.toList p.data.toList).toArray⟩, .bool (Lib.hasPrefix s.data.toList p.data.toList)]) ∧ w = w' :=
  (Tryz.strings_CutPrefix s p w).mono fun e w' h => ⟨h.1, h.2.symm⟩
/-- What stands behind "u", if it does. -/
def tailU (s : ByteArray) : ByteArray := ⟨(Lib.trimPrefix s.data.toList [117]).toArray⟩
def oneB (s : ByteArray) : Bool := Lib.hasPrefix s.data.toList [117] && (decide (4 ≤ (tailU s).size) && (decide ((tailU s).size ≤ 6) && numB (tailU s)))
set_option maxHeartbeats 400000 in
set_option maxRecDepth 100000 in
theorem one34 (s : ByteArray) (w : World) :
    Calls Tryz.prog 34 #[.string s] w fun e W' => ∃ (v : Value) (xs : List Int), e = .returned (.tuple #[v, .bool (oneB s)]) ∧ Kd.R (Kd.int .i64) 3 W' w.heap.size (fun _ => True) v xs ∧ (oneB s = true → xs = [hexv (bytesOf (tailU s))]) ∧ Below w.heap.size w W' := by
  have CP := Aside0.mk (cutp54 s ⟨#[117]⟩ w)
  obtain ⟨t, ht⟩ : ∃ t, tailU s = t := ⟨_, rfl⟩
  have ht2 : (⟨(Lib.trimPrefix s.data.toList [117]).toArray⟩ : ByteArray) = t := ht
  have hone : oneB s = (Lib.hasPrefix s.data.toList [117] && (decide (4 ≤ t.size) && (decide (t.size ≤ 6) && numB t))) := by rw [← ht]; rfl
  rw [show (⟨#[117]⟩ : ByteArray).data.toList = [117] from rfl, ht2] at CP
  rw [hone, ht]
  obtain ⟨p, hp⟩ : ∃ p, Lib.hasPrefix s.data.toList [117] = p := ⟨_, rfl⟩
  rw [hp] at CP ⊢
  clear hp hone ht2 ht
  go_enter Tryz.func34, Tryz.ntmps34
  cases p with
  | false =>
    go_wp2_with (go_at_call 54; refine CP.out.mono ?_; rintro e W1 ⟨rfl, rfl⟩)
    go_ret2
    exact ⟨_, [], rfl, Kd.R_nil _ _ _ _ _, (fun h => by cases h), Below.refl _ _⟩
  | true =>
    by_cases h4 : (t.size : Int) < 4
    · go_wp2_with (go_at_call 54; refine CP.out.mono ?_; rintro e W1 ⟨rfl, rfl⟩)
      go_ret2
      exact ⟨_, [], by rw [decide_eq_false (show ¬ 4 ≤ t.size by omega)]; rfl, Kd.R_nil _ _ _ _ _, (fun h => by rw [decide_eq_false (show ¬ 4 ≤ t.size by omega)] at h; cases h), Below.refl _ _⟩
    · by_cases h6 : (6 : Int) < t.size
      · go_wp2_with (go_at_call 54; refine CP.out.mono ?_; rintro e W1 ⟨rfl, rfl⟩)
        go_ret2
        exact ⟨_, [], by rw [decide_eq_true (show 4 ≤ t.size by omega), decide_eq_false (show ¬ t.size ≤ 6 by omega)]; rfl, Kd.R_nil _ _ _ _ _, (fun h => by rw [decide_eq_true (show 4 ≤ t.size by omega), decide_eq_false (show ¬ t.size ≤ 6 by omega)] at h; cases h), Below.refl _ _⟩
      · have hn : (true && (decide (4 ≤ t.size) && (decide (t.size ≤ 6) && numB t))) = numB t := by
          rw [decide_eq_true (show 4 ≤ t.size by omega), decide_eq_true (show t.size ≤ 6 by omega)]; simp
        rw [hn]
        have NU := Aside0.mk (fun W => number55 t W (by omega) (by omega))
        have hv : numB t = true → numV t = hexv (bytesOf t) := fun h => by
          unfold numB at h; rw [Bool.and_eq_true] at h
          unfold numV; rw [if_pos h.1]
        obtain ⟨b, hb⟩ : ∃ b, numB t = b := ⟨_, rfl⟩
        obtain ⟨v, hvv⟩ : ∃ v, numV t = v := ⟨_, rfl⟩
        rw [hb, hvv] at NU hv
        rw [hb]
        have HV := Aside0.mk hv
        clear hb hvv hv hn
        go_wp2_with (first
          | (go_at_call 54; refine CP.out.mono ?_; rintro e W1 ⟨rfl, rfl⟩)
          | (go_at_call 55; refine (NU.out w).mono ?_; rintro e W2 ⟨rfl, hb⟩; have HB2 := Aside0.mk hb; clear hb)
          | ((with_reducible refine gate_dst (N := 30) rfl ?_); go_loud (refine Kd.R_lit (Kd.int .i64) (w0 := W2) W2.heap.size 3 ?hg (N := 30) ?hd (xs := [v]) (inner := [.int .i64 v]) (ok := fun _ => True) (okp := fun _ => True) ?hr ?hp (fun _ hk => hk) trivial (Below.refl _ _) (Nat.le_refl _) (by simp) ?_; (case hd => rfl); (case hg => rfl); (case hr => first | (go_simp; done) | (go_simp; rfl)); (case hp => exact (Reps.one (show Kd.M (Kd.int .i64) _ _ _ v [.int .i64 v] from rfl) (Reps.none _ _))); intro v3 w3 ho3 hb3 hg3 hn3; have HO3 := Aside0.mk ho3; have HB3 := Aside0.mk hb3; clear ho3 hb3 hg3 hn3)))
        go_ret2
        exact ⟨_, _, rfl, Kd.R_lower HO3.out HB2.out.size, (fun h => by rw [HV.out h]), below_step HB2.out HB3.out⟩
end Go.Proofs.YtgdlmgdcoedfoaaGreatDoor.Agl
