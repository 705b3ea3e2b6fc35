/- agl.Part: its three ways. -/
import Derived.Test.YtgdlmgdcoedfoaaGreatDoorGlyph3
namespace Go.Proofs.YtgdlmgdcoedfoaaGreatDoor.Agl
open Go.RowKit Go.Proofs.YtgdlmgdcoedfoaaGreatDoorW.PrintWords Go.Proofs.YtgdlmgdcoedfoaaGreatDoorW.PrintLast Go.Proofs.YtgdlmgdcoedfoaaGreatDoorW.PrintMore
set_option linter.unusedVariables false
set_option linter.unusedSimpArgs false

set_option maxHeartbeats 400000 in
set_option maxRecDepth 100000 in
theorem listed32 (s : ByteArray) (w : World) (hs : s.size ≤ 100000) (hT : Told s) (hL : Laid w) :
    Calls Tryz.prog 32 #[.string s] w fun e W' => ∃ (v : Value) (xs : List Int), e = .returned (.tuple #[v, .bool (uniL s.data.toList).isSome]) ∧ Kd.R (Kd.int .i64) 3 W' w.heap.size (fun _ => True) v xs ∧ (∀ ys, uniL s.data.toList = some ys → xs = ys) ∧ Below w.heap.size w W' := by
  have U := Aside0.mk (uni28 s w hs hT hL)
  obtain ⟨F, hF⟩ : ∃ F, uniL s.data.toList = F := ⟨_, rfl⟩
  rw [hF] at U ⊢
  clear hF hT hL hs
  go_enter Tryz.func32, Tryz.ntmps32
  go_wp2_with (go_at_call 28; refine U.out.mono ?_; rintro e W1 ⟨v, xs, rfl, hR, hx, hb⟩; have HR := Aside0.mk hR; have HX := Aside0.mk hx; have HB := Aside0.mk hb; clear hR hx hb U)
  go_ret2
  exact ⟨_, xs, rfl, HR.out, HX.out, HB.out⟩
def partR (s : ByteArray) : List Int := (uniL s.data.toList).getD ((foursR s).getD (if oneB s = true then [hexv (bytesOf (tailU s))] else []))
set_option maxHeartbeats 1000000 in
set_option maxRecDepth 100000 in
theorem part16 (s : ByteArray) (w : World) (hs : s.size ≤ 100000) (hT : Told s) (hL : Laid w) :
    Calls Tryz.prog 16 #[.string s] w fun e W' => ∃ v : Value, e = .returned v ∧ Kd.R (Kd.int .i64) 3 W' w.heap.size (fun _ => True) v (partR s) ∧ Below w.heap.size w W' := by
  have HL := Aside0.mk hL
  have A0 := Aside0.mk (fun W hl => listed32 s W hs hT hl)
  have A1 := Aside0.mk (fun W => fours33 s W hs)
  have A2 := Aside0.mk (fun W => one34 s W)
  have hP : partR s = (uniL s.data.toList).getD ((foursR s).getD (if oneB s = true then [hexv (bytesOf (tailU s))] else [])) := rfl
  obtain ⟨P, hPP⟩ : ∃ P, partR s = P := ⟨_, rfl⟩
  rw [hPP] at hP ⊢
  obtain ⟨F0, h0⟩ : ∃ F, uniL s.data.toList = F := ⟨_, rfl⟩
  obtain ⟨F1, h1⟩ : ∃ F, foursR s = F := ⟨_, rfl⟩
  obtain ⟨F2, h2⟩ : ∃ F, oneB s = F := ⟨_, rfl⟩
  obtain ⟨y, hy⟩ : ∃ y, hexv (bytesOf (tailU s)) = y := ⟨_, rfl⟩
  rw [h0] at A0 hP
  rw [h1] at A1 hP
  rw [h2, hy] at A2 hP
  have HP := Aside0.mk hP
  clear hP hPP h0 h1 h2 hy hT hL hs
  go_enter Tryz.func16, Tryz.ntmps16
  go_wp2
  obtain ⟨w1, hw1⟩ : ∃ w1, w.alloc (.cells #[.func (.func 32) #[.string s] #[], .func (.func 33) #[.string s] #[], .func (.func 34) #[.string s] #[]] 46) = w1 := ⟨_, rfl⟩
  have hB1 : Below w.heap.size w w1 := by rw [← hw1]; exact Below.alloc (Below.refl _ _) (Nat.le_refl _) _
  have hcl : ∀ j v, (#[Value.func (.func 32) #[.string s] #[], .func (.func 33) #[.string s] #[], .func (.func 34) #[.string s] #[]] : Array Value)[j]? = some v → w1.cell? ⟨w.heap.size, j, none⟩ = some v := by
    intro j v h
    have hh : w1.heap[w.heap.size]? = some (.cells #[.func (.func 32) #[.string s] #[], .func (.func 33) #[.string s] #[], .func (.func 34) #[.string s] #[]] 46 (0, 0)) := by rw [← hw1]; exact World.alloc_heap_new _ _
    rw [Lib.cell_of_heap hh]; exact h
  have HB1 := Aside0.mk hB1
  have HCL := Aside0.mk hcl
  rw [hw1]
  clear hB1 hcl hw1
  go_loopw [17] (fun i wr => ∃ k : Nat, k ≤ 3 ∧ i = .int .i64 k ∧ Below w1.heap.size w1 wr ∧ (1 ≤ k → F0 = none) ∧ (2 ≤ k → F1 = none) ∧ (3 ≤ k → F2 = false)) (fun i _ => 3 - (intOf i).toNat)
  case atStart => exact ⟨0, by omega, rfl, Below.refl _ _, fun h => by omega, fun h => by omega, fun h => by omega⟩
  case round =>
    obtain ⟨k, hk, rfl, hB, e0, e1, e2⟩ := hrel
    have HB := Aside0.mk hB; have E0 := Aside0.mk e0; have E1 := Aside0.mk e1; have E2 := Aside0.mk e2
    clear hB e0 e1 e2
    rcases (show k = 0 ∨ k = 1 ∨ k = 2 ∨ k = 3 by omega) with rfl | rfl | rfl | rfl
    · have hc := cell_below (HCL.out 0 _ rfl) HB.out
      have C0 := Aside0.mk (A0.out wr (HL.out.below (below_step HB1.out HB.out)))
      clear A0 A1 A2
      cases F0 with
      | some ys =>
        go_wp2_with (go_at_call 32; refine C0.out.mono ?_; rintro e W2 ⟨v, xs, rfl, hR, hx, hb⟩; have HR := Aside0.mk hR; have HX := Aside0.mk hx; have HB2 := Aside0.mk hb; clear hR hx hb)
        go_ret
        have h := HX.out ys rfl
        subst h
        rw [HP.out]
        exact ⟨_, rfl, Kd.R_lower HR.out (Nat.le_trans HB1.out.size HB.out.size), below_step (below_step HB1.out HB.out) HB2.out⟩
      | none =>
        go_wp2_with (go_at_call 32; refine C0.out.mono ?_; rintro e W2 ⟨v, xs, rfl, hR, hx, hb⟩; have HB2 := Aside0.mk hb; clear hR hx hb)
        exact ⟨⟨1, by omega, by first | rfl | go_num, below_step HB.out HB2.out, fun _ => by first | rfl | trivial, fun h => by omega, fun h => by omega⟩, by simp [intOf]⟩
    · have hc := cell_below (HCL.out 1 _ rfl) HB.out
      have C1 := Aside0.mk (A1.out wr)
      have h0 := E0.out (by omega)
      subst h0
      clear A0 A1 A2
      cases F1 with
      | some ys =>
        go_wp2_with (go_at_call 33; refine C1.out.mono ?_; rintro e W2 ⟨v, xs, rfl, hR, hx, hb⟩; have HR := Aside0.mk hR; have HX := Aside0.mk hx; have HB2 := Aside0.mk hb; clear hR hx hb)
        go_ret
        have h := HX.out ys rfl
        subst h
        rw [HP.out]
        exact ⟨_, rfl, Kd.R_lower HR.out (Nat.le_trans HB1.out.size HB.out.size), below_step (below_step HB1.out HB.out) HB2.out⟩
      | none =>
        go_wp2_with (go_at_call 33; refine C1.out.mono ?_; rintro e W2 ⟨v, xs, rfl, hR, hx, hb⟩; have HB2 := Aside0.mk hb; clear hR hx hb)
        exact ⟨⟨2, by omega, by first | rfl | go_num, below_step HB.out HB2.out, fun _ => by first | rfl | trivial, fun _ => by first | rfl | trivial, fun h => by omega⟩, by simp [intOf]⟩
    · have hc := cell_below (HCL.out 2 _ rfl) HB.out
      have C2 := Aside0.mk (A2.out wr)
      have h0 := E0.out (by omega)
      have h1 := E1.out (by omega)
      subst h0; subst h1
      clear A0 A1 A2
      cases F2 with
      | true =>
        go_wp2_with (go_at_call 34; refine C2.out.mono ?_; rintro e W2 ⟨v, xs, rfl, hR, hx, hb⟩; have HR := Aside0.mk hR; have HX := Aside0.mk hx; have HB2 := Aside0.mk hb; clear hR hx hb)
        go_ret
        have h := HX.out (by first | rfl | trivial)
        subst h
        rw [HP.out]
        exact ⟨_, rfl, Kd.R_lower HR.out (Nat.le_trans HB1.out.size HB.out.size), below_step (below_step HB1.out HB.out) HB2.out⟩
      | false =>
        go_wp2_with (go_at_call 34; refine C2.out.mono ?_; rintro e W2 ⟨v, xs, rfl, hR, hx, hb⟩; have HB2 := Aside0.mk hb; clear hR hx hb)
        exact ⟨⟨3, by omega, by first | rfl | go_num, below_step HB.out HB2.out, fun _ => by first | rfl | trivial, fun _ => by first | rfl | trivial, fun _ => by first | rfl | trivial⟩, by simp [intOf]⟩
    · have h0 := E0.out (by omega)
      have h1 := E1.out (by omega)
      have h2 := E2.out (by omega)
      subst h0; subst h1; subst h2
      go_wp2
      go_ret
      rw [HP.out]
      exact ⟨_, rfl, Kd.R_nil _ _ _ _ _, below_step HB1.out HB.out⟩
end Go.Proofs.YtgdlmgdcoedfoaaGreatDoor.Agl
