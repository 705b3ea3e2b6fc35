/- slices.Concat of rows of strings: one row of one's own. -/
import Derived.Test.YtgdlmgdcoedfoaaGreatDoorWMore
import Derived.Test.YtgdlmgdcoedfoaaGreatDoorWApart
import Derived.Test.YtgdlmgdcoedfoaaGreatDoorWZeros
import Derived.Test.YtgdlmgdcoedfoaaGreatDoorProg
import Derived.WalkKit
import Derived.BigCall
import Derived.IntWalk
import Derived.Outline
import Derived.OneCell
import Derived.KernelRfl
namespace Go.Proofs.YtgdlmgdcoedfoaaGreatDoor.Agl
open Go.RowKit Go.Proofs.YtgdlmgdcoedfoaaGreatDoorW.PrintWords Go.Proofs.YtgdlmgdcoedfoaaGreatDoorW.PrintLast Go.Proofs.YtgdlmgdcoedfoaaGreatDoorW.PrintMore
set_option linter.unusedVariables false
set_option linter.unusedSimpArgs false

theorem info9 : (Tryz.prog.info? 9).map (fun i => (i.zero, i.size, i.bytes)) = some (some (.string ⟨#[]⟩), 1, 16) := by kernel_rfl
/-- A row cut to nothing, with its block. -/
theorem R_cut0 {e base : Nat} {W : World} {ok : Nat → Prop} {A : Option Addr} {n c : Nat} {xs : List ByteArray} (h : Kd.R Kd.string e W base ok (.slice A n c) xs) : Kd.R Kd.string e W base ok (.slice A 0 c) [] := by
  obtain ⟨h0, inner, ho, hr⟩ := h
  refine ⟨fun k hk => h0 k (by cases A <;> exact hk), [], ?_, Reps.none _ _⟩
  rcases ho.2 with ⟨hv, hn⟩ | ⟨g, cap, cur, hv, hb, hh, hnc, hcm, hcs, htk⟩
  · cases hv
    exact ⟨rfl, .inl ⟨rfl, rfl⟩⟩
  · cases hv
    exact ⟨rfl, .inr ⟨g, c, cur, rfl, hb, hh, Nat.zero_le _, hcm, hcs, by simp⟩⟩
set_option maxHeartbeats 400000 in
set_option maxRecDepth 100000 in
theorem grow96 (n : Nat) (hn : n ≤ 1000000) (W : World) :
    Calls Tryz.prog 96 #[.slice none 0 0, .int .i64 n] W fun e W' => ∃ v : Value, e = .returned v ∧ Kd.R Kd.string 9 W' W.heap.size (fun _ => True) v [] ∧ Below W.heap.size W W' := by
  go_enter Tryz.func96, Tryz.ntmps96
  by_cases h0 : n = 0
  · subst h0
    go_wp2
    go_ret
    exact ⟨_, rfl, Kd.R_nil _ _ _ _ _, Below.refl _ _⟩
  · have hp : (0 : Int) < n := by omega
    have hp2 : ¬ (n : Int) < 0 := by omega
    go_wp2_with ((with_reducible refine gate_builtin (b := .append) (xs := #[.tmp 20, .tmp 21]) rfl ?_); at_builtin; go_loud (refine Kd.R_append_zeros Kd.string (w0 := W) W.heap.size rfl (.tmp 20) (.tmp 21) 26 3 9 (.string ⟨#[]⟩) 16 rfl Tryz.underlying26 Tryz.underlying3 info9 rfl (by decide) (by omega) (.slice none 0 0) [] ⟨#[]⟩ (kx := .i64) n (fun _ => True) rfl rfl ?aZ (fun _ _ => trivial) (Kd.R_nil _ _ _ _ _) (by omega) (Below.refl _ _) (Nat.le_refl _) ?aL ?_; (case aZ => rfl); (case aL => simp only [List.length_nil]; omega); intro v1 w1 ho hb hg hat; obtain ⟨A1, c1, rfl⟩ := Kd.R_slice ho; have HO := Aside0.mk (R_cut0 ho); have HB := Aside0.mk hb; clear ho hb hg hat))
    go_ret
    exact ⟨_, rfl, HO.out, HB.out⟩
abbrev Ts : Kd (List ByteArray) := Kd.slice 9 Kd.string
theorem elem_row {W : World} {A : Option Addr} {l : List (List ByteArray)} (hC : Kd.C Ts W A l.length l) {k : Nat} (hk : k < l.length) :
    ∃ ad A0 c0, A = some ad ∧ l[k].length ≤ c0 ∧ Kd.C Kd.string W A0 l[k].length l[k] ∧ W.cell? (ad.add k) = some (.slice A0 l[k].length c0) := by
  obtain ⟨ad, cs, rfl, _, hK, hc0⟩ := Kd.C_get hC ([] : List ByteArray) (k : Int) (by omega) (by omega)
  obtain ⟨A0, cc0, rfl, hle, hK2⟩ := hK
  have hcell : W.cell? (ad.add k) = some (.slice A0 (l.getD k []).length cc0) := by
    have := hc0 0 _ rfl
    rwa [Int.toNat_natCast, show Ts.sz = 1 from rfl, Nat.mul_one, Nat.add_zero] at this
  have hat : l.getD k [] = l[k] := by rw [List.getD_eq_getElem?_getD, List.getElem?_eq_getElem hk]; rfl
  rw [Int.toNat_natCast, hat] at hK2 hle
  rw [hat] at hcell
  exact ⟨ad, A0, cc0, rfl, hle, hK2, hcell⟩
set_option maxHeartbeats 1000000 in
set_option maxRecDepth 100000 in
theorem concat71 (A : Option Addr) (c : Nat) (l : List (List ByteArray)) (W : World) (hC : Kd.C Ts W A l.length l) (hc : l.length ≤ c) (hl : l.length ≤ 1000) (hz : l.flatten.length ≤ 1000000) :
    Calls Tryz.prog 71 #[.slice A l.length c] W fun e W' => ∃ v : Value, e = .returned v ∧ Kd.R Kd.string 9 W' W.heap.size (fun _ => True) v l.flatten ∧ Below W.heap.size W W' := by
  have HC := Aside0.mk hC
  have hstep : ∀ k (h : k < l.length), (l.take (k + 1)).flatten = (l.take k).flatten ++ l[k] := by
    intro k h
    rw [List.take_succ_eq_append_getElem h, List.flatten_append]; simp
  have hle : ∀ k, (l.take k).flatten.length ≤ l.flatten.length := by
    intro k
    conv => rhs; rw [← List.take_append_drop k l]
    rw [List.flatten_append, List.length_append]; omega
  have HST := Aside0.mk hstep; have HLE := Aside0.mk hle
  clear hC hstep hle
  go_enter Tryz.func71, Tryz.ntmps71
  go_wp2
  go_loopw [3, 11] (fun z i wr => ∃ k : Nat, k ≤ l.length ∧ i = .int .i64 k ∧ z = .int .i64 ((l.take k).flatten.length : Nat) ∧ W = wr) (fun _ i _ => l.length - (intOf i).toNat)
  case atStart => exact ⟨0, Nat.zero_le _, rfl, rfl, rfl⟩
  case round =>
    obtain ⟨k, hk, rfl, rfl, hw⟩ := hrel
    subst hw
    by_cases hlt : k < l.length
    · obtain ⟨ad, A0, c0, rfl, hl0, hC0, hcell⟩ := elem_row HC.out hlt
      have hs := HST.out k hlt
      have h1 := HLE.out (k + 1)
      have h2 : (l.take (k + 1)).flatten.length = (l.take k).flatten.length + l[k].length := by rw [hs, List.length_append]
      obtain ⟨z, hz1⟩ : ∃ z, (l.take k).flatten.length = z := ⟨_, rfl⟩
      obtain ⟨t, ht⟩ : ∃ t, l[k].length = t := ⟨_, rfl⟩
      have HZ1 := Aside0.mk hz1; have H2 := Aside0.mk h2
      rw [ht] at hcell
      rw [hz1, ht] at h2
      rw [hz1]
      have h3 : z + t ≤ 1000000 := by omega
      clear hs h1 h2 hz1 hl0 hC0
      have HT := Aside0.mk ht; clear ht
      go_wp2
      refine ⟨⟨k + 1, by omega, by go_num, by rw [H2.out, HZ1.out, HT.out]; push_cast; rfl, trivial⟩, by simp [intOf]; omega⟩
    · obtain rfl : k = l.length := by omega
      rw [List.take_length]
      obtain ⟨n, hn⟩ : ∃ n, l.flatten.length = n := ⟨_, rfl⟩
      rw [hn] at hz ⊢
      have HN := Aside0.mk hn
      clear hn
      have GR := Aside0.mk (grow96 n hz W)
      go_wp2_with (go_at_call 96; refine GR.out.mono ?_; rintro e w1 ⟨v, rfl, hR, hB⟩; have HR := Aside0.mk hR; have HB := Aside0.mk hB; clear hR hB)
      go_loopw [6, 27] (fun u i w2 => ∃ k : Nat, k ≤ l.length ∧ i = .int .i64 k ∧ Kd.R Kd.string 9 w2 W.heap.size (fun _ => True) u (l.take k).flatten ∧ Below W.heap.size W w2) (fun _ i _ => l.length - (intOf i).toNat)
      case atStart => exact ⟨0, Nat.zero_le _, rfl, HR.out, HB.out⟩
      case round =>
        clear GR HR HB
        obtain ⟨k, hk, rfl, hR, hB⟩ := hrel
        obtain ⟨v6, hv6⟩ : ∃ v6, u6 = v6 := ⟨_, rfl⟩
        rw [hv6] at hR ⊢
        have HR := Aside0.mk hR; have HB := Aside0.mk hB
        clear hR hB
        by_cases hlt : k < l.length
        · obtain ⟨ad, A0, c0, rfl, hl0, hC0, hcell⟩ := elem_row (Kd.C_below HC.out HB.out) hlt
          have HS := Aside0.mk (HST.out k hlt)
          have h1 := HLE.out (k + 1)
          rw [HS.out, List.length_append, HN.out] at h1
          obtain ⟨ys, hys⟩ : ∃ ys, (l.take k).flatten = ys := ⟨_, rfl⟩
          obtain ⟨t, ht⟩ : ∃ t, l[k] = t := ⟨_, rfl⟩
          have HYS := Aside0.mk hys; have HT := Aside0.mk ht
          rw [hys] at HR
          rw [hys, ht] at h1
          rw [ht] at hcell hC0
          have HC0 := Aside0.mk hC0
          clear hys ht hC0 hl0
          go_wp2_with ((with_reducible refine gate_builtin (b := .append) (xs := #[.tmp 31, .tmp 32]) rfl ?_); at_builtin; go_loud (refine Kd.R_append_rows Kd.string (w0 := W) W.heap.size rfl (.tmp 31) (.tmp 32) 26 9 (.string ⟨#[]⟩) 16 rfl Tryz.underlying26 info9 rfl (by decide) (by omega) v6 ys t _ _ _ (fun _ => True) (fun _ => False) rfl rfl ?aO ?aR (fun _ _ h => h) (fun _ h => h.elim) ?aF ?aB ?aS ?aL ?_; (case aR => exact HC0.out); (case aB => exact HB.out); (case aF => exact fun k hk => trivial); (case aO => exact HR.out); (case aS => exact HB.out.size); (case aL => omega); intro v2 w3 ho2 hb2 hg2 hat2; have HO2 := Aside0.mk ho2; have HB2 := Aside0.mk hb2; clear ho2 hb2 hg2 hat2))
          refine ⟨⟨k + 1, by omega, by go_num, by rw [HS.out, HYS.out, HT.out]; exact HO2.out, HB2.out⟩, by simp [intOf]; omega⟩
        · obtain rfl : k = l.length := by omega
          rw [List.take_length] at HR
          go_wp2
          go_ret
          exact ⟨_, rfl, HR.out, HB.out⟩
end Go.Proofs.YtgdlmgdcoedfoaaGreatDoor.Agl
