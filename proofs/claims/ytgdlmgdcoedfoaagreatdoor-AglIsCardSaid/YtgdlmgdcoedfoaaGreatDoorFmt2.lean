/- strconv.FormatInt at base 16. strconv.FormatInt at base 16: the outer calls. -/
import Derived.Test.YtgdlmgdcoedfoaaGreatDoorPart
namespace Go.Proofs.YtgdlmgdcoedfoaaGreatDoor.Agl
open Go.RowKit Go.Proofs.YtgdlmgdcoedfoaaGreatDoorW.PrintWords Go.Proofs.YtgdlmgdcoedfoaaGreatDoorW.PrintLast Go.Proofs.YtgdlmgdcoedfoaaGreatDoorW.PrintMore
set_option linter.unusedVariables false
set_option linter.unusedSimpArgs false

set_option maxHeartbeats 400000 in
set_option maxRecDepth 100000 in
theorem tz159 (w : World) (hT : w.cell? ⟨10, 15, none⟩ = some (.int .u8 4)) : Calls Tryz.prog 159 #[.int .u64 16] w fun e W' => e = .returned (.int .i64 4) ∧ w = W' := by
  have h1 : IntKind.u64.wrap (-16) = 18446744073709551600 := by decide +kernel
  have h2 : Go.bits .and .u64 16 18446744073709551600 = 16 := by decide +kernel
  have h3 : IntKind.u64.wrap (16 * 285870213051353865) = 4573923408821661840 := by decide +kernel
  have h4 : (4573923408821661840 : Int) / 288230376151711744 = 15 := by decide +kernel
  go_enter Tryz.func159, Tryz.ntmps159
  go_wp2
  go_ret
  exact ⟨rfl, rfl⟩
set_option maxHeartbeats 400000 in
set_option maxRecDepth 100000 in
theorem tz149 (w : World) (hT : w.cell? ⟨10, 15, none⟩ = some (.int .u8 4)) : Calls Tryz.prog 149 #[.int .u64 16] w fun e W' => e = .returned (.int .i64 4) ∧ w = W' := by
  have TZ := Aside0.mk (tz159 w hT)
  go_enter Tryz.func149, Tryz.ntmps149
  go_wp2_with (go_at_call 159; refine TZ.out.mono ?_; rintro e W' ⟨rfl, rfl⟩)
  go_ret
  exact ⟨rfl, rfl⟩
set_option maxHeartbeats 400000 in
set_option maxRecDepth 100000 in
theorem pow148 (w : World) : Calls Tryz.prog 148 #[.int .i64 16] w fun e W' => e = .returned (.bool true) ∧ w = W' := by
  go_enter Tryz.func148, Tryz.ntmps148
  go_wp2
  go_ret
  exact ⟨by first | rfl | decide, rfl⟩
theorem cell_old {w : World} {b o : Nat} {v : Value} (h : w.cell? ⟨b, o, none⟩ = some v) (ob : Obj) (hb : b < w.heap.size) : (w.alloc ob).cell? ⟨b, o, none⟩ = some v :=
  (World.cell?_of_block (a := ⟨b, o, none⟩) (Below.heap_alloc w ob b hb)).trans h
theorem set_cells3 {W : World} {D T : Nat} {cs : Array Value} (h : W.heap[D]? = some (.cells cs T (0, 0))) (j : Nat) (v : Value) : (W.setCell ⟨D, j, none⟩ v).heap[D]? = some (.cells (cs.setIfInBounds j v) T (0, 0)) := by
  simp [World.setCell, Array.getElem?_modify, h]
theorem pow16b : ∀ k : Nat, k ≤ 6 → (16 : Int) ^ k ≤ 16777216 := by decide
theorem set_rep (z v : Value) (rest : List Value) : ∀ m : Nat, (List.replicate (m + 1) z ++ rest).set m v = List.replicate m z ++ v :: rest
  | 0 => rfl
  | m + 1 => by
    rw [List.replicate_succ, List.cons_append, List.set_cons_succ, set_rep z v rest m]; rfl
def digs : ByteArray := ⟨#[48, 49, 50, 51, 52, 53, 54, 55, 56, 57, 97, 98, 99, 100, 101, 102, 103, 104, 105, 106, 107, 108, 109, 110, 111, 112, 113, 114, 115, 116, 117, 118, 119, 120, 121, 122]⟩
def lowc (d : Int) : Int := if d < 10 then 48 + d else 87 + d
def hexlow : Nat → Int → List Int → List Int
  | 0, v, acc => lowc v :: acc
  | k + 1, v, acc => if v < 16 then lowc v :: acc else hexlow k (v / 16) (lowc (v % 16) :: acc)
theorem digs_at : ∀ n : Fin 16, ((digs[n.val]'(by have := n.isLt; show n.val < 36; omega)).toNat : Int) = lowc n.val := by decide +kernel
set_option maxHeartbeats 800000 in
set_option maxRecDepth 100000 in
theorem fbits125 (u : Int) (w : World) (h0 : 0 ≤ u) (h1 : u < 16777216) (hT : w.cell? ⟨10, 15, none⟩ = some (.int .u8 4)) (hsz : 10 < w.heap.size) :
    Calls Tryz.prog 125 #[.slice none 0 0, .int .u64 u, .int .i64 16, .bool false, .bool false] w fun e W' => e = .returned (.tuple #[.slice none 0 0, .string (strOfNums (hexlow 6 u []))]) ∧ Below w.heap.size w W' := by
  have TZ := Aside0.mk (fun W (h : W.cell? ⟨10, 15, none⟩ = some (.int .u8 4)) => tz149 W h)
  go_enter Tryz.func125, Tryz.ntmps125
  go_wp2_with (first
    | (go_at_call 148; refine (pow148 _).mono ?_; rintro e W' ⟨rfl, rfl⟩)
    | (go_at_call 149; refine (TZ.out _ ((cell_old hT _ hsz))).mono ?_; rintro e W' ⟨rfl, rfl⟩))
  have hzc : Tryz.zeroCells162 = (List.replicate 65 (Value.int .u8 0)).toArray := by kernel_rfl
  obtain ⟨H, hH⟩ : ∃ H, w.heap.size = H := ⟨_, rfl⟩
  obtain ⟨w1, hw1⟩ : ∃ w1, w.alloc (.cells Tryz.zeroCells162 162) = w1 := ⟨_, rfl⟩
  have hb1 : Below w.heap.size w w1 := by rw [← hw1]; exact below_alloc (Below.refl _ _) _
  have hc1 : w1.heap[H]? = some (.cells (List.replicate 65 (Value.int .u8 0)).toArray 162 (0, 0)) := by rw [← hw1, ← hH, hzc]; show (w.heap.push _)[w.heap.size]? = _; simp
  rw [hw1]
  have HB1 := Aside0.mk hb1; have HC1 := Aside0.mk hc1
  clear hw1 hb1 hc1 hzc hT TZ
  rw [hH] at hsz ⊢
  have HH := Aside0.mk hH; clear hH
  go_loopw [1, 13] (fun u' i wr => ∃ (k : Nat) (x : Int) (ds : List Int), k ≤ 5 ∧ u' = .int .u64 x ∧ i = .int .i64 (65 - k) ∧ 0 ≤ x ∧ x < 16 ^ (6 - k) ∧ ds.length = k ∧ hexlow 6 u [] = hexlow (6 - k) x ds ∧ wr.heap[H]? = some (.cells (List.replicate (65 - k) (Value.int .u8 0) ++ ds.map (Value.int .u8)).toArray 162 (0, 0)) ∧ Below w.heap.size w wr) (fun u' _ _ => match u' with | .int _ x => x.toNat | _ => 0)
  case atStart => exact ⟨0, u, [], by omega, rfl, rfl, h0, by simpa using h1, rfl, rfl, by simpa using HC1.out, HB1.out⟩
  case round =>
    obtain ⟨k, x, ds, hk, rfl, rfl, hx0, hx1, hds, hhx, hcs, hB⟩ := hrel
    have HHX := Aside0.mk hhx; have HCS := Aside0.mk hcs; have HB := Aside0.mk hB
    clear hhx hcs hB
    by_cases h16 : (16 : Int) ≤ x
    · have hand : Go.bits .and .u64 x 15 = x % 16 := bits_mask .u64 63 (by decide) (fun n h0 h1 => by rw [IntKind.wrap_u64]; omega) 4 (by decide) x hx0 (by have := pow16b (6 - k) (by omega); omega)
      obtain ⟨d, hd⟩ : ∃ d, x % 16 = d := ⟨_, rfl⟩
      have hd0 : 0 ≤ d := by omega
      have hd1 : d < 16 := by omega
      have hdn : d.toNat < 36 := by omega
      have hk5 : k < 5 := by
        rcases Nat.lt_or_ge k 5 with h | h
        · exact h
        · obtain rfl : k = 5 := by omega
          simp at hx1; omega
      obtain ⟨m, hm⟩ : ∃ m, 65 - k = m + 1 := ⟨64 - k, by omega⟩
      have hel : (((digs[d.toNat]'hdn).toNat : Nat) : Int) = lowc d := by
        have := digs_at ⟨d.toNat, by omega⟩
        rw [show (((⟨d.toNat, by omega⟩ : Fin 16).val : Nat) : Int) = d from Int.toNat_of_nonneg hd0] at this
        exact this
      obtain ⟨e, he⟩ : ∃ e : Int, ((((⟨#[48, 49, 50, 51, 52, 53, 54, 55, 56, 57, 97, 98, 99, 100, 101, 102, 103, 104, 105, 106, 107, 108, 109, 110, 111, 112, 113, 114, 115, 116, 117, 118, 119, 120, 121, 122]⟩ : ByteArray)[d.toNat]'hdn).toNat : Nat) : Int) = e := ⟨_, rfl⟩
      have hee : e = lowc d := he.symm.trans hel
      have hcs := HCS.out
      rw [hm] at hcs
      have hoff : 65 - k - 1 = m := by omega
      have hlen : (List.replicate (m + 1) (Value.int .u8 0) ++ ds.map (Value.int .u8)).length = 65 := by simp; omega
      have cK : wr.cell? ⟨H, 65 - k - 1, none⟩ = some (.int .u8 0) := by
        rw [hoff]
        simp [World.cell?, hcs, List.getElem?_append]
      have fK : wr.frozen? ⟨H, 65 - k - 1, none⟩ = false := by simp [World.frozen?, hcs]
      have hx1' : x / 16 < 16 ^ (6 - (k + 1)) := by
        have : (16 : Int) ^ (6 - k) = 16 ^ (6 - (k + 1)) * 16 := by rw [← Int.pow_succ]; congr 1; omega
        omega
      have hC2 : (wr.setCell ⟨H, 65 - k - 1, none⟩ (.int .u8 e)).heap[H]? = some (.cells (List.replicate (65 - (k + 1)) (Value.int .u8 0) ++ (e :: ds).map (Value.int .u8)).toArray 162 (0, 0)) := by
        rw [hoff]
        have h := set_cells3 hcs m (.int .u8 e)
        rw [List.setIfInBounds_toArray, set_rep] at h
        rw [show 65 - (k + 1) = m by omega]
        exact h
      have hB2 : Below w.heap.size w (wr.setCell ⟨H, 65 - k - 1, none⟩ (.int .u8 e)) := Below.setCell HB.out (p := ⟨H, 65 - k - 1, none⟩) (by rw [HH.out]; exact Nat.le_refl _) _
      have hst : hexlow (6 - k) x ds = hexlow (6 - (k + 1)) (x / 16) (e :: ds) := by
        rw [show 6 - k = (6 - (k + 1)) + 1 by omega, hexlow, if_neg (by omega), hd, hee]
      have HST := Aside0.mk hst; have HC2 := Aside0.mk hC2; have HB2 := Aside0.mk hB2; have HX1 := Aside0.mk hx1'
      clear hst hC2 hB2 hx1' hel hee hcs hlen hm hoff hx1
      go_wp2
      refine ⟨⟨k + 1, x / 16, e :: ds, by omega, rfl, by congr 1; omega, by omega, HX1.out, by simp; omega, by rw [HHX.out, HST.out], HC2.out, HB2.out⟩, ?_⟩
      show (x / 16).toNat < x.toNat
      omega
    · have hlt : x < 16 := by omega
      obtain ⟨m, hm⟩ : ∃ m, 65 - k = m + 1 := ⟨64 - k, by omega⟩
      have hdn : x.toNat < 36 := by omega
      have hel : (((digs[x.toNat]'hdn).toNat : Nat) : Int) = lowc x := by
        have := digs_at ⟨x.toNat, by omega⟩
        rw [show (((⟨x.toNat, by omega⟩ : Fin 16).val : Nat) : Int) = x from Int.toNat_of_nonneg hx0] at this
        exact this
      obtain ⟨e, he⟩ : ∃ e : Int, ((((⟨#[48, 49, 50, 51, 52, 53, 54, 55, 56, 57, 97, 98, 99, 100, 101, 102, 103, 104, 105, 106, 107, 108, 109, 110, 111, 112, 113, 114, 115, 116, 117, 118, 119, 120, 121, 122]⟩ : ByteArray)[x.toNat]'hdn).toNat : Nat) : Int) = e := ⟨_, rfl⟩
      have hee : e = lowc x := he.symm.trans hel
      have hcs := HCS.out
      rw [hm] at hcs
      have hoff : 65 - k - 1 = m := by omega
      have cK : wr.cell? ⟨H, 65 - k - 1, none⟩ = some (.int .u8 0) := by
        rw [hoff]
        simp [World.cell?, hcs, List.getElem?_append]
      have fK : wr.frozen? ⟨H, 65 - k - 1, none⟩ = false := by simp [World.frozen?, hcs]
      have hC2 : (wr.setCell ⟨H, 65 - k - 1, none⟩ (.int .u8 e)).heap[H]? = some (.cells (List.replicate (65 - (k + 1)) (Value.int .u8 0) ++ (e :: ds).map (Value.int .u8)).toArray 162 (0, 0)) := by
        rw [hoff]
        have h := set_cells3 hcs m (.int .u8 e)
        rw [List.setIfInBounds_toArray, set_rep] at h
        rw [show 65 - (k + 1) = m by omega]
        exact h
      have hB2 : Below w.heap.size w (wr.setCell ⟨H, 65 - k - 1, none⟩ (.int .u8 e)) := Below.setCell HB.out (p := ⟨H, 65 - k - 1, none⟩) (by rw [HH.out]; exact Nat.le_refl _) _
      have hst : hexlow (6 - k) x ds = e :: ds := by
        rw [show 6 - k = (6 - (k + 1)) + 1 by omega, hexlow, if_pos hlt, hee]
      have HST := Aside0.mk hst; have HC2 := Aside0.mk hC2; have HB2 := Aside0.mk hB2
      clear hst hC2 hB2 hel hee hcs hm hoff hx1
      go_upto_region 30 with fail
      have hC : Kd.C (Kd.int .u8) (wr.setCell ⟨H, 65 - k - 1, none⟩ (.int .u8 e)) (some ⟨H, 65 - k - 1, none⟩) (e :: ds).length (e :: ds) := by
        refine Kd.C_of_reads (d := (0 : Int)) ⟨rfl, by simp; omega, fun _ => ⟨_, rfl, fun j hj => ?_⟩⟩
        rw [Addr.add_lit]
        have hj' : j < (e :: ds).length := hj
        have h := HC2.out
        unfold World.cell?
        rw [h]
        have e2 : (List.replicate (65 - (k + 1)) (Value.int .u8 0) ++ (e :: ds).map (Value.int .u8))[65 - k - 1 + j]? = some (.int .u8 ((e :: ds).getD j 0)) := by
          rw [List.getElem?_append_right (by simp; omega), List.length_replicate, show 65 - k - 1 + j - (65 - (k + 1)) = j by omega, List.getElem?_map, List.getElem?_eq_getElem hj', List.getD_eq_getElem?_getD, List.getElem?_eq_getElem hj']; rfl
        simpa using e2
      have hcv := Kd.C_string (P := Tryz.prog) (c := (e :: ds).length) Tryz.underlying54 Tryz.underlying5 Tryz.underlying9 hC
      have hln : (e :: ds).length = 65 - (65 - k - 1) := by simp; omega
      rw [hln] at hcv
      have hk1 : (65 : Int) - k - 1 ≤ 65 := by omega
      have hk2 : (0 : Int) ≤ 65 - k - 1 := by omega
      have hal : Tryz.prog.arrayLen 162 = 65 := by simp [Program.arrayLen, Tryz.underlying162]
      have hsl : ∀ W, (Instr.sliceAt 162 (.pointer (some ⟨H, 0, none⟩)) (some (.int .i64 ((65 : Int) - k - 1))) none none).run Tryz.prog W = .ok (.slice (some ⟨H, 65 - k - 1, none⟩) (65 - (65 - k - 1)) (65 - (65 - k - 1))) W := fun W => by
        rw [run_sliceAt_array_l W 162 ⟨H, 0, none⟩ (by simp [Program.arrayLen, Program.elem, Tryz.underlying162]) .i64 ((65 : Int) - k - 1) (by omega) (by rw [hal]; omega)]
        rw [hal, show ((65 : Int) - k - 1).toNat = 65 - k - 1 by omega]
        have hel : Tryz.prog.elem 162 = 5 := by simp [Program.elem, Tryz.underlying162]
        rw [hel]
        unfold slicedAt
        simp only [if_neg (show ¬ (65 = 65 - k - 1) by omega)]
        go_simp
      go_wp2
      go_ret2
      exact ⟨by rw [HHX.out, HST.out]; rfl, HB2.out⟩
end Go.Proofs.YtgdlmgdcoedfoaaGreatDoor.Agl
namespace Go.Proofs.YtgdlmgdcoedfoaaGreatDoor.Agl
open Go.RowKit Go.Proofs.YtgdlmgdcoedfoaaGreatDoorW.PrintWords Go.Proofs.YtgdlmgdcoedfoaaGreatDoorW.PrintLast Go.Proofs.YtgdlmgdcoedfoaaGreatDoorW.PrintMore
set_option linter.unusedVariables false
set_option linter.unusedSimpArgs false

set_option maxHeartbeats 400000 in
set_option maxRecDepth 100000 in
theorem fmt88 (u : Int) (w : World) (h0 : 0 ≤ u) (h1 : u < 16777216) (hT : w.cell? ⟨10, 15, none⟩ = some (.int .u8 4)) (hsz : 10 < w.heap.size) :
    Calls Tryz.prog 88 #[.int .i64 u, .int .i64 16] w fun e W' => e = .returned (.string (strOfNums (hexlow 6 u []))) ∧ Below w.heap.size w W' := by
  have FB := Aside0.mk (fbits125 u w h0 h1 hT hsz)
  obtain ⟨s, hs⟩ : ∃ s, strOfNums (hexlow 6 u []) = s := ⟨_, rfl⟩
  rw [hs] at FB ⊢
  clear hs
  clear hT hsz
  go_enter Tryz.func88, Tryz.ntmps88
  have hn : ¬ u < 0 := by omega
  go_upto_region 14 with fail
  go_upto_region 15 with fail
  refine FB.out.mono ?_
  rintro e W' ⟨rfl, hb⟩
  have HB := Aside0.mk hb
  clear hb FB
  go_wp2
  go_ret
  exact ⟨rfl, HB.out⟩
set_option maxHeartbeats 400000 in
set_option maxRecDepth 100000 in
/-- strconv.FormatInt(u, 16). -/
theorem fmt62 (u : Int) (w : World) (h0 : 0 ≤ u) (h1 : u < 16777216) (hT : w.cell? ⟨10, 15, none⟩ = some (.int .u8 4)) (hsz : 10 < w.heap.size) :
    Calls Tryz.prog 62 #[.int .i64 u, .int .i64 16] w fun e W' => e = .returned (.string (strOfNums (hexlow 6 u []))) ∧ Below w.heap.size w W' := by
  have FB := Aside0.mk (fmt88 u w h0 h1 hT hsz)
  obtain ⟨s, hs⟩ : ∃ s, strOfNums (hexlow 6 u []) = s := ⟨_, rfl⟩
  rw [hs] at FB ⊢
  clear hs
  clear hT hsz h0 h1
  go_enter Tryz.func62, Tryz.ntmps62
  go_wp2_with (go_at_call 88; refine FB.out.mono ?_; rintro e W' ⟨rfl, hb⟩; have HB := Aside0.mk hb; clear hb)
  go_ret
  exact ⟨rfl, HB.out⟩
end Go.Proofs.YtgdlmgdcoedfoaaGreatDoor.Agl
