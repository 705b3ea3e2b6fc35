/- glyph.list. -/
import Derived.Test.YtgdlmgdcoedfoaaGreatDoorList
import Derived.Test.YtgdlmgdcoedfoaaGreatDoorShelf
namespace Go.Proofs.YtgdlmgdcoedfoaaGreatDoor.Agl
open Go.RowKit Go.Proofs.YtgdlmgdcoedfoaaGreatDoorW.PrintWords Go.Proofs.YtgdlmgdcoedfoaaGreatDoorW.PrintLast Go.Proofs.YtgdlmgdcoedfoaaGreatDoorW.PrintMore
set_option linter.unusedVariables false
set_option linter.unusedSimpArgs false

theorem R_nilA {e base : Nat} {W : World} {ok : Nat → Prop} {v : Value} (h : Kd.R Kd.string e W base ok v []) : ∃ A c, v = .slice A 0 c := by
  obtain ⟨A, c, hv⟩ := Kd.R_slice h
  exact ⟨A, c, hv⟩
theorem R_consA {e base : Nat} {W : World} {ok : Nat → Prop} {v : Value} {l : List ByteArray} (h : Kd.R Kd.string e W base ok v l) (hl : 0 < l.length) :
    ∃ g c, v = .slice (some ⟨g, 0, none⟩) l.length c ∧ l.length ≤ c ∧ ∀ (j : Nat) x, l[j]? = some x → W.cell? ⟨g, 0 + j, none⟩ = some (.string x) := by
  obtain ⟨A, c, rfl, hc, hC⟩ := Kd.R_reads h
  obtain ⟨ad, rfl, _⟩ := Kd.at_string hC 0 (by omega) (by omega)
  obtain ⟨g, rfl⟩ := Kd.R_head h
  refine ⟨g, c, rfl, hc, fun j x hj => ?_⟩
  obtain ⟨hjl, hx⟩ := List.getElem?_eq_some_iff.1 hj
  obtain ⟨ad, he, hcell⟩ := Kd.at_string hC j (by omega) (by omega)
  cases he
  rw [Int.toNat_natCast, add_at] at hcell
  rw [hcell]
  unfold rdOf
  rw [Int.toNat_natCast, List.getD_eq_getElem?_getD, hj]; rfl
theorem lt_of_cell {W : World} {g j : Nat} {v : Value} (h : W.cell? ⟨g, j, none⟩ = some v) : g < W.heap.size := by
  rcases Nat.lt_or_ge g W.heap.size with h' | h'
  · exact h'
  · simp [World.cell?, Array.getElem?_eq_none h'] at h
theorem join41 (v : Value) (l : List ByteArray) (sep : ByteArray) (base : Nat) (ok : Nat → Prop) (W : World) (h : Kd.R Kd.string 9 W base ok v l) (hN : l.length ≤ 1000000) (hlen : (Lib.join (l.map (·.data.toList)) sep.data.toList).length ≤ 140737488355328) :
    Calls Tryz.prog 41 #[v, .string sep] W fun e w' => e = .returned (.string ⟨(Lib.join (l.map (·.data.toList)) sep.data.toList).toArray⟩) ∧ Below W.heap.size W w' := by
  by_cases h0 : l = []
  · subst h0
    obtain ⟨A, c, rfl⟩ := R_nilA h
    refine (Tryz.strings_Join_none A c sep W).mono ?_
    rintro e w' ⟨rfl, rfl⟩
    exact ⟨rfl, Below.refl _ _⟩
  · have hl : 0 < l.length := List.length_pos_iff.2 h0
    obtain ⟨g, c, rfl, hc, hcells⟩ := R_consA h hl
    have hx := hcells 0 l[0] (by simp [hl])
    exact Tryz.strings_Join g 0 c l sep W hcells (lt_of_cell hx) (by omega) hc hlen
def listL : List UInt8 := 32 :: (Lib.join ((part1L ++ part2L).map (·.data.toList)) [32] ++ [32])
def listB : ByteArray := ⟨listL.toArray⟩
theorem parts_len : (part1L ++ part2L).length ≤ 1000 ∧ (Lib.join ((part1L ++ part2L).map (·.data.toList)) [32]).length ≤ 10000 := by decide +kernel
theorem listB_app : (⟨#[32]⟩ : ByteArray) ++ ⟨(Lib.join ((part1L ++ part2L).map (·.data.toList)) [32]).toArray⟩ ++ ⟨#[32]⟩ = listB := by
  unfold listB listL
  apply ByteArray.ext
  rw [ByteArray.data_append, ByteArray.data_append]
  apply Array.ext'
  simp
set_option maxHeartbeats 800000 in
set_option maxRecDepth 100000 in
theorem list48 (w : World) : Calls Tryz.prog 48 #[] w fun e W' => e = .returned (.string listB) ∧ Below w.heap.size w W' := by
  have HPL := Aside0.mk parts_len
  have HAP := Aside0.mk listB_app
  obtain ⟨p1, hp1⟩ : ∃ p, part1L = p := ⟨_, rfl⟩
  obtain ⟨p2, hp2⟩ : ∃ p, part2L = p := ⟨_, rfl⟩
  have P1 := Aside0.mk part72
  have P2 := Aside0.mk part73
  rw [hp1] at P1 HPL HAP
  rw [hp2] at P2 HPL HAP
  clear hp1 hp2
  obtain ⟨L, hL⟩ : ∃ L, listB = L := ⟨_, rfl⟩
  rw [hL] at HAP ⊢
  obtain ⟨j, hj⟩ : ∃ j, (⟨(Lib.join ((p1 ++ p2).map (·.data.toList)) [32]).toArray⟩ : ByteArray) = j := ⟨_, rfl⟩
  rw [hj] at HAP
  have hjs : j.size ≤ 10000 := by rw [← hj]; exact HPL.out.2
  have JN := Aside0.mk (fun (v : Value) (W : World) (base : Nat) (h : Kd.R Kd.string 9 W base (fun _ => True) v (p1 ++ p2)) => hj ▸ join41 v (p1 ++ p2) ⟨#[32]⟩ base (fun _ => True) W h (by have := HPL.out.1; omega) (Nat.le_trans HPL.out.2 (by decide)))
  have hz1 : ¬ 9223372036854775807 < 1 + j.size := by omega
  have hz2 : ¬ 9223372036854775807 < 1 + j.size + 1 := by omega
  have HJS := Aside0.mk hjs
  clear hL hj hjs
  go_enter Tryz.func48, Tryz.ntmps48
  go_wp2_with (first
    | (go_at_call 72; refine (P1.out w).mono ?_; rintro e W1 ⟨v1, rfl, hR1, hb1⟩; obtain ⟨A1, c1, rfl⟩ := Kd.R_slice hR1; have HR1 := Aside0.mk hR1; have HB1 := Aside0.mk hb1; clear hR1 hb1)
    | (go_at_call 73; refine (P2.out W1).mono ?_; rintro e W2 ⟨v2, rfl, hR2, hb2⟩; obtain ⟨A2, c2, rfl⟩ := Kd.R_slice hR2; have HR2 := Aside0.mk hR2; have HB2 := Aside0.mk hb2; clear hR2 hb2)
    | ((with_reducible refine gate_dst (N := 3) rfl ?_); go_loud (refine Kd.R_lit Ts (w0 := w) w.heap.size 26 ?hg (N := 3) ?hd (xs := [p1, p2]) (inner := [.slice A1 p1.length c1, .slice A2 p2.length c2]) (ok := fun _ => True) (okp := fun _ => True) ?hr ?hp (fun _ hk => hk) trivial ?hB ?hs (by simp) ?_; (case hd => rfl); (case hg => rfl); (case hr => first | (go_simp; done) | (go_simp; rfl)); (case hB => exact below_step HB1.out HB2.out); (case hs => exact Nat.le_trans HB1.out.size HB2.out.size); (case hp => exact Reps.one (show Kd.M Ts _ _ _ p1 [.slice A1 p1.length c1] from ⟨_, rfl, Kd.R_below HR1.out HB2.out⟩) (Reps.one (show Kd.M Ts _ _ _ p2 [.slice A2 p2.length c2] from ⟨_, rfl, Kd.R_lower HR2.out HB1.out.size⟩) (Reps.none _ _))); intro v3 w3 ho hb hg hn; obtain ⟨A3, c3, rfl, hc3, hC3⟩ := Kd.R_reads ho; have HC3 := Aside0.mk hC3; have HCC := Aside0.mk hc3; have HB3 := Aside0.mk hb; clear ho hb hg hn hc3 hC3))
    | (go_at_call 71; go_loud (refine (concat71 A3 c3 [p1, p2] w3 HC3.out HCC.out (by simp) ?hz).mono ?_; (case hz => have := HPL.out.1; simp only [List.flatten_cons, List.flatten_nil, List.append_nil]; omega); rintro e W4 ⟨v4, rfl, hR4, hb4⟩; have HR4 := Aside0.mk hR4; have HB4 := Aside0.mk hb4; clear hR4 hb4))
    | (go_at_call 41; go_loud (refine (JN.out v4 W4 w3.heap.size (by have h := HR4.out; simpa using h)).mono ?_; rintro e W5 ⟨rfl, hb5⟩; have HB5 := Aside0.mk hb5; clear hb5)))
  go_ret
  refine ⟨?_, below_step (below_step HB3.out HB4.out) HB5.out⟩
  rw [← HAP.out]; rfl
end Go.Proofs.YtgdlmgdcoedfoaaGreatDoor.Agl
