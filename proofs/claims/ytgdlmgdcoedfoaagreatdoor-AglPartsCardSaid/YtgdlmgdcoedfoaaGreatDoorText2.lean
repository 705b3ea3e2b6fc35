/- utf.Text. -/
import Derived.Test.YtgdlmgdcoedfoaaGreatDoorText
namespace Go.Proofs.YtgdlmgdcoedfoaaGreatDoor.Agl
open Go.RowKit Go.Proofs.YtgdlmgdcoedfoaaGreatDoorW.PrintWords Go.Proofs.YtgdlmgdcoedfoaaGreatDoorW.PrintLast Go.Proofs.YtgdlmgdcoedfoaaGreatDoorW.PrintMore
set_option linter.unusedVariables false
set_option linter.unusedSimpArgs false

theorem bld_below {B b : Nat} {bs : List Value} {W W' : World} (h : Lib.IsBuilderF 56 5 B b bs W) (hb : Below W.heap.size W W') : Lib.IsBuilderF 56 5 B b bs W' := by
  have step : ∀ p, Lib.BuilderAtF 56 5 B b p bs W → Lib.BuilderAtF 56 5 B b p bs W' := fun p h => by
    have hlt := h.lt
    obtain ⟨hB, v, hv, hown, hne⟩ := h
    exact ⟨hB, v, (hb.block b hlt).trans hv, hown.kept (row := none) ⟨hb.os, hb.tape, hb.output, hb.size, fun k hk _ => hb.block k hk⟩ (Classical.em _), hne⟩
  exact h.elim (fun x => .inl (step _ x)) (fun x => .inr (step _ x))
def goodV (r : Int) : Int := if goodB r = true then r else 65533
theorem goodB_rng {r : Int} (h : goodB r = true) : 0 ≤ r ∧ r ≤ 1114111 := by
  unfold goodB at h
  simp at h
  omega
theorem goodV_rng (r : Int) : 0 ≤ goodV r ∧ goodV r ≤ 1114111 := by
  unfold goodV
  split
  · rename_i h; exact goodB_rng h
  · decide
set_option maxHeartbeats 400000 in
set_option maxRecDepth 100000 in
theorem good45 (r : Int) (w : World) : Calls Tryz.prog 45 #[.int .i64 r] w fun e W' => e = .returned (.int .i64 (goodV r)) ∧ Below w.heap.size w W' := by
  have G := Aside0.mk (good24 r w)
  have hv : goodV r = if goodB r = true then r else 65533 := rfl
  obtain ⟨b, hb⟩ : ∃ b, goodB r = b := ⟨_, rfl⟩
  rw [hb] at G hv
  rw [hv]
  clear hb hv
  go_enter Tryz.func45, Tryz.ntmps45
  cases b with
  | false =>
    go_wp2_with (go_at_call 24; refine G.out.mono ?_; rintro e W1 ⟨rfl, hb⟩; have HB := Aside0.mk hb; clear hb)
    go_ret
    exact ⟨rfl, HB.out⟩
  | true =>
    go_wp2_with (go_at_call 24; refine G.out.mono ?_; rintro e W1 ⟨rfl, hb⟩; have HB := Aside0.mk hb; clear hb)
    go_ret
    exact ⟨rfl, HB.out⟩
def textL (l : List Int) : List UInt8 := l.flatMap fun r => Lib.encodeRune (goodV r)
theorem textL_snoc (l : List Int) (k : Nat) (h : k < l.length) : Lib.byteCells (textL (l.take (k + 1))) = Lib.byteCells (textL (l.take k)) ++ Lib.runeCells (goodV (rd l k)) := by
  rw [← Lib.byteCells_encodeRune, ← Lib.byteCells_append, List.take_succ_eq_append_getElem h]
  congr 1
  unfold textL rd
  rw [List.flatMap_append, List.getD_eq_getElem?_getD, Int.toNat_natCast, List.getElem?_eq_getElem h]
  simp
theorem textL_len : ∀ l : List Int, (textL l).length ≤ 4 * l.length
  | [] => by simp [textL]
  | r :: l => by
    have h := textL_len l
    have h1 := (Lib.runeCells_le (goodV r)).2
    rw [Lib.runeCells_length] at h1
    have e : textL (r :: l) = Lib.encodeRune (goodV r) ++ textL l := rfl
    rw [e, List.length_append, List.length_cons]; omega
set_option maxHeartbeats 800000 in
set_option maxRecDepth 100000 in
theorem text25 (A : Option Addr) (c : Nat) (l : List Int) (w : World) (hC : Kd.C (Kd.int .i64) w A l.length l) (hc : l.length ≤ c) (hl : l.length ≤ 1000000) :
    Calls Tryz.prog 25 #[.slice A l.length c] w fun e w' => e = .returned (.string ⟨(textL l).toArray⟩) ∧ Below w.heap.size w w' := by
  have HR := Aside0.mk hC; clear hC
  go_enter Tryz.func25, Tryz.ntmps25
  go_wp2
  go_loopw [8] (fun i wr => ∃ k : Nat, k ≤ l.length ∧ i = .int .i64 k ∧ Lib.IsBuilderF 56 5 w.heap.size w.heap.size (Lib.byteCells (textL (l.take k))) wr ∧ Below w.heap.size w wr ∧ w.heap.size < wr.heap.size) (fun i _ => l.length - (intOf i).toNat)
  case atStart =>
    refine ⟨0, Nat.zero_le _, rfl, (Lib.IsBuilderF.of (Lib.fresh_isBuilder 56 5 w)), (Below.refl _ w).alloc (Nat.le_refl _) _, by simp⟩
  case round =>
    obtain ⟨k, hk, rfl, hI, hbw, hsz⟩ := hrel
    have HI := Aside0.mk hI; have HBW := Aside0.mk hbw
    clear hI hbw
    by_cases hlt : k < l.length
    · obtain ⟨ad, rfl, hcell0⟩ := Kd.at_int HR.out k (by omega) (by omega)
      have hcell1 := pw_cell_below HBW.out hcell0
      have HSN := Aside0.mk (textL_snoc l k hlt)
      have HLN := Aside0.mk (Nat.le_trans (textL_len (l.take k)) (Nat.mul_le_mul_left 4 (List.length_take_le k l)))
      obtain ⟨x, hx⟩ : ∃ x, rd l (k : Int) = x := ⟨_, rfl⟩
      rw [hx] at hcell1 HSN
      have hcell : wr.cell? (ad.add k) = some (.int .i64 x) := hcell1
      clear hcell1 hcell0 hx
      obtain ⟨g, hg⟩ : ∃ g, goodV x = g := ⟨_, rfl⟩
      have G := Aside0.mk (good45 x wr)
      have hgr := goodV_rng x
      rw [hg] at hgr G HSN
      have hg0 : -2147483648 ≤ g := by omega
      have hg1 : g ≤ 2147483647 := by omega
      have HGR := Aside0.mk (And.intro hg0 hg1)
      clear hgr hg
      go_wp2_with (go_at_call 45; refine G.out.mono ?_; rintro e W1 ⟨rfl, hb⟩; have HB1 := Aside0.mk hb; clear hb)
      refine (wrune44 w.heap.size w.heap.size _ g W1 HGR.out.1 HGR.out.2 (bld_below HI.out HB1.out) ?hlen ?hBw).mono ?_
      case hlen => rw [Lib.byteCells_length]; have := HLN.out; omega
      case hBw => have := HB1.out.size; omega
      rintro e W2 ⟨⟨n, rfl⟩, h2, b2⟩
      have HI2 := Aside0.mk h2; have HB2 := Aside0.mk b2; clear h2 b2
      go_wp2
      go_roundw
      case rel =>
        refine ⟨k + 1, by omega, by go_num, .inr ?_, (HBW.out.trans (HB1.out.mono (by omega))).trans HB2.out, by have := HB1.out.size; have := HB2.out.size; omega⟩
        rw [HSN.out]
        exact HI2.out
      case measure => simp [intOf]; omega
    · go_wp2_with (go_at_call 46; refine (Tryz.Builder_String_any_k w.heap.size w.heap.size _ wr HI.out (by omega)).mono ?_; rintro e W1 ⟨rfl, _, b1, _⟩; have HB1 := Aside0.mk b1; clear b1)
      go_ret
      refine ⟨?_, HBW.out.trans HB1.out⟩
      rw [List.take_of_length_le (by omega)]; rfl
end Go.Proofs.YtgdlmgdcoedfoaaGreatDoor.Agl
