/- utf.Text: values in UTF-8, by a strings.Builder. utf.Text. -/
import Derived.Test.YtgdlmgdcoedfoaaGreatDoorPart
import Derived.Test.YtgdlmgdcoedfoaaGreatDoorBld
namespace Go.Proofs.YtgdlmgdcoedfoaaGreatDoor.Agl
open Go.RowKit Go.Proofs.YtgdlmgdcoedfoaaGreatDoorW.PrintWords Go.Proofs.YtgdlmgdcoedfoaaGreatDoorW.PrintLast Go.Proofs.YtgdlmgdcoedfoaaGreatDoorW.PrintMore
set_option linter.unusedVariables false
set_option linter.unusedSimpArgs false

theorem ownF_slice {W : World} {base e sz : Nat} {v : Value} {n : Nat} {zs : List Value} (h : W.ownsRowF base e sz v n zs) : ∃ A c, v = .slice A n c := by
  rcases h.2 with ⟨rfl, rfl⟩ | ⟨g, cap, cur, fz, rfl, _⟩
  · exact ⟨_, _, rfl⟩
  · exact ⟨_, _, rfl⟩
set_option maxHeartbeats 800000 in
set_option maxRecDepth 100000 in
theorem wrune44 (B b : Nat) (bs : List Value) (r : Int) (w : World) (hr0 : -2147483648 ≤ r) (hr1 : r ≤ 2147483647) (h : Lib.IsBuilderF 56 5 B b bs w) (hlen : bs.length + 4 ≤ 140737488355328) (hBw : B ≤ w.heap.size) :
    Calls Tryz.prog 44 #[.pointer (some ⟨b, 0, none⟩), .int .i32 r] w fun e w' => (∃ n, e = .returned (.tuple #[.int .i64 n, .nilIface])) ∧ Lib.BuilderAtF 56 5 B b (.pointer (some ⟨b, 0, none⟩)) (bs ++ Lib.runeCells r) w' ∧ Below B w w' := by
  have H := Aside0.mk h
  clear h
  go_enter Tryz.func44, Tryz.ntmps44
  go_upto_region 2 with (go_at_call 67; refine (Bld.copyCheck B b bs _ H.out).mono ?_; rintro e w1 ⟨rfl, h1, hb1, hk1⟩; have H1 := Aside0.mk h1; have HB1 := Aside0.mk hb1; clear h1 hb1 hk1)
  obtain ⟨hB, v, hbk, hown, hne⟩ := H1.out
  obtain ⟨Av, cv, rfl⟩ := ownF_slice hown
  have c1 : w1.cell? ⟨b, 1, none⟩ = some (.slice Av bs.length cv) := by rw [Lib.cell_of_heap hbk]; rfl
  have hlt : b < w1.heap.size := by
    rcases Nat.lt_or_ge b w1.heap.size with h' | h'
    · exact h'
    · simp [Array.getElem?_eq_none h'] at hbk
  have hsz1 := HB1.out.size
  have AR := Aside0.mk (Tryz.utf8_AppendRune_row B (.slice Av bs.length cv) bs.length bs r hr0 hr1 w1 hown hlen (by omega))
  have HBK := Aside0.mk hbk; have HNE := Aside0.mk hne; have HOW := Aside0.mk hown
  clear hbk hne hown H H1
  go_upto_region 3 with fail
  go_upto_region 4 with (go_at_call 68; refine AR.out.mono ?_; rintro e w2 ⟨v', rfl, hown', o, hgrow⟩; have hb2 : w2.heap[b]? = some (.cells #[.pointer (some ⟨b, 0, none⟩), .slice Av bs.length cv] 56 (0, 0)) := (hgrow.block b (by rw [World.size_alloc]; omega) (fun e => HNE.out e.symm)).trans ((Below.heap_alloc w1 o b hlt).trans HBK.out); obtain ⟨A2, c2, rfl⟩ := ownF_slice hown'; have d1 : w2.cell? ⟨b, 1, none⟩ = some (.slice Av bs.length cv) := (by rw [Lib.cell_of_heap hb2]; rfl); have f1 : w2.frozen? ⟨b, 1, none⟩ = false := Lib.frozen_of_heap hb2 1; have HB2 := Aside0.mk hb2; have HOW2 := Aside0.mk hown'; have HG2 := Aside0.mk hgrow; clear hown' hgrow hb2)
  go_wp2
  go_ret2
  have hb2 := HB2.out
  have hown' := HOW2.out
  have hgrow := HG2.out
  refine ⟨⟨_, rfl⟩, ?_, ?_⟩
  · exact Lib.BuilderAtF.put (T := 56) (e := 5) hB hb2 (bs' := bs ++ Lib.runeCells r) (by simpa using hown') (by decide)
  · exact ((HB1.out.alloc (by omega) _).grown hgrow (by simp; omega) (fun k hk => (HOW.out.lt k (by simpa using hk)).1)).setCell (p := ⟨b, 1, none⟩) hB _
end Go.Proofs.YtgdlmgdcoedfoaaGreatDoor.Agl
namespace Go.Proofs.YtgdlmgdcoedfoaaGreatDoor.Agl
open Go.RowKit Go.Proofs.YtgdlmgdcoedfoaaGreatDoorW.PrintWords Go.Proofs.YtgdlmgdcoedfoaaGreatDoorW.PrintLast Go.Proofs.YtgdlmgdcoedfoaaGreatDoorW.PrintMore
set_option linter.unusedVariables false
set_option linter.unusedSimpArgs false

theorem bld_below {B b : Nat} {bs : List Value} {W W' : World} (h : Lib.IsBuilderF 56 5 B b bs W) (hb : Below W.heap.size W W') : Lib.IsBuilderF 56 5 B b bs W' := by
  have step : ∀ p, Lib.BuilderAtF 56 5 B b p bs W → Lib.BuilderAtF 56 5 B b p bs W' := fun p h => by
    have hlt := h.lt
    obtain ⟨hB, v, hv, hown, hne⟩ := h
    exact ⟨hB, v, (hb.block b hlt).trans hv, hown.kept (row := none) ⟨hb.os, hb.tape, hb.output, hb.size, fun k hk _ => hb.block k hk⟩ (Classical.em _), hne⟩
  exact h.elim (fun x => .inl (step _ x)) (fun x => .inr (step _ x))
def goodV (r : Int) : Int := if goodB r = true then r else 65533
theorem goodB_rng {r : Int} (h : goodB r = true) : 0 ≤ r ∧ r ≤ 1114111 := by
  unfold goodB at h
  simp at h
  omega
theorem goodV_rng (r : Int) : 0 ≤ goodV r ∧ goodV r ≤ 1114111 := by
  unfold goodV
  split
  · rename_i h; exact goodB_rng h
  · decide
set_option maxHeartbeats 400000 in
set_option maxRecDepth 100000 in
theorem good45 (r : Int) (w : World) : Calls Tryz.prog 45 #[.int .i64 r] w fun e W' => e = .returned (.int .i64 (goodV r)) ∧ Below w.heap.size w W' := by
  have G := Aside0.mk (good24 r w)
  have hv : goodV r = if goodB r = true then r else 65533 := rfl
  obtain ⟨b, hb⟩ : ∃ b, goodB r = b := ⟨_, rfl⟩
  rw [hb] at G hv
  rw [hv]
  clear hb hv
  go_enter Tryz.func45, Tryz.ntmps45
  cases b with
  | false =>
    go_wp2_with (go_at_call 24; refine G.out.mono ?_; rintro e W1 ⟨rfl, hb⟩; have HB := Aside0.mk hb; clear hb)
    go_ret
    exact ⟨rfl, HB.out⟩
  | true =>
    go_wp2_with (go_at_call 24; refine G.out.mono ?_; rintro e W1 ⟨rfl, hb⟩; have HB := Aside0.mk hb; clear hb)
    go_ret
    exact ⟨rfl, HB.out⟩
def textL (l : List Int) : List UInt8 := l.flatMap fun r => Lib.encodeRune (goodV r)
theorem textL_snoc (l : List Int) (k : Nat) (h : k < l.length) : Lib.byteCells (textL (l.take (k + 1))) = Lib.byteCells (textL (l.take k)) ++ Lib.runeCells (goodV (rd l k)) := by
  rw [← Lib.byteCells_encodeRune, ← Lib.byteCells_append, List.take_succ_eq_append_getElem h]
  congr 1
  unfold textL rd
  rw [List.flatMap_append, List.getD_eq_getElem?_getD, Int.toNat_natCast, List.getElem?_eq_getElem h]
  simp
theorem textL_len : ∀ l : List Int, (textL l).length ≤ 4 * l.length
  | [] => by simp [textL]
  | r :: l => by
    have h := textL_len l
    have h1 := (Lib.runeCells_le (goodV r)).2
    rw [Lib.runeCells_length] at h1
    have e : textL (r :: l) = Lib.encodeRune (goodV r) ++ textL l := rfl
    rw [e, List.length_append, List.length_cons]; omega
set_option maxHeartbeats 800000 in
set_option maxRecDepth 100000 in
theorem text25 (A : Option Addr) (c : Nat) (l : List Int) (w : World) (hC : Kd.C (Kd.int .i64) w A l.length l) (hc : l.length ≤ c) (hl : l.length ≤ 1000000) :
    Calls Tryz.prog 25 #[.slice A l.length c] w fun e w' => e = .returned (.string ⟨(textL l).toArray⟩) ∧ Below w.heap.size w w' := by
  have HR := Aside0.mk hC; clear hC
  go_enter Tryz.func25, Tryz.ntmps25
  go_wp2
  go_loopw [8] (fun i wr => ∃ k : Nat, k ≤ l.length ∧ i = .int .i64 k ∧ Lib.IsBuilderF 56 5 w.heap.size w.heap.size (Lib.byteCells (textL (l.take k))) wr ∧ Below w.heap.size w wr ∧ w.heap.size < wr.heap.size) (fun i _ => l.length - (intOf i).toNat)
  case atStart =>
    refine ⟨0, Nat.zero_le _, rfl, (Lib.IsBuilderF.of (Lib.fresh_isBuilder 56 5 w)), (Below.refl _ w).alloc (Nat.le_refl _) _, by simp⟩
  case round =>
    obtain ⟨k, hk, rfl, hI, hbw, hsz⟩ := hrel
    have HI := Aside0.mk hI; have HBW := Aside0.mk hbw
    clear hI hbw
    by_cases hlt : k < l.length
    · obtain ⟨ad, rfl, hcell0⟩ := Kd.at_int HR.out k (by omega) (by omega)
      have hcell1 := pw_cell_below HBW.out hcell0
      have HSN := Aside0.mk (textL_snoc l k hlt)
      have HLN := Aside0.mk (Nat.le_trans (textL_len (l.take k)) (Nat.mul_le_mul_left 4 (List.length_take_le k l)))
      obtain ⟨x, hx⟩ : ∃ x, rd l (k : Int) = x := ⟨_, rfl⟩
      rw [hx] at hcell1 HSN
      have hcell : wr.cell? (ad.add k) = some (.int .i64 x) := hcell1
      clear hcell1 hcell0 hx
      obtain ⟨g, hg⟩ : ∃ g, goodV x = g := ⟨_, rfl⟩
      have G := Aside0.mk (good45 x wr)
      have hgr := goodV_rng x
      rw [hg] at hgr G HSN
      have hg0 : -2147483648 ≤ g := by omega
      have hg1 : g ≤ 2147483647 := by omega
      have HGR := Aside0.mk (And.intro hg0 hg1)
      clear hgr hg
      go_wp2_with (go_at_call 45; refine G.out.mono ?_; rintro e W1 ⟨rfl, hb⟩; have HB1 := Aside0.mk hb; clear hb)
      refine (wrune44 w.heap.size w.heap.size _ g W1 HGR.out.1 HGR.out.2 (bld_below HI.out HB1.out) ?hlen ?hBw).mono ?_
      case hlen => rw [Lib.byteCells_length]; have := HLN.out; omega
      case hBw => have := HB1.out.size; omega
      rintro e W2 ⟨⟨n, rfl⟩, h2, b2⟩
      have HI2 := Aside0.mk h2; have HB2 := Aside0.mk b2; clear h2 b2
      go_wp2
      go_roundw
      case rel =>
        refine ⟨k + 1, by omega, by go_num, .inr ?_, (HBW.out.trans (HB1.out.mono (by omega))).trans HB2.out, by have := HB1.out.size; have := HB2.out.size; omega⟩
        rw [HSN.out]
        exact HI2.out
      case measure => simp [intOf]; omega
    · go_wp2_with (go_at_call 46; refine (Tryz.Builder_String_any_k w.heap.size w.heap.size _ wr HI.out (by omega)).mono ?_; rintro e W1 ⟨rfl, _, b1, _⟩; have HB1 := Aside0.mk b1; clear b1)
      go_ret
      refine ⟨?_, HBW.out.trans HB1.out⟩
      rw [List.take_of_length_le (by omega)]; rfl
end Go.Proofs.YtgdlmgdcoedfoaaGreatDoor.Agl
