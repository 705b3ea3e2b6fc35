/- utf.Text: values in UTF-8, by a strings.Builder. -/
import Derived.Test.YtgdlmgdcoedfoaaGreatDoorPart
import Derived.Test.YtgdlmgdcoedfoaaGreatDoorBld
namespace Go.Proofs.YtgdlmgdcoedfoaaGreatDoor.Agl
open Go.RowKit Go.Proofs.YtgdlmgdcoedfoaaGreatDoorW.PrintWords Go.Proofs.YtgdlmgdcoedfoaaGreatDoorW.PrintLast Go.Proofs.YtgdlmgdcoedfoaaGreatDoorW.PrintMore
set_option linter.unusedVariables false
set_option linter.unusedSimpArgs false

theorem ownF_slice {W : World} {base e sz : Nat} {v : Value} {n : Nat} {zs : List Value} (h : W.ownsRowF base e sz v n zs) : ∃ A c, v = .slice A n c := by
  rcases h.2 with ⟨rfl, rfl⟩ | ⟨g, cap, cur, fz, rfl, _⟩
  · exact ⟨_, _, rfl⟩
  · exact ⟨_, _, rfl⟩
set_option maxHeartbeats 800000 in
set_option maxRecDepth 100000 in
theorem wrune44 (B b : Nat) (bs : List Value) (r : Int) (w : World) (hr0 : -2147483648 ≤ r) (hr1 : r ≤ 2147483647) (h : Lib.IsBuilderF 56 5 B b bs w) (hlen : bs.length + 4 ≤ 140737488355328) (hBw : B ≤ w.heap.size) :
    Calls Tryz.prog 44 #[.pointer (some ⟨b, 0, none⟩), .int .i32 r] w fun e w' => (∃ n, e = .returned (.tuple #[.int .i64 n, .nilIface])) ∧ Lib.BuilderAtF 56 5 B b (.pointer (some ⟨b, 0, none⟩)) (bs ++ Lib.runeCells r) w' ∧ Below B w w' := by
  have H := Aside0.mk h
  clear h
  go_enter Tryz.func44, Tryz.ntmps44
  go_upto_region 2 with (go_at_call 67; refine (Bld.copyCheck B b bs _ H.out).mono ?_; rintro e w1 ⟨rfl, h1, hb1, hk1⟩; have H1 := Aside0.mk h1; have HB1 := Aside0.mk hb1; clear h1 hb1 hk1)
  obtain ⟨hB, v, hbk, hown, hne⟩ := H1.out
  obtain ⟨Av, cv, rfl⟩ := ownF_slice hown
  have c1 : w1.cell? ⟨b, 1, none⟩ = some (.slice Av bs.length cv) := by rw [Lib.cell_of_heap hbk]; rfl
  have hlt : b < w1.heap.size := by
    rcases Nat.lt_or_ge b w1.heap.size with h' | h'
    · exact h'
    · simp [Array.getElem?_eq_none h'] at hbk
  have hsz1 := HB1.out.size
  have AR := Aside0.mk (Tryz.utf8_AppendRune_row B (.slice Av bs.length cv) bs.length bs r hr0 hr1 w1 hown hlen (by omega))
  have HBK := Aside0.mk hbk; have HNE := Aside0.mk hne; have HOW := Aside0.mk hown
  clear hbk hne hown H H1
  go_upto_region 3 with fail
  go_upto_region 4 with (go_at_call 68; refine AR.out.mono ?_; rintro e w2 ⟨v', rfl, hown', o, hgrow⟩; have hb2 : w2.heap[b]? = some (.cells #[.pointer (some ⟨b, 0, none⟩), .slice Av bs.length cv] 56 (0, 0)) := (hgrow.block b (by rw [World.size_alloc]; omega) (fun e => HNE.out e.symm)).trans ((Below.heap_alloc w1 o b hlt).trans HBK.out); obtain ⟨A2, c2, rfl⟩ := ownF_slice hown'; have d1 : w2.cell? ⟨b, 1, none⟩ = some (.slice Av bs.length cv) := (by rw [Lib.cell_of_heap hb2]; rfl); have f1 : w2.frozen? ⟨b, 1, none⟩ = false := Lib.frozen_of_heap hb2 1; have HB2 := Aside0.mk hb2; have HOW2 := Aside0.mk hown'; have HG2 := Aside0.mk hgrow; clear hown' hgrow hb2)
  go_wp2
  go_ret2
  have hb2 := HB2.out
  have hown' := HOW2.out
  have hgrow := HG2.out
  refine ⟨⟨_, rfl⟩, ?_, ?_⟩
  · exact Lib.BuilderAtF.put (T := 56) (e := 5) hB hb2 (bs' := bs ++ Lib.runeCells r) (by simpa using hown') (by decide)
  · exact ((HB1.out.alloc (by omega) _).grown hgrow (by simp; omega) (fun k hk => (HOW.out.lt k (by simpa using hk)).1)).setCell (p := ⟨b, 1, none⟩) hB _
end Go.Proofs.YtgdlmgdcoedfoaaGreatDoor.Agl
