/- HexRows: digits in two parts are digits at once; for every input, no condition. -/
import Derived.Test.YtgdcgbbilgcihaaPrint9
import Derived.Test.YtgdcgbbilgcihaaPlain2
namespace Go.Proofs.Ytgdcgbbilgcihaa.Pure
open Go.RowKit Go.Proofs.Ytgdcgbbilgcihaa.Print Go.Proofs.YtgdcgbbilgcihaaW.PrintWords Go.Proofs.YtgdcgbbilgcihaaW.PrintLast Go.Proofs.Ytgdcgbbilgcihaa.Plain

theorem HexRows : hornbooklaw01_HexRows.Pure := by
  intro a s _ _ hb hs
  have hr : ∀ x ∈ a, 0 ≤ x ∧ x < 256 := fun x hx => wf_u8 (hb x hx)
  refine Ev.rounds (r := true) ?_
  unfold hornbooklaw01_HexRows.f
  refine Ev.bind (a := true) (Ev.now _) ?_
  by_cases c1 : (a.length : Int) > 200
  · refine Ev.congr (fun k => by rw [if_pos c1]) ?_
    exact Ev.all fun k => by simp only [hornbooklaw01_HexRows.j0, if_true]
  refine Ev.congr (fun k => by rw [if_neg c1]) ?_
  by_cases c2 : (s.size : Int) > 300
  · exact Ev.all fun k => by simp only [hornbooklaw01_HexRows.j0, decide_eq_true c2, if_true]
  refine Ev.step (fun k => by simp only [hornbooklaw01_HexRows.j0, decide_eq_false c2]; rw [if_neg (by decide)]) ?_
  have hz : (⟨(hexOf a).toArray⟩ : ByteArray).size = 2 * a.length := hexOf_len a
  refine Ev.bind (unhex_ev s (by omega)) ?_
  refine Ev.bind (Ev.congr (fun _ => hex_ev a (by omega) hr) (Ev.now _)) ?_
  refine Ev.congr (fun k => by rw [if_pos (by rw [hz]; omega)]) ?_
  refine Ev.bind (unhex_ev (⟨(hexOf a).toArray⟩ ++ s) (by rw [ByteArray.size_append, hz]; omega)) ?_
  refine Ev.congr (fun k => by rw [if_pos (by omega)]) ?_
  refine Ev.bind (unhex_ev (s ++ ⟨#[48]⟩) (by rw [ByteArray.size_append]; show s.size + 1 ≤ _; omega)) ?_
  have ea : (scan 0 (bytesOf (⟨(hexOf a).toArray⟩ ++ s))) = ((nibs a ++ (scan 0 (bytesOf s)).1), (scan 0 (bytesOf s)).2.map (· + 2 * a.length)) := by
    rw [bytesOf_append, scan_append_none _ _ _ (by rw [scan_hex a hr]), scan_hex a hr, scan_shift, bytesOf_length, hz]
  have ez : (s ++ ⟨#[48]⟩ : ByteArray).size = s.size + 1 := by rw [ByteArray.size_append]; rfl
  have eh : ((⟨(hexOf a).toArray⟩ : ByteArray) ++ s).size = 2 * a.length + s.size := by rw [ByteArray.size_append, hz]
  rcases hsc : (scan 0 (bytesOf s)).2 with _ | j
  · have e1 : unhexL s = (pack (scan 0 (bytesOf s)).1, (s.size : Int), 0) := by unfold unhexL; rw [hsc]
    have e2 : unhexL (⟨(hexOf a).toArray⟩ ++ s) = (a ++ pack (scan 0 (bytesOf s)).1, ((2 * a.length + s.size : Nat) : Int), 0) := by
      unfold unhexL; rw [ea, hsc]; simp only [Option.map_none]; rw [pack_nibs, eh]
    have e3 : unhexL (s ++ ⟨#[48]⟩) = (pack ((scan 0 (bytesOf s)).1 ++ [0]), ((s.size + 1 : Nat) : Int), 0) := by
      have hb0 : bytesOf ⟨#[48]⟩ = [48] := rfl
      have hs0 : ∀ i, scan i [48] = ([0], none) := by intro i; simp [scan, digB]
      unfold unhexL
      rw [bytesOf_append, scan_append_none _ _ _ hsc, hb0, hs0, ez]
    rw [e1, e2, e3]
    have l1 := pack_len (scan 0 (bytesOf s)).1
    have l2 := pack_len ((scan 0 (bytesOf s)).1 ++ [0])
    rw [List.length_append] at l2
    simp only [List.length_cons, List.length_nil] at l2
    have l3 := scan_len (bytesOf s) 0
    rw [bytesOf_length] at l3
    dsimp only
    refine Ev.congr (fun k => by
      rw [if_pos rfl, if_pos trivial, if_pos rfl, if_pos (by rw [strOfNums_size, strOfNums_size]; omega), if_pos (by rw [ByteArray.toList_eq, ByteArray.toList_eq, ByteArray.data_append]; simp [strOfNums_data]), if_pos rfl, if_pos (by omega)]) ?_
    by_cases hg : ((pack ((scan 0 (bytesOf s)).1 ++ [0])).length : Int) > ((pack (scan 0 (bytesOf s)).1).length : Int)
    · exact Ev.congr (fun k => by rw [if_pos hg]) (Ev.now _)
    · refine Ev.all fun k => ?_
      rw [if_neg hg, pack_zero _ (by omega)]; simp
  · have e1 : unhexL s = ([], (j : Int), 1) := by unfold unhexL; rw [hsc]
    have e2 : unhexL (⟨(hexOf a).toArray⟩ ++ s) = ([], ((j + 2 * a.length : Nat) : Int), 1) := by
      unfold unhexL; rw [ea, hsc]; simp
    have hj := (scan_bad _ _ _ hsc).2.1
    rw [bytesOf_length] at hj
    rw [e1, e2]
    dsimp only
    exact Ev.all fun k => by
      rw [if_neg (by decide), if_pos trivial, if_pos rfl, if_pos (by unfold wrap64; omega)]; rfl

end Go.Proofs.Ytgdcgbbilgcihaa.Pure
