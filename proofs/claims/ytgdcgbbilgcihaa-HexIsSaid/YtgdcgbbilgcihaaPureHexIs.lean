/- HexIs: of any number, bytes and text a digit, a blank, digits and their bytes are what the reference says; for every input, no condition. -/
import Derived.Test.YtgdcgbbilgcihaaPrint4
import Derived.Test.YtgdcgbbilgcihaaPlain
namespace Go.Proofs.Ytgdcgbbilgcihaa.Pure
open Go.RowKit Go.Proofs.Ytgdcgbbilgcihaa.Print Go.Proofs.YtgdcgbbilgcihaaW.PrintWords Go.Proofs.YtgdcgbbilgcihaaW.PrintLast Go.Proofs.Ytgdcgbbilgcihaa.Plain

theorem HexIs : hornbooklaw01_HexIs.Pure := by
  intro a0 l1 a2 h0 _ _ hb hs
  refine Ev.rounds (r := true) ?_
  unfold hornbooklaw01_HexIs.f
  refine Ev.bind (a := true) (Ev.now _) ?_
  by_cases c1 : (l1.length : Int) > 500
  · refine Ev.congr (fun k => by rw [if_pos c1]) ?_
    exact Ev.all fun k => by simp only [hornbooklaw01_HexIs.j0, if_true]
  refine Ev.congr (fun k => by rw [if_neg c1]) ?_
  by_cases c2 : (a2.size : Int) > 1000
  · exact Ev.all fun k => by simp only [hornbooklaw01_HexIs.j0, decide_eq_true c2, if_true]
  refine Ev.step (fun k => by simp only [hornbooklaw01_HexIs.j0, decide_eq_false c2]; rw [if_neg (by decide)]) ?_
  have hr : ∀ x ∈ l1, 0 ≤ x ∧ x < 256 := fun x hx => wf_u8 (hb x hx)
  refine Ev.bind (digit_ev a0) ?_
  refine Ev.bind (ref_digit_ev a0) ?_
  refine Ev.bind (unhex_ev a2 (by omega)) ?_
  refine Ev.bind (ref_unhex_ev a2 (by omega)) ?_
  refine Ev.congr (fun k => by rw [if_pos trivial, if_pos rfl, if_pos (by simp)]) ?_
  refine Ev.bind (a := whiteB a0) (Ev.now _) ?_
  refine Ev.bind (a := whiteB a0) (Ev.congr (fun _ => ref_white a0) (Ev.now _)) ?_
  refine Ev.congr (fun k => by rw [if_pos (by simp)]) ?_
  refine Ev.bind (Ev.congr (fun _ => hex_ev l1 (by omega) hr) (Ev.now _)) ?_
  refine Ev.bind (ref_hex_ev l1 (by omega) hr) ?_
  exact Ev.all fun k => by rw [if_pos rfl, if_pos rfl, if_pos rfl]; simp

end Go.Proofs.Ytgdcgbbilgcihaa.Pure
