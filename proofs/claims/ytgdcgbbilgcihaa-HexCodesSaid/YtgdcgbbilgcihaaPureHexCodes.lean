/- HexCodes: of any code and bytes whether it may be, its bytes, its text, and the code of bytes are what the reference says; for every input, no condition. -/
import Derived.Test.YtgdcgbbilgcihaaPrint7
import Derived.Test.YtgdcgbbilgcihaaPlain3
namespace Go.Proofs.Ytgdcgbbilgcihaa.Pure
open Go.RowKit Go.Proofs.Ytgdcgbbilgcihaa.Print Go.Proofs.YtgdcgbbilgcihaaW.PrintWords Go.Proofs.YtgdcgbbilgcihaaW.PrintLast Go.Proofs.Ytgdcgbbilgcihaa.Plain

theorem HexCodes : hornbooklaw01_HexCodes.Pure := by
  intro n v l _ _ _ _ hb
  have hr : ∀ x ∈ l, 0 ≤ x ∧ x < 256 := fun x hx => wf_u8 (hb x hx)
  refine Ev.rounds (r := true) ?_
  unfold hornbooklaw01_HexCodes.f
  refine Ev.bind (a := true) (Ev.now _) ?_
  by_cases c1 : (l.length : Int) > 100
  · exact Ev.congr (fun k => by rw [if_pos c1]) (Ev.now _)
  refine Ev.congr (fun k => by rw [if_neg c1]) ?_
  refine Ev.bind (Ev.from_ 7 (val_prog l hr)) ?_
  refine Ev.bind (Ev.from_ 7 (val_ref l hr)) ?_
  refine Ev.congr (fun k => by rw [if_pos rfl]) ?_
  refine Ev.bind (a := saneB n v) (Ev.congr (fun _ => sane_prog n v) (Ev.now _)) ?_
  refine Ev.bind (Ev.from_ 6 (sane_ref n v)) ?_
  refine Ev.congr (fun k => by rw [if_pos (by simp)]) ?_
  refine Ev.bind (Ev.from_ 6 (bytes_prog n v)) ?_
  refine Ev.bind (Ev.from_ 6 (bytes_ref n v)) ?_
  refine Ev.congr (fun k => by rw [if_pos rfl]) ?_
  refine Ev.bind (Ev.from_ 6 (text_prog n v)) ?_
  refine Ev.bind (text_ref n v) ?_
  exact Ev.all fun k => by rw [if_pos rfl, if_pos (by simp)]; simp

end Go.Proofs.Ytgdcgbbilgcihaa.Pure
