/- HexBad: what is no digit is told by its place; for every text, no condition. -/
import Derived.Test.YtgdcgbbilgcihaaPrint5
import Derived.Test.YtgdcgbbilgcihaaPlain2
namespace Go.Proofs.Ytgdcgbbilgcihaa.Pure
open Go.RowKit Go.Proofs.Ytgdcgbbilgcihaa.Print Go.Proofs.YtgdcgbbilgcihaaW.PrintWords Go.Proofs.YtgdcgbbilgcihaaW.PrintLast Go.Proofs.Ytgdcgbbilgcihaa.Plain

theorem HexBad : hornbooklaw01_HexBad.Pure := by
  intro s hs
  refine Ev.rounds (r := true) ?_
  unfold hornbooklaw01_HexBad.f
  refine Ev.bind (a := true) (Ev.now _) ?_
  by_cases c1 : (s.size : Int) > 1000
  · exact Ev.congr (fun k => by rw [if_pos c1]) (Ev.now _)
  refine Ev.congr (fun k => by rw [if_neg c1]) ?_
  refine Ev.bind (unhex_ev s (by omega)) ?_
  unfold unhexL
  rcases hb : (scan 0 (bytesOf s)).2 with _ | j
  · refine Ev.congr (fun k => by simp only; rw [if_pos trivial, if_pos trivial, if_pos trivial]) ?_
    have h1 := scan_len (bytesOf s) 0
    rw [bytesOf_length] at h1
    have h2 := pack_len (scan 0 (bytesOf s)).1
    have e1 : wrap64 ((s.size : Int) + 1) = (s.size : Int) + 1 := by unfold wrap64; omega
    have e2 : wrap64 (Int.tdiv ((s.size : Int) + 1) 2) = ((s.size : Int) + 1) / 2 := by rw [Int.tdiv_eq_ediv_of_nonneg (by omega)]; unfold wrap64; omega
    exact Ev.all fun k => by rw [e1, e2]; congr 1; exact decide_eq_true (by omega)
  · obtain ⟨_, hj, h2, h3, h4⟩ := scan_bad _ _ _ hb
    simp only [Nat.sub_zero] at hj h2 h3 h4
    rw [bytesOf_length] at hj
    have eb : (bytesOf s)[j]'(by rw [bytesOf_length]; exact hj) = bt s (j : Int) := by rw [← rd_bytesOf, rd_at]
    rw [eb] at h2 h3
    refine Ev.congr (fun k => by simp only; rw [if_neg (by decide), if_pos trivial, if_neg (by omega), if_neg (by omega)]) ?_
    refine Ev.step (fun k => by simp only [hornbooklaw01_HexBad.j0]; rw [if_neg (by simp), if_pos (by omega), if_pos (by omega), wrap_bt]) ?_
    refine Ev.bind (digit_ev _) ?_
    refine Ev.congr (fun k => by rw [if_pos (by omega)]) ?_
    have hx : (s.extract 0 ((j : Int)).toNat).size = j := by simp; omega
    refine Ev.bind (unhex_ev (s.extract 0 ((j : Int)).toNat) (by omega)) ?_
    refine Ev.congr (fun k => by rw [if_pos trivial, if_neg (by simp [h2])]) ?_
    refine Ev.bind (a := false) (Ev.congr (fun _ => congrArg some h3) (Ev.now _)) ?_
    have ew : unhexL (s.extract 0 ((j : Int)).toNat) = (pack (scan 0 ((bytesOf s).take j)).1, (j : Int), 0) := by
      unfold unhexL
      rw [hx, Int.toNat_natCast, bytesOf_extract, h4]
    rw [ew]
    exact Ev.all fun k => by rw [if_neg (by decide), if_pos rfl]; simp

end Go.Proofs.Ytgdcgbbilgcihaa.Pure
