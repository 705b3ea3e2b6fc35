/- HexValues: a code is its bytes; no two codes have the same, those of one number of bytes rise with these; for every input, no condition. -/
import Derived.Test.YtgdcgbbilgcihaaPrint8
import Derived.Test.YtgdcgbbilgcihaaPlain3
namespace Go.Proofs.Ytgdcgbbilgcihaa.Pure
open Go.RowKit Go.Proofs.Ytgdcgbbilgcihaa.Print Go.Proofs.YtgdcgbbilgcihaaW.PrintWords Go.Proofs.YtgdcgbbilgcihaaW.PrintLast Go.Proofs.Ytgdcgbbilgcihaa.Plain

theorem text_size (n v : Int) (h : saneB n v = true) : ((codeText n v).size : Int) = 2 + 2 * n := by
  have hl := code_len n v h
  unfold codeText; rw [if_pos h, ByteArray.size_append, ByteArray.size_append, hexA_size]
  show ((1 + 2 * (codeBytes n v).length + 1 : Nat) : Int) = _
  omega
theorem HexValues : hornbooklaw01_HexValues.Pure := by
  intro n v m u _ _ _ _
  refine Ev.rounds (r := true) ?_
  unfold hornbooklaw01_HexValues.f
  refine Ev.bind (a := true) (Ev.now _) ?_
  refine Ev.bind (Ev.from_ 6 (bytes_prog n v)) ?_
  refine Ev.bind (Ev.from_ 6 (bytes_prog m u)) ?_
  refine Ev.bind (a := saneB n v) (Ev.congr (fun _ => sane_prog n v) (Ev.now _)) ?_
  by_cases hs : saneB n v = true
  · refine Ev.congr (fun k => by rw [if_pos hs]) ?_
    have hl := code_len n v hs
    obtain ⟨h1, h2, h3, h4⟩ := saneB_iff.1 hs
    refine Ev.bind (Ev.from_ 7 (val_prog _ (bytesB_range n v))) ?_
    have ev : valB (codeBytes n v) = (n, v, true) := by
      unfold valB; rw [if_pos (by omega), hl, valF_code n v hs]
    rw [ev]
    dsimp only
    refine Ev.congr (fun k => by rw [if_pos rfl, if_neg (by simp), if_pos hl]) ?_
    refine Ev.bind (Ev.from_ 6 (text_prog n v)) ?_
    have et : (((codeText n v).size : Int) != (wrap64 (2 + (wrap64 (2 * n))))) = false := by
      rw [text_size n v hs]
      have : wrap64 (2 + wrap64 (2 * n)) = 2 + 2 * n := by unfold wrap64; omega
      rw [this]; simp
    refine Ev.congr (fun k => by rw [et]) ?_
    refine Ev.step (fun k => by simp only [hornbooklaw01_HexValues.j0]; rw [if_neg (by decide)]) ?_
    refine Ev.bind (a := saneB m u) (Ev.congr (fun _ => sane_prog m u) (Ev.now _)) ?_
    have differ : codeBytes n v ≠ codeBytes m u → Ev (fun k => hornbooklaw01_HexValues.j1 k true (codeBytes n v) (codeBytes m u) true n v m u) true := by
      intro hne
      refine Ev.all fun k => ?_
      simp only [hornbooklaw01_HexValues.j1, if_true]
      congr 1
      rw [bne_iff_ne]
      exact fun h => hne (str_inj _ _ (bytesB_range n v) (bytesB_range m u) h)
    by_cases hu : saneB m u = true
    · refine Ev.congr (fun k => by rw [if_pos hu]) ?_
      have hl2 := code_len m u hu
      by_cases hnm : n = m
      · subst hnm
        refine Ev.congr (g := fun k => hornbooklaw01_HexValues.j1 k true (codeBytes n v) (codeBytes n u) (n != n) n v n u) (fun k => by rw [show (n != n) = false by simp]) ?_
        refine Ev.step (fun k => by simp only [hornbooklaw01_HexValues.j1]; rw [if_neg (by decide), if_pos trivial]) ?_
        have hv := valF_less (codeBytes n v) (codeBytes n u) (by omega) (bytesB_range n v) (bytesB_range n u) 0 0
        rw [valF_code n v hs, valF_code n u hu] at hv
        have c1 : (Op.bytesLess ((strOfNums (codeBytes n v)).toList) ((strOfNums (codeBytes n u)).toList) == decide (v < u)) = true := by
          rw [less_str _ _ (bytesB_range n v) (bytesB_range n u)]
          rw [beq_iff_eq, Bool.eq_iff_iff, decide_eq_true_iff, hv.1]
          simp
        have c2 : (((strOfNums (codeBytes n v)).toList == (strOfNums (codeBytes n u)).toList) == (n == n && (v == u))) = true := by
          rw [beq_iff_eq, Bool.eq_iff_iff, beq_iff_eq]
          simp only [beq_self_eq_true, Bool.true_and, beq_iff_eq]
          constructor
          · intro h; exact hv.2.2 ⟨rfl, str_inj _ _ (bytesB_range n v) (bytesB_range n u) h⟩
          · intro h; rw [h]
        refine Ev.congr (fun k => by rw [if_pos c1, if_pos c2]) ?_
        refine Ev.bind (Ev.from_ 6 (text_prog n v)) ?_
        refine Ev.bind (Ev.from_ 6 (text_prog n u)) ?_
        refine Ev.all fun k => ?_
        congr 1
        rw [beq_iff_eq, Bool.eq_iff_iff, beq_iff_eq]
        simp only [beq_self_eq_true, Bool.true_and, beq_iff_eq]
        constructor
        · intro h; exact hv.2.2 ⟨rfl, codeText_inj n v u hs hu (ba_eq_of_toList h)⟩
        · intro h; rw [h]
      · refine Ev.congr (fun k => by rw [show (n != m) = true by simpa using hnm]) ?_
        exact differ (fun h => hnm (by rw [← hl, ← hl2, h]))
    · refine Ev.congr (fun k => by rw [if_neg hu]) ?_
      refine differ (fun h => ?_)
      have : codeBytes m u = [] := by unfold codeBytes; rw [if_neg hu]
      rw [h, this] at hl
      simp at hl; omega
  · refine Ev.congr (fun k => by rw [if_neg hs, if_pos rfl, if_pos (by unfold codeBytes; rw [if_neg hs]; rfl)]) ?_
    refine Ev.bind (Ev.from_ 6 (text_prog n v)) ?_
    exact Ev.all fun k => by unfold codeText; rw [if_neg hs, ByteArray.toList_eq]; rfl

end Go.Proofs.Ytgdcgbbilgcihaa.Pure
