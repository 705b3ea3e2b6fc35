/- HexTexts: a code that is written is its digits, between its brackets; for every input, no condition. -/
import Derived.Test.YtgdcgbbilgcihaaPrint10
import Derived.Test.YtgdcgbbilgcihaaPlain3
namespace Go.Proofs.Ytgdcgbbilgcihaa.Pure
open Go.RowKit Go.Proofs.Ytgdcgbbilgcihaa.Print Go.Proofs.YtgdcgbbilgcihaaW.PrintWords Go.Proofs.YtgdcgbbilgcihaaW.PrintLast Go.Proofs.Ytgdcgbbilgcihaa.Plain

theorem nodigit_white (c : Int) (h : (digB c).2 = true) : whiteB c = false := by
  have hc : 48 ≤ c := by
    unfold digB at h
    split at h
    · omega
    · split at h
      · omega
      · split at h
        · omega
        · cases h
  unfold whiteB
  apply decide_eq_false
  omega
theorem HexTexts : hornbooklaw01_HexTexts.Pure := by
  intro n v d _ _ _
  refine Ev.rounds (r := true) ?_
  unfold hornbooklaw01_HexTexts.f
  refine Ev.bind (a := true) (Ev.now _) ?_
  refine Ev.bind (Ev.from_ 6 (text_prog n v)) ?_
  refine Ev.bind (digit_ev d) ?_
  have key : Ev (fun k => hornbooklaw01_HexTexts.j0 k true (codeText n v) false n v) true := by
    refine Ev.step (fun k => by simp only [hornbooklaw01_HexTexts.j0]; rw [if_neg (by decide)]) ?_
    refine Ev.bind (a := saneB n v) (Ev.congr (fun _ => sane_prog n v) (Ev.now _)) ?_
    by_cases hs : saneB n v = true
    · refine Ev.congr (fun k => by rw [if_pos hs]) ?_
      have h4 := codeBytes_len n v
      obtain ⟨hn1, hn2, hv1, hv2⟩ := saneB_iff.1 hs
      have h1 : 1 ≤ (codeBytes n v).length := by
        unfold codeBytes bytesB; rw [if_pos hs]
        rcases n_cases hn1 hn2 with rfl | rfl | rfl | rfl <;> simp
      have et : codeText n v = ((⟨#[60]⟩ : ByteArray) ++ (⟨(hexOf (codeBytes n v)).toArray⟩ : ByteArray)) ++ (⟨#[62]⟩ : ByteArray) := by unfold codeText; rw [if_pos hs]
      have ez : (codeText n v).size = 2 * (codeBytes n v).length + 2 := by
        rw [et, ByteArray.size_append, ByteArray.size_append, hexA_size]; show 1 + _ + 1 = _; omega
      have ew : wrap64 (((codeText n v).size : Int) - 1) = ((1 + 2 * (codeBytes n v).length : Nat) : Int) := by rw [ez]; unfold wrap64; omega
      have b0 : bt (codeText n v) 0 = 60 := by
        rw [← rd_bytesOf, et]
        unfold bytesOf; rw [ByteArray.data_append, ByteArray.data_append]
        simp [rd]
      have b1 : bt (codeText n v) ((1 + 2 * (codeBytes n v).length : Nat) : Int) = 62 := by
        have hl := hexOf_len (codeBytes n v)
        rw [← rd_bytesOf, et]
        unfold bytesOf; rw [ByteArray.data_append, ByteArray.data_append]
        simp only [rd, Array.toList_append, List.map_append, Int.toNat_natCast]
        rw [List.getD_eq_getElem?_getD, List.getElem?_append_right (by simp; omega)]
        simp [hl, show 1 + 2 * (codeBytes n v).length - (2 * (codeBytes n v).length + 1) = 0 by omega]
      have ex : (codeText n v).extract 1 ((((1 + 2 * (codeBytes n v).length : Nat) : Int)).toNat) = (⟨(hexOf (codeBytes n v)).toArray⟩ : ByteArray) := by
        rw [Int.toNat_natCast, et, mid_text]
      refine Ev.congr (fun k => by rw [if_neg (by omega), if_pos (by omega), if_pos b0, ew, if_pos (by omega), if_pos (by omega), b1]) ?_
      refine Ev.step (fun k => by simp only [hornbooklaw01_HexTexts.j1]; rw [if_neg (by decide), ew, if_pos (by omega), if_pos (by omega), ex]) ?_
      have hu : unhexL ⟨(hexOf (codeBytes n v)).toArray⟩ = (codeBytes n v, ((⟨(hexOf (codeBytes n v)).toArray⟩ : ByteArray).size : Int), 0) := by
        unfold unhexL
        rw [scan_hex _ (bytesB_range n v)]
        have := pack_nibs (codeBytes n v) []
        simp only [List.append_nil, pack] at this
        simp only [this]
      refine Ev.bind (unhex_ev _ (by rw [hexA_size]; omega)) ?_
      rw [hu]
      dsimp only
      refine Ev.congr (fun k => by rw [if_pos trivial, if_pos rfl]) ?_
      refine Ev.bind (Ev.from_ 6 (bytes_prog n v)) ?_
      refine Ev.congr (fun k => by rw [if_pos rfl]) ?_
      refine Ev.bind (Ev.congr (fun _ => hex_ev _ (by omega) (bytesB_range n v)) (Ev.now _)) ?_
      exact Ev.all fun k => by first | rfl | simp
    · have et : codeText n v = ⟨#[]⟩ := by unfold codeText; rw [if_neg hs]
      refine Ev.congr (fun k => by rw [if_neg hs, if_pos trivial, et, if_pos (by first | rfl | rw [ByteArray.toList_eq])]) ?_
      refine Ev.bind (Ev.from_ 6 (bytes_prog n v)) ?_
      exact Ev.all fun k => by unfold codeBytes; rw [if_neg hs]; rfl
  by_cases hd : (digB d).2 = true
  · refine Ev.congr (fun k => by rw [if_pos hd]) ?_
    refine Ev.bind (a := false) (Ev.congr (fun _ => congrArg some (nodigit_white d hd)) (Ev.now _)) ?_
    exact key
  · refine Ev.congr (fun k => by rw [if_neg hd]) ?_
    exact key

end Go.Proofs.Ytgdcgbbilgcihaa.Pure
