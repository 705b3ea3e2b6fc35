/- glyph.Names. -/
import Derived.Test.YtgdlmgdcoedfoaaGreatDoorGoodLaw
import Derived.Test.YtgdlmgdcoedfoaaGreatDoorWrite
namespace Go.Proofs.YtgdlmgdcoedfoaaGreatDoor.Agl
open Go.RowKit Go.Proofs.YtgdlmgdcoedfoaaGreatDoorW.PrintWords Go.Proofs.YtgdlmgdcoedfoaaGreatDoorW.PrintLast Go.Proofs.YtgdlmgdcoedfoaaGreatDoorW.PrintMore
set_option linter.unusedVariables false
set_option linter.unusedSimpArgs false

def nameB (f : List UInt8) : ByteArray := asB (eqName f)
set_option maxHeartbeats 1000000 in
set_option maxRecDepth 100000 in
theorem names27 (w : World) (hL : Laid w) :
    Calls Tryz.prog 27 #[] w fun e W' => ∃ v, e = .returned v ∧ Kd.R Kd.string 9 W' w.heap.size (fun _ => True) v (fieldsL.map nameB) ∧ Below w.heap.size w W' := by
  have HL := Aside0.mk hL
  have L1 := Aside0.mk list48
  have FL := Aside0.mk fields47
  have hfo := List.all_eq_true.1 fields_ok
  obtain ⟨lb, hlb⟩ : ∃ l, listB = l := ⟨_, rfl⟩
  rw [hlb] at L1 FL
  have hn : fieldsL.length ≤ 1000 := by rcases fields_num with h | h <;> omega
  obtain ⟨L, hLL⟩ : ∃ l, fieldsL = l := ⟨_, rfl⟩
  rw [hLL] at FL hfo hn ⊢
  have hlm : (L.map asB).length = L.length := List.length_map ..
  have HFO := Aside0.mk hfo
  clear hlb hLL hfo hL
  obtain ⟨M, hM⟩ : ∃ M, L.map asB = M := ⟨_, rfl⟩
  rw [hM] at FL hlm
  have HM := Aside0.mk hM
  have HLM := Aside0.mk hlm
  have HN := Aside0.mk hn
  clear hM
  go_enter Tryz.func27, Tryz.ntmps27
  go_wp2_with (first
    | (go_at_call 48; refine (L1.out w).mono ?_; rintro e W1 ⟨rfl, hb⟩; have HB1 := Aside0.mk hb; clear hb)
    | (go_at_call 47; refine (FL.out W1 (HL.out.below HB1.out)).mono ?_; rintro e W2 ⟨v, rfl, hR, hb⟩; obtain ⟨A, c, rfl, hc, hC⟩ := Kd.R_reads hR; have HC := Aside0.mk hC; have HB2 := Aside0.mk (below_step HB1.out hb); clear hR hb hc hC))
  have hs2 := HB2.out.size
  clear hlm
  go_loopw [1, 10] (fun v i wr => ∃ k : Nat, k ≤ L.length ∧ i = .int .i64 k ∧ Kd.R Kd.string 9 wr W2.heap.size (fun _ => True) v ((L.take k).map nameB) ∧ Below W2.heap.size W2 wr) (fun _ i _ => L.length - (intOf i).toNat)
  case atStart => exact ⟨0, Nat.zero_le _, rfl, Kd.R_nil _ _ _ _ _, Below.refl _ _⟩
  case round =>
    obtain ⟨k, hk, rfl, hR, hB⟩ := hrel
    obtain ⟨v1, hv1⟩ : ∃ v1, u1 = v1 := ⟨_, rfl⟩
    rw [hv1] at hR ⊢
    have HO := Aside0.mk hR; have HB := Aside0.mk hB
    clear hR hB hv1
    by_cases hlt : k < L.length
    · obtain ⟨ad, rfl, hcell0⟩ := Kd.at_string HC.out k (by omega) (by rw [HLM.out]; omega)
      have hx : rdOf ByteArray.empty M (k : Int) = asB L[k] := by
        unfold rdOf
        rw [List.getD_eq_getElem?_getD, Int.toNat_natCast, ← HM.out, List.getElem?_map, List.getElem?_eq_getElem hlt]; rfl
      rw [hx] at hcell0
      have hfo := HFO.out L[k] (List.getElem_mem hlt)
      have hsn : (L.take (k + 1)).map nameB = (L.take k).map nameB ++ [nameB L[k]] := by
        rw [List.take_succ_eq_append_getElem hlt, List.map_append]; rfl
      obtain ⟨f, hf⟩ : ∃ f, L[k] = f := ⟨_, rfl⟩
      rw [hf] at hcell0 hfo hsn
      have hcell1 := cell_below hcell0 HB.out
      rw [Int.toNat_natCast] at hcell1
      rw [Bool.and_eq_true, decide_eq_true_eq] at hfo
      have C := Aside0.mk (fun W hl => cut30 (asB f) ⟨#[61]⟩ W hl (by rw [← data_length]; have := hfo.2; show f.length < _; omega))
      rw [show (asB f).data.toList = f from rfl, show (⟨#[61]⟩ : ByteArray).data.toList = [61] from rfl, cut_one] at C
      have e1 : (⟨(f.takeWhile (· != 61)).toArray⟩ : ByteArray) = nameB f := rfl
      rw [e1] at C
      obtain ⟨b2, hb2⟩ : ∃ b : ByteArray, (⟨(Lib.cut f [61]).2.1.toArray⟩ : ByteArray) = b := ⟨_, rfl⟩
      obtain ⟨b3, hb3⟩ : ∃ b, (Lib.cut f [61]).2.2 = b := ⟨_, rfl⟩
      rw [hb2, hb3] at C
      obtain ⟨nm, hnm⟩ : ∃ nm, nameB f = nm := ⟨_, rfl⟩
      obtain ⟨fb, hfb⟩ : ∃ fb, asB f = fb := ⟨_, rfl⟩
      rw [hnm, hfb] at C
      rw [hnm] at hsn
      rw [hfb] at hcell1
      have hlk : ((L.take k).map nameB).length ≤ 1000 := by rw [List.length_map]; have := List.length_take_le k L; have := HN.out; omega
      obtain ⟨ys, hys⟩ : ∃ ys, (L.take k).map nameB = ys := ⟨_, rfl⟩
      rw [hys] at hsn HO hlk
      have HSN := Aside0.mk hsn
      have HLK := Aside0.mk hlk
      clear e1 hb2 hb3 hnm hfb hf hx hcell0 hfo hys hsn hlk
      have HCL := Aside0.mk hcell1
      go_wp2_with (first
        | (go_at_call 30; refine (C.out wr (HL.out.below (below_step HB2.out HB.out))).mono ?_; rintro e W3 ⟨rfl, hb3⟩; have HB3 := Aside0.mk hb3; clear hb3)
        | ((with_reducible refine gate_builtin (b := .append) (xs := #[.tmp 20, .tmp 22]) rfl ?_); at_builtin; go_loud (refine Kd.R_append Kd.string (w0 := W2) W2.heap.size rfl (.tmp 20) (.tmp 22) 26 9 (.string ⟨#[]⟩) 16 rfl Tryz.underlying26 info9 rfl (by decide) (by omega) v1 ys nm [.string nm] (fun _ => True) (fun _ => False) rfl rfl ?aP (fun _ hk => hk.elim) ?aF ?aO ?aB ?aS ?aL ?_; (case aP => rfl); (case aF => exact fun _ _ => trivial); (case aO => exact Kd.R_below HO.out HB3.out); (case aB => exact below_step HB.out HB3.out); (case aS => exact Nat.le_trans HB.out.size HB3.out.size); (case aL => have := HLK.out; omega); intro v8 w8 ho8 hb8 hg8 hat8; have HO8 := Aside0.mk ho8; have HB8 := Aside0.mk hb8; clear ho8 hb8 hg8 hat8)))
      exact ⟨⟨k + 1, by omega, by go_num, by rw [HSN.out]; exact HO8.out, HB8.out⟩, by simp [intOf]; omega⟩
    · obtain rfl : k = L.length := by omega
      rw [List.take_length] at HO
      go_wp2
      go_ret
      exact ⟨_, rfl, Kd.R_lower HO.out hs2, below_step HB2.out HB.out⟩
end Go.Proofs.YtgdlmgdcoedfoaaGreatDoor.Agl
