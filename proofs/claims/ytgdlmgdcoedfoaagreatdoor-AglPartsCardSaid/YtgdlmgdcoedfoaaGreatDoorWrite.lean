/- agl.Write. -/
import Derived.Test.YtgdlmgdcoedfoaaGreatDoorNamed2
namespace Go.Proofs.YtgdlmgdcoedfoaaGreatDoor.Agl
open Go.RowKit Go.Proofs.YtgdlmgdcoedfoaaGreatDoorW.PrintWords Go.Proofs.YtgdlmgdcoedfoaaGreatDoorW.PrintLast Go.Proofs.YtgdlmgdcoedfoaaGreatDoorW.PrintMore
set_option linter.unusedVariables false
set_option linter.unusedSimpArgs false

theorem backF_mem (r : Int) : ∀ (l : List (List UInt8)) (nm : List UInt8), backF r l = some nm → ∃ f ∈ l, nm = eqName f ∧ fvals f = [r]
  | [], nm, h => by simp [backF] at h
  | f :: l, nm, h => by
    unfold backF at h
    split at h
    · rename_i hv
      obtain rfl := Option.some.inj h
      exact ⟨f, List.mem_cons_self .., rfl, hv⟩
    · obtain ⟨g, hg, h1, h2⟩ := backF_mem r l nm h
      exact ⟨g, List.mem_cons_of_mem _ hg, h1, h2⟩
theorem namedL_len (r : Int) : (namedL r).length ≤ 110 := by
  unfold namedL
  cases hb : backF (goodV r) fieldsL with
  | some nm =>
    obtain ⟨f, hf, rfl, _⟩ := backF_mem _ _ _ hb
    have h1 := List.all_eq_true.1 fields_ok f hf
    rw [Bool.and_eq_true, decide_eq_true_eq] at h1
    have h2 : (eqName f).length ≤ f.length := (List.takeWhile_sublist _).length_le
    show (eqName f).length ≤ _
    omega
  | none =>
    show (117 :: (Lib.repeatL [48] (4 - (hexU (goodV r)).length) ++ hexU (goodV r))).length ≤ _
    have := hexU_len (goodV r)
    rw [List.length_cons, List.length_append, Lib.repeatL_length]
    simp; omega
def writeL (l : List Int) : List UInt8 := Lib.join (l.map namedL) [95]
theorem lens_le : ∀ l : List (List UInt8), (∀ x ∈ l, x.length ≤ 110) → Lib.lens l ≤ 110 * l.length
  | [], _ => by simp [Lib.lens]
  | x :: l, h => by
    have h1 := h x (List.mem_cons_self ..)
    have h2 := lens_le l (fun y hy => h y (List.mem_cons_of_mem _ hy))
    have e : Lib.lens (x :: l) = x.length + Lib.lens l := by simp [Lib.lens]
    rw [e, List.length_cons]; omega
theorem writeL_len (l : List Int) : (writeL l).length ≤ 111 * l.length := by
  unfold writeL
  cases l with
  | nil => simp [Lib.join_nil]
  | cons r l =>
    rw [List.map_cons, Lib.join_length]
    have := lens_le (namedL r :: l.map namedL) (by
      intro x hx
      rcases List.mem_cons.1 hx with rfl | hx
      · exact namedL_len _
      · obtain ⟨y, _, rfl⟩ := List.mem_map.1 hx; exact namedL_len _)
    simp only [List.length_cons, List.length_map, List.length_nil] at this ⊢
    omega
set_option maxHeartbeats 1000000 in
set_option maxRecDepth 100000 in
theorem write22 (A : Option Addr) (c : Nat) (l : List Int) (w : World) (hC : Kd.C (Kd.int .i64) w A l.length l) (hc : l.length ≤ c) (hl : l.length ≤ 1000) (hL : Laid w) :
    Calls Tryz.prog 22 #[.slice A l.length c] w fun e w' => e = .returned (.string (asB (writeL l))) ∧ Below w.heap.size w w' := by
  have HR := Aside0.mk hC; have HL := Aside0.mk hL
  have hwl := writeL_len l
  have hW : ((l.map fun r => asB (namedL r)).map (·.data.toList)) = l.map namedL := by rw [List.map_map]; rfl
  have JN := Aside0.mk (fun (v : Value) (W : World) (base : Nat) (h : Kd.R Kd.string 9 W base (fun _ => True) v (l.map fun r => asB (namedL r))) => join41 v (l.map fun r => asB (namedL r)) ⟨#[95]⟩ base (fun _ => True) W h (by rw [List.length_map]; omega) (by rw [hW]; show (writeL l).length ≤ _; omega))
  rw [hW] at JN
  have e : (⟨(Lib.join (l.map namedL) (⟨#[95]⟩ : ByteArray).data.toList).toArray⟩ : ByteArray) = asB (writeL l) := rfl
  rw [e] at JN
  obtain ⟨o, ho⟩ : ∃ o, asB (writeL l) = o := ⟨_, rfl⟩
  rw [ho] at JN ⊢
  clear e ho hC hL hwl hW
  go_enter Tryz.func22, Tryz.ntmps22
  go_wp2
  go_loopw [3, 8] (fun v i wr => ∃ k : Nat, k ≤ l.length ∧ i = .int .i64 k ∧ Kd.R Kd.string 9 wr w.heap.size (fun _ => True) v ((l.take k).map fun r => asB (namedL r)) ∧ Below w.heap.size w wr) (fun _ i _ => l.length - (intOf i).toNat)
  case atStart => exact ⟨0, Nat.zero_le _, rfl, Kd.R_nil _ _ _ _ _, Below.refl _ _⟩
  case round =>
    obtain ⟨k, hk, rfl, hR, hB⟩ := hrel
    obtain ⟨v3, hv3⟩ : ∃ v3, u3 = v3 := ⟨_, rfl⟩
    rw [hv3] at hR ⊢
    have HO := Aside0.mk hR; have HB := Aside0.mk hB
    clear hR hB hv3
    by_cases hlt : k < l.length
    · obtain ⟨ad, rfl, hcell0⟩ := Kd.at_int HR.out k (by omega) (by omega)
      have hsn : (l.take (k + 1)).map (fun r => asB (namedL r)) = (l.take k).map (fun r => asB (namedL r)) ++ [asB (namedL (rd l (k : Int)))] := by
        rw [List.take_succ_eq_append_getElem hlt, List.map_append]
        unfold rd; rw [List.getD_eq_getElem?_getD, Int.toNat_natCast, List.getElem?_eq_getElem hlt]; rfl
      have N := Aside0.mk (named40 (rd l (k : Int)) wr (HL.out.below HB.out))
      obtain ⟨x, hx⟩ : ∃ x, rd l (k : Int) = x := ⟨_, rfl⟩
      rw [hx] at hcell0 hsn N
      have hcell1 := cell_below hcell0 HB.out
      rw [Int.toNat_natCast] at hcell1
      obtain ⟨nm, hnm⟩ : ∃ nm, asB (namedL x) = nm := ⟨_, rfl⟩
      rw [hnm] at hsn N
      have hlk : ((l.take k).map fun r => asB (namedL r)).length ≤ 1000 := by rw [List.length_map]; have := List.length_take_le k l; omega
      obtain ⟨ys, hys⟩ : ∃ ys, (l.take k).map (fun r => asB (namedL r)) = ys := ⟨_, rfl⟩
      rw [hys] at hsn HO hlk
      have HSN := Aside0.mk hsn
      have HLK := Aside0.mk hlk
      clear hcell0 hx hnm hys hsn hlk
      have HCL := Aside0.mk hcell1
      go_wp2_with (first
        | (go_at_call 40; refine N.out.mono ?_; rintro e W2 ⟨rfl, hb2⟩; have HB2 := Aside0.mk hb2; clear hb2)
        | ((with_reducible refine gate_builtin (b := .append) (xs := #[.tmp 12, .tmp 15]) rfl ?_); at_builtin; go_loud (refine Kd.R_append Kd.string (w0 := w) w.heap.size rfl (.tmp 12) (.tmp 15) 26 9 (.string ⟨#[]⟩) 16 rfl Tryz.underlying26 info9 rfl (by decide) (by omega) v3 ys nm [.string nm] (fun _ => True) (fun _ => False) rfl rfl ?aP (fun _ hk => hk.elim) ?aF ?aO ?aB ?aS ?aL ?_; (case aP => rfl); (case aF => exact fun _ _ => trivial); (case aO => exact Kd.R_below HO.out HB2.out); (case aB => exact below_step HB.out HB2.out); (case aS => exact Nat.le_trans HB.out.size HB2.out.size); (case aL => have := HLK.out; omega); intro v8 w8 ho8 hb8 hg8 hat8; have HO8 := Aside0.mk ho8; have HB8 := Aside0.mk hb8; clear ho8 hb8 hg8 hat8)))
      exact ⟨⟨k + 1, by omega, by go_num, by rw [HSN.out]; exact HO8.out, HB8.out⟩, by simp [intOf]; omega⟩
    · obtain rfl : k = l.length := by omega
      rw [List.take_length] at HO
      go_wp2_with (go_at_call 41; refine (JN.out v3 wr w.heap.size HO.out).mono ?_; rintro e W2 ⟨rfl, hb2⟩; have HB2 := Aside0.mk hb2; clear hb2)
      go_ret
      exact ⟨rfl, below_step HB.out HB2.out⟩
end Go.Proofs.YtgdlmgdcoedfoaaGreatDoor.Agl
