/- agl.named, Write. agl.named, Write: the walks. agl.Write. -/
import Derived.Test.YtgdlmgdcoedfoaaGreatDoorBack
import Derived.Test.YtgdlmgdcoedfoaaGreatDoorFmt2
namespace Go.Proofs.YtgdlmgdcoedfoaaGreatDoor.Agl
open Go.RowKit Go.Proofs.YtgdlmgdcoedfoaaGreatDoorW.PrintWords Go.Proofs.YtgdlmgdcoedfoaaGreatDoorW.PrintLast Go.Proofs.YtgdlmgdcoedfoaaGreatDoorW.PrintMore
set_option linter.unusedVariables false
set_option linter.unusedSimpArgs false

/-- Capital hex digits, none before the first. -/
def hexU (g : Int) : List UInt8 := Lib.toUpperA (strOfNums (hexlow 6 g [])).data.toList
def namedL (r : Int) : List UInt8 := (backF (goodV r) fieldsL).getD (117 :: (Lib.repeatL [48] (4 - (hexU (goodV r)).length) ++ hexU (goodV r)))
theorem hexlow_len : ∀ (f : Nat) (u : Int) (acc : List Int), 1 ≤ (hexlow f u acc).length ∧ (hexlow f u acc).length ≤ f + 1 + acc.length := by
  intro f
  induction f with
  | zero => intro u acc; simp [hexlow]; omega
  | succ f ih =>
    intro u acc
    unfold hexlow
    split
    · simp; omega
    · have := ih (u / 16) (lowc (u % 16) :: acc)
      simp at this ⊢; omega
theorem lowc_rng {d : Int} (h0 : 0 ≤ d) (h1 : d < 16) : 48 ≤ lowc d ∧ lowc d ≤ 102 := by unfold lowc; split <;> omega
theorem hexlow_rng : ∀ (f : Nat) (u : Int) (acc : List Int), 0 ≤ u → u < (16 : Int) ^ (f + 1) → (∀ x ∈ acc, 48 ≤ x ∧ x ≤ 102) → ∀ x ∈ hexlow f u acc, 48 ≤ x ∧ x ≤ 102
  | 0, u, acc, h0, h1, ha => by
    intro x hx
    rcases List.mem_cons.1 hx with rfl | hx
    · exact lowc_rng h0 (by simpa using h1)
    · exact ha x hx
  | f + 1, u, acc, h0, h1, ha => by
    unfold hexlow
    split
    · intro x hx
      rcases List.mem_cons.1 hx with rfl | hx
      · exact lowc_rng h0 (by assumption)
      · exact ha x hx
    · refine hexlow_rng f (u / 16) _ (by omega) ?_ ?_
      · have e : (16 : Int) ^ (f + 1 + 1) = 16 ^ (f + 1) * 16 := Int.pow_succ ..
        omega
      · intro x hx
        rcases List.mem_cons.1 hx with rfl | hx
        · exact lowc_rng (by omega) (by omega)
        · exact ha x hx
theorem strOfNums_list (l : List Int) : (strOfNums l).data.toList = l.map fun x => x.toNat.toUInt8 := by simp [strOfNums]
theorem hex_ascii (u : Int) (h0 : 0 ≤ u) (h1 : u < 16777216) : ∀ (j : Nat) b, (strOfNums (hexlow 6 u [])).data.toList[j]? = some b → b.toNat < 128 := by
  intro j b hj
  rw [strOfNums_list] at hj
  have hm := List.mem_of_getElem? hj
  obtain ⟨x, hx, rfl⟩ := List.mem_map.1 hm
  have := hexlow_rng 6 u [] h0 (by omega) (by simp) x hx
  rw [show x.toNat.toUInt8 = UInt8.ofNat x.toNat from rfl, UInt8.toNat_ofNat']
  omega
theorem hexU_len (u : Int) : 1 ≤ (hexU u).length ∧ (hexU u).length ≤ 7 := by
  have h := hexlow_len 6 u []
  unfold hexU Lib.toUpperA
  rw [List.length_map, strOfNums_list, List.length_map]
  simpa using h
end Go.Proofs.YtgdlmgdcoedfoaaGreatDoor.Agl
namespace Go.Proofs.YtgdlmgdcoedfoaaGreatDoor.Agl
open Go.RowKit Go.Proofs.YtgdlmgdcoedfoaaGreatDoorW.PrintWords Go.Proofs.YtgdlmgdcoedfoaaGreatDoorW.PrintLast Go.Proofs.YtgdlmgdcoedfoaaGreatDoorW.PrintMore
attribute [local go_sem] max2_int min2_int max_two min_two max_three min_three max_four min_four
set_option linter.unusedVariables false
set_option linter.unusedSimpArgs false

set_option maxHeartbeats 800000 in
set_option maxRecDepth 100000 in
theorem named40 (r : Int) (w : World) (hL : Laid w) :
    Calls Tryz.prog 40 #[.int .i64 r] w fun e W' => e = .returned (.string (asB (namedL r))) ∧ Below w.heap.size w W' := by
  have HL := Aside0.mk hL
  have hgr := goodV_rng r
  have hnl := hexU_len (goodV r)
  have G := Aside0.mk (good24 r w)
  have hgv : goodV r = if goodB r = true then r else 65533 := rfl
  have hN : namedL r = (backF (goodV r) fieldsL).getD (117 :: (Lib.repeatL [48] (4 - (hexU (goodV r)).length) ++ hexU (goodV r))) := rfl
  have hhx : (⟨(Lib.toUpperA (strOfNums (hexlow 6 (goodV r) [])).data.toList).toArray⟩ : ByteArray) = asB (hexU (goodV r)) := rfl
  have hasc := hex_ascii (goodV r) (by omega) (by omega)
  have hsl : (strOfNums (hexlow 6 (goodV r) [])).size ≤ 140737488355328 := by
    rw [← data_length, strOfNums_list, List.length_map]
    have := (hexlow_len 6 (goodV r) []).2
    simp at this; omega
  obtain ⟨g, hg⟩ : ∃ g, goodV r = g := ⟨_, rfl⟩
  rw [hg] at hgr hnl hgv hN hhx hasc hsl
  obtain ⟨b, hb⟩ : ∃ b, goodB r = b := ⟨_, rfl⟩
  rw [hb] at hgv G
  have BK := Aside0.mk (fun W hl => back60 g W hl)
  have FM := Aside0.mk (fun W (hl : Laid W) => fmt62 g W (by omega) (by omega) hl.tz hl.size)
  have TU := Aside0.mk (fun W => Tryz.strings_ToUpper_ascii (strOfNums (hexlow 6 g [])) W hsl hasc)
  rw [hhx] at TU
  obtain ⟨s, hs⟩ : ∃ s, strOfNums (hexlow 6 g []) = s := ⟨_, rfl⟩
  rw [hs] at TU FM
  obtain ⟨h, hh⟩ : ∃ h, hexU g = h := ⟨_, rfl⟩
  rw [hh] at TU hnl hN
  obtain ⟨F, hF⟩ : ∃ F, backF g fieldsL = F := ⟨_, rfl⟩
  rw [hF] at BK hN
  obtain ⟨N, hNN⟩ : ∃ N, namedL r = N := ⟨_, rfl⟩
  rw [hNN] at hN ⊢
  have hsz : (asB h).size = h.length := by rw [← data_length]; rfl
  obtain ⟨u, hu⟩ : ∃ u, asB h = u := ⟨_, rfl⟩
  rw [hu] at TU hsz
  have HN := Aside0.mk hN; have HU := Aside0.mk hu
  have RP := Aside0.mk (fun W => Tryz.strings_Repeat ⟨#[48]⟩ (4 - h.length) W (by omega) (by show 1 * _ ≤ _; omega))
  rw [show (⟨#[48]⟩ : ByteArray).data.toList = [48] from rfl] at RP
  obtain ⟨n, hn⟩ : ∃ n, h.length = n := ⟨_, rfl⟩
  rw [hn] at hnl hsz RP
  have HNN := Aside0.mk hn
  have HGV := Aside0.mk hgv
  clear hg hb hs hh hF hNN hu hN hn hgv hhx hasc hsl hL
  obtain ⟨z, hz⟩ : ∃ z : ByteArray, (⟨(Lib.repeatL [48] (4 - n)).toArray⟩ : ByteArray) = z := ⟨_, rfl⟩
  have hzs : z.size = 4 - n := by rw [← hz, ← data_length]; simp [Lib.repeatL_length]
  rw [hz] at RP
  have HZ := Aside0.mk hz
  clear hz
  have hz1 : ¬ 9223372036854775807 < 1 + z.size := by omega
  have hz2 : ¬ 9223372036854775807 < 1 + z.size + n := by omega
  go_enter Tryz.func40, Tryz.ntmps40
  cases F with
  | some nm =>
    cases b with
    | true =>
      have := HGV.out
      rw [if_pos rfl] at this
      subst this
      go_wp2_with (first
        | (go_at_call 24; refine G.out.mono ?_; rintro e W1 ⟨rfl, hb⟩; have HB1 := Aside0.mk hb; clear hb)
        | (go_at_call 60; refine (BK.out W1 (HL.out.below HB1.out)).mono ?_; rintro e W2 ⟨rfl, hb⟩; have HB2 := Aside0.mk hb; clear hb))
      go_ret
      exact ⟨by rw [HN.out]; rfl, below_step HB1.out HB2.out⟩
    | false =>
      have := HGV.out
      rw [if_neg (by decide)] at this
      subst this
      go_wp2_with (first
        | (go_at_call 24; refine G.out.mono ?_; rintro e W1 ⟨rfl, hb⟩; have HB1 := Aside0.mk hb; clear hb)
        | (go_at_call 60; refine (BK.out W1 (HL.out.below HB1.out)).mono ?_; rintro e W2 ⟨rfl, hb⟩; have HB2 := Aside0.mk hb; clear hb))
      go_ret
      exact ⟨by rw [HN.out]; rfl, below_step HB1.out HB2.out⟩
  | none =>
    have RPa : Aside0 ((0 : Int) < 4 - (n : Int) → ∀ W : World, Calls Tryz.prog 63 #[.string ⟨#[48]⟩, .int .i64 (4 - (n : Int))] W fun e w' => e = .returned (.string z) ∧ Below W.heap.size W w') := ⟨fun h W => by
      have := RP.out W
      rwa [show ((4 - n : Nat) : Int) = 4 - (n : Int) by omega] at this⟩
    have RPb : Aside0 (¬ (0 : Int) < 4 - (n : Int) → ∀ W : World, Calls Tryz.prog 63 #[.string ⟨#[48]⟩, .int .i64 0] W fun e w' => e = .returned (.string z) ∧ Below W.heap.size W w') := ⟨fun h W => by
      have := RP.out W
      rwa [show ((4 - n : Nat) : Int) = 0 by omega] at this⟩
    have hfin : Aside0 ((⟨#[117]⟩ : ByteArray) ++ z ++ u = asB N) := ⟨by
      rw [HN.out, ← HZ.out, ← HU.out]
      apply ByteArray.ext
      rw [ByteArray.data_append, ByteArray.data_append]
      apply Array.ext'
      show _ = (Option.getD none _)
      simp [asB, HNN.out]⟩
    clear RP HN HZ HU HNN hzs
    have hgc : (b = true ∧ g = r) ∨ (b = false ∧ g = 65533) := by
      cases b with
      | true => exact .inl ⟨rfl, HGV.out.trans (if_pos rfl)⟩
      | false => exact .inr ⟨rfl, HGV.out.trans (if_neg (by decide))⟩
    clear HGV
    rcases hgc with ⟨rfl, hg⟩ | ⟨rfl, hg⟩ <;> subst hg <;> by_cases h4 : (0 : Int) < 4 - (n : Int)
    all_goals
      go_wp2_with (first
        | (go_at_call 24; refine G.out.mono ?_; rintro e W1 ⟨rfl, hb⟩; have HB1 := Aside0.mk hb; clear hb)
        | (go_at_call 60; refine (BK.out W1 (HL.out.below HB1.out)).mono ?_; rintro e W2 ⟨rfl, hb⟩; have HB2 := Aside0.mk hb; clear hb)
        | (go_at_call 62; refine (FM.out W2 ((HL.out.below HB1.out).below HB2.out)).mono ?_; rintro e W3 ⟨rfl, hb⟩; have HB3 := Aside0.mk hb; clear hb)
        | (go_at_call 61; refine (TU.out W3).mono ?_; rintro e W4 ⟨rfl, hb⟩; have HB4 := Aside0.mk hb; clear hb)
        | (go_at_call 63; (first | refine (RPa.out h4 W4).mono ?_ | refine (RPb.out h4 W4).mono ?_); rintro e W5 ⟨rfl, hb⟩; have HB5 := Aside0.mk hb; clear hb))
      go_ret
      exact ⟨by rw [← hfin.out]; rfl, below_step (below_step (below_step (below_step HB1.out HB2.out) HB3.out) HB4.out) HB5.out⟩
end Go.Proofs.YtgdlmgdcoedfoaaGreatDoor.Agl
namespace Go.Proofs.YtgdlmgdcoedfoaaGreatDoor.Agl
open Go.RowKit Go.Proofs.YtgdlmgdcoedfoaaGreatDoorW.PrintWords Go.Proofs.YtgdlmgdcoedfoaaGreatDoorW.PrintLast Go.Proofs.YtgdlmgdcoedfoaaGreatDoorW.PrintMore
set_option linter.unusedVariables false
set_option linter.unusedSimpArgs false

theorem backF_mem (r : Int) : ∀ (l : List (List UInt8)) (nm : List UInt8), backF r l = some nm → ∃ f ∈ l, nm = eqName f ∧ fvals f = [r]
  | [], nm, h => by simp [backF] at h
  | f :: l, nm, h => by
    unfold backF at h
    split at h
    · rename_i hv
      obtain rfl := Option.some.inj h
      exact ⟨f, List.mem_cons_self .., rfl, hv⟩
    · obtain ⟨g, hg, h1, h2⟩ := backF_mem r l nm h
      exact ⟨g, List.mem_cons_of_mem _ hg, h1, h2⟩
theorem namedL_len (r : Int) : (namedL r).length ≤ 110 := by
  unfold namedL
  cases hb : backF (goodV r) fieldsL with
  | some nm =>
    obtain ⟨f, hf, rfl, _⟩ := backF_mem _ _ _ hb
    have h1 := List.all_eq_true.1 fields_ok f hf
    rw [Bool.and_eq_true, decide_eq_true_eq] at h1
    have h2 : (eqName f).length ≤ f.length := (List.takeWhile_sublist _).length_le
    show (eqName f).length ≤ _
    omega
  | none =>
    show (117 :: (Lib.repeatL [48] (4 - (hexU (goodV r)).length) ++ hexU (goodV r))).length ≤ _
    have := hexU_len (goodV r)
    rw [List.length_cons, List.length_append, Lib.repeatL_length]
    simp; omega
def writeL (l : List Int) : List UInt8 := Lib.join (l.map namedL) [95]
theorem lens_le : ∀ l : List (List UInt8), (∀ x ∈ l, x.length ≤ 110) → Lib.lens l ≤ 110 * l.length
  | [], _ => by simp [Lib.lens]
  | x :: l, h => by
    have h1 := h x (List.mem_cons_self ..)
    have h2 := lens_le l (fun y hy => h y (List.mem_cons_of_mem _ hy))
    have e : Lib.lens (x :: l) = x.length + Lib.lens l := by simp [Lib.lens]
    rw [e, List.length_cons]; omega
theorem writeL_len (l : List Int) : (writeL l).length ≤ 111 * l.length := by
  unfold writeL
  cases l with
  | nil => simp [Lib.join_nil]
  | cons r l =>
    rw [List.map_cons, Lib.join_length]
    have := lens_le (namedL r :: l.map namedL) (by
      intro x hx
      rcases List.mem_cons.1 hx with rfl | hx
      · exact namedL_len _
      · obtain ⟨y, _, rfl⟩ := List.mem_map.1 hx; exact namedL_len _)
    simp only [List.length_cons, List.length_map, List.length_nil] at this ⊢
    omega
set_option maxHeartbeats 1000000 in
set_option maxRecDepth 100000 in
theorem write22 (A : Option Addr) (c : Nat) (l : List Int) (w : World) (hC : Kd.C (Kd.int .i64) w A l.length l) (hc : l.length ≤ c) (hl : l.length ≤ 1000) (hL : Laid w) :
    Calls Tryz.prog 22 #[.slice A l.length c] w fun e w' => e = .returned (.string (asB (writeL l))) ∧ Below w.heap.size w w' := by
  have HR := Aside0.mk hC; have HL := Aside0.mk hL
  have hwl := writeL_len l
  have hW : ((l.map fun r => asB (namedL r)).map (·.data.toList)) = l.map namedL := by rw [List.map_map]; rfl
  have JN := Aside0.mk (fun (v : Value) (W : World) (base : Nat) (h : Kd.R Kd.string 9 W base (fun _ => True) v (l.map fun r => asB (namedL r))) => join41 v (l.map fun r => asB (namedL r)) ⟨#[95]⟩ base (fun _ => True) W h (by rw [List.length_map]; omega) (by rw [hW]; show (writeL l).length ≤ _; omega))
  rw [hW] at JN
  have e : (⟨(Lib.join (l.map namedL) (⟨#[95]⟩ : ByteArray).data.toList).toArray⟩ : ByteArray) = asB (writeL l) := rfl
  rw [e] at JN
  obtain ⟨o, ho⟩ : ∃ o, asB (writeL l) = o := ⟨_, rfl⟩
  rw [ho] at JN ⊢
  clear e ho hC hL hwl hW
  go_enter Tryz.func22, Tryz.ntmps22
  go_wp2
  go_loopw [3, 8] (fun v i wr => ∃ k : Nat, k ≤ l.length ∧ i = .int .i64 k ∧ Kd.R Kd.string 9 wr w.heap.size (fun _ => True) v ((l.take k).map fun r => asB (namedL r)) ∧ Below w.heap.size w wr) (fun _ i _ => l.length - (intOf i).toNat)
  case atStart => exact ⟨0, Nat.zero_le _, rfl, Kd.R_nil _ _ _ _ _, Below.refl _ _⟩
  case round =>
    obtain ⟨k, hk, rfl, hR, hB⟩ := hrel
    obtain ⟨v3, hv3⟩ : ∃ v3, u3 = v3 := ⟨_, rfl⟩
    rw [hv3] at hR ⊢
    have HO := Aside0.mk hR; have HB := Aside0.mk hB
    clear hR hB hv3
    by_cases hlt : k < l.length
    · obtain ⟨ad, rfl, hcell0⟩ := Kd.at_int HR.out k (by omega) (by omega)
      have hsn : (l.take (k + 1)).map (fun r => asB (namedL r)) = (l.take k).map (fun r => asB (namedL r)) ++ [asB (namedL (rd l (k : Int)))] := by
        rw [List.take_succ_eq_append_getElem hlt, List.map_append]
        unfold rd; rw [List.getD_eq_getElem?_getD, Int.toNat_natCast, List.getElem?_eq_getElem hlt]; rfl
      have N := Aside0.mk (named40 (rd l (k : Int)) wr (HL.out.below HB.out))
      obtain ⟨x, hx⟩ : ∃ x, rd l (k : Int) = x := ⟨_, rfl⟩
      rw [hx] at hcell0 hsn N
      have hcell1 := cell_below hcell0 HB.out
      rw [Int.toNat_natCast] at hcell1
      obtain ⟨nm, hnm⟩ : ∃ nm, asB (namedL x) = nm := ⟨_, rfl⟩
      rw [hnm] at hsn N
      have hlk : ((l.take k).map fun r => asB (namedL r)).length ≤ 1000 := by rw [List.length_map]; have := List.length_take_le k l; omega
      obtain ⟨ys, hys⟩ : ∃ ys, (l.take k).map (fun r => asB (namedL r)) = ys := ⟨_, rfl⟩
      rw [hys] at hsn HO hlk
      have HSN := Aside0.mk hsn
      have HLK := Aside0.mk hlk
      clear hcell0 hx hnm hys hsn hlk
      have HCL := Aside0.mk hcell1
      go_wp2_with (first
        | (go_at_call 40; refine N.out.mono ?_; rintro e W2 ⟨rfl, hb2⟩; have HB2 := Aside0.mk hb2; clear hb2)
        | ((with_reducible refine gate_builtin (b := .append) (xs := #[.tmp 12, .tmp 15]) rfl ?_); at_builtin; go_loud (refine Kd.R_append Kd.string (w0 := w) w.heap.size rfl (.tmp 12) (.tmp 15) 26 9 (.string ⟨#[]⟩) 16 rfl Tryz.underlying26 info9 rfl (by decide) (by omega) v3 ys nm [.string nm] (fun _ => True) (fun _ => False) rfl rfl ?aP (fun _ hk => hk.elim) ?aF ?aO ?aB ?aS ?aL ?_; (case aP => rfl); (case aF => exact fun _ _ => trivial); (case aO => exact Kd.R_below HO.out HB2.out); (case aB => exact below_step HB.out HB2.out); (case aS => exact Nat.le_trans HB.out.size HB2.out.size); (case aL => have := HLK.out; omega); intro v8 w8 ho8 hb8 hg8 hat8; have HO8 := Aside0.mk ho8; have HB8 := Aside0.mk hb8; clear ho8 hb8 hg8 hat8)))
      exact ⟨⟨k + 1, by omega, by go_num, by rw [HSN.out]; exact HO8.out, HB8.out⟩, by simp [intOf]; omega⟩
    · obtain rfl : k = l.length := by omega
      rw [List.take_length] at HO
      go_wp2_with (go_at_call 41; refine (JN.out v3 wr w.heap.size HO.out).mono ?_; rintro e W2 ⟨rfl, hb2⟩; have HB2 := Aside0.mk hb2; clear hb2)
      go_ret
      exact ⟨rfl, below_step HB.out HB2.out⟩
end Go.Proofs.YtgdlmgdcoedfoaaGreatDoor.Agl
