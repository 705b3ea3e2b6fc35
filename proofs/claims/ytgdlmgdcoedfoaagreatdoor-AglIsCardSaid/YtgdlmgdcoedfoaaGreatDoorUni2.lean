/- agl.Base, Parts, Uni, Text. agl.Uni, Text. -/
import Derived.Test.YtgdlmgdcoedfoaaGreatDoorWays
import Derived.Test.YtgdlmgdcoedfoaaGreatDoorText2
import Derived.Lib.SplitLaws
namespace Go.Proofs.YtgdlmgdcoedfoaaGreatDoor.Agl
open Go.RowKit Go.Proofs.YtgdlmgdcoedfoaaGreatDoorW.PrintWords Go.Proofs.YtgdlmgdcoedfoaaGreatDoorW.PrintLast Go.Proofs.YtgdlmgdcoedfoaaGreatDoorW.PrintMore
set_option linter.unusedVariables false
set_option linter.unusedSimpArgs false

/-- The pieces between "_". -/
def spl : List UInt8 → List (List UInt8)
  | [] => [[]]
  | c :: l => if c = 95 then [] :: spl l else match spl l with | [] => [[c]] | h :: t => (c :: h) :: t
theorem spl_pos : ∀ l, spl l ≠ []
  | [] => by simp [spl]
  | c :: l => by
    unfold spl
    split
    · simp
    · split <;> simp
theorem index95_cons (c : UInt8) (l : List UInt8) (h : c ≠ 95) : Lib.index (c :: l) [95] = if Lib.index l [95] == -1 then -1 else Lib.index l [95] + 1 := by
  have : ¬ ([95] : List UInt8).isPrefixOf (c :: l) = true := by
    intro hp; simp [List.isPrefixOf] at hp; exact h hp.symm
  rw [Lib.index, if_neg this]
theorem splitK_spl : ∀ l : List UInt8, Lib.splitK [95] 0 (l.count 95) l = spl l
  | [] => rfl
  | c :: l => by
    have ih := splitK_spl l
    by_cases h : c = 95
    · subst h
      rw [List.count_cons_self, Lib.splitK]
      have : Lib.index (95 :: l) [95] = 0 := by rw [Lib.index, if_pos (by simp [List.isPrefixOf])]
      rw [this, if_neg (by decide)]
      unfold spl
      rw [if_pos rfl, ← ih]; rfl
    · have hc : List.count 95 (c :: l) = List.count 95 l := List.count_cons_of_ne h
      rw [hc]
      unfold spl
      rw [if_neg h, ← ih]
      cases hk : List.count 95 l with
      | zero => rfl
      | succ k =>
        rw [Lib.splitK, Lib.splitK, index95_cons c l h]
        by_cases hm : (Lib.index l [95] == -1) = true
        · simp only [if_pos hm]; rfl
        · have hg := Lib.index_ge l [95]
          have hm2 : Lib.index l [95] ≠ -1 := fun h => hm (by rw [h]; rfl)
          simp only [if_neg hm]
          rw [if_neg (by rw [beq_iff_eq]; omega)]
          rw [show (Lib.index l [95] + 1).toNat = (Lib.index l [95]).toNat + 1 by omega]
          rfl
def baseL (n : List UInt8) : List UInt8 := n.takeWhile (· != 46)
def partsL (n : List UInt8) : List (List UInt8) := if baseL n = [] then [] else spl (baseL n)
def asB (l : List UInt8) : ByteArray := ⟨l.toArray⟩
def partsB (n : List UInt8) : List ByteArray := (partsL n).map asB
theorem splitB_spl (s : ByteArray) : Lib.splitB ⟨#[95]⟩ 0 (Lib.countB s ⟨#[95]⟩) s = (spl s.data.toList).map asB := by
  have h := Lib.splitB_data ⟨#[95]⟩ 0 (Lib.countB s ⟨#[95]⟩) s
  have hc : Lib.countB s ⟨#[95]⟩ = s.data.toList.count 95 := Lib.count_one 95 s.data.toList
  rw [hc, show (⟨#[95]⟩ : ByteArray).data.toList = [95] from rfl, splitK_spl] at h
  rw [hc, ← h, List.map_map]
  conv => lhs; rw [← List.map_id (Lib.splitB _ _ _ _)]
  apply List.map_congr_left
  intro x _
  rfl
theorem row_new (W : World) (l : List ByteArray) (hl : l.length ≤ 9223372036854775807) : Kd.R Kd.string 9 (W.alloc (.cells (l.map Value.string).toArray 9)) W.heap.size (fun _ => True) (.slice (some ⟨W.heap.size, 0, none⟩) l.length l.length) l := by
  refine ⟨fun _ _ => trivial, l.map Value.string, ?_, reps_str _ _⟩
  have h := World.ownsRow_lit (base := W.heap.size) (e := 9) (size := 1) W (l.map Value.string).toArray l.length (Nat.le_refl _) (by simpa [maxLen] using hl) (by simp)
  simp only [List.toList_toArray] at h
  exact h
theorem cut30 (t sep : ByteArray) (W : World) (hl : Laid W) (ht : t.size < 4294967281) : Calls Tryz.prog 30 #[.string t, .string sep] W fun e w' => e = .returned (.tuple #[.string ⟨(Lib.cut t.data.toList sep.data.toList).1.toArray⟩, .string ⟨(Lib.cut t.data.toList sep.data.toList).2.1.toArray⟩, .bool (Lib.cut t.data.toList sep.data.toList).2.2]) ∧ Below W.heap.size W w' := by
  obtain ⟨m, hm⟩ := hl.maxLen
  refine (Tryz.strings_Cut t sep m W ht hm).mono ?_
  rintro e w' ⟨rfl, n, rfl⟩
  exact ⟨rfl, pw_below_drewN (Below.refl _ _) n⟩
theorem split31 (s : ByteArray) (W : World) (hl : Laid W) (hs : s.size ≤ 100000) : Calls Tryz.prog 31 #[.string s, .string ⟨#[95]⟩] W fun e w' => ∃ v, e = .returned v ∧ Kd.R Kd.string 9 w' W.heap.size (fun _ => True) v ((spl s.data.toList).map asB) ∧ Below W.heap.size W w' := by
  obtain ⟨m, hm⟩ := hl.maxLen
  have hlen := Lib.splitB_all ⟨#[95]⟩ (by decide) 0 _ s rfl
  have hcl := Lib.countB_le ⟨#[95]⟩ (by decide) s.size s (Nat.le_refl _)
  refine (Tryz.strings_Split s ⟨#[95]⟩ m W (by omega) hm (by decide)).mono ?_
  rintro e w' ⟨rfl, rfl⟩
  refine ⟨_, rfl, ?_, Below.alloc (Below.refl _ _) (Nat.le_refl _) _⟩
  have h := row_new W (Lib.splitB ⟨#[95]⟩ 0 (Lib.countB s ⟨#[95]⟩) s) (by rw [hlen]; omega)
  rw [hlen] at h
  rw [← splitB_spl]
  exact h
set_option maxHeartbeats 400000 in
set_option maxRecDepth 100000 in
theorem base10 (s : ByteArray) (w : World) (hs : s.size ≤ 100000) (hL : Laid w) :
    Calls Tryz.prog 10 #[.string s] w fun e W' => e = .returned (.string (asB (baseL s.data.toList))) ∧ Below w.heap.size w W' := by
  have C := Aside0.mk (cut30 s ⟨#[46]⟩ w hL (by omega))
  rw [show (⟨#[46]⟩ : ByteArray).data.toList = [46] from rfl, cut_one] at C
  have hb : (⟨(s.data.toList.takeWhile (· != 46)).toArray⟩ : ByteArray) = asB (baseL s.data.toList) := rfl
  rw [hb] at C
  obtain ⟨b, hb⟩ : ∃ b, asB (baseL s.data.toList) = b := ⟨_, rfl⟩
  obtain ⟨b2, hb2⟩ : ∃ b : ByteArray, (⟨(Lib.cut s.data.toList [46]).2.1.toArray⟩ : ByteArray) = b := ⟨_, rfl⟩
  obtain ⟨b3, hb3⟩ : ∃ b, (Lib.cut s.data.toList [46]).2.2 = b := ⟨_, rfl⟩
  rw [hb, hb2, hb3] at C
  rw [hb]
  clear hb hb2 hb3 hL hs
  go_enter Tryz.func10, Tryz.ntmps10
  go_wp2_with (go_at_call 30; refine C.out.mono ?_; rintro e W1 ⟨rfl, hb⟩; have HB := Aside0.mk hb; clear hb)
  go_ret
  exact ⟨rfl, HB.out⟩
theorem baseL_len (n : List UInt8) : (baseL n).length ≤ n.length := (List.takeWhile_sublist _).length_le
set_option maxHeartbeats 400000 in
set_option maxRecDepth 100000 in
theorem parts13 (s : ByteArray) (w : World) (hs : s.size ≤ 100000) (hL : Laid w) :
    Calls Tryz.prog 13 #[.string s] w fun e W' => ∃ v, e = .returned v ∧ Kd.R Kd.string 9 W' w.heap.size (fun _ => True) v (partsB s.data.toList) ∧ Below w.heap.size w W' := by
  have B := Aside0.mk (base10 s w hs hL)
  have HL := Aside0.mk hL
  have hP : partsB s.data.toList = (if baseL s.data.toList = [] then [] else spl (baseL s.data.toList)).map asB := rfl
  have hbl := baseL_len s.data.toList
  rw [data_length] at hbl
  obtain ⟨b, hb⟩ : ∃ b, asB (baseL s.data.toList) = b := ⟨_, rfl⟩
  have hbd : baseL s.data.toList = b.data.toList := by rw [← hb]; rfl
  rw [hbd] at hP hbl
  rw [hb] at B
  obtain ⟨P, hPP⟩ : ∃ P, partsB s.data.toList = P := ⟨_, rfl⟩
  rw [hPP] at hP ⊢
  have S := Aside0.mk (fun W hl => split31 b W hl (by rw [← data_length]; omega))
  clear hb hbd hbl hPP hL hs
  go_enter Tryz.func13, Tryz.ntmps13
  by_cases h0 : b.data.toList = []
  · have he : b.toList.isEmpty = true := by
      rw [List.isEmpty_iff, ByteArray.toList_eq]; exact h0
    rw [if_pos h0] at hP
    have HP := Aside0.mk hP
    clear hP h0 S
    go_wp2_with (go_at_call 10; refine B.out.mono ?_; rintro e W1 ⟨rfl, hb⟩; have HB := Aside0.mk hb; clear hb)
    go_ret
    rw [HP.out]
    exact ⟨_, rfl, Kd.R_nil _ _ _ _ _, HB.out⟩
  · have he : b.toList.isEmpty = false := by
      rw [List.isEmpty_eq_false_iff, ByteArray.toList_eq]; exact h0
    rw [if_neg h0] at hP
    have HP := Aside0.mk hP
    clear hP h0
    go_wp2_with (first
      | (go_at_call 10; refine B.out.mono ?_; rintro e W1 ⟨rfl, hb⟩; have HB := Aside0.mk hb; clear hb)
      | (go_at_call 31; refine (S.out W1 (HL.out.below HB.out)).mono ?_; rintro e W2 ⟨v, rfl, hR, hb⟩; have HR := Aside0.mk hR; have HB2 := Aside0.mk hb; clear hR hb))
    go_ret
    rw [HP.out]
    exact ⟨_, rfl, Kd.R_lower HR.out HB.out.size, below_step HB.out HB2.out⟩
end Go.Proofs.YtgdlmgdcoedfoaaGreatDoor.Agl
namespace Go.Proofs.YtgdlmgdcoedfoaaGreatDoor.Agl
open Go.RowKit Go.Proofs.YtgdlmgdcoedfoaaGreatDoorW.PrintWords Go.Proofs.YtgdlmgdcoedfoaaGreatDoorW.PrintLast Go.Proofs.YtgdlmgdcoedfoaaGreatDoorW.PrintMore
set_option linter.unusedVariables false
set_option linter.unusedSimpArgs false

theorem foursL_len : ∀ (n : Nat) (l : List UInt8) (ys : List Int), foursL n l = some ys → ys.length = n
  | 0, l, ys, h => by simp [foursL] at h; subst h; rfl
  | n + 1, l, ys, h => by
    unfold foursL at h
    split at h
    · obtain ⟨zs, hz, rfl⟩ := Option.map_eq_some_iff.1 h
      rw [List.length_cons, foursL_len n _ zs hz]
    · cases h
theorem partR_len (s : ByteArray) (hs : s.size ≤ 100000) : (partR s).length ≤ 110000 := by
  unfold partR
  cases hu : uniL s.data.toList with
  | some u =>
    show u.length ≤ _
    unfold uniL at hu
    split at hu
    · cases hu
    · split at hu
      · obtain rfl := Option.some.inj hu
        unfold valuesL
        rw [List.length_map]
        refine Nat.le_trans (pieces_len _ _) ?_
        have h1 := cut_len listL (32 :: (s.data.toList ++ [61]))
        have h2 := listL_len
        have h3 : ((Lib.cut listL (32 :: (s.data.toList ++ [61]))).2.1.takeWhile (· != 32)).length ≤ (Lib.cut listL (32 :: (s.data.toList ++ [61]))).2.1.length := (List.takeWhile_sublist _).length_le
        have h4 : ∀ l : List UInt8, (⟨l.toArray⟩ : ByteArray).size = l.length := fun l => by rw [← data_length]
        rw [h4]; omega
      · cases hu
  | none =>
    show ((foursR s).getD _).length ≤ _
    cases hf : foursR s with
    | some u =>
      show u.length ≤ _
      unfold foursR at hf
      have hts : (tailUni s).size ≤ s.size := by
        unfold tailUni
        rw [← data_length, ← data_length]
        unfold Lib.trimPrefix
        split <;> simp
      split at hf
      · rw [foursL_len _ _ _ hf]; omega
      · cases hf
    | none =>
      show (if oneB s = true then [hexv (bytesOf (tailU s))] else []).length ≤ _
      split <;> simp
def uniAll (n : List UInt8) : List Int := (partsB n).flatMap partR
theorem spl_total : ∀ l : List UInt8, (spl l).length ≤ l.length + 1 ∧ ∀ p ∈ spl l, p.length ≤ l.length ∧ ∀ b ∈ p, b ∈ l
  | [] => by simp [spl]
  | c :: l => by
    obtain ⟨h1, h2⟩ := spl_total l
    unfold spl
    split
    · refine ⟨by simp; omega, ?_⟩
      intro p hp
      rcases List.mem_cons.1 hp with rfl | hp
      · simp
      · exact ⟨by have := (h2 p hp).1; simp; omega, fun b hb => List.mem_cons_of_mem _ ((h2 p hp).2 b hb)⟩
    · split
      · simp
      · rename_i h t he
        rw [he] at h1 h2
        refine ⟨by simp at h1 ⊢; omega, ?_⟩
        intro p hp
        rcases List.mem_cons.1 hp with rfl | hp
        · have := h2 h (List.mem_cons_self ..)
          refine ⟨by simp; omega, fun b hb => ?_⟩
          rcases List.mem_cons.1 hb with rfl | hb
          · exact List.mem_cons_self ..
          · exact List.mem_cons_of_mem _ (this.2 b hb)
        · have := h2 p (List.mem_cons_of_mem _ hp)
          exact ⟨by simp; omega, fun b hb => List.mem_cons_of_mem _ (this.2 b hb)⟩
theorem partsB_len (n : List UInt8) : (partsB n).length ≤ n.length + 1 ∧ ∀ p ∈ partsB n, p.size ≤ n.length ∧ ∀ b ∈ p.data.toList, b ∈ n := by
  have hb := baseL_len n
  unfold partsB partsL
  split
  · simp
  · obtain ⟨h1, h2⟩ := spl_total (baseL n)
    refine ⟨by rw [List.length_map]; omega, ?_⟩
    intro p hp
    obtain ⟨q, hq, rfl⟩ := List.mem_map.1 hp
    have := h2 q hq
    refine ⟨by rw [← data_length]; show q.length ≤ _; omega, fun b hb => (List.takeWhile_sublist _).subset (this.2 b hb)⟩
set_option maxHeartbeats 1000000 in
set_option maxRecDepth 100000 in
theorem uni18 (s : ByteArray) (w : World) (hs : s.size ≤ 100000) (hL : Laid w) (hT : ∀ p ∈ partsB s.data.toList, Told p) :
    Calls Tryz.prog 18 #[.string s] w fun e W' => ∃ v, e = .returned v ∧ Kd.R (Kd.int .i64) 3 W' w.heap.size (fun _ => True) v (uniAll s.data.toList) ∧ Below w.heap.size w W' := by
  have B := Aside0.mk (parts13 s w hs hL)
  have HL := Aside0.mk hL
  have hpl := partsB_len s.data.toList
  rw [data_length] at hpl
  have hU : uniAll s.data.toList = (partsB s.data.toList).flatMap partR := rfl
  rw [hU]
  obtain ⟨l, hl⟩ : ∃ l, partsB s.data.toList = l := ⟨_, rfl⟩
  rw [hl] at B hpl hT ⊢
  have hn : l.length ≤ 100001 := by omega
  have PT := Aside0.mk (fun (p : ByteArray) (hp : p ∈ l) (W : World) (hl : Laid W) => part16 p W (by have := (hpl.2 p hp).1; omega) (hT p hp) hl)
  have PL := Aside0.mk (fun (p : ByteArray) (hp : p ∈ l) => partR_len p (by have := (hpl.2 p hp).1; omega))
  clear hU hl hpl hT hL
  go_enter Tryz.func18, Tryz.ntmps18
  go_wp2_with (go_at_call 13; refine B.out.mono ?_; rintro e W1 ⟨v, rfl, hR, hb⟩; obtain ⟨A, c, rfl, hc, hC⟩ := Kd.R_reads hR; have HC := Aside0.mk hC; have HB1 := Aside0.mk hb; clear hR hb hc hC)
  have hs1 := HB1.out.size
  go_loopw [3, 9] (fun v i wr => ∃ k : Nat, k ≤ l.length ∧ i = .int .i64 k ∧ Kd.R (Kd.int .i64) 3 wr W1.heap.size (fun _ => True) v ((l.take k).flatMap partR) ∧ Below W1.heap.size W1 wr ∧ ((l.take k).flatMap partR).length ≤ k * 110000) (fun _ i _ => l.length - (intOf i).toNat)
  case atStart => exact ⟨0, Nat.zero_le _, rfl, Kd.R_nil _ _ _ _ _, Below.refl _ _, by simp⟩
  case round =>
    obtain ⟨k, hk, rfl, hR, hB, hlen⟩ := hrel
    obtain ⟨v3, hv3⟩ : ∃ v3, u3 = v3 := ⟨_, rfl⟩
    rw [hv3] at hR ⊢
    have HR := Aside0.mk hR; have HB := Aside0.mk hB
    clear hR hB hv3
    by_cases hlt : k < l.length
    · obtain ⟨ad, rfl, hcell0⟩ := Kd.at_string HC.out k (by omega) (by omega)
      have hmem : rdOf ByteArray.empty l (k : Int) ∈ l := by
        unfold rdOf; rw [List.getD_eq_getElem?_getD, Int.toNat_natCast, List.getElem?_eq_getElem hlt]; exact List.getElem_mem hlt
      have hsn : (l.take (k + 1)).flatMap partR = (l.take k).flatMap partR ++ partR (rdOf ByteArray.empty l (k : Int)) := by
        rw [List.take_succ_eq_append_getElem hlt, List.flatMap_append]
        unfold rdOf; rw [List.getD_eq_getElem?_getD, Int.toNat_natCast, List.getElem?_eq_getElem hlt]; simp
      have hpl := PL.out _ hmem
      have P := Aside0.mk (PT.out _ hmem wr (HL.out.below (below_step HB1.out HB.out)))
      obtain ⟨x, hx⟩ : ∃ x, rdOf ByteArray.empty l (k : Int) = x := ⟨_, rfl⟩
      rw [hx] at hcell0 hsn P hpl
      have hcell1 := cell_below hcell0 HB.out
      rw [Int.toNat_natCast] at hcell1
      obtain ⟨ys, hys⟩ : ∃ ys, (l.take k).flatMap partR = ys := ⟨_, rfl⟩
      obtain ⟨zs, hzs⟩ : ∃ zs, partR x = zs := ⟨_, rfl⟩
      rw [hys, hzs] at hsn
      rw [hzs] at hpl P
      rw [hys] at HR hlen
      have HSN := Aside0.mk hsn; have HLN := Aside0.mk (And.intro hlen hpl)
      clear hcell0 hmem hx hys hzs hsn hlen hpl
      have HCL := Aside0.mk hcell1
      go_wp2_with (first
        | (go_at_call 16; refine P.out.mono ?_; rintro e W2 ⟨v2, rfl, hR2, hb2⟩; obtain ⟨A2, c2, rfl, hc2, hC2⟩ := Kd.R_reads hR2; have HC2 := Aside0.mk hC2; have HB2 := Aside0.mk hb2; clear hR2 hb2 hC2)
        | ((with_reducible refine gate_builtin (b := .append) (xs := #[.tmp 13, .tmp 15]) rfl ?_); at_builtin; go_loud (refine Kd.R_append_rows (Kd.int .i64) (w0 := W1) W1.heap.size rfl (.tmp 13) (.tmp 15) 22 3 (.int .i64 0) 8 rfl Tryz.underlying22 info3 rfl (by decide) (by omega) v3 ys zs _ _ _ (fun _ => True) (fun _ => False) rfl rfl ?aO ?aR (fun _ _ h => h) (fun _ h => h.elim) ?aF ?aB ?aS ?aL ?_; (case aR => exact HC2.out); (case aB => exact below_step HB.out HB2.out); (case aF => exact fun k hk => trivial); (case aO => exact Kd.R_below HR.out HB2.out); (case aS => exact Nat.le_trans HB.out.size HB2.out.size); (case aL => have := HLN.out; omega); intro v4 w4 ho hb hg hat; have HO := Aside0.mk ho; have HB4 := Aside0.mk hb; clear ho hb hg hat)))
      refine ⟨⟨k + 1, by omega, by go_num, by rw [HSN.out]; exact HO.out, HB4.out, ?_⟩, by simp [intOf]; omega⟩
      rw [HSN.out, List.length_append]
      have := HLN.out
      omega
    · obtain rfl : k = l.length := by omega
      rw [List.take_length] at HR
      go_wp2
      go_ret
      exact ⟨_, rfl, Kd.R_lower HR.out hs1, below_step HB1.out HB.out⟩
theorem uniAll_len (s : ByteArray) (hs : s.size ≤ 100000) : (uniAll s.data.toList).length ≤ ((partsB s.data.toList).length) * 110000 := by
  have hpl := partsB_len s.data.toList
  rw [data_length] at hpl
  unfold uniAll
  have : ∀ l : List ByteArray, (∀ p ∈ l, p.size ≤ 100000) → (l.flatMap partR).length ≤ l.length * 110000 := by
    intro l
    induction l with
    | nil => intro _; simp
    | cons p l ih =>
      intro h
      rw [List.flatMap_cons, List.length_append, List.length_cons]
      have h1 := partR_len p (h p (List.mem_cons_self ..))
      have h2 := ih (fun q hq => h q (List.mem_cons_of_mem _ hq))
      omega
  exact this _ (fun p hp => by have := (hpl.2 p hp).1; omega)
set_option maxHeartbeats 400000 in
set_option maxRecDepth 100000 in
theorem text20 (s : ByteArray) (w : World) (hs : s.size ≤ 100000) (hl : (uniAll s.data.toList).length ≤ 1000000) (hL : Laid w) (hT : ∀ p ∈ partsB s.data.toList, Told p) :
    Calls Tryz.prog 20 #[.string s] w fun e W' => e = .returned (.string (asB (textL (uniAll s.data.toList)))) ∧ Below w.heap.size w W' := by
  have U := Aside0.mk (uni18 s w hs hL hT)
  obtain ⟨l, hll⟩ : ∃ l, uniAll s.data.toList = l := ⟨_, rfl⟩
  rw [hll] at U hl ⊢
  have hb : (⟨(textL l).toArray⟩ : ByteArray) = asB (textL l) := rfl
  obtain ⟨t, ht⟩ : ∃ t, asB (textL l) = t := ⟨_, rfl⟩
  rw [ht] at hb ⊢
  have HB0 := Aside0.mk hb
  clear hb hll ht hL hT hs
  go_enter Tryz.func20, Tryz.ntmps20
  go_wp2_with (first
    | (go_at_call 18; refine U.out.mono ?_; rintro e W1 ⟨v, rfl, hR, hb⟩; obtain ⟨A, c, rfl, hc, hC⟩ := Kd.R_reads hR; have HC := Aside0.mk hC; have HB1 := Aside0.mk hb; have HCC := Aside0.mk hc; clear hR hb hc hC)
    | (go_at_call 25; go_loud (refine (text25 A c l W1 HC.out HCC.out hl).mono ?_; rintro e W2 ⟨rfl, hb⟩; rw [HB0.out]; have HB2 := Aside0.mk hb; clear hb)))
  go_ret
  exact ⟨rfl, below_step HB1.out HB2.out⟩
end Go.Proofs.YtgdlmgdcoedfoaaGreatDoor.Agl
