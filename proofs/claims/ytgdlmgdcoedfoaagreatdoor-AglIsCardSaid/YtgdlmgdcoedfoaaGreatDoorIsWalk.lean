/- AglIs, the plain law: the reference's Base, Same, Parts. AglIs, the plain law: the reference's list. AglIs, the plain law: the reference's list, looked up and read back. AglIs, the plain law: the reference's digits, Part, Uni. AglIs, the plain law: the reference's Text, Write. AglIs: the walk. -/
import Derived.Test.YtgdlmgdcoedfoaaGreatDoorRefA
import Derived.Test.YtgdlmgdcoedfoaaGreatDoorPartsLaw
import Derived.Test.YtgdlmgdcoedfoaaGreatDoorRefD
import Derived.Test.YtgdlmgdcoedfoaaGreatDoorRefB
import Derived.Test.YtgdlmgdcoedfoaaGreatDoorRowsLaw
namespace Go.Proofs.YtgdlmgdcoedfoaaGreatDoor.Agl
open Go.RowKit Go.Proofs.YtgdlmgdcoedfoaaGreatDoorW.PrintWords Go.Proofs.YtgdlmgdcoedfoaaGreatDoorW.PrintLast Go.Proofs.YtgdlmgdcoedfoaaGreatDoorW.PrintMore
open Go.Proofs.YtgdlmgdcoedfoaaGreatDoor.PAglIs
set_option linter.unusedVariables false
set_option linter.unusedSimpArgs false

theorem ws (i : Nat) (h : i ≤ 1000000) : wrap64 ((i : Int) + 1) = ((i + 1 : Nat) : Int) := by unfold wrap64; omega
theorem wb (b : UInt8) : wrap64 (b.toNat : Int) = (b.toNat : Int) := by have := b.toNat_lt; unfold wrap64; omega
theorem bt_in (L : List UInt8) (i : Nat) (c : UInt8) (l : List UInt8) (h : L.drop i = c :: l) : bt (asB L) (i : Int) = (c.toNat : Int) ∧ i < L.length ∧ L.drop (i + 1) = l ∧ L.take (i + 1) = L.take i ++ [c] := by
  have hi : i < L.length := by
    rcases Nat.lt_or_ge i L.length with h' | h'
    · exact h'
    · rw [List.drop_eq_nil_of_le h'] at h; cases h
  rw [List.drop_eq_getElem_cons hi] at h
  injection h with h1 h2
  refine ⟨?_, hi, h2, by rw [List.take_succ_eq_append_getElem hi, h1]⟩
  have hs : ((i : Int)).toNat < (asB L).size := by rw [asB_size]; omega
  rw [← bt_at _ _ hs]
  have e : ∀ (j : Nat) (hj : j < (asB L).size), j = i → (asB L)[j]'hj = c := by
    rintro j hj rfl
    have h5 := Lib.data_getElem? (asB L) j hj
    rw [asB_list, List.getElem?_eq_getElem hi, h1] at h5
    exact (Option.some.inj h5).symm
  rw [e _ hs (Int.toNat_natCast i)]
theorem bt_out (L : List UInt8) (i : Nat) (h : L.drop i = []) : L.length ≤ i := by
  rcases Nat.lt_or_ge i L.length with h' | h'
  · rw [List.drop_eq_getElem_cons h'] at h; cases h
  · exact h'
theorem ext_asB (L : List UInt8) (i j : Nat) : (asB L).extract i j = asB ((L.take j).drop i) := by
  apply ByteArray.ext
  apply Array.ext'
  rw [ByteArray.data_extract]
  show (L.toArray.extract i j).toList = (L.take j).drop i
  rw [Array.toList_extract, List.extract_eq_take_drop, List.drop_take]
theorem asB_self (s : ByteArray) : asB s.data.toList = s := by
  apply ByteArray.ext; exact Array.toArray_toList
theorem asB_toList (L : List UInt8) : (asB L).toList = L := by rw [ByteArray.toList_eq]; rfl
theorem byte46 (c : UInt8) (n : Nat) (hn : n < 256) : ((c.toNat : Int) = (n : Int)) ↔ c = UInt8.ofNat n := by
  constructor
  · intro h
    have : c.toNat = n := by omega
    rw [← this]; simp
  · rintro rfl
    rw [UInt8.toNat_ofNat']
    omega
theorem base_l0 (L : List UInt8) (hL : L.length ≤ 100000) : ∀ (l : List UInt8) (i : Nat), L.drop i = l → baseL L = L.take i ++ baseL l → Ev (fun k => hornbookref16_Base.l0 k (asB L) (i : Int)) (asB (baseL L))
  | [], i, h, hb => by
    have hi := bt_out L i h
    refine Ev.step (f := fun _ => some (asB L)) (fun k => ?_) ?_
    · simp only [hornbookref16_Base.l0]
      rw [if_neg (by rw [asB_size]; omega)]
    · have : baseL L = L := by rw [hb, List.take_of_length_le hi]; exact List.append_nil _
      rw [this]; exact Ev.now _
  | c :: l, i, h, hb => by
    obtain ⟨h1, h2, h3, h4⟩ := bt_in L i c l h
    by_cases hc : c = 46
    · refine Ev.step (f := fun _ => some (asB (L.take i))) (fun k => ?_) ?_
      · simp only [hornbookref16_Base.l0]
        rw [if_pos (by rw [asB_size]; omega), if_pos (by omega), h1, if_pos (by subst hc; rfl), if_pos (by rw [asB_size]; omega), Int.toNat_natCast, ext_asB, List.drop_zero]
      · have : baseL L = L.take i := by rw [hb, hc]; unfold baseL; simp
        rw [this]; exact Ev.now _
    · refine Ev.step (f := fun k => hornbookref16_Base.l0 k (asB L) ((i + 1 : Nat) : Int)) (fun k => ?_) (base_l0 L hL l (i + 1) h3 ?_)
      · simp only [hornbookref16_Base.l0]
        rw [if_pos (by rw [asB_size]; omega), if_pos (by omega), h1, if_neg (by rw [show (46 : Int) = ((46 : Nat) : Int) from rfl, byte46 c 46 (by omega)]; exact hc), ws i (by omega)]
      · rw [hb, h4, List.append_assoc]
        unfold baseL
        rw [List.takeWhile_cons, if_pos (by simpa using hc)]; rfl
theorem base_ev (L : List UInt8) (hL : L.length ≤ 100000) : Ev (fun k => hornbookref16_Base.f k (asB L)) (asB (baseL L)) :=
  base_l0 L hL L 0 rfl rfl
theorem same15_l0 (l : List ByteArray) (hl : l.length ≤ 1000000) : ∀ (d i : Nat), i + d = l.length → Ev (fun k => hornbookref15_Same.l0 k l l (i : Int)) true
  | 0, i, h => by
    refine Ev.step (f := fun _ => some true) (fun k => ?_) (Ev.now _)
    simp only [hornbookref15_Same.l0]
    rw [if_neg (by omega)]
  | d + 1, i, h => by
    refine Ev.step (f := fun k => hornbookref15_Same.l0 k l l ((i + 1 : Nat) : Int)) (fun k => ?_) (same15_l0 l hl d (i + 1) (by omega))
    simp only [hornbookref15_Same.l0]
    rw [if_pos (by omega), if_pos (by omega), if_pos (by omega), if_pos trivial, ws i (by omega)]
theorem same15_ev (l : List ByteArray) (hl : l.length ≤ 1000000) : Ev (fun k => hornbookref15_Same.f k l l) true := by
  refine Ev.congr (f := fun k => hornbookref15_Same.l0 k l l 0) (fun k => ?_) (same15_l0 l hl l.length 0 (by omega))
  unfold hornbookref15_Same.f
  rw [if_pos rfl]
/-- The pieces of a rest behind a piece that is begun. -/
def splw (cur l : List UInt8) : List (List UInt8) := match spl l with | [] => [cur] | h :: t => (cur ++ h) :: t
theorem splw_nil (cur : List UInt8) : splw cur [] = [cur] := by simp [splw, spl]
theorem splw_sep (cur l : List UInt8) : splw cur (95 :: l) = cur :: splw [] l := by
  have hp := spl_pos l
  unfold splw
  rw [spl, if_pos rfl]
  simp only [List.append_nil]
  cases h : spl l with
  | nil => exact absurd h hp
  | cons a b => rfl
theorem splw_one (cur : List UInt8) (c : UInt8) (l : List UInt8) (hc : c ≠ 95) : splw cur (c :: l) = splw (cur ++ [c]) l := by
  have hp := spl_pos l
  unfold splw
  rw [spl, if_neg hc]
  cases h : spl l with
  | nil => exact absurd h hp
  | cons a b => simp
theorem splw_all (l : List UInt8) : splw [] l = spl l := by
  have hp := spl_pos l
  unfold splw
  cases h : spl l with
  | nil => exact absurd h hp
  | cons a b => rfl
theorem parts_l0 (L : List UInt8) (hL : L.length ≤ 100000) : ∀ (l : List UInt8) (i from_ : Nat) (acc : List (List UInt8)), L.drop i = l → i ≤ L.length → from_ ≤ i → acc.length ≤ i →
    Ev (fun k => hornbookref16_Parts.l0 k (asB L) (acc.map asB) (from_ : Int) (i : Int)) ((acc ++ splw ((L.take i).drop from_) l).map asB)
  | [], i, from_, acc, h, hi, hf, ha => by
    have h2 := bt_out L i h
    obtain rfl : i = L.length := by omega
    refine Ev.step (f := fun k => hornbookref16_Parts.l0 k (asB L) ((acc ++ [(L.take L.length).drop from_]).map asB) ((L.length + 1 : Nat) : Int) ((L.length + 1 : Nat) : Int)) (fun k => ?_) ?_
    · simp only [hornbookref16_Parts.l0]
      rw [if_pos (by rw [asB_size]; omega), if_pos (by rw [asB_size]), if_pos (by omega), if_pos (by omega), if_pos (by rw [List.length_map]; omega), ws _ (by omega), Int.toNat_natCast, Int.toNat_natCast, ext_asB, List.map_append]; rfl
    · refine Ev.step (f := fun _ => some ((acc ++ [(L.take L.length).drop from_]).map asB)) (fun k => ?_) ?_
      · simp only [hornbookref16_Parts.l0]
        rw [if_neg (by rw [asB_size]; omega)]
      · rw [splw_nil]; exact Ev.now _
  | c :: l, i, from_, acc, h, hi, hf, ha => by
    obtain ⟨h1, h2, h3, h4⟩ := bt_in L i c l h
    by_cases hc : c = 95
    · refine Ev.step (f := fun k => hornbookref16_Parts.l0 k (asB L) ((acc ++ [(L.take i).drop from_]).map asB) ((i + 1 : Nat) : Int) ((i + 1 : Nat) : Int)) (fun k => ?_) ?_
      · simp only [hornbookref16_Parts.l0]
        rw [if_pos (by rw [asB_size]; omega), if_neg (by rw [asB_size]; omega), if_pos (by omega), if_pos (by rw [asB_size]; omega), h1, if_pos (by subst hc; rfl), if_pos (by omega), if_pos (by omega), if_pos (by rw [List.length_map]; omega), ws _ (by omega), Int.toNat_natCast, Int.toNat_natCast, ext_asB, List.map_append]; rfl
      · have := parts_l0 L hL l (i + 1) (i + 1) (acc ++ [(L.take i).drop from_]) h3 (by omega) (Nat.le_refl _) (by rw [List.length_append]; simp; omega)
        rw [hc, splw_sep]
        rw [List.append_assoc, show (L.take (i + 1)).drop (i + 1) = [] by rw [List.drop_eq_nil_of_le (List.length_take_le _ _)]] at this
        exact this
    · refine Ev.step (f := fun k => hornbookref16_Parts.l0 k (asB L) (acc.map asB) (from_ : Int) ((i + 1 : Nat) : Int)) (fun k => ?_) ?_
      · simp only [hornbookref16_Parts.l0]
        rw [if_pos (by rw [asB_size]; omega), if_neg (by rw [asB_size]; omega), if_pos (by omega), if_pos (by rw [asB_size]; omega), h1, if_neg (by rw [show (95 : Int) = ((95 : Nat) : Int) from rfl, byte46 c 95 (by omega)]; exact hc), ws _ (by omega)]
      · have := parts_l0 L hL l (i + 1) from_ acc h3 (by omega) (by omega) (by omega)
        rw [splw_one _ _ _ hc]
        rw [h4, List.drop_append_of_le_length (by rw [List.length_take]; omega)] at this
        exact this
theorem parts_ev (L : List UInt8) (hL : L.length ≤ 100000) : Ev (fun k => hornbookref16_Parts.f k (asB L)) (partsB L) := by
  unfold hornbookref16_Parts.f
  refine Ev.bind (base_ev L hL) ?_
  rw [asB_toList]
  unfold partsB partsL
  by_cases h : baseL L = []
  · rw [if_pos h]; exact Ev.congr (fun _ => if_pos h) (Ev.now _)
  · rw [if_neg h]
    refine Ev.congr (fun _ => if_neg h) ?_
    have := parts_l0 (baseL L) (Nat.le_trans (baseL_len L) hL) (baseL L) 0 0 [] rfl (Nat.zero_le _) (Nat.le_refl _) (Nat.le_refl _)
    rw [List.take_zero, List.drop_nil, splw_all] at this
    exact this
end Go.Proofs.YtgdlmgdcoedfoaaGreatDoor.Agl
namespace Go.Proofs.YtgdlmgdcoedfoaaGreatDoor.Agl
open Go.RowKit Go.Proofs.YtgdlmgdcoedfoaaGreatDoorW.PrintWords Go.Proofs.YtgdlmgdcoedfoaaGreatDoorW.PrintLast Go.Proofs.YtgdlmgdcoedfoaaGreatDoorW.PrintMore
open Go.Proofs.YtgdlmgdcoedfoaaGreatDoor.PAglIs
set_option linter.unusedVariables false
set_option linter.unusedSimpArgs false

set_option maxRecDepth 100000 in
theorem digit_all : ∀ c : Fin 256, hexCs.contains (UInt8.ofNat c.val) = true → hornbookref01_Digit.f 17 (c.val : Int) = some (dig (c.val : Int), true) := by decide +kernel
theorem digit_ev (c : UInt8) (h : hexCs.contains c = true) : Ev (fun k => hornbookref01_Digit.f k (wrap64 (c.toNat : Int))) (dig (c.toNat : Int), true) := by
  rw [wb]
  have h2 := digit_all ⟨c.toNat, c.toNat_lt⟩ (by simpa using h)
  exact Ev.of (fun k => hornbookref01_Digit.mono _ k) h2
theorem value_l0 (p : List UInt8) (hp : hexAll p = true) (hl : p.length ≤ 7) : ∀ (l : List UInt8) (i : Nat), p.drop i = l →
    Ev (fun k => hornbookref14_value.l0 k (asB p) (hexv ((bytesOf (asB p)).take i)) (i : Int)) (pval p)
  | [], i, h => by
    have hi := bt_out p i h
    refine Ev.step (f := fun _ => some (hexv ((bytesOf (asB p)).take i))) (fun k => ?_) ?_
    · simp only [hornbookref14_value.l0]
      rw [if_neg (by rw [asB_size]; omega)]
    · rw [List.take_of_length_le (by rw [bytesOf_length, asB_size]; exact hi)]; exact Ev.now _
  | c :: l, i, h => by
    obtain ⟨h1, h2, h3, h4⟩ := bt_in p i c l h
    have hc : hexCs.contains c = true := by
      unfold hexAll at hp
      refine List.all_eq_true.1 hp c ?_
      have : c ∈ p.drop i := by rw [h]; exact List.mem_cons_self ..
      exact List.mem_of_mem_drop this
    have hU : ∀ z ∈ bytesOf (asB p), isHexU z := hexAll_U (s := asB p) (by rw [asB_list]; exact hp)
    have hr := hexv_rng (bytesOf (asB p)) hU i (by rw [bytesOf_length, asB_size]; omega)
    have hsn : (bytesOf (asB p)).take (i + 1) = (bytesOf (asB p)).take i ++ [(c.toNat : Int)] := by
      unfold bytesOf
      rw [asB_list, ← List.map_take, h4, List.map_append, List.map_take]; rfl
    have hmem : c ∈ p := List.mem_of_mem_drop (i := i) (by rw [h]; exact List.mem_cons_self ..)
    have hcU : isHexU (c.toNat : Int) := hU _ (by unfold bytesOf; rw [asB_list]; exact List.mem_map.2 ⟨c, hmem, rfl⟩)
    have hd := dig_rng hcU
    have hp16 : (16 : Int) ^ i ≤ 16 ^ 7 := by
      have : (16 : Nat) ^ i ≤ 16 ^ 7 := Nat.pow_le_pow_right (by omega) (by omega)
      exact_mod_cast this
    have ih := value_l0 p hp hl l (i + 1) h3
    rw [hsn, hexv_snoc] at ih
    obtain ⟨v, hv⟩ : ∃ v, hexv ((bytesOf (asB p)).take i) = v := ⟨_, rfl⟩
    rw [hv] at hr ih ⊢
    have e16 : (16 : Int) ^ 7 = 268435456 := by decide
    refine Ev.step (f := fun k => (hornbookref01_Digit.f k (wrap64 (c.toNat : Int))).bind fun bt210 => hornbookref14_value.l0 k (asB p) (wrap64 ((wrap64 (v * 16)) + bt210.1)) ((i + 1 : Nat) : Int)) (fun k => ?_) ?_
    · simp only [hornbookref14_value.l0]
      rw [if_pos (by rw [asB_size]; omega), if_pos (by omega), h1, ws i (by omega)]
    · refine Ev.bind (digit_ev c hc) ?_
      have w1 : wrap64 (wrap64 (v * 16) + dig (c.toNat : Int)) = v * 16 + dig (c.toNat : Int) := by unfold wrap64; omega
      simp only [w1]
      exact ih
theorem value_ev (p : List UInt8) (hp : hexAll p = true) (hl : p.length ≤ 7) : Ev (fun k => hornbookref14_value.f k (asB p)) (pval p) := value_l0 p hp hl p 0 rfl
/-- The pieces between commas, byte by byte. -/
def pc : List UInt8 → List UInt8 → List (List UInt8)
  | cur, [] => [cur]
  | cur, c :: l => if c = 44 then cur :: pc [] l else pc (cur ++ [c]) l
theorem pc_index : ∀ (l cur : List UInt8), pc cur l = if Lib.indexByte l 44 < 0 then [cur ++ l] else (cur ++ l.take (Lib.indexByte l 44).toNat) :: pc [] (l.drop ((Lib.indexByte l 44).toNat + 1))
  | [], cur => by simp [pc, Lib.indexByte]
  | c :: l, cur => by
    have ih := pc_index l
    have hge := Lib.indexByte_ge l 44
    have e : Lib.indexByte (c :: l) 44 = if (c == 44) = true then 0 else if (Lib.indexByte l 44 == -1) = true then -1 else Lib.indexByte l 44 + 1 := rfl
    by_cases hc : c = 44
    · have e0 : Lib.indexByte (c :: l) 44 = 0 := by rw [e, if_pos (by rw [hc]; rfl)]
      rw [pc, if_pos hc, e0, if_neg (by omega)]
      simp
    · have hcb : ¬ (c == 44) = true := by rw [beq_iff_eq]; exact hc
      rw [pc, if_neg hc, ih]
      by_cases h : Lib.indexByte l 44 = -1
      · have e0 : Lib.indexByte (c :: l) 44 = -1 := by rw [e, if_neg hcb, h]; rfl
        rw [e0, h, if_pos (by omega), if_pos (by omega)]
        simp
      · have e0 : Lib.indexByte (c :: l) 44 = Lib.indexByte l 44 + 1 := by rw [e, if_neg hcb, if_neg (by rw [beq_iff_eq]; exact h)]
        rw [e0, if_neg (by omega), if_neg (by omega), show (Lib.indexByte l 44 + 1).toNat = (Lib.indexByte l 44).toNat + 1 by omega]
        simp
theorem pieces_pc : ∀ (k : Nat) (l : List UInt8), l.length ≤ k → pieces k l = pc [] l
  | 0, l, h => by
    have : l = [] := List.eq_nil_of_length_eq_zero (by omega)
    subst this; rfl
  | k + 1, l, h => by
    unfold pieces
    rw [pc_index l []]
    split
    · rfl
    · rw [pieces_pc k _ (by rw [List.length_drop]; omega)]; rfl
theorem values_l0 (p : List UInt8) (hp : ∀ q ∈ pc [] p, hexAll q = true ∧ q.length ≤ 7) (hl : p.length ≤ 1000) : ∀ (l : List UInt8) (i from_ : Nat) (acc : List Int), p.drop i = l → i ≤ p.length → from_ ≤ i → acc.length ≤ i →
    (∀ q ∈ pc ((p.take i).drop from_) l, hexAll q = true ∧ q.length ≤ 7) →
    Ev (fun k => hornbookref14_values.l0 k (asB p) acc (from_ : Int) (i : Int)) (acc ++ (pc ((p.take i).drop from_) l).map pval)
  | [], i, from_, acc, h, hi, hf, ha, hq => by
    have h2 := bt_out p i h
    obtain rfl : i = p.length := by omega
    obtain ⟨q1, q2⟩ := hq ((p.take p.length).drop from_) (by simp [pc])
    refine Ev.step (f := fun k => (hornbookref14_value.f k (asB ((p.take p.length).drop from_))).bind fun t212 => hornbookref14_values.l0 k (asB p) (acc ++ [t212]) ((p.length + 1 : Nat) : Int) ((p.length + 1 : Nat) : Int)) (fun k => ?_) ?_
    · simp only [hornbookref14_values.l0]
      rw [if_pos (by rw [asB_size]; omega), if_pos (by rw [asB_size]), if_pos (by omega), if_pos (by omega), ws _ (by omega), Int.toNat_natCast, Int.toNat_natCast, ext_asB]
      congr 1
      funext t
      rw [if_pos (by omega)]
    · refine Ev.bind (value_ev _ q1 q2) ?_
      refine Ev.step (f := fun _ => some (acc ++ [pval ((p.take p.length).drop from_)])) (fun k => ?_) ?_
      · simp only [hornbookref14_values.l0]
        rw [if_neg (by rw [asB_size]; omega)]
      · exact Ev.now _
  | c :: l, i, from_, acc, h, hi, hf, ha, hq => by
    obtain ⟨h1, h2, h3, h4⟩ := bt_in p i c l h
    by_cases hc : c = 44
    · rw [pc, if_pos hc] at hq ⊢
      obtain ⟨q1, q2⟩ := hq ((p.take i).drop from_) (List.mem_cons_self ..)
      refine Ev.step (f := fun k => (hornbookref14_value.f k (asB ((p.take i).drop from_))).bind fun t212 => hornbookref14_values.l0 k (asB p) (acc ++ [t212]) ((i + 1 : Nat) : Int) ((i + 1 : Nat) : Int)) (fun k => ?_) ?_
      · simp only [hornbookref14_values.l0]
        rw [if_pos (by rw [asB_size]; omega), if_neg (by rw [asB_size]; omega), if_pos (by omega), if_pos (by rw [asB_size]; omega), h1, if_pos (by subst hc; rfl), if_pos (by omega), if_pos (by omega), ws _ (by omega), Int.toNat_natCast, Int.toNat_natCast, ext_asB]
        congr 1
        funext t
        rw [if_pos (by omega)]
      · refine Ev.bind (value_ev _ q1 q2) ?_
        have e : (p.take (i + 1)).drop (i + 1) = [] := List.drop_eq_nil_of_le (List.length_take_le _ _)
        have := values_l0 p hp hl l (i + 1) (i + 1) (acc ++ [pval ((p.take i).drop from_)]) h3 (by omega) (Nat.le_refl _) (by rw [List.length_append]; simp; omega) (by rw [e]; exact fun q hq' => hq q (List.mem_cons_of_mem _ hq'))
        rw [e, List.append_assoc] at this
        exact this
    · rw [pc, if_neg hc] at hq ⊢
      have e : (p.take (i + 1)).drop from_ = (p.take i).drop from_ ++ [c] := by rw [h4, List.drop_append_of_le_length (by rw [List.length_take]; omega)]
      rw [← e] at hq ⊢
      refine Ev.step (f := fun k => hornbookref14_values.l0 k (asB p) acc (from_ : Int) ((i + 1 : Nat) : Int)) (fun k => ?_) (values_l0 p hp hl l (i + 1) from_ acc h3 (by omega) (by omega) (by omega) hq)
      simp only [hornbookref14_values.l0]
      rw [if_pos (by rw [asB_size]; omega), if_neg (by rw [asB_size]; omega), if_pos (by omega), if_pos (by rw [asB_size]; omega), h1, if_neg (by rw [show (44 : Int) = ((44 : Nat) : Int) from rfl, byte46 c 44 (by omega)]; exact hc), ws _ (by omega)]
theorem val_ok (f : List UInt8) (hf : f ∈ fieldsL) : (∀ q ∈ pc [] (eqVal f), hexAll q = true ∧ q.length ≤ 7) ∧ (eqVal f).length ≤ 100 := by
  have h1 := List.all_eq_true.1 fields_ok f hf
  rw [Bool.and_eq_true, decide_eq_true_eq] at h1
  have h2 : (eqVal f).length ≤ f.length := cut_len f [61]
  refine ⟨fun q hq => ?_, by omega⟩
  have h3 := h1.1
  unfold okVal at h3
  rw [pieces_pc _ _ (Nat.le_refl _)] at h3
  have := List.all_eq_true.1 h3 q hq
  simp only [Bool.and_eq_true, decide_eq_true_eq] at this
  exact ⟨this.2, this.1.2⟩
theorem values_ev (f : List UInt8) (hf : f ∈ fieldsL) : Ev (fun k => hornbookref14_values.f k (asB (eqVal f))) (fvals f) := by
  obtain ⟨h1, h2⟩ := val_ok f hf
  have h := values_l0 (eqVal f) h1 (by omega) (eqVal f) 0 0 [] rfl (Nat.zero_le _) (Nat.le_refl _) (Nat.le_refl _) (by rw [List.take_zero, List.drop_nil]; exact h1)
  rw [List.take_zero, List.drop_nil] at h
  have e : fvals f = [] ++ (pc [] (eqVal f)).map pval := by
    unfold fvals valuesL
    rw [asB_size, asB_list, pieces_pc _ _ (Nat.le_refl _)]; rfl
  rw [e]
  exact h
end Go.Proofs.YtgdlmgdcoedfoaaGreatDoor.Agl
namespace Go.Proofs.YtgdlmgdcoedfoaaGreatDoor.Agl
open Go.RowKit Go.Proofs.YtgdlmgdcoedfoaaGreatDoorW.PrintWords Go.Proofs.YtgdlmgdcoedfoaaGreatDoorW.PrintLast Go.Proofs.YtgdlmgdcoedfoaaGreatDoorW.PrintMore
open Go.Proofs.YtgdlmgdcoedfoaaGreatDoor.PAglIs
set_option linter.unusedVariables false
set_option linter.unusedSimpArgs false

/-- The reference's text: each field, a space behind it. -/
def refT : List (List UInt8) → List UInt8
  | [] => []
  | f :: fs => f ++ 32 :: refT fs
theorem textOf_refT : ∀ fs : List (List UInt8), textOf fs = 32 :: refT fs
  | [] => rfl
  | f :: fs => by
    have e0 : textOf (f :: fs) = 32 :: (f ++ textOf fs) := by unfold textOf; simp
    rw [e0, textOf_refT fs]; rfl
theorem refB_eq : refB = asB (refT fieldsL) := by
  unfold refB asB
  rw [listL_text, textOf_refT]; rfl
theorem refT_len : (refT fieldsL).length ≤ 100000 := by
  have h1 := listL_len
  rw [listL_text, textOf_refT, List.length_cons] at h1
  omega
def clean (f : List UInt8) : Prop := f = eqName f ++ 61 :: eqVal f ∧ (∀ b ∈ eqName f, b ≠ 32 ∧ b ≠ 61) ∧ ∀ b ∈ eqVal f, b ≠ 32 ∧ b ≠ 61
theorem vals_noeq : (fieldsL.all fun f => (eqVal f).all (· != 61)) = true := by decide +kernel
theorem clean_all (f : List UInt8) (hf : f ∈ fieldsL) : clean f := by
  obtain ⟨h0, _, h1, h2⟩ := good_parts (List.all_eq_true.1 fields_good f hf)
  refine ⟨h0, fun b hb => ⟨(h1 b hb).1, (h1 b hb).2.1⟩, fun b hb => ⟨h2 b hb, ?_⟩⟩
  have := List.all_eq_true.1 (List.all_eq_true.1 vals_noeq f hf) b hb
  simpa using this
theorem ne61 (c : UInt8) (h : c ≠ 61) : ¬ ((c.toNat : Int) = 61) := by rw [show (61 : Int) = ((61 : Nat) : Int) from rfl, byte46 c 61 (by omega)]; exact h
theorem ne32 (c : UInt8) (h : c ≠ 32) : ¬ ((c.toNat : Int) = 32) := by rw [show (32 : Int) = ((32 : Nat) : Int) from rfl, byte46 c 32 (by omega)]; exact h
theorem uni_skip (L : List UInt8) (hL : L.length ≤ 100000) (x : ByteArray) (R : List Int × Bool) : ∀ (u rest : List UInt8) (i : Nat) (a e : Int), L.drop i = u ++ rest → (∀ b ∈ u, b ≠ 32 ∧ b ≠ 61) →
    Ev (fun k => hornbookref14_Uni.l0 k x (asB L) a e ((i + u.length : Nat) : Int)) R → Ev (fun k => hornbookref14_Uni.l0 k x (asB L) a e (i : Int)) R
  | [], rest, i, a, e, h, hu, hR => hR
  | c :: u, rest, i, a, e, h, hu, hR => by
    obtain ⟨h1, h2, h3, h4⟩ := bt_in L i c (u ++ rest) h
    obtain ⟨n32, n61⟩ := hu c (List.mem_cons_self ..)
    refine Ev.step (f := fun k => hornbookref14_Uni.j1 k x (asB L) a e (i : Int)) (fun k => ?_) ?_
    · simp only [hornbookref14_Uni.l0]
      rw [if_pos (by rw [asB_size]; omega), if_pos (by omega), h1, if_neg (ne61 c n61)]
    refine Ev.step (f := fun k => hornbookref14_Uni.l0 k x (asB L) a e ((i + 1 : Nat) : Int)) (fun k => ?_) ?_
    · simp only [hornbookref14_Uni.j1]
      rw [if_pos (by omega), if_pos (by rw [asB_size]; omega), h1, if_neg (ne32 c n32), ws i (by omega)]
    refine uni_skip L hL x R u rest (i + 1) a e h3 (fun b hb => hu b (List.mem_cons_of_mem _ hb)) ?_
    rw [show i + 1 + u.length = i + (c :: u).length by rw [List.length_cons]; omega]
    exact hR
theorem cut_take (L nm rest : List UInt8) (i : Nat) (h : L.drop i = nm ++ rest) : (L.take (i + nm.length)).drop i = nm := by
  rw [List.drop_take, h, show i + nm.length - i = nm.length by omega, List.take_left']
  rfl
theorem drop_step (L nm rest : List UInt8) (c : UInt8) (i : Nat) (h : L.drop i = nm ++ c :: rest) : L.drop (i + nm.length) = c :: rest := by
  rw [← List.drop_drop, h, List.drop_left]
theorem uni_fields (L : List UInt8) (hL : L.length ≤ 100000) (n : List UInt8) : ∀ (fs : List (List UInt8)) (i : Nat) (e : Int), L.drop i = refT fs → (∀ f ∈ fs, f ∈ fieldsL) →
    Ev (fun k => hornbookref14_Uni.l0 k (asB n) (asB L) (i : Int) e (i : Int)) (match lookup n fs with | some f => (fvals f, true) | none => ([], false))
  | [], i, e, h, hfs => by
    have h2 := bt_out L i h
    refine Ev.step (f := fun _ => some (([] : List Int), false)) (fun k => ?_) (Ev.now _)
    simp only [hornbookref14_Uni.l0]
    rw [if_neg (by rw [asB_size]; omega)]
  | f :: fs, i, e, h, hfs => by
    have hf := hfs f (List.mem_cons_self ..)
    obtain ⟨hcl, hn, hv⟩ := clean_all f hf
    have hve := values_ev f hf
    have h0 : L.drop i = eqName f ++ 61 :: (eqVal f ++ 32 :: refT fs) := by
      rw [h]
      show f ++ 32 :: refT fs = _
      conv => lhs; rw [hcl]
      simp
    refine uni_skip L hL (asB n) _ (eqName f) (61 :: (eqVal f ++ 32 :: refT fs)) i (i : Int) e h0 (fun b hb => hn b hb) ?_
    have hnm := cut_take L (eqName f) _ i h0
    have hd := drop_step L (eqName f) _ 61 i h0
    obtain ⟨j, hj⟩ : ∃ j, i + (eqName f).length = j := ⟨_, rfl⟩
    rw [hj] at hnm hd ⊢
    obtain ⟨b1, b2, b3, b4⟩ := bt_in L j 61 _ hd
    replace b1 : bt (asB L) (j : Int) = 61 := b1
    refine Ev.step (f := fun k => hornbookref14_Uni.j1 k (asB n) (asB L) (i : Int) (j : Int) (j : Int)) (fun k => ?_) ?_
    · simp only [hornbookref14_Uni.l0]
      rw [if_pos (by rw [asB_size]; omega), if_pos (by omega), b1, if_pos rfl]
    refine Ev.step (f := fun k => hornbookref14_Uni.l0 k (asB n) (asB L) (i : Int) (j : Int) ((j + 1 : Nat) : Int)) (fun k => ?_) ?_
    · simp only [hornbookref14_Uni.j1]
      rw [if_pos (by omega), if_pos (by rw [asB_size]; omega), b1, if_neg (by decide), ws j (by omega)]
    refine uni_skip L hL (asB n) _ (eqVal f) (32 :: refT fs) (j + 1) (i : Int) (j : Int) b3 (fun b hb => hv b hb) ?_
    have hvv := cut_take L (eqVal f) _ (j + 1) b3
    have hd2 := drop_step L (eqVal f) _ 32 (j + 1) b3
    obtain ⟨m, hm⟩ : ∃ m, j + 1 + (eqVal f).length = m := ⟨_, rfl⟩
    rw [hm] at hvv hd2 ⊢
    obtain ⟨c1, c2, c3, c4⟩ := bt_in L m 32 _ hd2
    replace c1 : bt (asB L) (m : Int) = 32 := c1
    refine Ev.step (f := fun k => hornbookref14_Uni.j1 k (asB n) (asB L) (i : Int) (j : Int) (m : Int)) (fun k => ?_) ?_
    · simp only [hornbookref14_Uni.l0]
      rw [if_pos (by rw [asB_size]; omega), if_pos (by omega), c1, if_neg (by decide)]
    have hij : i ≤ j := by omega
    have hjm : j + 1 ≤ m := by omega
    unfold lookup
    by_cases heq : n = eqName f
    · rw [if_pos heq]
      refine Ev.step (f := fun k => (hornbookref14_values.f k (asB (eqVal f))).bind fun t221 => some (t221, true)) (fun k => ?_) ?_
      · simp only [hornbookref14_Uni.j1]
        rw [if_pos (by omega), if_pos (by rw [asB_size]; omega), c1, if_pos rfl, if_pos (by omega), if_pos (by omega), if_pos (by rw [asB_size]; omega), Int.toNat_natCast, Int.toNat_natCast, ext_asB, hnm, asB_toList, asB_toList, if_pos heq.symm, ws j (by omega), if_pos (by omega), if_pos (by omega), if_pos (by rw [asB_size]; omega), Int.toNat_natCast, Int.toNat_natCast, ext_asB, hvv]
      · exact Ev.bind hve (Ev.now _)
    · rw [if_neg heq]
      refine Ev.step (f := fun k => hornbookref14_Uni.l0 k (asB n) (asB L) ((m + 1 : Nat) : Int) (j : Int) ((m + 1 : Nat) : Int)) (fun k => ?_) (uni_fields L hL n fs (m + 1) (j : Int) c3 (fun g hg => hfs g (List.mem_cons_of_mem _ hg)))
      simp only [hornbookref14_Uni.j1]
      rw [if_pos (by omega), if_pos (by rw [asB_size]; omega), c1, if_pos rfl, if_pos (by omega), if_pos (by omega), if_pos (by rw [asB_size]; omega), Int.toNat_natCast, Int.toNat_natCast, ext_asB, hnm, asB_toList, asB_toList, if_neg (fun h => heq h.symm), ws m (by omega)]
theorem lookup_uniL (n : List UInt8) : (lookup n fieldsL).map fvals = uniL n := by
  by_cases h : n ≠ [] ∧ (∀ b ∈ n, b ≠ 61) ∧ ∀ b ∈ n, b ≠ 32
  · exact (uniL_look n h.1 h.2.1 h.2.2).symm
  · have no : ∀ f ∈ fieldsL, n = eqName f → False := fun f hf e => by
      obtain ⟨_, g0, g1, _⟩ := good_parts (List.all_eq_true.1 fields_good f hf)
      subst e
      exact h ⟨g0, fun b hb => (g1 b hb).2.1, fun b hb => (g1 b hb).1⟩
    have e1 : lookup n fieldsL = none := by
      cases hl : lookup n fieldsL with
      | none => rfl
      | some f => obtain ⟨m1, m2⟩ := lookup_mem n _ f hl; exact (no f m1 m2).elim
    have e2 : uniL n = none := by
      cases hu : uniL n with
      | none => rfl
      | some u => obtain ⟨f, hf, hn, _⟩ := uniL_field n u hu; exact (no f hf hn).elim
    rw [e1, e2]; rfl
/-- The reference's look-up. -/
theorem refUni_ev (n : List UInt8) : Ev (fun k => hornbookref14_Uni.f k (asB n)) (match uniL n with | some u => (u, true) | none => ([], false)) := by
  unfold hornbookref14_Uni.f
  refine Ev.bind (f := fun k t220 => hornbookref14_Uni.l0 k (asB n) t220 0 0 0) (a := refB) (Ev.now _) ?_
  rw [refB_eq, ← lookup_uniL]
  have h := uni_fields (refT fieldsL) refT_len n fieldsL 0 0 rfl (fun f hf => hf)
  cases hl : lookup n fieldsL with
  | none => rw [hl] at h; exact h
  | some f => rw [hl] at h; exact h
theorem all_skip (L : List UInt8) (hL : L.length ≤ 100000) (acc R : List S76) : ∀ (u rest : List UInt8) (i : Nat) (a e : Int), L.drop i = u ++ rest → (∀ b ∈ u, b ≠ 32 ∧ b ≠ 61) →
    Ev (fun k => hornbookref14_All.l0 k (asB L) acc a e ((i + u.length : Nat) : Int)) R → Ev (fun k => hornbookref14_All.l0 k (asB L) acc a e (i : Int)) R
  | [], rest, i, a, e, h, hu, hR => hR
  | c :: u, rest, i, a, e, h, hu, hR => by
    obtain ⟨h1, h2, h3, h4⟩ := bt_in L i c (u ++ rest) h
    obtain ⟨n32, n61⟩ := hu c (List.mem_cons_self ..)
    refine Ev.step (f := fun k => hornbookref14_All.l0 k (asB L) acc a e ((i + 1 : Nat) : Int)) (fun k => ?_) ?_
    · simp only [hornbookref14_All.l0]
      rw [if_pos (by rw [asB_size]; omega), if_pos (by omega), h1, if_neg (ne61 c n61), if_neg (ne32 c n32), ws i (by omega)]
    refine all_skip L hL acc R u rest (i + 1) a e h3 (fun b hb => hu b (List.mem_cons_of_mem _ hb)) ?_
    rw [show i + 1 + u.length = i + (c :: u).length by rw [List.length_cons]; omega]
    exact hR
def entL (f : List UInt8) : S76 := ⟨asB (eqName f), fvals f⟩
theorem all_fields (L : List UInt8) (hL : L.length ≤ 100000) : ∀ (fs : List (List UInt8)) (i : Nat) (e : Int) (acc : List S76), L.drop i = refT fs → (∀ f ∈ fs, f ∈ fieldsL) → acc.length ≤ i →
    Ev (fun k => hornbookref14_All.l0 k (asB L) acc (i : Int) e (i : Int)) (acc ++ fs.map entL)
  | [], i, e, acc, h, hfs, hac => by
    have h2 := bt_out L i h
    refine Ev.step (f := fun _ => some acc) (fun k => ?_) (by rw [List.map_nil, List.append_nil]; exact Ev.now _)
    simp only [hornbookref14_All.l0]
    rw [if_neg (by rw [asB_size]; omega)]
  | f :: fs, i, e, acc, h, hfs, hac => by
    have hf := hfs f (List.mem_cons_self ..)
    obtain ⟨hcl, hn, hv⟩ := clean_all f hf
    have hve := values_ev f hf
    have h0 : L.drop i = eqName f ++ 61 :: (eqVal f ++ 32 :: refT fs) := by
      rw [h]
      show f ++ 32 :: refT fs = _
      conv => lhs; rw [hcl]
      simp
    refine all_skip L hL acc _ (eqName f) (61 :: (eqVal f ++ 32 :: refT fs)) i (i : Int) e h0 (fun b hb => hn b hb) ?_
    have hnm := cut_take L (eqName f) _ i h0
    have hd := drop_step L (eqName f) _ 61 i h0
    obtain ⟨j, hj⟩ : ∃ j, i + (eqName f).length = j := ⟨_, rfl⟩
    rw [hj] at hnm hd ⊢
    obtain ⟨b1, b2, b3, b4⟩ := bt_in L j 61 _ hd
    replace b1 : bt (asB L) (j : Int) = 61 := b1
    refine Ev.step (f := fun k => hornbookref14_All.l0 k (asB L) acc (i : Int) (j : Int) ((j + 1 : Nat) : Int)) (fun k => ?_) ?_
    · simp only [hornbookref14_All.l0]
      rw [if_pos (by rw [asB_size]; omega), if_pos (by omega), b1, if_pos rfl, if_neg (by decide), ws j (by omega)]
    refine all_skip L hL acc _ (eqVal f) (32 :: refT fs) (j + 1) (i : Int) (j : Int) b3 (fun b hb => hv b hb) ?_
    have hvv := cut_take L (eqVal f) _ (j + 1) b3
    have hd2 := drop_step L (eqVal f) _ 32 (j + 1) b3
    obtain ⟨m, hm⟩ : ∃ m, j + 1 + (eqVal f).length = m := ⟨_, rfl⟩
    rw [hm] at hvv hd2 ⊢
    obtain ⟨c1, c2, c3, c4⟩ := bt_in L m 32 _ hd2
    replace c1 : bt (asB L) (m : Int) = 32 := c1
    have hij : i ≤ j := by omega
    have hjm : j + 1 ≤ m := by omega
    refine Ev.step (f := fun k => (hornbookref14_values.f k (asB (eqVal f))).bind fun t285 => hornbookref14_All.l0 k (asB L) (acc ++ [(⟨asB (eqName f), t285⟩ : S76)]) ((m + 1 : Nat) : Int) (j : Int) ((m + 1 : Nat) : Int)) (fun k => ?_) ?_
    · simp only [hornbookref14_All.l0]
      rw [if_pos (by rw [asB_size]; omega), if_pos (by omega), c1, if_neg (by decide), if_pos rfl, if_pos (by omega), if_pos (by omega), if_pos (by rw [asB_size]; omega), ws j (by omega), if_pos (by omega), if_pos (by omega), if_pos (by rw [asB_size]; omega)]
      simp only [Int.toNat_natCast, ext_asB, hnm, hvv, ws m (by omega : m ≤ 1000000)]
      congr 1
      funext t
      rw [if_pos (by omega)]
    · refine Ev.bind hve ?_
      have := all_fields L hL fs (m + 1) (j : Int) (acc ++ [entL f]) c3 (fun g hg => hfs g (List.mem_cons_of_mem _ hg)) (by rw [List.length_append]; simp; omega)
      rw [List.append_assoc] at this
      exact this
theorem all_ev : Ev (fun k => hornbookref14_All.f k) (fieldsL.map entL) := by
  unfold hornbookref14_All.f
  refine Ev.bind (f := fun k t278 => hornbookref14_All.l0 k t278 ([] : List S76) 0 0 0) (a := refB) (Ev.now _) ?_
  rw [refB_eq]
  have h := all_fields (refT fieldsL) refT_len fieldsL 0 0 [] rfl (fun f hf => hf) (Nat.le_refl _)
  rwa [List.nil_append] at h
theorem back_l0 (r : Int) (E : List (List UInt8)) (hE : E.length ≤ 1000) : ∀ (fs : List (List UInt8)) (i : Nat), E.drop i = fs →
    Ev (fun k => hornbookref14_Back.l0 k r (E.map entL) (i : Int)) (match backF r fs with | some nm => (asB nm, true) | none => ((⟨#[]⟩ : ByteArray), false))
  | [], i, h => by
    have hi : E.length ≤ i := by
      rcases Nat.lt_or_ge i E.length with h' | h'
      · rw [List.drop_eq_getElem_cons h'] at h; cases h
      · exact h'
    refine Ev.step (f := fun _ => some ((⟨#[]⟩ : ByteArray), false)) (fun k => ?_) (Ev.now _)
    simp only [hornbookref14_Back.l0]
    rw [if_neg (by rw [List.length_map]; omega)]
  | f :: fs, i, h => by
    have hi : i < E.length := by
      rcases Nat.lt_or_ge i E.length with h' | h'
      · exact h'
      · rw [List.drop_eq_nil_of_le h'] at h; cases h
    rw [List.drop_eq_getElem_cons hi] at h
    injection h with h1 h2
    have hrd : rd_T76 (E.map entL) (i : Int) = entL f := by
      unfold rd_T76
      rw [List.getD_eq_getElem?_getD, Int.toNat_natCast, List.getElem?_map, List.getElem?_eq_getElem hi, h1]; rfl
    have ih := back_l0 r E hE fs (i + 1) h2
    unfold backF
    by_cases hv : fvals f = [r]
    · rw [if_pos hv]
      refine Ev.step (f := fun _ => some (asB (eqName f), true)) (fun k => ?_) (Ev.now _)
      simp only [hornbookref14_Back.l0]
      rw [if_pos (by rw [List.length_map]; omega), if_pos (by omega), hrd]
      have hl1 : ((entL f).f1.length : Int) = 1 := by show ((fvals f).length : Int) = 1; rw [hv]; rfl
      have hr0 : rd (entL f).f1 0 = r := by show rd (fvals f) 0 = r; rw [hv]; rfl
      rw [if_pos hl1, if_pos (by omega), if_pos hr0]; rfl
    · rw [if_neg hv]
      refine Ev.step (f := fun k => hornbookref14_Back.l0 k r (E.map entL) ((i + 1 : Nat) : Int)) (fun k => ?_) ih
      simp only [hornbookref14_Back.l0]
      rw [if_pos (by rw [List.length_map]; omega), if_pos (by omega), hrd, ws i (by omega)]
      by_cases h1l : ((entL f).f1.length : Int) = 1
      · have hr0 : ¬ rd (entL f).f1 0 = r := fun he => hv (by
          obtain ⟨z, hz⟩ := List.length_eq_one_iff.1 (show (fvals f).length = 1 by have : ((fvals f).length : Int) = 1 := h1l; omega)
          have he2 : rd (fvals f) 0 = r := he
          rw [hz] at he2 ⊢
          have : z = r := he2
          rw [this])
        rw [if_pos h1l, if_pos (by omega), if_neg hr0]
      · rw [if_neg h1l]
theorem back_all (r : Int) (E : List (List UInt8)) (hE : E.length ≤ 1000) (hA : Ev (fun k => hornbookref14_All.f k) (E.map entL)) :
    Ev (fun k => hornbookref14_Back.f k r) (match backF r E with | some nm => (asB nm, true) | none => ((⟨#[]⟩ : ByteArray), false)) := by
  unfold hornbookref14_Back.f
  exact Ev.bind hA (back_l0 r E hE E 0 rfl)
theorem refBack_ev (r : Int) : Ev (fun k => hornbookref14_Back.f k r) (match backF r fieldsL with | some nm => (asB nm, true) | none => ((⟨#[]⟩ : ByteArray), false)) :=
  back_all r fieldsL (by rcases fields_num with h | h <;> omega) all_ev
end Go.Proofs.YtgdlmgdcoedfoaaGreatDoor.Agl
namespace Go.Proofs.YtgdlmgdcoedfoaaGreatDoor.Agl
open Go.RowKit Go.Proofs.YtgdlmgdcoedfoaaGreatDoorW.PrintWords Go.Proofs.YtgdlmgdcoedfoaaGreatDoorW.PrintLast Go.Proofs.YtgdlmgdcoedfoaaGreatDoorW.PrintMore
open Go.Proofs.YtgdlmgdcoedfoaaGreatDoor.PAglIs
set_option linter.unusedVariables false
set_option linter.unusedSimpArgs false

theorem refGood (r : Int) : hornbookref02_Good.f r = some (goodB r) := by
  unfold hornbookref02_Good.f goodB
  by_cases h0 : r ≥ 0
  · rw [if_pos h0]
    by_cases h1 : r ≤ 1114111
    · rw [if_pos h1]
      by_cases h2 : r < 55296
      · rw [if_pos h2, decide_eq_true (by omega)]
      · rw [if_neg h2]
        congr 1
        exact decide_eq_decide.2 (by omega)
    · rw [if_neg h1, decide_eq_false (by omega)]
  · rw [if_neg h0, decide_eq_false (by omega)]
set_option maxRecDepth 100000 in
theorem hexC_all : ∀ c : Fin 256, hexCs.contains (UInt8.ofNat c.val) = decide (isHexU (c.val : Int)) := by decide +kernel
theorem hexC_iff (c : UInt8) : hexCs.contains c = decide (isHexU (c.toNat : Int)) := by
  have h := hexC_all ⟨c.toNat, c.toNat_lt⟩
  simpa using h
def dvl (v : Int) (l : List UInt8) : Int := l.foldl (fun v c => v * 16 + dig (c.toNat : Int)) v
theorem pval_dvl (p : List UInt8) : pval p = dvl 0 p := by
  unfold pval hexv bytesOf dvl
  rw [show (⟨p.toArray⟩ : ByteArray).data.toList = p from rfl, List.foldl_map]
theorem digits_l0 (p : List UInt8) (hp : p.length ≤ 7) : ∀ (l : List UInt8) (i : Nat) (v : Int), p.drop i = l → 0 ≤ v → v < 16 ^ i →
    Ev (fun k => hornbookref16_digits.l0 k (asB p) v (i : Int)) (if hexAll l = true then dvl v l else -1)
  | [], i, v, h, v0, v1 => by
    have hi := bt_out p i h
    refine Ev.step (f := fun _ => some v) (fun k => ?_) (Ev.now _)
    simp only [hornbookref16_digits.l0]
    rw [if_neg (by rw [asB_size]; omega)]
  | c :: l, i, v, h, v0, v1 => by
    obtain ⟨h1, h2, h3, h4⟩ := bt_in p i c l h
    have hp16 : (16 : Int) ^ i ≤ 16 ^ 6 := by
      have : (16 : Nat) ^ i ≤ 16 ^ 6 := Nat.pow_le_pow_right (by omega) (by omega)
      exact_mod_cast this
    have e16 : (16 : Int) ^ 6 = 16777216 := by decide
    have hc256 := c.toNat_lt
    have hcx := hexC_iff c
    have hall : hexAll (c :: l) = (hexCs.contains c && hexAll l) := by unfold hexAll; rw [List.all_cons]
    have hsucc : (16 : Int) ^ (i + 1) = 16 ^ i * 16 := Int.pow_succ ..
    have hw := wb c
    by_cases hd : 48 ≤ (c.toNat : Int) ∧ (c.toNat : Int) ≤ 57
    · have hU : isHexU (c.toNat : Int) := .inl hd
      rw [decide_eq_true hU] at hcx
      have hdg : dig (c.toNat : Int) = (c.toNat : Int) - 48 := by unfold dig; rw [if_pos hd.2]
      have ih := digits_l0 p hp l (i + 1) (v * 16 + dig (c.toNat : Int)) h3 (by omega) (by omega)
      rw [hall, hcx, Bool.true_and]
      refine Ev.step (f := fun k => hornbookref16_digits.j1 k (asB p) v (i : Int) (c.toNat : Int) true) (fun k => ?_) ?_
      · simp only [hornbookref16_digits.l0]
        rw [if_pos (by rw [asB_size]; omega), if_pos (by omega), h1, hw, if_pos hd.1, decide_eq_true hd.2]
      refine Ev.step (f := fun k => hornbookref16_digits.l0 k (asB p) (v * 16 + dig (c.toNat : Int)) ((i + 1 : Nat) : Int)) (fun k => ?_) ih
      simp only [hornbookref16_digits.j1]
      rw [if_pos trivial, ws i (by omega), hdg, show wrap64 (wrap64 (wrap64 (v * 16) + (c.toNat : Int)) - 48) = v * 16 + ((c.toNat : Int) - 48) by unfold wrap64; omega]
    · have step1 : ∀ k, hornbookref16_digits.l0 (k + 1) (asB p) v (i : Int) = hornbookref16_digits.j1 k (asB p) v (i : Int) (c.toNat : Int) false := fun k => by
        simp only [hornbookref16_digits.l0]
        rw [if_pos (by rw [asB_size]; omega), if_pos (by omega), h1, hw]
        by_cases h48 : (c.toNat : Int) ≥ 48
        · rw [if_pos h48, decide_eq_false (by omega)]
        · rw [if_neg h48]
      refine Ev.step step1 ?_
      by_cases hu : 65 ≤ (c.toNat : Int) ∧ (c.toNat : Int) ≤ 70
      · have hU : isHexU (c.toNat : Int) := .inr hu
        rw [decide_eq_true hU] at hcx
        have hdg : dig (c.toNat : Int) = (c.toNat : Int) - 55 := by unfold dig; rw [if_neg (by omega)]
        have ih := digits_l0 p hp l (i + 1) (v * 16 + dig (c.toNat : Int)) h3 (by omega) (by omega)
        rw [hall, hcx, Bool.true_and]
        refine Ev.step (f := fun k => hornbookref16_digits.l0 k (asB p) (v * 16 + dig (c.toNat : Int)) ((i + 1 : Nat) : Int)) (fun k => ?_) ih
        simp only [hornbookref16_digits.j1]
        rw [if_neg (by decide), if_pos hu.1, if_pos hu.2, ws i (by omega), hdg, show wrap64 (wrap64 (wrap64 (wrap64 (v * 16) + (c.toNat : Int)) - 65) + 10) = v * 16 + ((c.toNat : Int) - 55) by unfold wrap64; omega]
      · have hU : ¬ isHexU (c.toNat : Int) := by unfold isHexU; omega
        rw [decide_eq_false hU] at hcx
        rw [hall, hcx, Bool.false_and, if_neg (by decide)]
        refine Ev.step (f := fun _ => some (-1)) (fun k => ?_) (Ev.now _)
        simp only [hornbookref16_digits.j1]
        rw [if_neg (by decide)]
        by_cases h65 : (c.toNat : Int) ≥ 65
        · rw [if_pos h65, if_neg (by omega)]
        · rw [if_neg h65]
def digD (p : List UInt8) : Int := if hexAll p = true then pval p else -1
theorem digits_ev (p : List UInt8) (hp : p.length ≤ 7) : Ev (fun k => hornbookref16_digits.f k (asB p)) (digD p) := by
  have h := digits_l0 p hp p 0 0 rfl (Int.le_refl _) (by decide)
  unfold digD
  rw [pval_dvl]
  exact h
theorem digD_good (p : List UInt8) : goodB (digD p) = numB (asB p) := by
  unfold digD numB
  rw [asB_list]
  cases h : hexAll p with
  | true => rw [if_pos rfl, Bool.true_and]; rfl
  | false => rw [if_neg (by decide), Bool.false_and]; decide
theorem digD_val (p : List UInt8) (h : numB (asB p) = true) : digD p = hexv (bytesOf (asB p)) := by
  unfold numB at h
  rw [asB_list] at h
  unfold digD
  rw [if_pos (Bool.and_eq_true_iff.1 h).1]; rfl
def foursD (acc : List Int) (l : List UInt8) : List Int := if l.length % 4 = 0 then (match foursL (l.length / 4) l with | some ys => acc ++ ys | none => []) else []
theorem fours_l0 (T : List UInt8) (hT : T.length ≤ 1000) : ∀ (n : Nat) (l : List UInt8) (i : Nat) (acc : List Int), l.length ≤ n → T.drop i = l → acc.length ≤ i →
    Ev (fun k => hornbookref16_fours.l0 k (asB T) acc (i : Int)) (foursD acc l)
  | n, [], i, acc, hn, h, ha => by
    have hi := bt_out T i h
    refine Ev.step (f := fun _ => some acc) (fun k => ?_) ?_
    · simp only [hornbookref16_fours.l0]
      rw [if_neg (by rw [asB_size]; omega)]
    · have : foursD acc [] = acc := by simp [foursD, foursL]
      rw [this]; exact Ev.now _
  | 0, c :: l, i, acc, hn, h, ha => by simp at hn
  | n + 1, c :: l, i, acc, hn, h, ha => by
    obtain ⟨h1, h2, h3, h4⟩ := bt_in T i c l h
    have hlen : (c :: l).length = T.length - i := by rw [← h, List.length_drop]
    have w4 : wrap64 ((i : Int) + 4) = ((i + 4 : Nat) : Int) := by unfold wrap64; omega
    by_cases hs : (c :: l).length < 4
    · refine Ev.step (f := fun _ => some ([] : List Int)) (fun k => ?_) ?_
      · simp only [hornbookref16_fours.l0]
        rw [if_pos (by rw [asB_size]; omega), w4, if_pos (by rw [asB_size]; omega)]
      · have : foursD acc (c :: l) = [] := by
          unfold foursD
          rw [if_neg]
          have : 1 ≤ (c :: l).length := by simp
          omega
        rw [this]; exact Ev.now _
    · have hpt : (T.take (i + 4)).drop i = (c :: l).take 4 := by
        rw [List.drop_take, h, show i + 4 - i = 4 by omega]
      have hdr : T.drop (i + 4) = (c :: l).drop 4 := by rw [← List.drop_drop, h]
      have hlp : ((c :: l).take 4).length = 4 := by rw [List.length_take]; omega
      obtain ⟨p, hpp⟩ : ∃ p, (c :: l).take 4 = p := ⟨_, rfl⟩
      rw [hpp] at hpt hlp
      have hdig := digits_ev p (by omega)
      have hmod : (c :: l).length % 4 = ((c :: l).drop 4).length % 4 := by rw [List.length_drop]; omega
      have hdiv : (c :: l).length / 4 = ((c :: l).drop 4).length / 4 + 1 := by rw [List.length_drop]; omega
      have hfl : foursL ((c :: l).length / 4) (c :: l) = if numB (asB p) = true then (foursL (((c :: l).drop 4).length / 4) ((c :: l).drop 4)).map (hexv (bytesOf (asB p)) :: ·) else none := by
        rw [hdiv, foursL, hpp]; rfl
      refine Ev.step (f := fun k => (hornbookref16_digits.f k (asB p)).bind fun t224 => (hornbookref02_Good.f t224).bind fun t225 => if t225 = true then (hornbookref16_digits.f k (asB p)).bind (fun t226 => hornbookref16_fours.l0 k (asB T) (acc ++ [t226]) ((i + 4 : Nat) : Int)) else some ([] : List Int)) (fun k => ?_) ?_
      · simp only [hornbookref16_fours.l0]
        rw [if_pos (by rw [asB_size]; omega), w4, if_neg (by rw [asB_size]; omega), if_pos (by omega), if_pos (by omega), if_pos (by rw [asB_size]; omega), Int.toNat_natCast, Int.toNat_natCast, ext_asB, hpt]
        congr 1
        funext t
        congr 1
        funext t2
        by_cases ht : t2 = true
        · rw [if_pos ht, if_pos ht]
          congr 1
          funext t3
          rw [if_pos (by omega)]
        · rw [if_neg ht, if_neg ht]
      · refine Ev.bind hdig ?_
        simp only [refGood, Option.bind_some, digD_good]
        by_cases hb : numB (asB p) = true
        · rw [hb]
          refine Ev.congr (fun _ => if_pos rfl) ?_
          refine Ev.bind hdig ?_
          have ih := fours_l0 T hT n ((c :: l).drop 4) (i + 4) (acc ++ [digD p]) (by rw [List.length_drop]; omega) hdr (by rw [List.length_append]; simp; omega)
          have : foursD acc (c :: l) = foursD (acc ++ [digD p]) ((c :: l).drop 4) := by
            unfold foursD
            rw [hfl, if_pos hb, ← hmod, digD_val p hb]
            split
            · cases foursL (((c :: l).drop 4).length / 4) ((c :: l).drop 4) with
              | none => rfl
              | some ys => simp
            · rfl
          rw [this]; exact ih
        · have hb2 : numB (asB p) = false := by simpa using hb
          rw [hb2]
          refine Ev.congr (fun _ => if_neg (by decide)) ?_
          have : foursD acc (c :: l) = [] := by
            unfold foursD
            rw [hfl, if_neg hb]
            split <;> rfl
          rw [this]; exact Ev.now _
theorem fours_ev (T : List UInt8) (hT : T.length ≤ 1000) : Ev (fun k => hornbookref16_fours.f k (asB T)) (foursD [] T) := fours_l0 T hT T.length T 0 [] (Nat.le_refl _) rfl (Nat.le_refl _)
def oneD (n : List UInt8) : List Int := if oneB (asB n) = true then [hexv (bytesOf (tailU (asB n)))] else []
theorem hp_cons (c d : UInt8) (t : List UInt8) : Lib.hasPrefix (c :: t) [d] = (d == c) := by simp [Lib.hasPrefix, List.isPrefixOf]
theorem tail_cons (t : List UInt8) : tailU (asB (117 :: t)) = asB t := by
  unfold tailU
  rw [asB_list]
  unfold Lib.trimPrefix
  rw [hp_cons]; rfl
theorem part_j1 (n : List UInt8) (hn : n.length ≤ 1000) : Ev (fun k => hornbookref16_Part.j1 k (asB n)) (oneD n) := by
  cases n with
  | nil =>
    have : oneD [] = [] := by decide
    rw [this]
    refine Ev.step (f := fun _ => some ([] : List Int)) (fun k => ?_) (Ev.now _)
    simp only [hornbookref16_Part.j1]
    rw [if_neg (by rw [asB_size]; decide)]
  | cons c t =>
    obtain ⟨h1, h2, h3, h4⟩ := bt_in (c :: t) 0 c t rfl
    have h1' : bt (asB (c :: t)) 0 = (c.toNat : Int) := h1
    have hsz : ((asB (c :: t)).size : Int) = t.length + 1 := by rw [asB_size, List.length_cons]; omega
    by_cases hl : 4 ≤ t.length ∧ t.length ≤ 6
    · by_cases hc : c = 117
      · subst hc
        replace h1' : bt (asB (117 :: t)) 0 = 117 := h1'
        have e : (asB (117 :: t)).extract 1 (asB (117 :: t)).size = asB t := by
          rw [asB_size, ext_asB, List.take_length]; rfl
        have hdig := digits_ev t (by omega)
        refine Ev.step (f := fun k => (hornbookref16_digits.f k (asB t)).bind fun t237 => (hornbookref02_Good.f t237).bind fun t238 => if t238 = true then (hornbookref16_digits.f k (asB t)).bind (fun t239 => some [t239]) else some ([] : List Int)) (fun k => ?_) ?_
        · simp only [hornbookref16_Part.j1]
          rw [if_pos (by omega), if_pos (by omega), if_pos (by omega), h1', if_pos rfl, if_pos (by omega), e]
        · refine Ev.bind hdig ?_
          simp only [refGood, Option.bind_some, digD_good]
          have ho : oneB (asB (117 :: t)) = numB (asB t) := by
            unfold oneB
            rw [tail_cons, asB_list, hp_cons, asB_size, decide_eq_true hl.1, decide_eq_true hl.2]; rfl
          unfold oneD
          rw [ho, tail_cons]
          by_cases hb : numB (asB t) = true
          · rw [hb, if_pos rfl]
            refine Ev.congr (fun _ => if_pos rfl) ?_
            refine Ev.bind hdig ?_
            rw [digD_val t hb]; exact Ev.now _
          · have hb2 : numB (asB t) = false := by simpa using hb
            rw [hb2, if_neg (by decide)]
            exact Ev.congr (fun _ => if_neg (by decide)) (Ev.now _)
      · have : oneD (c :: t) = [] := by
          unfold oneD oneB
          rw [asB_list, hp_cons, show ((117 : UInt8) == c) = false by rw [beq_eq_false_iff_ne]; exact fun h => hc h.symm]; rfl
        rw [this]
        refine Ev.step (f := fun _ => some ([] : List Int)) (fun k => ?_) (Ev.now _)
        simp only [hornbookref16_Part.j1]
        rw [if_pos (by omega), if_pos (by omega), if_pos (by omega), h1', if_neg (by rw [show (117 : Int) = ((117 : Nat) : Int) from rfl, byte46 c 117 (by omega)]; exact hc)]
    · have : oneD (c :: t) = [] := by
        unfold oneD
        rw [if_neg]
        intro ho
        unfold oneB at ho
        simp only [Bool.and_eq_true, decide_eq_true_eq] at ho
        obtain ⟨ho1, ho2, ho3, _⟩ := ho
        rw [asB_list, hp_cons, beq_iff_eq] at ho1
        subst ho1
        rw [tail_cons, asB_size] at ho2 ho3
        exact hl ⟨ho2, ho3⟩
      rw [this]
      refine Ev.step (f := fun _ => some ([] : List Int)) (fun k => ?_) (Ev.now _)
      simp only [hornbookref16_Part.j1]
      by_cases h5 : ((asB (c :: t)).size : Int) ≥ 5
      · rw [if_pos h5, if_neg (by omega)]
      · rw [if_neg h5]
theorem part_ev (n : List UInt8) (hn : n.length ≤ 1000) : Ev (fun k => hornbookref16_Part.f k (asB n)) (partR (asB n)) := by
  unfold hornbookref16_Part.f
  refine Ev.bind (refUni_ev n) ?_
  unfold partR
  rw [asB_list]
  cases hu : uniL n with
  | some u => exact Ev.congr (fun _ => if_pos rfl) (Ev.now _)
  | none =>
    refine Ev.congr (fun _ => if_neg (by decide)) ?_
    show Ev _ ((foursR (asB n)).getD (oneD n))
    have hj1 := part_j1 n hn
    have hsz : ((asB n).size : Int) = n.length := by rw [asB_size]
    by_cases hp : ∃ t, n = 117 :: 110 :: 105 :: t
    · obtain ⟨t, rfl⟩ := hp
      have ho : oneD (117 :: 110 :: 105 :: t) = [] := by unfold oneD; rw [oneB_n, if_neg (by decide)]
      have htu : tailUni (asB (117 :: 110 :: 105 :: t)) = asB t := by unfold tailUni; rw [asB_list]; rfl
      have hpre : Lib.hasPrefix (asB (117 :: 110 :: 105 :: t)).data.toList [117, 110, 105] = true := by rw [asB_list]; simp [Lib.hasPrefix, List.isPrefixOf]
      have hfr : foursR (asB (117 :: 110 :: 105 :: t)) = if t.length ≠ 0 ∧ t.length % 4 = 0 then foursL (t.length / 4) t else none := by
        unfold foursR
        rw [htu, hpre, asB_size, asB_list]
        by_cases hc : t.length ≠ 0 ∧ t.length % 4 = 0
        · rw [if_pos ⟨rfl, hc⟩, if_pos hc]
        · rw [if_neg (fun h => hc h.2), if_neg hc]
      rw [ho] at hj1 ⊢
      simp only [List.length_cons] at hn hsz
      by_cases h0 : t.length = 0
      · rw [hfr, if_neg (by omega)]
        refine Ev.congr (f := fun k => hornbookref16_Part.j0 k (asB (117 :: 110 :: 105 :: t)) false) (fun k => if_neg (by omega)) ?_
        refine Ev.step (f := fun k => hornbookref16_Part.j1 k (asB (117 :: 110 :: 105 :: t))) (fun k => ?_) hj1
        simp only [hornbookref16_Part.j0]
        rw [if_neg (by decide)]
      · have e3 : (((asB (117 :: 110 :: 105 :: t)).extract 0 3).toList == ([117, 110, 105] : List UInt8)) = true := by
          rw [ext_asB, asB_toList]; simp
        have e4 : (asB (117 :: 110 :: 105 :: t)).extract 3 (asB (117 :: 110 :: 105 :: t)).size = asB t := by
          rw [asB_size, ext_asB, List.take_length]; rfl
        refine Ev.congr (f := fun k => hornbookref16_Part.j0 k (asB (117 :: 110 :: 105 :: t)) true) (fun k => by rw [if_pos (by omega), if_pos (by omega), if_pos (by omega), e3]) ?_
        refine Ev.step (f := fun k => (hornbookref16_fours.f k (asB t)).bind fun t234 => if (t234.length : Int) > 0 then some t234 else hornbookref16_Part.j1 k (asB (117 :: 110 :: 105 :: t))) (fun k => ?_) ?_
        · simp only [hornbookref16_Part.j0]
          rw [if_pos trivial, if_pos (by omega), e4]
        · refine Ev.bind (fours_ev t (by omega)) ?_
          rw [hfr]
          unfold foursD
          by_cases hm : t.length % 4 = 0
          · rw [if_pos hm, if_pos ⟨h0, hm⟩]
            cases hf : foursL (t.length / 4) t with
            | some ys =>
              have := foursL_len _ _ _ hf
              simp only [List.nil_append, Option.getD_some]
              exact Ev.congr (fun _ => if_pos (by omega)) (Ev.now _)
            | none =>
              simp only [Option.getD_none]
              exact Ev.congr (fun _ => if_neg (by simp)) hj1
          · rw [if_neg hm, if_neg (fun h => hm h.2)]
            simp only [Option.getD_none]
            exact Ev.congr (fun _ => if_neg (by simp)) hj1
    · have hpre : Lib.hasPrefix n [117, 110, 105] = false := by
        cases h : Lib.hasPrefix n [117, 110, 105] with
        | false => rfl
        | true =>
          obtain ⟨t, ht⟩ := List.isPrefixOf_iff_prefix.1 (show ([117, 110, 105] : List UInt8).isPrefixOf n = true from h)
          exact (hp ⟨t, ht.symm⟩).elim
      have hfr : foursR (asB n) = none := by
        unfold foursR
        rw [asB_list, hpre, if_neg (by simp)]
      rw [hfr, Option.getD_none]
      have hj0 : Ev (fun k => hornbookref16_Part.j0 k (asB n) false) (oneD n) := by
        refine Ev.step (f := fun k => hornbookref16_Part.j1 k (asB n)) (fun k => ?_) hj1
        simp only [hornbookref16_Part.j0]
        rw [if_neg (by decide)]
      by_cases h3 : ((asB n).size : Int) > 3
      · have e3 : (((asB n).extract 0 3).toList == ([117, 110, 105] : List UInt8)) = false := by
          rw [ext_asB, asB_toList, List.drop_zero, beq_eq_false_iff_ne]
          intro h
          refine hp ⟨n.drop 3, ?_⟩
          conv => lhs; rw [← List.take_append_drop 3 n, h]
          rfl
        exact Ev.congr (fun k => by rw [if_pos h3, if_pos (by omega), if_pos (by omega), e3]) hj0
      · exact Ev.congr (fun k => if_neg h3) hj0
theorem uni_l0 (P : List ByteArray) (hP : ∀ p ∈ P, p.size ≤ 1000) (hl : P.length ≤ 1001) : ∀ (rest : List ByteArray) (i : Nat) (acc : List Int), P.drop i = rest → acc.length ≤ i * 250 →
    Ev (fun k => hornbookref16_Uni.l0 k P acc (i : Int)) (acc ++ rest.flatMap partR)
  | [], i, acc, h, ha => by
    have hi : P.length ≤ i := by
      rcases Nat.lt_or_ge i P.length with h' | h'
      · rw [List.drop_eq_getElem_cons h'] at h; cases h
      · exact h'
    refine Ev.step (f := fun _ => some acc) (fun k => ?_) (by rw [List.flatMap_nil, List.append_nil]; exact Ev.now _)
    simp only [hornbookref16_Uni.l0]
    rw [if_neg (by omega)]
  | p :: rest, i, acc, h, ha => by
    have hi : i < P.length := by
      rcases Nat.lt_or_ge i P.length with h' | h'
      · exact h'
      · rw [List.drop_eq_nil_of_le h'] at h; cases h
    rw [List.drop_eq_getElem_cons hi] at h
    injection h with h1 h2
    have hpm : p ∈ P := by rw [← h1]; exact List.getElem_mem hi
    have hps := hP p hpm
    have hrd : rdOf ByteArray.empty P (i : Int) = p := by
      unfold rdOf
      rw [List.getD_eq_getElem?_getD, Int.toNat_natCast, List.getElem?_eq_getElem hi, h1]; rfl
    have hpe := part_ev p.data.toList (by rw [data_length]; exact hps)
    rw [asB_self] at hpe
    have hpl := partR_len2 p hps
    refine Ev.step (f := fun k => (hornbookref16_Part.f k p).bind fun t247 => if acc.length + t247.length < 17592186044416 then hornbookref16_Uni.l0 k P (acc ++ t247) ((i + 1 : Nat) : Int) else none) (fun k => ?_) ?_
    · simp only [hornbookref16_Uni.l0]
      rw [if_pos (by omega), if_pos (by omega), hrd, ws i (by omega)]
    · refine Ev.bind hpe ?_
      refine Ev.congr (fun _ => if_pos (by omega)) ?_
      have := uni_l0 P hP hl rest (i + 1) (acc ++ partR p) h2 (by rw [List.length_append]; omega)
      rw [List.append_assoc] at this
      rw [List.flatMap_cons]
      exact this
theorem uni_ev (n : List UInt8) (hn : n.length ≤ 1000) : Ev (fun k => hornbookref16_Uni.f k (asB n)) (uniAll n) := by
  obtain ⟨h1, h2⟩ := partsB_len n
  unfold hornbookref16_Uni.f
  refine Ev.bind (parts_ev n (by omega)) ?_
  have := uni_l0 (partsB n) (fun p hp => by have := (h2 p hp).1; omega) (by omega) (partsB n) 0 [] rfl (Nat.zero_le _)
  rwa [List.nil_append] at this
end Go.Proofs.YtgdlmgdcoedfoaaGreatDoor.Agl
namespace Go.Proofs.YtgdlmgdcoedfoaaGreatDoor.Agl
open Go.RowKit Go.Proofs.YtgdlmgdcoedfoaaGreatDoorW.PrintWords Go.Proofs.YtgdlmgdcoedfoaaGreatDoorW.PrintLast Go.Proofs.YtgdlmgdcoedfoaaGreatDoorW.PrintMore
open Go.Proofs.YtgdlmgdcoedfoaaGreatDoor.PAglIs
set_option linter.unusedVariables false
set_option linter.unusedSimpArgs false

theorem refgood (r : Int) : hornbookref02_good.f r = some (goodV r) := by
  unfold hornbookref02_good.f goodV
  rw [refGood, Option.bind_some]
  split <;> rfl
theorem form_eq (a : Int) (h : goodB a = true) : hornbookref02_form.f a = some (Lib.encodeRuneZ a) := by
  unfold goodB at h
  have hr := of_decide_eq_true h
  unfold hornbookref02_form.f
  rw [Int.tdiv_eq_ediv_of_nonneg hr.1, Int.tdiv_eq_ediv_of_nonneg hr.1, Int.tdiv_eq_ediv_of_nonneg hr.1, Int.tmod_eq_emod_of_nonneg hr.1]
  have w6 : wrap64 (a / 64) = a / 64 := by unfold wrap64; omega
  have w12 : wrap64 (a / 4096) = a / 4096 := by unfold wrap64; omega
  have w18 : wrap64 (a / 262144) = a / 262144 := by unfold wrap64; omega
  rw [w6, w12, w18, Int.tmod_eq_emod_of_nonneg (show (0 : Int) ≤ a / 64 by omega), Int.tmod_eq_emod_of_nonneg (show (0 : Int) ≤ a / 4096 by omega)]
  by_cases h1 : a < 128
  · rw [if_pos h1, Lib.encodeRuneZ_one hr.1 (by omega), show a % 256 = a by omega]
  · rw [if_neg h1]
    by_cases h2 : a < 2048
    · rw [if_pos h2, Lib.encodeRuneZ_two (by omega) (by omega), show wrap64 (192 + a / 64) % 256 = 192 + a / 64 by unfold wrap64; omega, show wrap64 (128 + a % 64) % 256 = 128 + a % 64 by unfold wrap64; omega]
    · rw [if_neg h2]
      by_cases h3 : a < 65536
      · rw [if_pos h3, Lib.encodeRuneZ_three (by omega), show wrap64 (224 + a / 4096) % 256 = 224 + a / 4096 by unfold wrap64; omega, show wrap64 (128 + a / 64 % 64) % 256 = 128 + a / 64 % 64 by unfold wrap64; omega, show wrap64 (128 + a % 64) % 256 = 128 + a % 64 by unfold wrap64; omega]
      · rw [if_neg h3, Lib.encodeRuneZ_four (by omega) (by omega), show wrap64 (240 + a / 262144) % 256 = 240 + a / 262144 by unfold wrap64; omega, show wrap64 (128 + a / 4096 % 64) % 256 = 128 + a / 4096 % 64 by unfold wrap64; omega, show wrap64 (128 + a / 64 % 64) % 256 = 128 + a / 64 % 64 by unfold wrap64; omega, show wrap64 (128 + a % 64) % 256 = 128 + a % 64 by unfold wrap64; omega]
def textZ (l : List Int) : List Int := l.flatMap fun r => Lib.encodeRuneZ (goodV r)
theorem textZ_str (l : List Int) : strOfNums (textZ l) = asB (textL l) := by
  rw [← asB_self (strOfNums (textZ l)), strOfNums_list]
  unfold textZ textL
  rw [List.map_flatMap]; rfl
theorem text_l0 (l : List Int) (hl : l.length ≤ 1000000) : ∀ (d i : Nat) (acc : List Int), i + d = l.length → acc.length ≤ 4 * i → acc = textZ (l.take i) →
    Ev (fun k => hornbookref02_Text.l0 k l acc (i : Int)) (asB (textL l))
  | 0, i, acc, h, ha, he => by
    refine Ev.step (f := fun _ => some (strOfNums acc)) (fun k => ?_) ?_
    · simp only [hornbookref02_Text.l0]
      rw [if_neg (by omega)]
    · rw [he, List.take_of_length_le (by omega), textZ_str]; exact Ev.now _
  | d + 1, i, acc, h, ha, he => by
    have hi : i < l.length := by omega
    have hz := Lib.encodeRuneZ_length (goodV l[i])
    have hg := goodB_V l[i]
    refine Ev.step (f := fun k => hornbookref02_Text.l0 k l (acc ++ Lib.encodeRuneZ (goodV l[i])) ((i + 1 : Nat) : Int)) (fun k => ?_) (text_l0 l hl d (i + 1) (acc ++ Lib.encodeRuneZ (goodV l[i])) (by omega) (by rw [List.length_append]; omega) ?_)
    · simp only [hornbookref02_Text.l0]
      rw [if_pos (by omega), if_pos (by omega), rd_at l i hi, refgood, Option.bind_some, form_eq _ hg, Option.bind_some, if_pos (by omega), ws i (by omega)]
    · rw [he, List.take_succ_eq_append_getElem hi]
      unfold textZ
      rw [List.flatMap_append]; simp
theorem text_ev (n : List UInt8) (hn : n.length ≤ 1000) : Ev (fun k => hornbookref16_Text.f k (asB n)) (asB (textL (uniAll n))) := by
  unfold hornbookref16_Text.f
  refine Ev.bind (uni_ev n hn) ?_
  have hl := uniAll_len2 n hn
  refine Ev.bind ?_ (Ev.now _)
  unfold hornbookref02_Text.f
  exact text_l0 (uniAll n) (by omega) (uniAll n).length 0 [] (by omega) (Nat.zero_le _) rfl
/-- Hex digits. -/
def hexS (ds : List Nat) : ByteArray := asB (ds.map hx)
theorem hexed_step (v : Nat) (acc : List Nat) (hv : v < 16777216) (ha : acc.length ≤ 100) (hc : 0 < v ∨ acc.length < 4) : ∀ k, hornbookref16_hexed.l0 (k + 1) (v : Int) (hexS acc) = hornbookref16_hexed.l0 k ((v / 16 : Nat) : Int) (hexS (v % 16 :: acc)) := by
  intro k
  have hm : Int.tmod (v : Int) 16 = ((v % 16 : Nat) : Int) := by rw [Int.tmod_eq_emod_of_nonneg (by omega)]; omega
  have hd : wrap64 (Int.tdiv (v : Int) 16) = ((v / 16 : Nat) : Int) := by rw [Int.tdiv_eq_ediv_of_nonneg (by omega)]; unfold wrap64; omega
  have hw : wrap64 (((v % 16 : Nat) : Int) + 1) = ((v % 16 : Nat) : Int) + 1 := by unfold wrap64; omega
  have hs : (hexS acc).size = acc.length := by unfold hexS; rw [asB_size, List.length_map]
  have hdig := dig_str ((v % 16 : Nat) : Int) (by omega) (by omega)
  rw [Int.toNat_natCast] at hdig
  have hcat : asB [hx (v % 16)] ++ hexS acc = hexS (v % 16 :: acc) := by unfold hexS; rw [asB_app]; rfl
  have hsz : (asB [hx (v % 16)]).size = 1 := by rw [asB_size]; rfl
  simp only [hornbookref16_hexed.l0]
  rw [hm, hd, hw, Int.toNat_natCast, hdig, hcat, hsz]
  by_cases h0 : (v : Int) > 0
  · rw [if_pos h0, if_pos (by omega), if_pos (by omega), if_pos (by omega), if_pos (by omega)]
  · rw [if_neg h0, if_pos (by omega), if_pos (by omega), if_pos (by omega), if_pos (by omega), if_pos (by omega)]
theorem hexed_zero : ∀ (d : Nat) (acc : List Nat), 4 - acc.length = d → acc.length ≤ 100 → Ev (fun k => hornbookref16_hexed.l0 k 0 (hexS acc)) (hexS (List.replicate (4 - acc.length) 0 ++ acc))
  | 0, acc, h, ha => by
    have hs : (hexS acc).size = acc.length := by unfold hexS; rw [asB_size, List.length_map]
    rw [h, List.replicate_zero, List.nil_append]
    refine Ev.step (f := fun _ => some (hexS acc)) (fun k => ?_) (Ev.now _)
    simp only [hornbookref16_hexed.l0]
    rw [if_neg (by omega), if_neg (by omega)]
  | d + 1, acc, h, ha => by
    have ih := hexed_zero d (0 :: acc) (by rw [List.length_cons]; omega) (by rw [List.length_cons]; omega)
    have e : List.replicate (4 - acc.length) 0 ++ acc = List.replicate (4 - (0 :: acc).length) 0 ++ 0 :: acc := by
      rw [List.length_cons, h, show 4 - (acc.length + 1) = d by omega, List.replicate_succ']
      simp
    rw [e]
    exact Ev.step (f := fun k => hornbookref16_hexed.l0 k 0 (hexS (0 :: acc))) (hexed_step 0 acc (by omega) ha (.inr (by omega))) ih
theorem hexed_pos : ∀ (f v : Nat) (acc : List Nat), 0 < v → v < 16777216 → v < 16 ^ (f + 1) → acc.length + f ≤ 50 → Ev (fun k => hornbookref16_hexed.l0 k (v : Int) (hexS acc)) (hexS (List.replicate (4 - (dl f v acc).length) 0 ++ dl f v acc))
  | 0, v, acc, h0, h1, h2, ha => by
    have hs := hexed_step v acc h1 (by omega) (.inl h0)
    rw [show v / 16 = 0 by omega, show v % 16 = v by omega] at hs
    refine Ev.step (f := fun k => hornbookref16_hexed.l0 k 0 (hexS (v :: acc))) hs ?_
    rw [dl]
    exact hexed_zero _ (v :: acc) rfl (by rw [List.length_cons]; omega)
  | f + 1, v, acc, h0, h1, h2, ha => by
    have hs := hexed_step v acc h1 (by omega) (.inl h0)
    rw [dl]
    by_cases h16 : v < 16
    · rw [show v / 16 = 0 by omega, show v % 16 = v by omega] at hs
      refine Ev.step (f := fun k => hornbookref16_hexed.l0 k 0 (hexS (v :: acc))) hs ?_
      rw [if_pos h16]
      exact hexed_zero _ (v :: acc) rfl (by rw [List.length_cons]; omega)
    · rw [if_neg h16]
      refine Ev.step (f := fun k => hornbookref16_hexed.l0 k ((v / 16 : Nat) : Int) (hexS (v % 16 :: acc))) hs ?_
      exact hexed_pos f (v / 16) (v % 16 :: acc) (by omega) (by omega) (by rw [Nat.pow_succ] at h2; omega) (by rw [List.length_cons]; omega)
theorem hexed_ev (v : Nat) (h : v < 16777216) : Ev (fun k => hornbookref16_hexed.f k (v : Int)) (asB (Lib.repeatL [48] (4 - (hexU (v : Int)).length) ++ hexU (v : Int))) := by
  have e : asB (Lib.repeatL [48] (4 - (hexU (v : Int)).length) ++ hexU (v : Int)) = hexS (List.replicate (4 - (dl 6 v []).length) 0 ++ dl 6 v []) := by
    rw [hexU_dl v h, rep48, List.length_map, ← List.map_append]; rfl
  rw [e]
  unfold hornbookref16_hexed.f
  by_cases h0 : 0 < v
  · exact hexed_pos 6 v [] h0 h (by omega) (by simp)
  · obtain rfl : v = 0 := by omega
    exact hexed_zero 4 [] rfl (by simp)
theorem join_snoc (x : List UInt8) (xs : List (List UInt8)) : Lib.join (xs ++ [x]) [95] = (if xs = [] then [] else Lib.join xs [95] ++ [95]) ++ x := by
  by_cases h : xs = []
  · subst h; rw [if_pos rfl]; simp [Lib.join_one]
  · rw [if_neg h, join_two [95] xs [x] h (by simp), Lib.join_one, List.append_assoc]
theorem write_snoc (l : List Int) (i : Nat) (h : i < l.length) : writeL (l.take (i + 1)) = (if i = 0 then [] else writeL (l.take i) ++ [95]) ++ namedL l[i] := by
  unfold writeL
  rw [List.take_succ_eq_append_getElem h, List.map_append, List.map_cons, List.map_nil, join_snoc]
  by_cases h0 : i = 0
  · subst h0; rw [if_pos (show List.map namedL (List.take 0 l) = [] by rw [List.take_zero]; rfl), if_pos rfl]
  · rw [if_neg h0, if_neg (by
      intro hn
      have := congrArg List.length hn
      rw [List.length_map, List.length_take, List.length_nil] at this
      omega)]
theorem write_l0 (l : List Int) (hl : l.length ≤ 1000) : ∀ (d i : Nat), i + d = l.length → Ev (fun k => hornbookref16_Write.l0 k l (asB (writeL (l.take i))) (i : Int)) (asB (writeL l))
  | 0, i, h => by
    refine Ev.step (f := fun _ => some (asB (writeL (l.take i)))) (fun k => ?_) ?_
    · simp only [hornbookref16_Write.l0]
      rw [if_neg (by omega)]
    · rw [List.take_of_length_le (by omega)]; exact Ev.now _
  | d + 1, i, h => by
    have hi : i < l.length := by omega
    have ih := write_l0 l hl d (i + 1) (by omega)
    have hsn := write_snoc l i hi
    have hwl := writeL_len (l.take (i + 1))
    have hwl0 := writeL_len (l.take i)
    rw [List.length_take] at hwl hwl0
    obtain ⟨pre, hpre⟩ : ∃ p, (if i = 0 then [] else writeL (l.take i) ++ [95]) = p := ⟨_, rfl⟩
    rw [hpre] at hsn
    rw [hsn] at ih hwl
    have hnl := namedL_len l[i]
    rw [List.length_append] at hwl
    have h57 : (111 : Nat) * min (i + 1) l.length ≤ 111000 := by omega
    refine Ev.step (f := fun k => hornbookref16_Write.j1 k l (asB pre) (i : Int)) (fun k => ?_) ?_
    · simp only [hornbookref16_Write.l0]
      rw [if_pos (by omega)]
      by_cases h0 : i = 0
      · subst h0
        rw [if_pos rfl] at hpre
        subst hpre
        rw [if_neg (by omega), List.take_zero]; rfl
      · rw [if_neg h0] at hpre
        subst hpre
        rw [if_pos (by omega), if_pos (by rw [asB_size]; omega), show (⟨#[95]⟩ : ByteArray) = asB [95] from rfl, asB_app]
    refine Ev.step (f := fun k => hornbookref16_Write.j2 k l (asB pre) (i : Int) (goodV l[i])) (fun k => ?_) ?_
    · simp only [hornbookref16_Write.j1]
      rw [if_pos (by omega), if_pos (by omega), rd_at l i hi, refGood, Option.bind_some]
      unfold goodV
      split <;> rfl
    have hb := refBack_ev (goodV l[i])
    have hg := goodB_V l[i]
    have hgr := goodV_rng l[i]
    obtain ⟨g, hgg⟩ : ∃ g, goodV l[i] = g := ⟨_, rfl⟩
    have hnd : namedL l[i] = (backF g fieldsL).getD (117 :: (Lib.repeatL [48] (4 - (hexU g).length) ++ hexU g)) := by unfold namedL; rw [hgg]
    rw [hgg] at hb hgr ⊢
    cases hbk : backF g fieldsL with
    | some nm =>
      rw [hbk] at hb hnd
      rw [Option.getD_some] at hnd
      rw [hnd] at ih hnl
      refine Ev.step (f := fun k => (hornbookref14_Back.f k g).bind fun bt300 => if bt300.2 = true then (if (asB pre).size + bt300.1.size ≤ 9223372036854775807 then hornbookref16_Write.l0 k l (asB pre ++ bt300.1) ((i + 1 : Nat) : Int) else none) else ((hornbookref16_hexed.f k g).bind fun t302 => if 1 + t302.size ≤ 9223372036854775807 then (if (asB pre).size + ((⟨#[117]⟩ : ByteArray) ++ t302).size ≤ 9223372036854775807 then hornbookref16_Write.l0 k l (asB pre ++ ((⟨#[117]⟩ : ByteArray) ++ t302)) ((i + 1 : Nat) : Int) else none) else none)) (fun k => ?_) ?_
      · simp only [hornbookref16_Write.j2]
        rw [ws i (by omega)]
      · refine Ev.bind hb ?_
        refine Ev.congr (f := fun k => hornbookref16_Write.l0 k l (asB (pre ++ nm)) ((i + 1 : Nat) : Int)) (fun k => ?_) ih
        rw [if_pos rfl, if_pos (by rw [asB_size, asB_size]; omega), asB_app]
    | none =>
      rw [hbk] at hb hnd
      rw [Option.getD_none] at hnd
      obtain ⟨v, rfl⟩ : ∃ v : Nat, g = (v : Int) := ⟨g.toNat, by omega⟩
      have hx := hexed_ev v (by omega)
      rw [hnd] at ih hnl
      obtain ⟨T, hT⟩ : ∃ T, Lib.repeatL [48] (4 - (hexU (v : Int)).length) ++ hexU (v : Int) = T := ⟨_, rfl⟩
      rw [hT] at hx ih hnl
      rw [List.length_cons] at hnl
      refine Ev.step (f := fun k => (hornbookref14_Back.f k (v : Int)).bind fun bt300 => if bt300.2 = true then (if (asB pre).size + bt300.1.size ≤ 9223372036854775807 then hornbookref16_Write.l0 k l (asB pre ++ bt300.1) ((i + 1 : Nat) : Int) else none) else ((hornbookref16_hexed.f k (v : Int)).bind fun t302 => if 1 + t302.size ≤ 9223372036854775807 then (if (asB pre).size + ((⟨#[117]⟩ : ByteArray) ++ t302).size ≤ 9223372036854775807 then hornbookref16_Write.l0 k l (asB pre ++ ((⟨#[117]⟩ : ByteArray) ++ t302)) ((i + 1 : Nat) : Int) else none) else none)) (fun k => ?_) ?_
      · simp only [hornbookref16_Write.j2]
        rw [ws i (by omega)]
      · refine Ev.bind hb ?_
        refine Ev.congr (f := fun k => (hornbookref16_hexed.f k (v : Int)).bind fun t302 => if 1 + t302.size ≤ 9223372036854775807 then (if (asB pre).size + ((⟨#[117]⟩ : ByteArray) ++ t302).size ≤ 9223372036854775807 then hornbookref16_Write.l0 k l (asB pre ++ ((⟨#[117]⟩ : ByteArray) ++ t302)) ((i + 1 : Nat) : Int) else none) else none) (fun k => by rw [if_neg (by decide)]) ?_
        refine Ev.bind hx ?_
        refine Ev.congr (f := fun k => hornbookref16_Write.l0 k l (asB (pre ++ 117 :: T)) ((i + 1 : Nat) : Int)) (fun k => ?_) ih
        have e1 : (⟨#[117]⟩ : ByteArray) ++ asB T = asB (117 :: T) := by rw [show (⟨#[117]⟩ : ByteArray) = asB [117] from rfl, asB_app]; rfl
        rw [e1, if_pos (by rw [asB_size]; omega), if_pos (by rw [asB_size, asB_size, List.length_cons]; omega), asB_app]
theorem write_ev (l : List Int) (hl : l.length ≤ 1000) : Ev (fun k => hornbookref16_Write.f k l) (asB (writeL l)) := by
  have h := write_l0 l hl l.length 0 (by omega)
  unfold hornbookref16_Write.f
  rw [List.take_zero] at h
  exact h
end Go.Proofs.YtgdlmgdcoedfoaaGreatDoor.Agl
namespace Go.Proofs.YtgdlmgdcoedfoaaGreatDoor.Agl
open Go.RowKit Go.Proofs.YtgdlmgdcoedfoaaGreatDoorW.PrintWords Go.Proofs.YtgdlmgdcoedfoaaGreatDoorW.PrintLast Go.Proofs.YtgdlmgdcoedfoaaGreatDoorW.PrintMore
open Go.Proofs.YtgdlmgdcoedfoaaGreatDoor.PAglIs
set_option linter.unusedVariables false
set_option linter.unusedSimpArgs false

theorem ref11 (n : ByteArray) (W : World) (hn : n.size ≤ 1000) : Calls Tryz.prog 11 #[.string n] W fun e W' => e = .returned (.string (asB (baseL n.data.toList))) ∧ Below W.heap.size W W' := by
  obtain ⟨k, hk⟩ := (base_ev n.data.toList (by rw [data_length]; omega)).rounds
  rw [asB_self] at hk
  exact (hornbookref16_Base.calls k n _ W hk).mono fun e w' h => ⟨h.1, h.2.below⟩
theorem ref12 (A B : Option Addr) (c d : Nat) (l : List ByteArray) (W : World) (hl : l.length ≤ 1000000) (hA : Kd.C Kd.string W A l.length l) (hc : l.length ≤ c) (hB : Kd.C Kd.string W B l.length l) (hd : l.length ≤ d) :
    Calls Tryz.prog 12 #[.slice A l.length c, .slice B l.length d] W fun e W' => e = .returned (.bool true) ∧ Below W.heap.size W W' := by
  obtain ⟨k, hk⟩ := (same15_ev l hl).rounds
  exact (hornbookref15_Same.calls k A c l B d l _ W hA hc hB hd hk).mono fun e w' h => ⟨h.1, h.2.below⟩
theorem ref14 (n : ByteArray) (W : World) (hn : n.size ≤ 1000) : Calls Tryz.prog 14 #[.string n] W fun e W' => ∃ v, e = .returned v ∧ Kd.R Kd.string 9 W' W.heap.size (fun _ => True) v (partsB n.data.toList) ∧ Below W.heap.size W W' := by
  obtain ⟨k, hk⟩ := (parts_ev n.data.toList (by rw [data_length]; omega)).rounds
  rw [asB_self] at hk
  exact hornbookref16_Parts.calls k n _ W hk
theorem ref17 (n : ByteArray) (W : World) (hn : n.size ≤ 1000) : Calls Tryz.prog 17 #[.string n] W fun e W' => ∃ v, e = .returned v ∧ Kd.R (Kd.int .i64) 3 W' W.heap.size (fun _ => True) v (partR n) ∧ Below W.heap.size W W' := by
  obtain ⟨k, hk⟩ := (part_ev n.data.toList (by rw [data_length]; omega)).rounds
  rw [asB_self] at hk
  exact hornbookref16_Part.calls k n _ W hk
theorem ref19 (n : ByteArray) (W : World) (hn : n.size ≤ 1000) : Calls Tryz.prog 19 #[.string n] W fun e W' => ∃ v, e = .returned v ∧ Kd.R (Kd.int .i64) 3 W' W.heap.size (fun _ => True) v (uniAll n.data.toList) ∧ Below W.heap.size W W' := by
  obtain ⟨k, hk⟩ := (uni_ev n.data.toList (by rw [data_length]; omega)).rounds
  rw [asB_self] at hk
  exact hornbookref16_Uni.calls k n _ W hk
theorem ref21 (n : ByteArray) (W : World) (hn : n.size ≤ 1000) : Calls Tryz.prog 21 #[.string n] W fun e W' => e = .returned (.string (asB (textL (uniAll n.data.toList)))) ∧ Below W.heap.size W W' := by
  obtain ⟨k, hk⟩ := (text_ev n.data.toList (by rw [data_length]; omega)).rounds
  rw [asB_self] at hk
  exact hornbookref16_Text.calls k n _ W hk
theorem ref23 (A : Option Addr) (c : Nat) (l : List Int) (W : World) (hA : Kd.C (Kd.int .i64) W A l.length l) (hc : l.length ≤ c) (hl : l.length ≤ 1000) : Calls Tryz.prog 23 #[.slice A l.length c] W fun e W' => e = .returned (.string (asB (writeL l))) ∧ Below W.heap.size W W' := by
  obtain ⟨k, hk⟩ := (write_ev l hl).rounds
  exact hornbookref16_Write.calls k A c l _ W hA hc hk
theorem uniIs (s : ByteArray) (W : World) (hs : s.size ≤ 1000) (hl : Laid W) : Calls Tryz.prog 18 #[.string s] W fun e W' => ∃ v, e = .returned v ∧ Kd.R (Kd.int .i64) 3 W' W.heap.size (fun _ => True) v (uniAll s.data.toList) ∧ Below W.heap.size W W' :=
  uni18 s W (by omega) hl (told_all s (by omega))
theorem sameIs (A B : Option Addr) (c d : Nat) (l : List Int) (w : World) (hl : l.length ≤ 1000000) (hA : Kd.C (Kd.int .i64) w A l.length l) (hc : l.length ≤ c) (hB : Kd.C (Kd.int .i64) w B l.length l) (hd : l.length ≤ d) :
    Calls Tryz.prog 15 #[.slice A l.length c, .slice B l.length d] w fun e W' => e = .returned (.bool true) ∧ Below w.heap.size w W' := same15e A B c d l w hA hc hB hd hl
set_option maxHeartbeats 2000000 in
set_option maxRecDepth 100000 in
theorem is3 (n : ByteArray) (A : Option Addr) (c : Nat) (l : List Int) (w : World) (hC : Kd.C (Kd.int .i64) w A l.length l) (hc : l.length ≤ c) (hL : Laid w) :
    Calls Tryz.prog 3 #[.string n, .slice A l.length c] w fun e W' => e = .returned (.bool true) ∧ Below w.heap.size w W' := by
  have HL := Aside0.mk hL; have HC := Aside0.mk hC; have HCC := Aside0.mk hc
  have AW := Aside0.mk (awake9 w hL)
  clear hL hC hc
  by_cases h1 : (200 : Int) < (n.size : Int)
  · go_enter Tryz.func3, Tryz.ntmps3
    go_wp2_with (go_at_call 9; refine AW.out.mono ?_; rintro e W1 ⟨rfl, hb⟩; have HB1 := Aside0.mk hb; clear hb AW)
    go_ret
    exact ⟨rfl, HB1.out⟩
  by_cases h2 : (20 : Int) < (l.length : Int)
  · go_enter Tryz.func3, Tryz.ntmps3
    go_wp2_with (go_at_call 9; refine AW.out.mono ?_; rintro e W1 ⟨rfl, hb⟩; have HB1 := Aside0.mk hb; clear hb AW)
    go_ret
    exact ⟨rfl, HB1.out⟩
  have B1 := Aside0.mk (fun W hl => base10 n W (by omega) hl)
  have B2 := Aside0.mk (fun W => ref11 n W (by omega))
  have P1 := Aside0.mk (fun W hl => parts13 n W (by omega) hl)
  have P2 := Aside0.mk (fun W => ref14 n W (by omega))
  have hpl := (partsB_len n.data.toList).1
  rw [data_length] at hpl
  have R1 := Aside0.mk (fun W hl => part16 n W (by omega) (told n (by omega)) hl)
  have R2 := Aside0.mk (fun W => ref17 n W (by omega))
  have hrl := partR_len2 n (by omega)
  have U1 := Aside0.mk (fun W hl => uniIs n W (by omega) hl)
  have U2 := Aside0.mk (fun W => ref19 n W (by omega))
  have hul := uniAll_len2 n.data.toList (by rw [data_length]; omega)
  have T1 := Aside0.mk (fun W hl => text20 n W (by omega) (by omega) hl (told_all n (by omega)))
  have T2 := Aside0.mk (fun W => ref21 n W (by omega))
  have WR1 := Aside0.mk (fun W (hC : Kd.C (Kd.int .i64) W A l.length l) hl => write22 A c l W hC HCC.out (by omega) hl)
  have WR2 := Aside0.mk (fun W (hC : Kd.C (Kd.int .i64) W A l.length l) => ref23 A c l W hC HCC.out (by omega))
  obtain ⟨X, hX⟩ : ∃ X, asB (baseL n.data.toList) = X := ⟨_, rfl⟩
  rw [hX] at B1 B2
  obtain ⟨P, hP⟩ : ∃ P, partsB n.data.toList = P := ⟨_, rfl⟩
  rw [hP] at P1 P2 hpl
  obtain ⟨R, hR⟩ : ∃ R, partR n = R := ⟨_, rfl⟩
  rw [hR] at R1 R2 hrl
  obtain ⟨T, hT⟩ : ∃ T, asB (textL (uniAll n.data.toList)) = T := ⟨_, rfl⟩
  rw [hT] at T1 T2
  obtain ⟨U, hU⟩ : ∃ U, uniAll n.data.toList = U := ⟨_, rfl⟩
  rw [hU] at U1 U2 hul
  obtain ⟨V, hV⟩ : ∃ V, asB (writeL l) = V := ⟨_, rfl⟩
  rw [hV] at WR1 WR2
  have S1 := Aside0.mk (fun (A B : Option Addr) (c d : Nat) W => ref12 A B c d P W (by omega))
  have S2 := Aside0.mk (fun (A B : Option Addr) (c d : Nat) W => sameIs A B c d R W (by omega))
  have S3 := Aside0.mk (fun (A B : Option Addr) (c d : Nat) W => sameIs A B c d U W (by omega))
  have t1 := Aside0.mk True.intro
  clear hX hP hR hT hU hV hpl hrl hul
  go_enter Tryz.func3, Tryz.ntmps3
  go_wp2_with (first
    | (go_at_call 9; refine AW.out.mono ?_; rintro e W1 ⟨rfl, hb⟩; have HB1 := Aside0.mk hb; clear hb AW)
    | (go_at_call 10; refine (B1.out W1 (HL.out.below HB1.out)).mono ?_; rintro e W2 ⟨rfl, hb⟩; have HB2 := Aside0.mk (below_step HB1.out hb); clear hb)
    | (go_at_call 11; refine (B2.out W2).mono ?_; rintro e W3 ⟨rfl, hb⟩; have HB3 := Aside0.mk (below_step HB2.out hb); clear hb)
    | (go_at_call 13; refine (P1.out W3 (HL.out.below HB3.out)).mono ?_; rintro e W4 ⟨v4, rfl, hR, hb⟩; obtain ⟨A4, c4, rfl, hc4, hC4⟩ := Kd.R_reads hR; have HK4 := Aside0.mk (And.intro hc4 hC4); have HB4 := Aside0.mk (below_step HB3.out hb); clear hR hb hc4 hC4)
    | (go_at_call 14; refine (P2.out W4).mono ?_; rintro e W5 ⟨v5, rfl, hR, hb⟩; obtain ⟨A5, c5, rfl, hc5, hC5⟩ := Kd.R_reads hR; have HK5 := Aside0.mk (And.intro hc5 hC5); have HB5 := Aside0.mk (below_step HB4.out hb); have HJ4 := Aside0.mk (Kd.C_below HK4.out.2 hb); clear hR hb hc5 hC5)
    | (go_at_call 12; refine (S1.out A4 A5 c4 c5 W5 HJ4.out HK4.out.1 HK5.out.2 HK5.out.1).mono ?_; rintro e W6 ⟨rfl, hb⟩; have HB6 := Aside0.mk (below_step HB5.out hb); clear hb)
    | (go_at_call 16; refine (R1.out W6 (HL.out.below HB6.out)).mono ?_; rintro e W7 ⟨v7, rfl, hR, hb⟩; obtain ⟨A7, c7, rfl, hc7, hC7⟩ := Kd.R_reads hR; have HK7 := Aside0.mk (And.intro hc7 hC7); have HB7 := Aside0.mk (below_step HB6.out hb); clear hR hb hc7 hC7)
    | (go_at_call 17; refine (R2.out W7).mono ?_; rintro e W8 ⟨v8, rfl, hR, hb⟩; obtain ⟨A8, c8, rfl, hc8, hC8⟩ := Kd.R_reads hR; have HK8 := Aside0.mk (And.intro hc8 hC8); have HB8 := Aside0.mk (below_step HB7.out hb); have HJ7 := Aside0.mk (Kd.C_below HK7.out.2 hb); clear hR hb hc8 hC8)
    | (go_at_call 15; have tt := t1; clear tt t1; refine (S2.out A7 A8 c7 c8 W8 HJ7.out HK7.out.1 HK8.out.2 HK8.out.1).mono ?_; rintro e W9 ⟨rfl, hb⟩; have HB9 := Aside0.mk (below_step HB8.out hb); clear hb)
    | (go_at_call 18; refine (U1.out W9 (HL.out.below HB9.out)).mono ?_; rintro e W10 ⟨v10, rfl, hR, hb⟩; obtain ⟨A10, c10, rfl, hc10, hC10⟩ := Kd.R_reads hR; have HK10 := Aside0.mk (And.intro hc10 hC10); have HB10 := Aside0.mk (below_step HB9.out hb); clear hR hb hc10 hC10)
    | (go_at_call 19; refine (U2.out W10).mono ?_; rintro e W11 ⟨v11, rfl, hR, hb⟩; obtain ⟨A11, c11, rfl, hc11, hC11⟩ := Kd.R_reads hR; have HK11 := Aside0.mk (And.intro hc11 hC11); have HB11 := Aside0.mk (below_step HB10.out hb); have HJ10 := Aside0.mk (Kd.C_below HK10.out.2 hb); clear hR hb hc11 hC11)
    | (go_at_call 15; refine (S3.out A10 A11 c10 c11 W11 HJ10.out HK10.out.1 HK11.out.2 HK11.out.1).mono ?_; rintro e W12 ⟨rfl, hb⟩; have HB12 := Aside0.mk (below_step HB11.out hb); clear hb)
    | (go_at_call 20; refine (T1.out W12 (HL.out.below HB12.out)).mono ?_; rintro e W13 ⟨rfl, hb⟩; have HB13 := Aside0.mk (below_step HB12.out hb); clear hb)
    | (go_at_call 21; refine (T2.out W13).mono ?_; rintro e W14 ⟨rfl, hb⟩; have HB14 := Aside0.mk (below_step HB13.out hb); clear hb)
    | (go_at_call 22; refine (WR1.out W14 (Kd.C_below HC.out HB14.out) (HL.out.below HB14.out)).mono ?_; rintro e W15 ⟨rfl, hb⟩; have HB15 := Aside0.mk (below_step HB14.out hb); clear hb)
    | (go_at_call 23; refine (WR2.out W15 (Kd.C_below HC.out HB15.out)).mono ?_; rintro e W16 ⟨rfl, hb⟩; have HB16 := Aside0.mk (below_step HB15.out hb); clear hb))
  go_ret
  exact ⟨rfl, HB16.out⟩
end Go.Proofs.YtgdlmgdcoedfoaaGreatDoor.Agl
