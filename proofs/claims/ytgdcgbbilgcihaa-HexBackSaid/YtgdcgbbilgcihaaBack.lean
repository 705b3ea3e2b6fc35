/- HexBack: the walk by hand. -/
import Derived.Test.YtgdcgbbilgcihaaPlain3
import Derived.Outline
import Derived.BigCall
import Derived.Deep.RegionHeld3
namespace Go.Proofs.Ytgdcgbbilgcihaa.Back
open Go.RowKit Go.Proofs.Ytgdcgbbilgcihaa.Print Go.Proofs.YtgdcgbbilgcihaaW.PrintWords Go.Proofs.YtgdcgbbilgcihaaW.PrintLast Go.Proofs.YtgdcgbbilgcihaaW.PrintMore Go.Proofs.Ytgdcgbbilgcihaa.Plain
attribute [local go_sem] max2_int min2_int max_two min_two max_three min_three max_four min_four

set_option linter.unusedSimpArgs false
set_option linter.unusedVariables false
def lowC (c : Int) : Int := if c ≥ 65 then c + 32 else c
def mixed (s : ByteArray) (k : Nat) : List Int := ((bytesOf s).take k).map lowC ++ (bytesOf s).drop k
/-- The text's bytes lie in block g, those ahead of k made small. -/
def Low (s : ByteArray) (g k : Nat) (W : World) : Prop :=
  ∃ cur c, W.heap[g]? = some (.cells cur 5 (c, c + 1)) ∧ s.size ≤ c ∧ ∀ j, j < s.size → cur[j]? = some (.int .u8 ((mixed s k).getD j 0))
theorem low_start (w : World) (s : ByteArray) : Low s w.heap.size 0 (Lib.bytesWorld w 5 s) := by
  refine ⟨_, _, Lib.bytesWorld_at_new w 5 s, ?_, fun j hj => ?_⟩
  · simp [Lib.bytesCells]
  · have h := Lib.bytesWorld_cell w 5 s j hj
    simp only [World.cell?, Lib.bytesWorld_at_new] at h
    rw [if_neg (by decide)] at h
    rw [h]
    have h' : j < s.data.toList.length := by rw [data_length]; exact hj
    simp [mixed, bytesOf, List.getD_eq_getElem?_getD, List.getElem?_eq_getElem h']
theorem and_rng (x : Int) : 0 ≤ Go.bits .and .i64 x 65535 ∧ Go.bits .and .i64 x 65535 < 65536 := by
  have e : Go.bits .and .i64 x 65535 = (((BitVec.ofInt 64 x).toNat % 65536 : Nat) : Int) := by
    show IntKind.i64.wrap ((BitVec.ofInt 64 x &&& BitVec.ofInt 64 65535).toNat : Int) = _
    rw [BitVec.toNat_and, show (BitVec.ofInt 64 65535).toNat = 2 ^ 16 - 1 by decide, Nat.and_two_pow_sub_one_eq_mod, IntKind.wrap_i64]
    omega
  rw [e]; omega
theorem lowC_rng {c : Int} (h : 0 ≤ c) (h1 : c < 256) : 0 ≤ lowC c := by unfold lowC; split <;> omega
theorem mixed_len (s : ByteArray) (k : Nat) : (mixed s k).length = s.size := by
  unfold mixed
  have := bytesOf_length s
  simp only [List.length_append, List.length_map, List.length_take, List.length_drop]; omega
theorem mixed_at (s : ByteArray) (k j : Nat) (hj : j < s.size) : (mixed s k).getD j 0 = if j < k then lowC (bt s (j : Int)) else bt s (j : Int) := by
  have hl := bytesOf_length s
  have hj' : j < (bytesOf s).length := by omega
  have eb : (bytesOf s)[j] = bt s (j : Int) := by rw [← rd_bytesOf, rd_at]
  unfold mixed
  rw [List.getD_eq_getElem?_getD]
  by_cases h : j < k
  · rw [if_pos h, List.getElem?_append_left (by simp only [List.length_map, List.length_take]; omega), List.getElem?_map, List.getElem?_take, if_pos h, List.getElem?_eq_getElem hj', eb]; rfl
  · rw [if_neg h]
    by_cases hks : k ≤ (bytesOf s).length
    · rw [List.getElem?_append_right (by simp only [List.length_map, List.length_take]; omega)]
      simp only [List.length_map, List.length_take, List.getElem?_drop]
      rw [show k + (j - min k (bytesOf s).length) = j by omega, List.getElem?_eq_getElem hj', eb]; rfl
    · omega
theorem low_cell {s : ByteArray} {g k : Nat} {W : World} (h : Low s g k W) (j : Nat) (hj : j < s.size) (hkj : k ≤ j := by omega) :
    W.cell? ⟨g, j, none⟩ = some (.int .u8 (bt s (j : Int))) ∧ W.frozen? ⟨g, j, none⟩ = false := by
  obtain ⟨cur, c, hh, hc, hcell⟩ := h
  have h1 := hcell j hj
  rw [mixed_at s k j hj, if_neg (by omega)] at h1
  refine ⟨by simp [World.cell?, hh, h1], ?_⟩
  have : ¬ c ≤ j := by omega
  simp [World.frozen?, hh, this]
theorem low_keep {s : ByteArray} {g k B : Nat} {W W' : World} (h : Low s g k W) (hb : Below B W W') (hg : g < B) : Low s g k W' := by
  obtain ⟨cur, c, hh, hc, hcell⟩ := h
  exact ⟨cur, c, (hb.block g hg).trans hh, hc, hcell⟩
theorem low_same {s : ByteArray} {g k : Nat} {W : World} (h : Low s g k W) (hk : ¬ bt s (k : Int) ≥ 65) : Low s g (k + 1) W := by
  obtain ⟨cur, c, hh, hc, hcell⟩ := h
  refine ⟨cur, c, hh, hc, fun j hj => ?_⟩
  rw [hcell j hj, mixed_at s k j hj, mixed_at s (k + 1) j hj]
  by_cases h1 : j < k
  · rw [if_pos h1, if_pos (by omega)]
  · by_cases h2 : j = k
    · subst h2; rw [if_neg h1, if_pos (by omega)]; unfold lowC; rw [if_neg hk]
    · rw [if_neg h1, if_neg (by omega)]
theorem low_put {s : ByteArray} {g k : Nat} {W : World} (h : Low s g k W) (hks : k < s.size) (hk : bt s (k : Int) ≥ 65) (y : Int) (hy : y = bt s (k : Int) + 32) : Low s g (k + 1) (W.setCell ⟨g, k, none⟩ (.int .u8 y)) := by
  obtain ⟨cur, c, hh, hc, hcell⟩ := h
  refine ⟨cur.setIfInBounds k (.int .u8 y), c, by simp [World.setCell, Array.getElem?_modify, hh], hc, fun j hj => ?_⟩
  have hcs : k < cur.size := by
    have := hcell k hks
    exact (Array.getElem?_eq_some_iff.1 this).1
  by_cases h2 : j = k
  · subst h2
    rw [Array.getElem?_setIfInBounds, if_pos rfl, if_pos hcs, mixed_at s (j + 1) j hj, if_pos (by omega)]
    unfold lowC; rw [if_pos hk, hy]
  · rw [Array.getElem?_setIfInBounds, if_neg (by omega), hcell j hj, mixed_at s k j hj, mixed_at s (k + 1) j hj]
    by_cases h1 : j < k
    · rw [if_pos h1, if_pos (by omega)]
    · rw [if_neg h1, if_neg (by omega)]
theorem low_C {s : ByteArray} {g : Nat} {W : World} (h : Low s g s.size W) (hs : s.size ≤ maxLen) : Kd.C (Kd.int .u8) W (some ⟨g, 0, none⟩) s.size ((bytesOf s).map lowC) := by
  obtain ⟨cur, c, hh, hc, hcell⟩ := h
  have hm : mixed s s.size = (bytesOf s).map lowC := by
    unfold mixed
    have := bytesOf_length s
    rw [List.take_of_length_le (by omega), List.drop_of_length_le (by omega), List.append_nil]
  rw [← hm]
  refine Kd.C_of_reads (d := (0 : Int)) ⟨mixed_len s s.size, ?_, fun _ => ⟨_, rfl, fun j hj => ?_⟩⟩
  · rw [show maxLen = 9223372036854775807 from rfl] at hs; exact hs
  · rw [add_plain]; simp [World.cell?, hh, hcell j hj]
theorem hexDig_rng (v : Nat) (h : v < 16) : 0 ≤ ((hexDig v).toNat : Int) ∧ ((hexDig v).toNat : Int) ≤ 70 ∧ (digB ((hexDig v).toNat : Int)).2 = true := by
  refine ⟨by omega, ?_, by rw [digB_hex v h]⟩
  revert h; revert v; decide
theorem hexS_at (l : List Int) (hr : ∀ x ∈ l, 0 ≤ x ∧ x < 256) (s : ByteArray) (hs : s = ⟨(hexOf l).toArray⟩) (i : Nat) (hi : i < s.size) :
    0 ≤ bt s (i : Int) ∧ bt s (i : Int) ≤ 70 ∧ (digB (bt s (i : Int))).2 = true := by
  have hl := bytesOf_length s
  have hi' : i < (bytesOf s).length := by omega
  have eb : (bytesOf s)[i] = bt s (i : Int) := by rw [← rd_bytesOf, rd_at]
  have hm : bt s (i : Int) ∈ (hexOf l).map (fun b => (b.toNat : Int)) := by
    have : bytesOf s = (hexOf l).map (fun b => (b.toNat : Int)) := by rw [hs]; rfl
    rw [← this, ← eb]; exact List.getElem_mem hi'
  obtain ⟨b, hb, e⟩ := List.mem_map.1 hm
  rw [← e]
  unfold hexOf at hb
  obtain ⟨x, hx, hb⟩ := List.mem_flatMap.1 hb
  obtain ⟨h0, h1⟩ := hr x hx
  simp only [List.mem_cons, List.not_mem_nil, or_false] at hb
  rcases hb with rfl | rfl
  · exact hexDig_rng _ (by omega)
  · exact hexDig_rng _ (by omega)
theorem lowC_hex (v : Nat) (h : v < 16) : digB (lowC ((hexDig v).toNat : Int)) = ((v : Int), true) := by
  have key : ∀ n : Fin 16, digB (lowC ((hexDig n.val).toNat : Int)) = ((n.val : Int), true) := by decide +kernel
  exact key ⟨v, h⟩
theorem blank_at (m : Nat) (h : m < 6) : ∃ c : Int, whiteB c = true ∧ (digB c).2 = false ∧ 0 ≤ c ∧ c < 256 ∧ ∀ hm, ([Value.int .u8 0, Value.int .u8 9, Value.int .u8 10, Value.int .u8 12, Value.int .u8 13, Value.int .u8 32])[m]'hm = Value.int .u8 c := by
  have : m = 0 ∨ m = 1 ∨ m = 2 ∨ m = 3 ∨ m = 4 ∨ m = 5 := by omega
  rcases this with rfl | rfl | rfl | rfl | rfl | rfl
  · exact ⟨0, by decide, by decide, by decide, by decide, fun _ => rfl⟩
  · exact ⟨9, by decide, by decide, by decide, by decide, fun _ => rfl⟩
  · exact ⟨10, by decide, by decide, by decide, by decide, fun _ => rfl⟩
  · exact ⟨12, by decide, by decide, by decide, by decide, fun _ => rfl⟩
  · exact ⟨13, by decide, by decide, by decide, by decide, fun _ => rfl⟩
  · exact ⟨32, by decide, by decide, by decide, by decide, fun _ => rfl⟩
theorem bytes_strOfNums (l : List Int) (hr : ∀ x ∈ l, 0 ≤ x ∧ x < 256) : bytesOf (strOfNums l) = l := by
  unfold bytesOf
  rw [strOfNums_data, List.map_map]
  conv => rhs; rw [← List.map_id l]
  refine List.map_congr_left fun x hx => ?_
  obtain ⟨h0, h1⟩ := hr x hx
  have : x.toNat % 256 = x.toNat := Nat.mod_eq_of_lt (by omega)
  simp [this]; omega
theorem un_hex (l : List Int) (hr : ∀ x ∈ l, 0 ≤ x ∧ x < 256) (s : ByteArray) (hs : s = ⟨(hexOf l).toArray⟩) : unhexL s = (l, (s.size : Int), 0) := by
  unfold unhexL
  rw [hs, scan_hex l hr]
  have := pack_nibs l []
  simp only [List.append_nil, pack] at this
  simp only; rw [this]
theorem scan_low (l : List Int) (hr : ∀ x ∈ l, 0 ≤ x ∧ x < 256) (i : Nat) : scan i ((bytesOf ⟨(hexOf l).toArray⟩).map lowC) = (nibs l, none) := by
  have e : bytesOf ⟨(hexOf l).toArray⟩ = (hexOf l).map (fun b => (b.toNat : Int)) := rfl
  rw [e]
  induction l generalizing i with
  | nil => rfl
  | cons x a ih =>
    obtain ⟨h0, h1⟩ := hr x (List.mem_cons_self ..)
    have e1 : (hexOf (x :: a)).map (fun b => (b.toNat : Int)) = ((hexDig (x.toNat / 16)).toNat : Int) :: ((hexDig (x.toNat % 16)).toNat : Int) :: (hexOf a).map (fun b => (b.toNat : Int)) := by
      simp [hexOf]
    rw [e1]
    simp only [List.map_cons, scan, lowC_hex _ (show x.toNat / 16 < 16 by omega), lowC_hex _ (show x.toNat % 16 < 16 by omega), if_true]
    rw [ih (fun y hy => hr y (List.mem_cons_of_mem _ hy)) _ rfl]
    have e2 : nibs (x :: a) = x / 16 :: x % 16 :: nibs a := by simp [nibs]
    rw [e2]
    congr 2
    · omega
    · congr 1; omega
theorem lowC_bt (s : ByteArray) (h : ∀ i : Nat, i < s.size → bt s (i : Int) ≤ 70) : ∀ x ∈ (bytesOf s).map lowC, 0 ≤ x ∧ x < 256 := by
  intro x hx
  obtain ⟨y, hy, rfl⟩ := List.mem_map.1 hx
  obtain ⟨i, hi, rfl⟩ := List.getElem_of_mem hy
  have eb : (bytesOf s)[i] = bt s (i : Int) := by rw [← rd_bytesOf, rd_at]
  have h1 := h i (by rw [← bytesOf_length s]; exact hi)
  have h2 := bt_range s (i : Int)
  rw [eb]; unfold lowC; split <;> omega
theorem un_low (l : List Int) (hr : ∀ x ∈ l, 0 ≤ x ∧ x < 256) (s : ByteArray) (hs : s = ⟨(hexOf l).toArray⟩) : unhexL (strOfNums ((bytesOf s).map lowC)) = (l, (s.size : Int), 0) := by
  have hz : (strOfNums ((bytesOf s).map lowC)).size = s.size := by
    have := bytesOf_length (strOfNums ((bytesOf s).map lowC))
    rw [bytes_strOfNums _ (lowC_bt s fun i hi => (hexS_at l hr s hs i hi).2.1), List.length_map, bytesOf_length] at this
    omega
  unfold unhexL
  rw [bytes_strOfNums _ (lowC_bt s fun i hi => (hexS_at l hr s hs i hi).2.1), hz]
  rw [hs, scan_low l hr]
  have := pack_nibs l []
  simp only [List.append_nil, pack] at this
  simp only; rw [this]
theorem scan_none_take (l : List Int) (m i : Nat) (h : (scan i l).2 = none) : (scan i (l.take m)).2 = none := by
  rcases hb : (scan i (l.take m)).2 with _ | j
  · rfl
  · have := scan_append_some (l.take m) (l.drop m) i j hb
    rw [List.take_append_drop] at this
    rw [← this, h] at hb; cases hb
theorem scan_mid (l : List Int) (m : Nat) (c : Int) (h : (scan 0 l).2 = none) (hc : (digB c).2 = false) (hw : whiteB c = true) : scan 0 (l.take m ++ (c :: l.drop m)) = ((scan 0 l).1, none) := by
  have ht := scan_none_take l m 0 h
  have h1 := scan_append_none (l.take m) (l.drop m) 0 ht
  rw [List.take_append_drop] at h1
  have hd : (scan (0 + (l.take m).length) (l.drop m)).2 = none := by
    have := congrArg Prod.snd h1; rw [h] at this; exact this.symm
  have hs : scan (0 + (l.take m).length) (c :: l.drop m) = scan (0 + (l.take m).length + 1) (l.drop m) := by
    simp only [scan]; rw [if_neg (by rw [hc]; decide), if_pos hw]
  rw [scan_append_none _ _ _ ht, hs, scan_shift (l.drop m) (0 + (l.take m).length) 1, hd]
  rw [h1]; rfl
theorem un_mid (l : List Int) (hr : ∀ x ∈ l, 0 ≤ x ∧ x < 256) (s : ByteArray) (hs : s = ⟨(hexOf l).toArray⟩) (m : Nat) (hm : m ≤ s.size) (c : Int) (h0 : 0 ≤ c) (h1 : c < 256) (hc : (digB c).2 = false) (hw : whiteB c = true) :
    unhexL ((s.extract 0 m ++ strOfNums [c]) ++ s.extract m s.size) = (l, ((s.size + 1 : Nat) : Int), 0) := by
  have hl := bytesOf_length s
  have eb : bytesOf ((s.extract 0 m ++ strOfNums [c]) ++ s.extract m s.size) = (bytesOf s).take m ++ (c :: (bytesOf s).drop m) := by
    rw [bytesOf_append, bytesOf_append, bytesOf_extract, bytes_strOfNums [c] (by simp; omega)]
    have : bytesOf (s.extract m s.size) = (bytesOf s).drop m := by
      unfold bytesOf
      rw [ByteArray.data_extract, Array.toList_extract]
      simp [List.extract_eq_take_drop, List.map_take, List.map_drop]
      rw [List.take_of_length_le]
      simp
    rw [this]; simp
  have hz : ((s.extract 0 m ++ strOfNums [c]) ++ s.extract m s.size).size = s.size + 1 := by
    have h := bytesOf_length ((s.extract 0 m ++ strOfNums [c]) ++ s.extract m s.size)
    rw [eb] at h
    simp only [List.length_append, List.length_take, List.length_cons, List.length_drop] at h
    omega
  have hsc : scan 0 (bytesOf s) = (nibs l, none) := by rw [hs]; exact scan_hex l hr 0
  unfold unhexL
  rw [eb, scan_mid _ m c (by rw [hsc]) hc hw, hz, hsc]
  have := pack_nibs l []
  simp only [List.append_nil, pack] at this
  simp only; rw [this]
set_option maxHeartbeats 4000000 in
set_option maxRecDepth 100000 in
theorem walk (A0 : Option Addr) (c0 : Nat) (l0 : List Int) (at_ blank : Int) (w : World) (hr0 : Kd.C (Kd.int .u8) w A0 l0.length l0) (hc0 : l0.length ≤ c0) (hb : ∀ x ∈ l0, 0 ≤ x ∧ x < 256)
    (ha : (Lit.int .i64 at_).wf = true) (hbl : (Lit.int .i64 blank).wf = true) :
    Calls Try.prog 5 #[.slice A0 l0.length c0, .int .i64 at_, .int .i64 blank] w fun e w' => e = .returned (.bool true) ∧ Below w.heap.size w w' := by
  have HR := Aside0.mk hr0; clear hr0
  have HBD := Aside0.mk hb; clear hb
  have HA := Aside0.mk ha; clear ha
  have HBL := Aside0.mk hbl; clear hbl
  by_cases hl : l0.length ≤ 300
  · have hs0 : ((⟨(hexOf l0).toArray⟩ : ByteArray)).size = 2 * l0.length := hexA_size l0
    obtain ⟨s, hs⟩ : ∃ s : ByteArray, s = ⟨(hexOf l0).toArray⟩ := ⟨_, rfl⟩
    have hx0 := hex_ev l0 (by omega) HBD.out
    rw [← hs] at hs0 hx0
    have HX := Aside0.mk hx0; clear hx0
    have HS := Aside0.mk hs; clear hs
    have kb := fun W => print_bytes (P := Try.prog) 9 22 5 Try.underlying9 Try.underlying22 Try.underlying5 s W
    go_enter Try.func5, Try.ntmps5
    go_wp2_with (first
      | (go_at_call 10; refine (hornbooklaw01_awake.calls true _ rfl).mono ?_; rintro e w1 ⟨rfl, hb1⟩)
      | (go_at_call 17; refine (hex_Hex.calls _ _ l0 s _ (Kd.C_below HR.out hb1) hc0 HX.out).mono ?_; rintro e w2 ⟨rfl, hb2⟩))
    have hbw0 : Below w.heap.size w (Lib.bytesWorld w2 5 s) := bytes_below (below_step hb1 hb2) (below_step hb1 hb2).size 5 s
    have hlow0 := low_start w2 s
    have hsz0 : w.heap.size ≤ w2.heap.size := (below_step hb1 hb2).size
    have hszw : (Lib.bytesWorld w2 5 s).heap.size = w2.heap.size + 1 := Lib.bytesWorld_size w2 5 s
    have hdg := fun i (hi : i < s.size) => hexS_at l0 HBD.out s HS.out i hi
    have HDG := Aside0.mk hdg; clear hdg
    clear kb
    have HL0 := Aside0.mk hlow0; clear hlow0
    have HB0 := Aside0.mk hbw0; clear hbw0
    have HZW := Aside0.mk hszw; clear hszw
    have HS0 := Aside0.mk hs0; clear hs0
    clear hb1 hb2
    obtain ⟨g, hg⟩ : ∃ g, w2.heap.size = g := ⟨_, rfl⟩
    obtain ⟨cp, hcp⟩ : ∃ cp, grownCap w2 (2 * l0.length) 0 5 = cp := ⟨_, rfl⟩
    have hcg : 2 * l0.length ≤ cp := by rw [← hcp]; exact grownCap_ge _ _ _ _
    generalize Lib.bytesWorld w2 5 s = W3 at *
    have hgb : w.heap.size ≤ g := by rw [← hg]; exact hsz0
    rw [hg] at *
    rw [hcp] at *
    clear hcp
    have HGB := Aside0.mk hgb
    go_loopw [10] (fun i wr => ∃ k : Nat, k ≤ 2 * l0.length ∧ i = .int .i64 k ∧ Low s g k wr ∧ Below w.heap.size w wr ∧ g < wr.heap.size) (fun i _ => 2 * l0.length - (intOf i).toNat)
    case atStart => exact ⟨0, Nat.zero_le _, rfl, HL0.out, HB0.out, by rw [HZW.out]; omega⟩
    case round =>
      obtain ⟨k, hk, rfl, hLow, hbw, hgz⟩ := hrel
      by_cases hlt : k < 2 * l0.length
      · obtain ⟨hc, hf⟩ := low_cell hLow k (by rw [HS0.out]; exact hlt)
        have hd := HDG.out k (by rw [HS0.out]; exact hlt)
        obtain ⟨x, hx⟩ : ∃ x, bt s (k : Int) = x := ⟨_, rfl⟩
        rw [hx] at hc hd
        have HX2 := Aside0.mk hx; clear hx
        obtain ⟨hd1, hd2, hd4⟩ := hd
        obtain ⟨v, hv⟩ : ∃ v, (digB x).1 = v := ⟨_, rfl⟩
        have hv0 : 0 ≤ v ∧ v < 16 := by rw [← hv]; exact digB_range x
        obtain ⟨hv0, hv1⟩ := hv0
        have hdc : hex_Digit.f 1 x = some (v, true) := by rw [digit_one 0 x, ← hv, ← hd4]
        have HDC := Aside0.mk hdc; clear hdc hv hd4
        go_wp2_with (go_at_call 11; refine (hex_Digit.calls 1 x v true _ HDC.out).mono ?_; rintro e w4 ⟨rfl, hb4⟩; have hl4 := low_keep hLow hb4 hgz; obtain ⟨hc4, hf4⟩ := low_cell hl4 k (by rw [HS0.out]; exact hlt); rw [HX2.out] at hc4; have HL4 := Aside0.mk hl4; have HB4 := Aside0.mk (below_step hbw hb4); have HG4 : Aside0 (g < w4.heap.size) := ⟨Nat.lt_of_lt_of_le hgz hb4.size⟩; clear hl4 hb4)
        case roundEnd =>
          refine ⟨⟨k + 1, by omega, rfl, low_put HL4.out (by rw [HS0.out]; exact hlt) (by rw [HX2.out]; first | assumption | omega) _ (by rw [HX2.out]), Below.setCell HB4.out HGB.out _, by simpa [World.setCell] using HG4.out⟩, by simp [intOf]; omega⟩
        case roundEnd =>
          refine ⟨⟨k + 1, by omega, rfl, low_same HL4.out (by rw [HX2.out]; first | assumption | omega), HB4.out, HG4.out⟩, by simp [intOf]; omega⟩
      · obtain rfl : k = 2 * l0.length := by omega
        have HLow := Aside0.mk hLow; clear hLow
        have HBW := Aside0.mk hbw; clear hbw
        obtain ⟨q, hq⟩ : ∃ q, Go.bits .and .i64 at_ 65535 = q := ⟨_, rfl⟩
        have hq01 := and_rng at_
        rw [hq] at hq01
        obtain ⟨hq0, hq1⟩ := hq01
        obtain ⟨q', hq'⟩ : ∃ q, Go.bits .and .i64 blank 65535 = q := ⟨_, rfl⟩
        have hq01' := and_rng blank
        rw [hq'] at hq01'
        obtain ⟨hq0', hq1'⟩ := hq01'
        have hs0 := HS0.out
        obtain ⟨m, hm⟩ : ∃ m : Nat, q % (2 * (l0.length : Int) + 1) = m := ⟨(q % (2 * (l0.length : Int) + 1)).toNat, by have := Int.emod_nonneg q (show 2 * (l0.length : Int) + 1 ≠ 0 by omega); omega⟩
        obtain ⟨m', hm'⟩ : ∃ m : Nat, Int.tmod q' 6 = m := ⟨(q' % 6).toNat, by rw [Int.tmod_eq_emod_of_nonneg hq0']; omega⟩
        have hmb : m ≤ s.size := by have := Int.emod_lt_of_pos q (show 0 < 2 * (l0.length : Int) + 1 by omega); omega
        have hmb' : m' < 6 := by rw [Int.tmod_eq_emod_of_nonneg hq0'] at hm'; omega
        obtain ⟨c, hc1, hc2, hc3, hc4, hc5⟩ := blank_at m' hmb'
        have HC1 := Aside0.mk hc1; have HC2 := Aside0.mk hc2; have HC5 := Aside0.mk hc5; clear hc1 hc2 hc5
        obtain ⟨K1, hK1⟩ := unhex_ev s (by rw [HS0.out]; omega)
        have hu1 := hK1 K1 (Nat.le_refl _)
        rw [un_hex l0 HBD.out s HS.out] at hu1
        have HU1 := Aside0.mk hu1; clear hK1 hu1
        obtain ⟨lw, hlw⟩ : ∃ t, strOfNums ((bytesOf s).map lowC) = t := ⟨_, rfl⟩
        have hlz : lw.size = s.size := by
          have := bytesOf_length lw
          rw [← hlw, bytes_strOfNums _ (lowC_bt s fun i hi => (hexS_at l0 HBD.out s HS.out i hi).2.1), List.length_map, bytesOf_length, hlw] at this
          omega
        obtain ⟨K2, hK2⟩ := unhex_ev lw (by rw [hlz, HS0.out]; omega)
        have hu2 := hK2 K2 (Nat.le_refl _)
        rw [← hlw, un_low l0 HBD.out s HS.out, hlw] at hu2
        have HU2 := Aside0.mk hu2; clear hK2 hu2
        have HLW := Aside0.mk hlw; clear hlw
        go_wp2_with (go_at_call 13; refine (hex_UnHex.calls K1 s _ _ _ _ HU1.out).mono ?_; rintro e w5 ⟨vx, rfl, hRx, hb5⟩)
        rw [HC5.out]
        have hbe5 : Below wr.heap.size wr w5 := by
          have h1 : wr.heap.size ≤ (wr.alloc (.cells #[.int .u8 0, .int .u8 9, .int .u8 10, .int .u8 12, .int .u8 13, .int .u8 32] 5)).heap.size := (below_alloc (Below.refl _ _) _).size
          exact below_then (below_alloc (Below.refl _ _) _) h1 hb5
        have hl5 := low_keep HLow.out hbe5 hgz
        rw [← HS0.out] at hl5
        have hcv := Kd.C_string (P := Try.prog) (c := cp) Try.underlying22 Try.underlying5 Try.underlying9 (low_C hl5 (by rw [show maxLen = 9223372036854775807 from rfl]; omega))
        rw [HLW.out, HS0.out] at hcv
        have HBE5 := Aside0.mk (below_step HBW.out hbe5)
        have HRX := Aside0.mk hRx
        clear hbe5 hl5 hRx hb5
        rw [hcv]
        simp only [Result.andThen]
        rw [Oper.upon_value]
        clear hcv
        go_upto_region 19 with (go_at_call 13; refine (hex_UnHex.calls K2 lw _ _ _ _ HU2.out).mono ?_; rintro e w6 ⟨vy, rfl, hRy, hb6⟩)
        have HRX6 := Aside0.mk (Kd.R_drew (Kd.R_below HRX.out hb6))
        have HRY6 := Aside0.mk (Kd.R_drew hRy)
        have HB6 := Aside0.mk (below_drew1 (below_step HBE5.out hb6))
        clear hb6 hRy HRX HBE5
        obtain ⟨w7, hw7⟩ : ∃ w7, w6.drew = w7 := ⟨_, rfl⟩
        rw [hw7] at HRX6 HRY6 HB6
        have hcv : (convert 22 9 (.slice (some ⟨w7.heap.size, 0, none⟩) 1 1)).run Try.prog (w7.alloc (.cells #[.int .u8 c] 5)) = .ok (.string (strOfNums [c])) (w7.alloc (.cells #[.int .u8 c] 5)) := Kd.C_string (P := Try.prog) (c := 1) Try.underlying22 Try.underlying5 Try.underlying9 (C_fresh .u8 w7 [c] 5 _ rfl (by simp))
        have hmi : (m : Int) ≤ 2 * (l0.length : Int) := by omega
        have hz1 : (s.extract 0 m).size = m := by simp; omega
        have hz2 : (strOfNums [c]).size = 1 := rfl
        have hz3 : (s.extract m (2 * l0.length)).size = s.size - m := by simp; omega
        have hz4 : (s.extract 0 m ++ strOfNums [c]).size = m + 1 := by rw [ByteArray.size_append, hz1, hz2]
        have hz5 : ((s.extract 0 m ++ strOfNums [c]) ++ s.extract m (2 * l0.length)).size = s.size + 1 := by rw [ByteArray.size_append, hz4, hz3]; omega
        have hlm1 : ¬ 9223372036854775807 < m + 1 := by omega
        have hlm2 : ¬ 9223372036854775807 < m + 1 + (2 * l0.length - m) := by omega
        obtain ⟨K3, hK3⟩ := unhex_ev ((s.extract 0 m ++ strOfNums [c]) ++ s.extract m (2 * l0.length)) (by rw [hz5, HS0.out]; omega)
        have hu3 := hK3 K3 (Nat.le_refl _)
        rw [← HS0.out, un_mid l0 HBD.out s HS.out m hmb c hc3 hc4 HC2.out HC1.out, HS0.out] at hu3
        rw [HS0.out] at hz5
        have HU3 := Aside0.mk hu3; clear hK3 hu3
        refine start_ (n := 19) (S := fun w' => True) (ds := []) #[false, false, false, false, false, false, false, false, false, false, false, false, false, false, false, false, false, false, false] (by kernel_rfl) rfl rfl trivial (fun hHeld => ?_)
        rw [hw7]
        refine pure_ (i := 0) (N := some 99) (v := ?_) (a' := ?_) #[true, false, false, false, false, false, false, false, false, false, false, false, false, false, false, false, false, false, false] rfl rfl (by kernel_rfl) (fun _ _ _ h => h) (Or.inl ⟨by rfl, ?_⟩) ?_ ?_
        rotate_left
        · intro w'
          go_simp
          with_reducible rfl
        rotate_left
        · simp only [Act.put, List.setIfInBounds_toArray, List.set_cons_zero, List.set_cons_succ, i64_w, i32_w]
          rfl
        refine pure_ (i := 1) (N := some 100) (v := ?_) (a' := ?_) #[true, true, false, false, false, false, false, false, false, false, false, false, false, false, false, false, false, false, false] rfl rfl (by kernel_rfl) (fun _ _ _ h => h) (Or.inl ⟨by rfl, ?_⟩) ?_ ?_
        rotate_left
        · intro w'
          go_simp
          with_reducible rfl
        rotate_left
        · simp only [Act.put, List.setIfInBounds_toArray, List.set_cons_zero, List.set_cons_succ, i64_w, i32_w]
          rfl
        refine pure_ (i := 2) (N := some 101) (v := ?_) (a' := ?_) #[true, true, true, false, false, false, false, false, false, false, false, false, false, false, false, false, false, false, false] rfl rfl (by kernel_rfl) (fun _ _ _ h => h) (Or.inl ⟨by rfl, ?_⟩) ?_ ?_
        rotate_left
        · intro w'
          go_simp
          with_reducible rfl
        rotate_left
        · simp only [Act.put, List.setIfInBounds_toArray, List.set_cons_zero, List.set_cons_succ, i64_w, i32_w]
          rfl
        refine pure_ (i := 3) (N := some 102) (v := ?_) (a' := ?_) #[true, true, true, true, false, false, false, false, false, false, false, false, false, false, false, false, false, false, false] rfl rfl (by kernel_rfl) (fun _ _ _ h => h) (Or.inl ⟨by rfl, ?_⟩) ?_ ?_
        rotate_left
        · intro w'
          go_simp
          with_reducible rfl
        rotate_left
        · simp only [Act.put, List.setIfInBounds_toArray, List.set_cons_zero, List.set_cons_succ, i64_w, i32_w]
          rfl
        refine pure_ (i := 7) (N := some 106) (v := ?_) (a' := ?_) #[true, true, true, true, false, false, false, true, false, false, false, false, false, false, false, false, false, false, false] rfl rfl (by kernel_rfl) (fun _ _ _ h => h) (Or.inl ⟨by rfl, ?_⟩) ?_ ?_
        rotate_left
        · intro w'
          go_simp
          with_reducible rfl
        rotate_left
        · simp only [Act.put, List.setIfInBounds_toArray, List.set_cons_zero, List.set_cons_succ, i64_w, i32_w]
          rfl
        refine pure_ (i := 8) (N := some 107) (v := ?_) (a' := ?_) #[true, true, true, true, false, false, false, true, true, false, false, false, false, false, false, false, false, false, false] rfl rfl (by kernel_rfl) (fun _ _ _ h => h) (Or.inl ⟨by rfl, ?_⟩) ?_ ?_
        rotate_left
        · intro w'
          go_simp
          with_reducible rfl
        rotate_left
        · simp only [Act.put, List.setIfInBounds_toArray, List.set_cons_zero, List.set_cons_succ, i64_w, i32_w]
          rfl
        refine pure_ (i := 9) (N := some 108) (v := ?_) (a' := ?_) #[true, true, true, true, false, false, false, true, true, true, false, false, false, false, false, false, false, false, false] rfl rfl (by kernel_rfl) (fun _ _ _ h => h) (Or.inl ⟨by rfl, ?_⟩) ?_ ?_
        rotate_left
        · intro w'
          go_simp
          with_reducible rfl
        rotate_left
        · simp only [Act.put, List.setIfInBounds_toArray, List.set_cons_zero, List.set_cons_succ, i64_w, i32_w]
          rfl
        refine one_ (i := 4) (N := some 103) #[true, true, true, true, true, false, false, true, true, true, false, false, false, false, false, false, false, false, false] rfl rfl (by kernel_rfl) (by decide) (fun K hK => ?_)
        refine value_ (w1 := ?_) (v := ?_) (by rfl) rfl ?_ ?_
        rotate_left 2
        · go_simp
          constructor
          · rfl
          · rfl
        refine hK.out _ _ trivial (fun hHeld => ?_)
        clear hK K
        refine norm_ (a' := ?_) ?_ ?_
        rotate_left
        · show Act.put _ (some 103) _ = _
          simp only [Act.put, List.setIfInBounds_toArray, List.set_cons_zero, List.set_cons_succ, i64_w, i32_w]
          rfl
        refine one_ (i := 5) (N := some 104) #[true, true, true, true, true, true, false, true, true, true, false, false, false, false, false, false, false, false, false] rfl rfl (by kernel_rfl) (by decide) (fun K hK => ?_)
        refine value_ (w1 := ?_) (v := ?_) (by rfl) rfl ?_ ?_
        rotate_left 2
        · go_simp
          first | (constructor <;> rfl) | (rw [hcv]; simp only [Result.andThen]; constructor <;> rfl)
        refine hK.out _ _ trivial (fun hHeld => ?_)
        clear hK K
        refine norm_ (a' := ?_) ?_ ?_
        rotate_left
        · show Act.put _ (some 104) _ = _
          simp only [Act.put, List.setIfInBounds_toArray, List.set_cons_zero, List.set_cons_succ, i64_w, i32_w]
          rfl
        refine pure_ (i := 6) (N := some 105) (v := ?_) (a' := ?_) #[true, true, true, true, true, true, true, true, true, true, false, false, false, false, false, false, false, false, false] rfl rfl (by kernel_rfl) (fun _ _ _ h => h) (Or.inl ⟨by rfl, ?_⟩) ?_ ?_
        rotate_left
        · intro w'
          go_simp
          with_reducible rfl
        rotate_left
        · simp only [Act.put, List.setIfInBounds_toArray, List.set_cons_zero, List.set_cons_succ, i64_w, i32_w]
          rfl
        refine pure_ (i := 10) (N := some 109) (v := ?_) (a' := ?_) #[true, true, true, true, true, true, true, true, true, true, true, false, false, false, false, false, false, false, false] rfl rfl (by kernel_rfl) (fun _ _ _ h => h) (Or.inl ⟨by rfl, ?_⟩) ?_ ?_
        rotate_left
        · intro w'
          go_simp
          with_reducible rfl
        rotate_left
        · simp only [Act.put, List.setIfInBounds_toArray, List.set_cons_zero, List.set_cons_succ, i64_w, i32_w]
          rfl
        refine one_ (i := 11) (N := some 110) #[true, true, true, true, true, true, true, true, true, true, true, true, false, false, false, false, false, false, false] rfl rfl (by kernel_rfl) (by decide) (fun K hK => ?_)
        refine goes_ Try.func13 (by kernel_rfl) rfl #[.string (s.extract 0 m ++ strOfNums [c] ++ s.extract m (2 * l0.length))] (by rfl) rfl rfl (by simp only [List.map_toArray, List.map_cons, List.map_nil]; rfl) ?_
        with_reducible refine (hex_UnHex.calls K3 _ _ _ _ _ HU3.out).mono ?_
        rintro e w8 ⟨vz, rfl, hRz, hb8⟩
        refine ⟨_, rfl, ?_⟩
        refine hK.out _ _ trivial (fun hHeld => ?_)
        clear hK K
        refine norm_ (a' := ?_) ?_ ?_
        rotate_left
        · show Act.put _ (some 110) _ = _
          simp only [Act.put, List.setIfInBounds_toArray, List.set_cons_zero, List.set_cons_succ, i64_w, i32_w]
          rfl
        refine pure_ (i := 12) (N := some 98) (v := ?_) (a' := ?_) #[true, true, true, true, true, true, true, true, true, true, true, true, true, false, false, false, false, false, false] rfl rfl (by kernel_rfl) (fun _ _ _ h => h) (Or.inl ⟨by rfl, ?_⟩) ?_ ?_
        rotate_left
        · intro w'
          go_simp
          with_reducible rfl
        rotate_left
        · simp only [Act.put, List.setIfInBounds_toArray, List.set_cons_zero, List.set_cons_succ, i64_w, i32_w]
          rfl
        refine pure_ (i := 13) (N := some 111) (v := ?_) (a' := ?_) #[true, true, true, true, true, true, true, true, true, true, true, true, true, true, false, false, false, false, false] rfl rfl (by kernel_rfl) (fun _ _ _ h => h) (Or.inl ⟨by rfl, ?_⟩) ?_ ?_
        rotate_left
        · intro w'
          go_simp
          with_reducible rfl
        rotate_left
        · simp only [Act.put, List.setIfInBounds_toArray, List.set_cons_zero, List.set_cons_succ, i64_w, i32_w]
          rfl
        refine pure_ (i := 14) (N := some 112) (v := ?_) (a' := ?_) #[true, true, true, true, true, true, true, true, true, true, true, true, true, true, true, false, false, false, false] rfl rfl (by kernel_rfl) (fun _ _ _ h => h) (Or.inl ⟨by rfl, ?_⟩) ?_ ?_
        rotate_left
        · intro w'
          go_simp
          with_reducible rfl
        rotate_left
        · simp only [Act.put, List.setIfInBounds_toArray, List.set_cons_zero, List.set_cons_succ, i64_w, i32_w]
          rfl
        refine pure_ (i := 15) (N := some 113) (v := ?_) (a' := ?_) #[true, true, true, true, true, true, true, true, true, true, true, true, true, true, true, true, false, false, false] rfl rfl (by kernel_rfl) (fun _ _ _ h => h) (Or.inl ⟨by rfl, ?_⟩) ?_ ?_
        rotate_left
        · intro w'
          go_simp
          with_reducible rfl
        rotate_left
        · simp only [Act.put, List.setIfInBounds_toArray, List.set_cons_zero, List.set_cons_succ, i64_w, i32_w]
          rfl
        refine pure_ (i := 16) (N := some 22) (v := ?_) (a' := ?_) #[true, true, true, true, true, true, true, true, true, true, true, true, true, true, true, true, true, false, false] rfl rfl (by kernel_rfl) (fun _ _ _ h => h) (Or.inl ⟨by rfl, ?_⟩) ?_ ?_
        rotate_left
        · intro w'
          go_simp
          with_reducible rfl
        rotate_left
        · simp only [Act.put, List.setIfInBounds_toArray, List.set_cons_zero, List.set_cons_succ, i64_w, i32_w]
          rfl
        refine pure_ (i := 17) (N := some 23) (v := ?_) (a' := ?_) #[true, true, true, true, true, true, true, true, true, true, true, true, true, true, true, true, true, true, false] rfl rfl (by kernel_rfl) (fun _ _ _ h => h) (Or.inl ⟨by rfl, ?_⟩) ?_ ?_
        rotate_left
        · intro w'
          go_simp
          with_reducible rfl
        rotate_left
        · simp only [Act.put, List.setIfInBounds_toArray, List.set_cons_zero, List.set_cons_succ, i64_w, i32_w]
          rfl
        refine pure_ (i := 18) (N := some 24) (v := ?_) (a' := ?_) #[true, true, true, true, true, true, true, true, true, true, true, true, true, true, true, true, true, true, true] rfl rfl (by kernel_rfl) (fun _ _ _ h => h) (Or.inl ⟨by rfl, ?_⟩) ?_ ?_
        rotate_left
        · intro w'
          go_simp
          with_reducible rfl
        rotate_left
        · simp only [Act.put, List.setIfInBounds_toArray, List.set_cons_zero, List.set_cons_succ, i64_w, i32_w]
          rfl
        refine done_ (by kernel_rfl) ?_

        have hba : Below w7.heap.size w7 w8 := below_then (below_alloc (Below.refl _ _) _) (below_alloc (Below.refl _ _) _).size hb8
        have HB8 := Aside0.mk (below_step HB6.out hba)
        have hcx := own_string (P := Try.prog) Try.underlying22 Try.underlying5 Try.underlying9 (Kd.own_of_R (Kd.R_below HRX6.out hba))
        have hcy := own_string (P := Try.prog) Try.underlying22 Try.underlying5 Try.underlying9 (Kd.own_of_R (Kd.R_below HRY6.out hba))
        have hcz := own_string (P := Try.prog) Try.underlying22 Try.underlying5 Try.underlying9 (Kd.own_of_R hRz)
        have hcb := Kd.C_string (P := Try.prog) (c := c0) Try.underlying22 Try.underlying5 Try.underlying9 (Kd.C_below HR.out HB8.out)
        clear hba hb8 hRz hcv hz1 hz2 hz3 hz4 hz5
        show Exit.then _ _ Exit.normal _ _
        go_wp2_with (go_at_call 15; refine (hex_White.calls c true _ (congrArg some HC1.out)).mono ?_; rintro e w9 ⟨rfl, hb9⟩)
        go_ret
        exact ⟨rfl, below_step HB8.out hb9⟩
  · go_enter Try.func5, Try.ntmps5
    go_wp2_with (go_at_call 10; refine (hornbooklaw01_awake.calls true _ rfl).mono ?_; rintro e w1 ⟨rfl, hb1⟩)
    go_ret
    exact ⟨rfl, hb1⟩
end Go.Proofs.Ytgdcgbbilgcihaa.Back
