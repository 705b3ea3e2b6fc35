/- AglHex: the plain law. AglHex: the walk. -/
import Derived.Test.YtgdlmgdcoedfoaaGreatDoorSame
namespace Go.Proofs.YtgdlmgdcoedfoaaGreatDoor.Agl
open Go.RowKit Go.Proofs.YtgdlmgdcoedfoaaGreatDoorW.PrintWords Go.Proofs.YtgdlmgdcoedfoaaGreatDoorW.PrintLast Go.Proofs.YtgdlmgdcoedfoaaGreatDoorW.PrintMore
set_option linter.unusedVariables false
set_option linter.unusedSimpArgs false

/-- No name of the list begins so. -/
def badAt : List UInt8 → Bool
  | 117 :: 110 :: 105 :: d :: _ => hexCs.contains d
  | 117 :: d :: _ => hexCs.contains d
  | _ => false
def noU : List UInt8 → Bool
  | [] => true
  | c :: l => (c != 32 || !badAt l) && noU l
theorem list_noU : noU listL = true := by decide +kernel
theorem noU_at : ∀ (l : List UInt8) (p : Nat) (r : List UInt8), noU l = true → l.drop p = 32 :: r → badAt r = false
  | [], p, r, _, h => by simp at h
  | c :: l, 0, r, h, hd => by
    simp only [List.drop_zero, List.cons.injEq] at hd
    obtain ⟨rfl, rfl⟩ := hd
    unfold noU at h
    simpa using (Bool.and_eq_true_iff.1 h).1
  | c :: l, p + 1, r, h, hd => by
    unfold noU at h
    exact noU_at l p r (Bool.and_eq_true_iff.1 h).2 (by simpa using hd)
theorem uniL_none (n : List UInt8) (h : ∀ t, badAt (n ++ 61 :: t) = true) : uniL n = none := by
  unfold uniL
  split
  · rfl
  · split
    · rename_i hc
      exfalso
      unfold Lib.cut at hc
      by_cases hi : 0 ≤ Lib.index listL (32 :: (n ++ [61]))
      · obtain ⟨t, ht⟩ := List.isPrefixOf_iff_prefix.1 (index_occ _ _ hi)
        have this : badAt ((n ++ [61]) ++ t) = false := noU_at listL _ _ list_noU ht.symm
        rw [List.append_assoc] at this
        rw [show ([61] : List UInt8) ++ t = 61 :: t from rfl, h t] at this
        cases this
      · rw [if_neg hi] at hc; cases hc
    · rfl
def hx (n : Nat) : UInt8 := if n < 10 then UInt8.ofNat (48 + n) else UInt8.ofNat (55 + n)
theorem hx_hex : ∀ n : Fin 16, hexCs.contains (hx n.val) = true ∧ dig ((hx n.val).toNat : Int) = n.val ∧ hx n.val ≠ 46 ∧ hx n.val ≠ 95 ∧ hx n.val ≠ 110 := by decide
theorem hx_ok {n : Nat} (h : n < 16) : hexCs.contains (hx n) = true ∧ dig ((hx n).toNat : Int) = n ∧ hx n ≠ 46 ∧ hx n ≠ 95 ∧ hx n ≠ 110 := hx_hex ⟨n, h⟩
def h4 (a b c d : Nat) : List UInt8 := [hx a, hx b, hx c, hx d]
theorem h4_all {a b c d : Nat} (ha : a < 16) (hb : b < 16) (hc : c < 16) (hd : d < 16) : hexAll (h4 a b c d) = true := by
  unfold hexAll h4
  simp only [List.all_cons, List.all_nil, (hx_ok ha).1, (hx_ok hb).1, (hx_ok hc).1, (hx_ok hd).1]; rfl
theorem h4_val {a b c d : Nat} (ha : a < 16) (hb : b < 16) (hc : c < 16) (hd : d < 16) : hexv (bytesOf (asB (h4 a b c d))) = (((a * 16 + b) * 16 + c) * 16 + d : Nat) := by
  have e : bytesOf (asB (h4 a b c d)) = [((hx a).toNat : Int), ((hx b).toNat : Int), ((hx c).toNat : Int), ((hx d).toNat : Int)] := rfl
  rw [e]
  unfold hexv
  simp only [List.foldl_cons, List.foldl_nil, (hx_ok ha).2.1, (hx_ok hb).2.1, (hx_ok hc).2.1, (hx_ok hd).2.1]
  push_cast; omega
theorem asB_list (l : List UInt8) : (asB l).data.toList = l := rfl
theorem asB_size (l : List UInt8) : (asB l).size = l.length := by rw [← data_length]; rfl
theorem h4_num {a b c d : Nat} (ha : a < 16) (hb : b < 16) (hc : c < 16) (hd : d < 16) : numB (asB (h4 a b c d)) = goodB ((((a * 16 + b) * 16 + c) * 16 + d : Nat) : Int) := by
  unfold numB
  rw [h4_val ha hb hc hd, asB_list, h4_all ha hb hc hd, Bool.true_and]
def want (r : Nat) : List Int := if goodB (r : Int) = true then [(r : Int)] else []
theorem one_bad (l : List UInt8) (h : hexAll (110 :: l) = true) : False := by
  unfold hexAll at h
  simp only [List.all_cons, Bool.and_eq_true] at h
  exact absurd h.1 (by decide)
theorem oneB_n (l : List UInt8) : oneB (asB (117 :: 110 :: l)) = false := by
  have e : tailU (asB (117 :: 110 :: l)) = asB (110 :: l) := rfl
  unfold oneB
  rw [e]
  have : numB (asB (110 :: l)) = false := by
    unfold numB
    rw [asB_list]
    cases h : hexAll (110 :: l) with
    | true => exact (one_bad l h).elim
    | false => rfl
  rw [this]
  simp
theorem uniL_u (n : Nat) (h : n < 16) (l : List UInt8) (hl : l ≠ []) : uniL (117 :: hx n :: l) = none := by
  refine uniL_none _ (fun t => ?_)
  obtain ⟨h1, _, _, _, h5⟩ := hx_ok h
  obtain ⟨e, l', rfl⟩ : ∃ e l', l = e :: l' := by
    cases l with
    | nil => exact absurd rfl hl
    | cons e l' => exact ⟨e, l', rfl⟩
  show badAt (117 :: hx n :: e :: (l' ++ 61 :: t)) = true
  unfold badAt
  split
  · rename_i heq
    simp only [List.cons.injEq] at heq
    exact absurd heq.2.1 h5
  · rename_i heq
    simp only [List.cons.injEq] at heq
    rw [← heq.2.1]; exact h1
  · rename_i h6 h7
    exact absurd rfl (h7 _ _)
theorem uniL_uni (n : Nat) (h : n < 16) (l : List UInt8) : uniL (117 :: 110 :: 105 :: hx n :: l) = none := by
  refine uniL_none _ (fun t => ?_)
  show badAt (117 :: 110 :: 105 :: hx n :: (l ++ 61 :: t)) = true
  exact (hx_ok h).1
def val4 (a b c d : Nat) : Nat := ((a * 16 + b) * 16 + c) * 16 + d
theorem part_uni {a b c d : Nat} (ha : a < 16) (hb : b < 16) (hc : c < 16) (hd : d < 16) : partR (asB (117 :: 110 :: 105 :: h4 a b c d)) = want (val4 a b c d) := by
  unfold partR
  rw [asB_list, show (117 :: 110 :: 105 :: h4 a b c d) = 117 :: 110 :: 105 :: hx a :: [hx b, hx c, hx d] from rfl, uniL_uni a ha]
  have e : tailUni (asB (117 :: 110 :: 105 :: hx a :: [hx b, hx c, hx d])) = asB (h4 a b c d) := rfl
  have hf : foursR (asB (117 :: 110 :: 105 :: hx a :: [hx b, hx c, hx d])) = if numB (asB (h4 a b c d)) = true then some [hexv (bytesOf (asB (h4 a b c d)))] else none := by
    unfold foursR
    rw [e, asB_size, show (h4 a b c d).length = 4 from rfl, if_pos ⟨rfl, by decide, by decide⟩]
    show foursL 1 (h4 a b c d) = _
    unfold foursL
    show (if numB (asB (h4 a b c d)) = true then (foursL 0 []).map (hexv (bytesOf (asB (h4 a b c d))) :: ·) else none) = _
    rfl
  rw [hf, h4_num ha hb hc hd, h4_val ha hb hc hd, oneB_n]
  unfold want val4
  split <;> rfl
theorem part_u {a b c d : Nat} (ha : a < 16) (hb : b < 16) (hc : c < 16) (hd : d < 16) : partR (asB (117 :: h4 a b c d)) = want (val4 a b c d) := by
  unfold partR
  rw [asB_list, show (117 :: h4 a b c d) = 117 :: hx a :: [hx b, hx c, hx d] from rfl, uniL_u a ha _ (by simp)]
  have hp : Lib.hasPrefix (117 :: hx a :: [hx b, hx c, hx d]) [117, 110, 105] = false := by
    cases h : Lib.hasPrefix (117 :: hx a :: [hx b, hx c, hx d]) [117, 110, 105] with
    | false => rfl
    | true =>
      unfold Lib.hasPrefix at h
      simp [List.isPrefixOf] at h
      exact absurd h.1.symm (hx_ok ha).2.2.2.2
  have hf : foursR (asB (117 :: hx a :: [hx b, hx c, hx d])) = none := by
    unfold foursR
    rw [asB_list, hp, if_neg (fun h => by cases h.1)]
  have e : tailU (asB (117 :: hx a :: [hx b, hx c, hx d])) = asB (h4 a b c d) := rfl
  have ho : oneB (asB (117 :: hx a :: [hx b, hx c, hx d])) = numB (asB (h4 a b c d)) := by
    unfold oneB
    rw [e, asB_size]
    rfl
  rw [hf, ho, e, h4_num ha hb hc hd, h4_val ha hb hc hd]
  rfl
theorem part_uni3 {b c d : Nat} (hb : b < 16) : partR (asB (117 :: 110 :: 105 :: [hx b, hx c, hx d])) = [] := by
  unfold partR
  rw [asB_list, uniL_uni b hb]
  have hf : foursR (asB (117 :: 110 :: 105 :: [hx b, hx c, hx d])) = none := by
    unfold foursR
    have e : tailUni (asB (117 :: 110 :: 105 :: [hx b, hx c, hx d])) = asB [hx b, hx c, hx d] := rfl
    rw [e, asB_size, if_neg (fun h => absurd h.2.2 (by simp))]
  rw [hf, oneB_n]; rfl
theorem part_u3 {b c d : Nat} (hb : b < 16) : partR (asB (117 :: [hx b, hx c, hx d])) = [] := by
  unfold partR
  rw [asB_list, uniL_u b hb _ (by simp)]
  have hp : Lib.hasPrefix (117 :: [hx b, hx c, hx d]) [117, 110, 105] = false := by
    cases h : Lib.hasPrefix (117 :: [hx b, hx c, hx d]) [117, 110, 105] with
    | false => rfl
    | true =>
      unfold Lib.hasPrefix at h
      simp [List.isPrefixOf] at h
      exact absurd h.1.symm (hx_ok hb).2.2.2.2
  have hf : foursR (asB (117 :: [hx b, hx c, hx d])) = none := by
    unfold foursR
    rw [asB_list, hp, if_neg (fun h => by cases h.1)]
  have ho : oneB (asB (117 :: [hx b, hx c, hx d])) = false := by
    unfold oneB
    have e : tailU (asB (117 :: [hx b, hx c, hx d])) = asB [hx b, hx c, hx d] := rfl
    rw [e, asB_size]
    rfl
  rw [hf, ho]; rfl
theorem takeWhile_all {α : Type} (p : α → Bool) : ∀ l : List α, (∀ x ∈ l, p x = true) → l.takeWhile p = l
  | [], _ => rfl
  | x :: l, h => by rw [List.takeWhile_cons, if_pos (h x (List.mem_cons_self ..)), takeWhile_all p l (fun y hy => h y (List.mem_cons_of_mem _ hy))]
theorem spl_one : ∀ l : List UInt8, (∀ x ∈ l, x ≠ 95) → spl l = [l]
  | [], _ => rfl
  | x :: l, h => by
    unfold spl
    rw [if_neg (h x (List.mem_cons_self ..)), spl_one l (fun y hy => h y (List.mem_cons_of_mem _ hy))]
theorem uni_twice {a b c d : Nat} (ha : a < 16) (hb : b < 16) (hc : c < 16) (hd : d < 16) : uniAll (117 :: 110 :: 105 :: (h4 a b c d ++ h4 a b c d)) = want (val4 a b c d) ++ want (val4 a b c d) := by
  have A := hx_ok ha; have B := hx_ok hb; have C := hx_ok hc; have D := hx_ok hd
  have hb1 : baseL (117 :: 110 :: 105 :: (h4 a b c d ++ h4 a b c d)) = 117 :: 110 :: 105 :: (h4 a b c d ++ h4 a b c d) := by
    refine takeWhile_all _ _ (fun x hx => ?_)
    simp only [h4, List.cons_append, List.nil_append, List.mem_cons, List.not_mem_nil, or_false] at hx
    rw [bne_iff_ne]
    rcases hx with rfl | rfl | rfl | rfl | rfl | rfl | rfl | rfl | rfl | rfl | rfl
    · decide
    · decide
    · decide
    · exact A.2.2.1
    · exact B.2.2.1
    · exact C.2.2.1
    · exact D.2.2.1
    · exact A.2.2.1
    · exact B.2.2.1
    · exact C.2.2.1
    · exact D.2.2.1
  have hs : spl (117 :: 110 :: 105 :: (h4 a b c d ++ h4 a b c d)) = [117 :: 110 :: 105 :: (h4 a b c d ++ h4 a b c d)] := by
    refine spl_one _ (fun x hx => ?_)
    simp only [h4, List.cons_append, List.nil_append, List.mem_cons, List.not_mem_nil, or_false] at hx
    rcases hx with rfl | rfl | rfl | rfl | rfl | rfl | rfl | rfl | rfl | rfl | rfl
    · decide
    · decide
    · decide
    · exact A.2.2.2.1
    · exact B.2.2.2.1
    · exact C.2.2.2.1
    · exact D.2.2.2.1
    · exact A.2.2.2.1
    · exact B.2.2.2.1
    · exact C.2.2.2.1
    · exact D.2.2.2.1
  unfold uniAll partsB partsL
  rw [hb1, if_neg (by simp), hs]
  rw [List.map_cons, List.map_nil, List.flatMap_cons, List.flatMap_nil, List.append_nil]
  unfold partR
  rw [asB_list, show (117 :: 110 :: 105 :: (h4 a b c d ++ h4 a b c d)) = 117 :: 110 :: 105 :: hx a :: [hx b, hx c, hx d, hx a, hx b, hx c, hx d] from rfl, uniL_uni a ha]
  have e : tailUni (asB (117 :: 110 :: 105 :: hx a :: [hx b, hx c, hx d, hx a, hx b, hx c, hx d])) = asB (h4 a b c d ++ h4 a b c d) := rfl
  have hf : foursR (asB (117 :: 110 :: 105 :: hx a :: [hx b, hx c, hx d, hx a, hx b, hx c, hx d])) = if numB (asB (h4 a b c d)) = true then some [hexv (bytesOf (asB (h4 a b c d))), hexv (bytesOf (asB (h4 a b c d)))] else none := by
    unfold foursR
    rw [e, asB_size, show (h4 a b c d ++ h4 a b c d).length = 8 from rfl, if_pos ⟨rfl, by decide, by decide⟩]
    show foursL 2 (h4 a b c d ++ h4 a b c d) = _
    unfold foursL
    show (if numB (asB (h4 a b c d)) = true then (foursL 1 (h4 a b c d)).map (hexv (bytesOf (asB (h4 a b c d))) :: ·) else none) = _
    unfold foursL
    show (if numB (asB (h4 a b c d)) = true then (if numB (asB (h4 a b c d)) = true then (foursL 0 []).map (hexv (bytesOf (asB (h4 a b c d))) :: ·) else none).map (hexv (bytesOf (asB (h4 a b c d))) :: ·) else none) = _
    by_cases hn : numB (asB (h4 a b c d)) = true
    · simp only [if_pos hn]; rfl
    · simp only [if_neg hn]
  rw [hf, h4_num ha hb hc hd, h4_val ha hb hc hd, oneB_n]
  unfold want val4
  split <;> rfl
end Go.Proofs.YtgdlmgdcoedfoaaGreatDoor.Agl
namespace Go.Proofs.YtgdlmgdcoedfoaaGreatDoor.Agl
open Go.RowKit Go.Proofs.YtgdlmgdcoedfoaaGreatDoorW.PrintWords Go.Proofs.YtgdlmgdcoedfoaaGreatDoorW.PrintLast Go.Proofs.YtgdlmgdcoedfoaaGreatDoorW.PrintMore
set_option linter.unusedVariables false
set_option linter.unusedSimpArgs false

theorem and_rng (x : Int) : 0 ≤ Go.bits .and .i64 x 65535 ∧ Go.bits .and .i64 x 65535 < 65536 := by
  have e : Go.bits .and .i64 x 65535 = (((BitVec.ofInt 64 x).toNat % 65536 : Nat) : Int) := by
    show IntKind.i64.wrap ((BitVec.ofInt 64 x &&& BitVec.ofInt 64 65535).toNat : Int) = _
    rw [BitVec.toNat_and, show (BitVec.ofInt 64 65535).toNat = 2 ^ 16 - 1 by decide, Nat.and_two_pow_sub_one_eq_mod, IntKind.wrap_i64]
    omega
  rw [e]; omega
theorem and15 (x : Int) (h0 : 0 ≤ x) (h1 : x < 65536) : Go.bits .and .i64 x 15 = x % 16 := by
  show IntKind.i64.wrap ((BitVec.ofInt 64 x &&& BitVec.ofInt 64 15).toNat : Int) = _
  rw [BitVec.toNat_and, show (BitVec.ofInt 64 15).toNat = 2 ^ 4 - 1 by decide, Nat.and_two_pow_sub_one_eq_mod, IntKind.wrap_i64, BitVec.toNat_ofInt]
  omega
theorem dig_str (n : Int) (h0 : 0 ≤ n) (h1 : n < 16) : (⟨#[48, 49, 50, 51, 52, 53, 54, 55, 56, 57, 65, 66, 67, 68, 69, 70]⟩ : ByteArray).extract n.toNat (n + 1).toNat = asB [hx n.toNat] := by
  have : ∀ k : Fin 16, ((⟨#[48, 49, 50, 51, 52, 53, 54, 55, 56, 57, 65, 66, 67, 68, 69, 70]⟩ : ByteArray).extract k.val (k.val + 1)).data.toList = [hx k.val] := by decide
  have h := this ⟨n.toNat, by omega⟩
  rw [show (n + 1).toNat = n.toNat + 1 by omega]
  apply ByteArray.ext
  apply Array.ext'
  exact h
theorem asB_app (a b : List UInt8) : asB a ++ asB b = asB (a ++ b) := by
  apply ByteArray.ext
  rw [ByteArray.data_append]
  apply Array.ext'
  simp [asB]
theorem same15e (A B : Option Addr) (c d : Nat) (l : List Int) (w : World) (hA : Kd.C (Kd.int .i64) w A l.length l) (hc : l.length ≤ c) (hB : Kd.C (Kd.int .i64) w B l.length l) (hd : l.length ≤ d) (hl : l.length ≤ 1000000) :
    Calls Tryz.prog 15 #[.slice A l.length c, .slice B l.length d] w fun e W' => e = .returned (.bool true) ∧ Below w.heap.size w W' := by
  have h := same15 A B c d l l w hA hc hB hd hl
  rwa [decide_eq_true rfl] at h
theorem part_told (s : ByteArray) (ws : List Int) (h : partR s = ws) (hs : s.size ≤ 100000) (ha : ∀ b ∈ s.data.toList, b.toNat < 128) (W : World) (hl : Laid W) :
    Calls Tryz.prog 16 #[.string s] W fun e W' => ∃ v : Value, e = .returned v ∧ Kd.R (Kd.int .i64) 3 W' W.heap.size (fun _ => True) v ws ∧ Below W.heap.size W W' := by
  subst h
  exact part16 s W hs (told_ascii s (by omega) (fun j b hb => ha b (List.mem_of_getElem? hb))) hl
theorem hx_ascii {n : Nat} (h : n < 16) : (hx n).toNat < 128 := by
  have : ∀ k : Fin 16, (hx k.val).toNat < 128 := by decide
  exact this ⟨n, h⟩
set_option maxHeartbeats 1000000 in
set_option maxRecDepth 100000 in
theorem loop7 (v : Int) (w : World) (hL : Laid w) : Calls Tryz.prog 7 #[.int .i64 v] w fun e W' => e = .returned (.bool true) ∧ Below w.heap.size w W' := by
  have HL := Aside0.mk hL
  have AW := Aside0.mk (awake9 w hL)
  obtain ⟨r, hr⟩ : ∃ r, Go.bits .and .i64 v 65535 = r := ⟨_, rfl⟩
  have hrr := and_rng v
  rw [hr] at hrr
  have q0 := and15 (r / 4096) (by omega) (by omega)
  have q1 := and15 (r / 256) (by omega) (by omega)
  have q2 := and15 (r / 16) (by omega) (by omega)
  have q3 := and15 r (by omega) (by omega)
  obtain ⟨a, ha⟩ : ∃ a, (r / 4096) % 16 = a := ⟨_, rfl⟩
  obtain ⟨b, hb⟩ : ∃ b, (r / 256) % 16 = b := ⟨_, rfl⟩
  obtain ⟨c, hc⟩ : ∃ c, (r / 16) % 16 = c := ⟨_, rfl⟩
  obtain ⟨d, hd⟩ : ∃ d, r % 16 = d := ⟨_, rfl⟩
  rw [ha] at q0; rw [hb] at q1; rw [hc] at q2; rw [hd] at q3
  have hval : val4 a.toNat b.toNat c.toNat d.toNat = r.toNat := by unfold val4; omega
  have a0 : 0 ≤ a := by omega
  have a1 : a < 16 := by omega
  have b0 : 0 ≤ b := by omega
  have b1 : b < 16 := by omega
  have c0 : 0 ≤ c := by omega
  have c1 : c < 16 := by omega
  have d0 : 0 ≤ d := by omega
  have d1 : d < 16 := by omega
  have HV := Aside0.mk hval; have HRR := Aside0.mk hrr
  have R0 := Aside0.mk (And.intro (And.intro a0 a1) (And.intro (And.intro b0 b1) (And.intro (And.intro c0 c1) (And.intro d0 d1))))
  have Q0 := Aside0.mk q0; have Q1 := Aside0.mk q1; have Q2 := Aside0.mk q2; have Q3 := Aside0.mk q3
  clear hL ha hb hc hd hval q0 q1 q2 q3 a0 a1 b0 b1 c0 c1 d0 d1
  obtain ⟨L, hLL⟩ : ∃ L, h4 a.toNat b.toNat c.toNat d.toNat = L := ⟨_, rfl⟩
  have HLL := Aside0.mk hLL
  clear hLL
  go_enter Tryz.func7, Tryz.ntmps7
  go_wp2_with (go_at_call 9; refine AW.out.mono ?_; rintro e W1 ⟨rfl, hb⟩; have HB1 := Aside0.mk hb; clear hb AW)
  clear hr
  go_loopw [6, 7] (fun z i wr => ∃ k : Nat, k ≤ 4 ∧ i = .int .i64 (12 - 4 * k) ∧ z = .string (asB (L.take k)) ∧ W1 = wr) (fun _ i _ => ((intOf i) + 4).toNat)
  case atStart => exact ⟨0, by omega, by first | rfl | simp, rfl, rfl⟩
  case round =>
    obtain ⟨k, hk, rfl, rfl, hw⟩ := hrel
    subst hw
    obtain ⟨⟨a0, a1⟩, ⟨b0, b1⟩, ⟨c0, c1⟩, d0, d1⟩ := R0.out
    rcases (show k = 0 ∨ k = 1 ∨ k = 2 ∨ k = 3 ∨ k = 4 by omega) with rfl | rfl | rfl | rfl | rfl
    · have q := Q0.out
      obtain ⟨x, hx⟩ : ∃ x, asB (L.take 0) = x := ⟨_, rfl⟩
      have hxs : x.size = 0 := by rw [← hx, asB_size]; rfl
      have hy := dig_str a a0 a1
      obtain ⟨y, hyy⟩ : ∃ y, asB [Agl.hx a.toNat] = y := ⟨_, rfl⟩
      have hys : y.size = 1 := by rw [← hyy, asB_size]; rfl
      have HX := Aside0.mk hx; have HY := Aside0.mk hyy
      rw [hx]
      rw [hyy] at hy
      clear hx hyy b0 b1 c0 c1 d0 d1
      go_wp2
      refine ⟨⟨1, by omega, by simp, ?_, trivial⟩, by simp [intOf]⟩
      rw [← HX.out, ← HY.out, asB_app, ← HLL.out]; rfl
    · have q := Q1.out
      obtain ⟨x, hx⟩ : ∃ x, asB (L.take 1) = x := ⟨_, rfl⟩
      have hxs : x.size = 1 := by rw [← hx, asB_size, ← HLL.out]; rfl
      have hy := dig_str b b0 b1
      obtain ⟨y, hyy⟩ : ∃ y, asB [Agl.hx b.toNat] = y := ⟨_, rfl⟩
      have hys : y.size = 1 := by rw [← hyy, asB_size]; rfl
      have HX := Aside0.mk hx; have HY := Aside0.mk hyy
      rw [hx]
      rw [hyy] at hy
      clear hx hyy a0 a1 c0 c1 d0 d1
      go_wp2
      refine ⟨⟨2, by omega, by simp, ?_, trivial⟩, by simp [intOf]⟩
      rw [← HX.out, ← HY.out, asB_app, ← HLL.out]; rfl
    · have q := Q2.out
      obtain ⟨x, hx⟩ : ∃ x, asB (L.take 2) = x := ⟨_, rfl⟩
      have hxs : x.size = 2 := by rw [← hx, asB_size, ← HLL.out]; rfl
      have hy := dig_str c c0 c1
      obtain ⟨y, hyy⟩ : ∃ y, asB [Agl.hx c.toNat] = y := ⟨_, rfl⟩
      have hys : y.size = 1 := by rw [← hyy, asB_size]; rfl
      have HX := Aside0.mk hx; have HY := Aside0.mk hyy
      rw [hx]
      rw [hyy] at hy
      clear hx hyy a0 a1 b0 b1 d0 d1
      go_wp2
      refine ⟨⟨3, by omega, by simp, ?_, trivial⟩, by simp [intOf]⟩
      rw [← HX.out, ← HY.out, asB_app, ← HLL.out]; rfl
    · have q := Q3.out
      obtain ⟨x, hx⟩ : ∃ x, asB (L.take 3) = x := ⟨_, rfl⟩
      have hxs : x.size = 3 := by rw [← hx, asB_size, ← HLL.out]; rfl
      have hy := dig_str d d0 d1
      obtain ⟨y, hyy⟩ : ∃ y, asB [Agl.hx d.toNat] = y := ⟨_, rfl⟩
      have hys : y.size = 1 := by rw [← hyy, asB_size]; rfl
      have HX := Aside0.mk hx; have HY := Aside0.mk hyy
      rw [hx]
      rw [hyy] at hy
      clear hx hyy a0 a1 b0 b1 c0 c1
      go_wp2
      refine ⟨⟨4, by omega, by simp, ?_, trivial⟩, by simp [intOf]⟩
      rw [← HX.out, ← HY.out, asB_app, ← HLL.out]; rfl
    · have ta : a.toNat < 16 := by omega
      have tb : b.toNat < 16 := by omega
      have tc : c.toNat < 16 := by omega
      have td : d.toNat < 16 := by omega
      have hv := HV.out
      have hrn : ((r.toNat : Nat) : Int) = r := by have := HRR.out; omega
      have hwant : want r.toNat = if goodB r = true then [r] else [] := by unfold want; rw [hrn]
      have asc : ∀ l : List UInt8, (∀ x ∈ l, x = 117 ∨ x = 110 ∨ x = 105 ∨ x = Agl.hx a.toNat ∨ x = Agl.hx b.toNat ∨ x = Agl.hx c.toNat ∨ x = Agl.hx d.toNat) → ∀ x ∈ l, x.toNat < 128 := by
        intro l h x hx
        rcases h x hx with rfl | rfl | rfl | rfl | rfl | rfl | rfl
        · decide
        · decide
        · decide
        · exact hx_ascii ta
        · exact hx_ascii tb
        · exact hx_ascii tc
        · exact hx_ascii td
      have p1 := part_uni ta tb tc td
      have p2 := part_u ta tb tc td
      have p3 := part_uni3 (c := c.toNat) (d := d.toNat) tb
      have p4 := part_u3 (c := c.toNat) (d := d.toNat) tb
      have p5 := uni_twice ta tb tc td
      rw [hv, hwant] at p1 p2 p5
      have P1 := Aside0.mk (part_told _ _ p1 (by rw [asB_size]; simp [h4]) (asc _ (by simp [h4, asB_list])))
      have P2 := Aside0.mk (part_told _ _ p2 (by rw [asB_size]; simp [h4]) (asc _ (by simp [h4, asB_list])))
      have P3 := Aside0.mk (part_told _ _ p3 (by rw [asB_size]; simp) (asc _ (by simp [asB_list])))
      have P4 := Aside0.mk (part_told _ _ p4 (by rw [asB_size]; simp) (asc _ (by simp [asB_list])))
      have P5 := Aside0.mk (fun W hl => uni18 (asB (117 :: 110 :: 105 :: (h4 a.toNat b.toNat c.toNat d.toNat ++ h4 a.toNat b.toNat c.toNat d.toNat))) W (by rw [asB_size]; simp [h4]) hl (told_parts _ (by rw [asB_size]; simp [h4]) (asc _ (by simp [h4, asB_list]))))
      rw [asB_list, p5] at P5
      have G := Aside0.mk (fun W => good24 r W)
      have sx : asB (L.take 4) = asB (h4 a.toNat b.toNat c.toNat d.toNat) := by rw [← HLL.out]; rfl
      have tx : (asB (h4 a.toNat b.toNat c.toNat d.toNat)).extract 1 4 = asB [Agl.hx b.toNat, Agl.hx c.toNat, Agl.hx d.toNat] := by
        apply ByteArray.ext; apply Array.ext'; rw [Lib.extract_data]; rfl
      have e1 : asB (117 :: 110 :: 105 :: h4 a.toNat b.toNat c.toNat d.toNat) = ⟨#[117, 110, 105]⟩ ++ asB (h4 a.toNat b.toNat c.toNat d.toNat) := (asB_app [117, 110, 105] _).symm
      have e2 : asB (117 :: h4 a.toNat b.toNat c.toNat d.toNat) = ⟨#[117]⟩ ++ asB (h4 a.toNat b.toNat c.toNat d.toNat) := (asB_app [117] _).symm
      have e3 : asB (117 :: 110 :: 105 :: [Agl.hx b.toNat, Agl.hx c.toNat, Agl.hx d.toNat]) = ⟨#[117, 110, 105]⟩ ++ asB [Agl.hx b.toNat, Agl.hx c.toNat, Agl.hx d.toNat] := (asB_app [117, 110, 105] _).symm
      have e4 : asB (117 :: [Agl.hx b.toNat, Agl.hx c.toNat, Agl.hx d.toNat]) = ⟨#[117]⟩ ++ asB [Agl.hx b.toNat, Agl.hx c.toNat, Agl.hx d.toNat] := (asB_app [117] _).symm
      have e5 : asB (117 :: 110 :: 105 :: (h4 a.toNat b.toNat c.toNat d.toNat ++ h4 a.toNat b.toNat c.toNat d.toNat)) = ⟨#[117, 110, 105]⟩ ++ asB (h4 a.toNat b.toNat c.toNat d.toNat) ++ asB (h4 a.toNat b.toNat c.toNat d.toNat) := by
        rw [show (⟨#[117, 110, 105]⟩ : ByteArray) = asB [117, 110, 105] from rfl, asB_app, asB_app]; rfl
      rw [e1] at P1; rw [e2] at P2; rw [e3] at P3; rw [e4] at P4; rw [e5] at P5
      have hS : (asB (h4 a.toNat b.toNat c.toNat d.toNat)).size = 4 := by rw [asB_size]; rfl
      have hT : (asB [Agl.hx b.toNat, Agl.hx c.toNat, Agl.hx d.toNat]).size = 3 := by rw [asB_size]; rfl
      obtain ⟨S, hSS⟩ : ∃ S, asB (h4 a.toNat b.toNat c.toNat d.toNat) = S := ⟨_, rfl⟩
      obtain ⟨T, hTT⟩ : ∃ T, asB [Agl.hx b.toNat, Agl.hx c.toNat, Agl.hx d.toNat] = T := ⟨_, rfl⟩
      rw [sx]
      rw [hSS] at P1 P2 P5 hS tx ⊢
      rw [hTT] at P3 P4 hT tx
      obtain ⟨gb, hgb⟩ : ∃ g, goodB r = g := ⟨_, rfl⟩
      rw [hgb] at P1 P2 P5 G
      clear hSS hTT hgb e1 e2 e3 e4 e5 sx p1 p2 p3 p4 p5 asc hv hrn hwant ta tb tc td a0 a1 b0 b1 c0 c1 d0 d1 HV R0 Q0 Q1 Q2 Q3 HLL HRR hrr hk
      have t1 := Aside0.mk True.intro; have t2 := Aside0.mk True.intro; have t3 := Aside0.mk True.intro; have t4 := Aside0.mk True.intro; have s1 := Aside0.mk True.intro; have s2 := Aside0.mk True.intro
      cases gb with
      | true =>
        rw [if_pos rfl] at P1 P2 P5
        have W0 := Aside0.mk (Below.alloc HB1.out HB1.out.size (.cells #[.int .i64 r] 3))
        have H0 := row_ints W1 [r] (by simp)
        have HR0 := Aside0.mk (show Kd.R (Kd.int .i64) 3 (W1.alloc (.cells #[.int .i64 r] 3)) W1.heap.size (fun _ => True) (.slice (some ⟨W1.heap.size, 0, none⟩) 1 1) [r] from H0)
        clear H0
        have HK0 : Aside0 (Kd.C (Kd.int .i64) (W1.alloc (.cells #[.int .i64 r] 3)) (some ⟨W1.heap.size, 0, none⟩) 1 [r]) := ⟨by
          obtain ⟨A, c, he, _, hC⟩ := Kd.R_reads HR0.out
          cases he
          exact hC⟩
        go_wp2_with (first
          | (go_at_call 24; refine (G.out _).mono ?_; rintro e W3 ⟨rfl, hb⟩; have HB3 := Aside0.mk (below_step W0.out hb); have HK3 := Aside0.mk (Kd.C_below HK0.out hb); clear hb)
          | (go_at_call 16; have tt := t1; clear tt t1; refine (P1.out W3 (HL.out.below HB3.out)).mono ?_; rintro e W4 ⟨v4, rfl, hR, hb⟩; obtain ⟨A4, c4, rfl, hc4, hC4⟩ := Kd.R_reads hR; have HC4 := Aside0.mk (And.intro hc4 hC4); have HB4 := Aside0.mk (below_step HB3.out hb); have HK4 := Aside0.mk (Kd.C_below HK3.out hb); clear hR hb hc4 hC4)
          | (go_at_call 15; have tt := s1; clear tt s1; go_loud (refine (same15e A4 (some ⟨W1.heap.size, 0, none⟩) c4 1 [r] W4 HC4.out.2 HC4.out.1 HK4.out (by simp) (by simp)).mono ?_; rintro e W5 ⟨rfl, hb⟩; have HB5 := Aside0.mk (below_step HB4.out hb); have HK5 := Aside0.mk (Kd.C_below HK4.out hb); clear hb))
          | (go_at_call 16; have tt := t2; clear tt t2; refine (P2.out W5 (HL.out.below HB5.out)).mono ?_; rintro e W6 ⟨v6, rfl, hR, hb⟩; obtain ⟨A6, c6, rfl, hc6, hC6⟩ := Kd.R_reads hR; have HC6 := Aside0.mk (And.intro hc6 hC6); have HB6 := Aside0.mk (below_step HB5.out hb); have HK6 := Aside0.mk (Kd.C_below HK5.out hb); clear hR hb hc6 hC6)
          | (go_at_call 15; have tt := s2; clear tt s2; go_loud (refine (same15e A6 (some ⟨W1.heap.size, 0, none⟩) c6 1 [r] W6 HC6.out.2 HC6.out.1 HK6.out (by simp) (by simp)).mono ?_; rintro e W7 ⟨rfl, hb⟩; have HB7 := Aside0.mk (below_step HB6.out hb); have HK7 := Aside0.mk (Kd.C_below HK6.out hb); clear hb))
          | (go_at_call 16; have tt := t3; clear tt t3; refine (P3.out W7 (HL.out.below HB7.out)).mono ?_; rintro e W8 ⟨v8, rfl, hR, hb⟩; obtain ⟨A8, c8, rfl⟩ := Kd.R_slice hR; have HB8 := Aside0.mk (below_step HB7.out hb); have HK8 := Aside0.mk (Kd.C_below HK7.out hb); clear hR hb)
          | (go_at_call 16; have tt := t4; clear tt t4; refine (P4.out W8 (HL.out.below HB8.out)).mono ?_; rintro e W9 ⟨v9, rfl, hR, hb⟩; obtain ⟨A9, c9, rfl⟩ := Kd.R_slice hR; have HB9 := Aside0.mk (below_step HB8.out hb); have HK9 := Aside0.mk (Kd.C_below HK8.out hb); clear hR hb)
          | (go_at_call 18; refine (P5.out W9 (HL.out.below HB9.out)).mono ?_; rintro e W10 ⟨v10, rfl, hR, hb⟩; obtain ⟨A10, c10, rfl, hc10, hC10⟩ := Kd.R_reads hR; have HC10 := Aside0.mk (And.intro hc10 hC10); have HB10 := Aside0.mk (below_step HB9.out hb); have HK10 := Aside0.mk (Kd.C_below HK9.out hb); clear hR hb hc10 hC10)
          | (go_at_call 26; go_loud (refine (twice26 (some ⟨W1.heap.size, 0, none⟩) 1 [r] W10 HK10.out (by simp)).mono ?_; rintro e W11 ⟨v11, rfl, hR, hb⟩; obtain ⟨A11, c11, rfl, hc11, hC11⟩ := Kd.R_reads hR; have HC11 := Aside0.mk (And.intro hc11 hC11); have HB11 := Aside0.mk (below_step HB10.out hb); have HCC := Aside0.mk (Kd.C_below HC10.out.2 hb); clear hR hb hc11 hC11))
          | (go_at_call 15; go_loud (refine (same15e A10 A11 c10 c11 ([r] ++ [r]) W11 HCC.out HC10.out.1 HC11.out.2 HC11.out.1 (by simp)).mono ?_; rintro e W12 ⟨rfl, hb⟩; have HB12 := Aside0.mk (below_step HB11.out hb); clear hb)))
        go_ret
        exact ⟨rfl, HB12.out⟩
      | false =>
        rw [if_neg (by decide)] at P1 P2 P5
        have W0 := Aside0.mk (Below.alloc HB1.out HB1.out.size (.cells #[.int .i64 r] 3))
        go_wp2_with (first
          | (go_at_call 24; refine (G.out _).mono ?_; rintro e W3 ⟨rfl, hb⟩; have HB3 := Aside0.mk (below_step W0.out hb); clear hb)
          | (go_at_call 16; have tt := t1; clear tt t1; refine (P1.out W3 (HL.out.below HB3.out)).mono ?_; rintro e W4 ⟨v4, rfl, hR, hb⟩; obtain ⟨A4, c4, rfl, hc4, hC4⟩ := Kd.R_reads hR; have HC4 := Aside0.mk (And.intro hc4 hC4); have HB4 := Aside0.mk (below_step HB3.out hb); clear hR hb hc4 hC4)
          | (go_at_call 15; have tt := s1; clear tt s1; go_loud (refine (same15e A4 none c4 0 [] W4 HC4.out.2 HC4.out.1 (Kd.C_nil _ _) (by simp) (by simp)).mono ?_; rintro e W5 ⟨rfl, hb⟩; have HB5 := Aside0.mk (below_step HB4.out hb); clear hb))
          | (go_at_call 16; have tt := t2; clear tt t2; refine (P2.out W5 (HL.out.below HB5.out)).mono ?_; rintro e W6 ⟨v6, rfl, hR, hb⟩; obtain ⟨A6, c6, rfl, hc6, hC6⟩ := Kd.R_reads hR; have HC6 := Aside0.mk (And.intro hc6 hC6); have HB6 := Aside0.mk (below_step HB5.out hb); clear hR hb hc6 hC6)
          | (go_at_call 15; have tt := s2; clear tt s2; go_loud (refine (same15e A6 none c6 0 [] W6 HC6.out.2 HC6.out.1 (Kd.C_nil _ _) (by simp) (by simp)).mono ?_; rintro e W7 ⟨rfl, hb⟩; have HB7 := Aside0.mk (below_step HB6.out hb); clear hb))
          | (go_at_call 16; have tt := t3; clear tt t3; refine (P3.out W7 (HL.out.below HB7.out)).mono ?_; rintro e W8 ⟨v8, rfl, hR, hb⟩; obtain ⟨A8, c8, rfl⟩ := Kd.R_slice hR; have HB8 := Aside0.mk (below_step HB7.out hb); clear hR hb)
          | (go_at_call 16; have tt := t4; clear tt t4; refine (P4.out W8 (HL.out.below HB8.out)).mono ?_; rintro e W9 ⟨v9, rfl, hR, hb⟩; obtain ⟨A9, c9, rfl⟩ := Kd.R_slice hR; have HB9 := Aside0.mk (below_step HB8.out hb); clear hR hb)
          | (go_at_call 18; refine (P5.out W9 (HL.out.below HB9.out)).mono ?_; rintro e W10 ⟨v10, rfl, hR, hb⟩; obtain ⟨A10, c10, rfl, hc10, hC10⟩ := Kd.R_reads hR; have HC10 := Aside0.mk (And.intro hc10 hC10); have HB10 := Aside0.mk (below_step HB9.out hb); clear hR hb hc10 hC10)
          | (go_at_call 26; go_loud (refine (twice26 none 0 [] W10 (Kd.C_nil _ _) (by simp)).mono ?_; rintro e W11 ⟨v11, rfl, hR, hb⟩; obtain ⟨A11, c11, rfl, hc11, hC11⟩ := Kd.R_reads hR; have HC11 := Aside0.mk (And.intro hc11 hC11); have HB11 := Aside0.mk (below_step HB10.out hb); have HCC := Aside0.mk (Kd.C_below HC10.out.2 hb); clear hR hb hc11 hC11))
          | (go_at_call 15; go_loud (refine (same15e A10 A11 c10 c11 ([] ++ []) W11 HCC.out HC10.out.1 HC11.out.2 HC11.out.1 (by simp)).mono ?_; rintro e W12 ⟨rfl, hb⟩; have HB12 := Aside0.mk (below_step HB11.out hb); clear hb)))
        go_ret
        exact ⟨rfl, HB12.out⟩
end Go.Proofs.YtgdlmgdcoedfoaaGreatDoor.Agl
