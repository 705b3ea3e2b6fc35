/- strconv.ParseInt at base 16, 32 bits, of one to seven capital hex digits. strconv.ParseInt at base 16: the outer calls. agl.number: digits as a number. -/
import Derived.Test.YtgdlmgdcoedfoaaGreatDoorWMore
import Derived.Test.YtgdlmgdcoedfoaaGreatDoorWApart
import Derived.Test.YtgdlmgdcoedfoaaGreatDoorProg
import Derived.WalkKit
import Derived.BigCall
import Derived.IntWalk
import Derived.Outline
import Derived.OneCell
import Derived.KernelRfl
import Derived.Lib.ConvBytes
import Derived.Test.YtgdlmgdcoedfoaaGreatDoorShelf
import Derived.Shelf.Strings.SlTrimAscii
namespace Go.Proofs.YtgdlmgdcoedfoaaGreatDoor.Agl
open Go.RowKit Go.Proofs.YtgdlmgdcoedfoaaGreatDoorW.PrintWords Go.Proofs.YtgdlmgdcoedfoaaGreatDoorW.PrintLast Go.Proofs.YtgdlmgdcoedfoaaGreatDoorW.PrintMore
set_option linter.unusedVariables false
set_option linter.unusedSimpArgs false

/-- A capital hex digit; what it counts; what digits count. -/
def isHexU (c : Int) : Prop := (48 ≤ c ∧ c ≤ 57) ∨ (65 ≤ c ∧ c ≤ 70)
instance (c : Int) : Decidable (isHexU c) := by unfold isHexU; infer_instance
def dig (c : Int) : Int := if c ≤ 57 then c - 48 else c - 55
def hexv (l : List Int) : Int := l.foldl (fun v c => v * 16 + dig c) 0
theorem hexv_snoc (l : List Int) (c : Int) : hexv (l ++ [c]) = hexv l * 16 + dig c := by unfold hexv; rw [List.foldl_append]; rfl
theorem dig_rng {c : Int} (h : isHexU c) : 0 ≤ dig c ∧ dig c < 16 := by unfold isHexU at h; unfold dig; split <;> omega
theorem hexv_rng (l : List Int) (h : ∀ c ∈ l, isHexU c) : ∀ k, k ≤ l.length → 0 ≤ hexv (l.take k) ∧ hexv (l.take k) < (16 : Int) ^ k
  | 0, _ => by simp [hexv]
  | k + 1, hk => by
    obtain ⟨h0, h1⟩ := hexv_rng l h k (by omega)
    obtain ⟨d0, d1⟩ := dig_rng (h l[k] (List.getElem_mem _))
    rw [List.take_succ_eq_append_getElem (by omega), hexv_snoc, Int.pow_succ]
    omega
theorem pow16 : ∀ k : Nat, k ≤ 7 → (16 : Int) ^ k ≤ 268435456 := by decide
theorem or32 (c : Int) (h0 : 65 ≤ c) (h1 : c ≤ 70) : Go.bits .or .u8 c 32 = c + 32 := by
  have : c = 65 ∨ c = 66 ∨ c = 67 ∨ c = 68 ∨ c = 69 ∨ c = 70 := by omega
  rcases this with rfl | rfl | rfl | rfl | rfl | rfl <;> decide +kernel
set_option maxHeartbeats 4000000 in
set_option maxRecDepth 100000 in
theorem lower150 (c : Int) (W : World) : Calls Tryz.prog 150 #[.int .u8 c] W fun e W' => e = .returned (.int .u8 (Go.bits .or .u8 c 32)) ∧ W = W' := by
  go_enter Tryz.func150, Tryz.ntmps150
  go_wp2
  go_ret
  exact ⟨rfl, rfl⟩
set_option maxHeartbeats 8000000 in
set_option maxRecDepth 100000 in
theorem puint (s : ByteArray) (w : World) (h0 : 1 ≤ s.size) (h7 : s.size ≤ 7) (hx : ∀ c ∈ bytesOf s, isHexU c) :
    Calls Tryz.prog 134 #[.string s, .int .i64 16, .int .i64 32] w fun e W' => e = .returned (.tuple #[.int .u64 (hexv (bytesOf s)), .nilIface]) ∧ Below w.heap.size w W' := by
  have hl := bytesOf_length s
  have hne : s.toList.isEmpty = false := by
    rw [List.isEmpty_eq_false_iff, ByteArray.toList_eq]
    intro h
    have := data_length s
    rw [h] at this
    simp at this
    omega
  have kb := fun W => print_bytes (P := Tryz.prog) 9 54 5 Tryz.underlying9 Tryz.underlying54 Tryz.underlying5 s W
  have HX := Aside0.mk hx
  have HL := Aside0.mk hl
  clear hx hl
  go_enter Tryz.func134, Tryz.ntmps134
  go_wp2_with fail
  have hrd := bytes_reads w 5 s (by omega)
  have hbel := bytes_below (Below.refl w.heap.size w) (Nat.le_refl _) 5 s
  obtain ⟨W, hW⟩ : ∃ W, Lib.bytesWorld w 5 s = W := ⟨_, rfl⟩
  rw [hW] at hrd hbel ⊢
  have HRD := Aside0.mk hrd; have HBEL := Aside0.mk hbel
  clear hrd hbel hW kb
  go_loopw [12, 13, 101] (fun q n i wr => ∃ k : Nat, k ≤ s.size ∧ i = .int .i64 k ∧ n = .int .u64 (hexv ((bytesOf s).take k)) ∧ q = .bool false ∧ wr = W) (fun _ _ i _ => s.size - (intOf i).toNat)
  case atStart => exact ⟨0, Nat.zero_le _, rfl, rfl, rfl, rfl⟩
  case round =>
    obtain ⟨k, hk, rfl, rfl, rfl, rfl⟩ := hrel
    obtain ⟨v0, v1⟩ := hexv_rng (bytesOf s) HX.out k (by rw [HL.out]; exact hk)
    have v2 := pow16 k (by omega)
    by_cases hlt : k < s.size
    · have hkl : k < (bytesOf s).length := by rw [HL.out]; exact hlt
      have hc := HX.out (bytesOf s)[k] (List.getElem_mem _)
      have hst : hexv ((bytesOf s).take (k + 1)) = hexv ((bytesOf s).take k) * 16 + dig (bytesOf s)[k] := by rw [List.take_succ_eq_append_getElem hkl, hexv_snoc]
      have v3 := pow16 (k + 1) (by omega)
      obtain ⟨_, v4⟩ := hexv_rng (bytesOf s) HX.out (k + 1) (by omega)
      obtain ⟨ad, had, hcell⟩ := HRD.out.2.2 (by omega)
      cases had
      have cK : wr.cell? ⟨w.heap.size, k, none⟩ = some (.int .u8 (bytesOf s)[k]) := by
        have := hcell k hlt
        rw [add_plain] at this
        simpa [List.getD_eq_getElem?_getD, List.getElem?_eq_getElem hkl] using this
      obtain ⟨c, hcc⟩ : ∃ c, (bytesOf s)[k] = c := ⟨_, rfl⟩
      rw [hcc] at hc hst cK
      obtain ⟨v, hv⟩ : ∃ v, hexv ((bytesOf s).take k) = v := ⟨_, rfl⟩
      rw [hv] at hst v0 v1 ⊢
      have HV := Aside0.mk hv; have HST := Aside0.mk hst
      have v5 : v < 268435456 := by omega
      have v6 : v * 16 + dig c < 268435456 := by rw [← hst]; omega
      clear hv hst hcell hkl v1 v2 v3 v4 hcc
      by_cases h57 : c ≤ 57
      · have h48 : 48 ≤ c := by unfold isHexU at hc; omega
        have hd : dig c = c - 48 := by unfold dig; rw [if_pos h57]
        rw [hd] at v6
        clear hc
        go_wp2
        refine ⟨⟨k + 1, by omega, by go_num, by rw [HST.out, hd], rfl, trivial⟩, by simp [intOf]; omega⟩
      · have h65 : 65 ≤ c := by unfold isHexU at hc; omega
        have h70 : c ≤ 70 := by unfold isHexU at hc; omega
        have hd : dig c = c - 55 := by unfold dig; rw [if_neg h57]
        have ho := or32 c h65 h70
        rw [hd] at v6
        clear hc
        go_wp2_with (go_at_call 150; refine (lower150 c wr).mono ?_; rw [ho]; rintro e W' ⟨rfl, rfl⟩)
        refine ⟨⟨k + 1, by omega, by go_num, by rw [HST.out, hd]; congr 1; omega, rfl, trivial⟩, by simp [intOf]; omega⟩
    · obtain rfl : k = s.size := by omega
      have hall : (bytesOf s).take s.size = bytesOf s := List.take_of_length_le (by rw [HL.out]; exact Nat.le_refl _)
      rw [hall]
      go_wp2
      go_ret2
      exact ⟨rfl, HBEL.out⟩
end Go.Proofs.YtgdlmgdcoedfoaaGreatDoor.Agl
namespace Go.Proofs.YtgdlmgdcoedfoaaGreatDoor.Agl
open Go.RowKit Go.Proofs.YtgdlmgdcoedfoaaGreatDoorW.PrintWords Go.Proofs.YtgdlmgdcoedfoaaGreatDoorW.PrintLast Go.Proofs.YtgdlmgdcoedfoaaGreatDoorW.PrintMore
set_option linter.unusedVariables false
set_option linter.unusedSimpArgs false

set_option maxHeartbeats 400000 in
set_option maxRecDepth 100000 in
theorem pint (s : ByteArray) (w : World) (h0 : 1 ≤ s.size) (h7 : s.size ≤ 7) (hx : ∀ c ∈ bytesOf s, isHexU c) :
    Calls Tryz.prog 102 #[.string s, .int .i64 16, .int .i64 32] w fun e W' => e = .returned (.tuple #[.int .i64 (hexv (bytesOf s)), .nilIface]) ∧ Below w.heap.size w W' := by
  have hne : s.toList.isEmpty = false := by
    rw [List.isEmpty_eq_false_iff, ByteArray.toList_eq]
    intro h
    have := data_length s
    rw [h] at this
    simp at this
    omega
  have hl := bytesOf_length s
  obtain ⟨v0, v1⟩ := hexv_rng (bytesOf s) hx (bytesOf s).length (Nat.le_refl _)
  rw [List.take_length] at v0 v1
  have v2 := pow16 (bytesOf s).length (by omega)
  have PU := Aside0.mk (puint s w h0 h7 hx)
  have hlt : 0 < s.size := by omega
  have hc0 : ((s[0].toNat : Nat) : Int) = (bytesOf s)[0] := by simp [bytesOf]; rfl
  have hc := hx (bytesOf s)[0] (List.getElem_mem (by omega))
  rw [← hc0] at hc
  have h43 : ¬ ((s[0].toNat : Nat) : Int) = 43 := by intro h; rw [h] at hc; exact absurd hc (by decide)
  have h45 : ¬ ((s[0].toNat : Nat) : Int) = 45 := by intro h; rw [h] at hc; exact absurd hc (by decide)
  clear hc hc0 hx
  obtain ⟨v, hv⟩ : ∃ v, hexv (bytesOf s) = v := ⟨_, rfl⟩
  rw [hv] at PU v0 v1 ⊢
  clear hv hl
  have v3 : v < 268435456 := by omega
  clear v1 v2
  go_enter Tryz.func102, Tryz.ntmps102
  obtain ⟨c, hcc⟩ : ∃ c : Int, ((s[0].toNat : Nat) : Int) = c := ⟨_, rfl⟩
  go_upto_region 5 with fail
  rw [hcc] at h43 h45
  clear hcc hlt
  go_upto_region 11 with fail
  go_upto_region 12 with (go_at_call 134; refine PU.out.mono ?_; rintro e W' ⟨rfl, hb⟩)
  have HB := Aside0.mk hb
  clear hb PU h0 h7 hne h43 h45
  go_upto_region 14 with fail
  go_wp2
  go_ret2
  exact ⟨rfl, HB.out⟩
set_option maxHeartbeats 400000 in
set_option maxRecDepth 100000 in
/-- strconv.ParseInt(s, 16, 32). -/
theorem parse16 (s : ByteArray) (w : World) (h0 : 1 ≤ s.size) (h7 : s.size ≤ 7) (hx : ∀ c ∈ bytesOf s, isHexU c) :
    Calls Tryz.prog 76 #[.string s, .int .i64 16, .int .i64 32] w fun e W' => e = .returned (.tuple #[.int .i64 (hexv (bytesOf s)), .nilIface]) ∧ Below w.heap.size w W' := by
  have PI := Aside0.mk (pint s w h0 h7 hx)
  clear h0 h7 hx
  obtain ⟨v, hv⟩ : ∃ v, hexv (bytesOf s) = v := ⟨_, rfl⟩
  rw [hv] at PI ⊢
  clear hv
  go_enter Tryz.func76, Tryz.ntmps76
  go_wp2_with (go_at_call 102; refine PI.out.mono ?_; rintro e W' ⟨rfl, hb⟩; have HB := Aside0.mk hb; clear hb)
  go_ret2
  exact ⟨rfl, HB.out⟩
end Go.Proofs.YtgdlmgdcoedfoaaGreatDoor.Agl
namespace Go.Proofs.YtgdlmgdcoedfoaaGreatDoor.Agl
open Go.RowKit Go.Proofs.YtgdlmgdcoedfoaaGreatDoorW.PrintWords Go.Proofs.YtgdlmgdcoedfoaaGreatDoorW.PrintLast Go.Proofs.YtgdlmgdcoedfoaaGreatDoorW.PrintMore
set_option linter.unusedVariables false
set_option linter.unusedSimpArgs false

/-- A scalar value. -/
def goodB (r : Int) : Bool := decide (0 ≤ r ∧ r ≤ 1114111 ∧ (r < 55296 ∨ 57343 < r))
set_option maxHeartbeats 400000 in
set_option maxRecDepth 100000 in
theorem good24 (r : Int) (W : World) : Calls Tryz.prog 24 #[.int .i64 r] W fun e W' => e = .returned (.bool (goodB r)) ∧ Below W.heap.size W W' := by
  go_enter Tryz.func24, Tryz.ntmps24
  by_cases h0 : (0 : Int) ≤ r
  · by_cases h1 : r ≤ 1114111
    · by_cases h2 : r < 55296
      · go_wp2
        go_ret
        exact ⟨by unfold goodB; simp [h0, h1, h2], Below.refl _ _⟩
      · by_cases h3 : (57343 : Int) < r
        · go_wp2
          go_ret
          exact ⟨by unfold goodB; simp [h0, h1, h2, h3], Below.refl _ _⟩
        · go_wp2
          go_ret
          exact ⟨by unfold goodB; simp [h0, h1, h2, h3], Below.refl _ _⟩
    · go_wp2
      go_ret
      exact ⟨by unfold goodB; simp; omega, Below.refl _ _⟩
  · go_wp2
    go_ret
    exact ⟨by unfold goodB; simp; omega, Below.refl _ _⟩
def hexCs : List UInt8 := [48, 49, 50, 51, 52, 53, 54, 55, 56, 57, 65, 66, 67, 68, 69, 70]
/-- Are these capital hex digits, all of them? -/
def hexAll (l : List UInt8) : Bool := l.all (hexCs.contains ·)
theorem dropWhile_nil {α : Type} (p : α → Bool) : ∀ l : List α, l.dropWhile p = [] ↔ l.all p = true
  | [] => by simp
  | b :: l => by
    rw [List.dropWhile_cons, List.all_cons]
    cases p b with
    | true => simpa using dropWhile_nil p l
    | false => simp
theorem trim_nil (l : List UInt8) : Lib.trimS l hexCs = [] ↔ hexAll l = true := by
  unfold Lib.trimS Lib.trimLeftS Lib.trimRightS hexAll
  rw [dropWhile_nil]
  constructor
  · intro h
    rw [List.all_eq_true] at h ⊢
    intro b hb
    by_cases hc : hexCs.contains b = true
    · exact hc
    · exfalso
      have hne : l.reverse.dropWhile (hexCs.contains ·) ≠ [] := by
        intro h0
        rw [dropWhile_nil, List.all_eq_true] at h0
        exact hc (h0 b (List.mem_reverse.2 hb))
      obtain ⟨c, t, ht⟩ := List.exists_cons_of_ne_nil hne
      have hc2 : ¬ hexCs.contains c = true := by
        have := List.head?_dropWhile_not (hexCs.contains ·) l.reverse
        rw [ht] at this
        simpa using this
      exact hc2 (h c (by rw [ht]; simp))
  · intro h
    have h2 : l.reverse.dropWhile (hexCs.contains ·) = [] := by
      rw [dropWhile_nil, List.all_reverse]; exact h
    rw [h2]; rfl
theorem hexAll_U {s : ByteArray} (h : hexAll s.data.toList = true) : ∀ c ∈ bytesOf s, isHexU c := by
  intro c hc
  unfold bytesOf at hc
  obtain ⟨b, hb, rfl⟩ := List.mem_map.1 hc
  have h1 := List.all_eq_true.1 h b hb
  have h2 : ∀ x ∈ hexCs, isHexU (x.toNat : Int) := by decide
  exact h2 b (List.contains_iff_mem.1 h1)
theorem trim83 (s : ByteArray) (w : World) (hs : s.size ≤ 9223372036854775807) :
    Calls Tryz.prog 83 #[.string s, .string ⟨#[48, 49, 50, 51, 52, 53, 54, 55, 56, 57, 65, 66, 67, 68, 69, 70]⟩] w fun e w' => e = .returned (.string ⟨(Lib.trimS s.data.toList hexCs).toArray⟩) ∧ Below w.heap.size w w' :=
  Any.strings_Trim_laid Tryz.lays160 (by kernel_rfl) s ⟨#[48, 49, 50, 51, 52, 53, 54, 55, 56, 57, 65, 66, 67, 68, 69, 70]⟩ w hs (by decide) (ascii_of_all (by decide))
/-- What number tells. -/
def numV (s : ByteArray) : Int := if hexAll s.data.toList = true then hexv (bytesOf s) else 0
def numB (s : ByteArray) : Bool := hexAll s.data.toList && goodB (hexv (bytesOf s))
set_option maxHeartbeats 400000 in
set_option maxRecDepth 100000 in
theorem number55 (s : ByteArray) (w : World) (h0 : 1 ≤ s.size) (h7 : s.size ≤ 7) :
    Calls Tryz.prog 55 #[.string s] w fun e W' => e = .returned (.tuple #[.int .i64 (numV s), .bool (numB s)]) ∧ Below w.heap.size w W' := by
  have TR := Aside0.mk (trim83 s w (by omega))
  go_enter Tryz.func55, Tryz.ntmps55
  by_cases hx : hexAll s.data.toList = true
  · have ht := (trim_nil s.data.toList).2 hx
    have hv : numV s = hexv (bytesOf s) := if_pos hx
    have hb : numB s = goodB (hexv (bytesOf s)) := by unfold numB; rw [hx, Bool.true_and]
    have PA := Aside0.mk (fun W => parse16 s W h0 h7 (hexAll_U hx))
    rw [hv, hb]
    obtain ⟨v, hvv⟩ : ∃ v, hexv (bytesOf s) = v := ⟨_, rfl⟩
    rw [hvv] at PA ⊢
    have HT := Aside0.mk ht
    clear ht hv hb hvv hx
    go_wp2_with (first
      | (go_at_call 83; refine TR.out.mono ?_; rintro e W1 ⟨rfl, hb⟩; rw [HT.out]; have HB1 := Aside0.mk hb; clear hb)
      | (go_at_call 76; refine (PA.out W1).mono ?_; rintro e W2 ⟨rfl, hb⟩; have HB2 := Aside0.mk hb; clear hb)
      | (go_at_call 24; refine (good24 v W2).mono ?_; rintro e W3 ⟨rfl, hb⟩; have HB3 := Aside0.mk hb; clear hb))
    go_ret2
    exact ⟨rfl, below_step (below_step HB1.out HB2.out) HB3.out⟩
  · obtain ⟨t, ht⟩ : ∃ t, Lib.trimS s.data.toList hexCs = t := ⟨_, rfl⟩
    have hne : t ≠ [] := fun h => hx ((trim_nil s.data.toList).1 (ht.trans h))
    have hv : numV s = 0 := if_neg hx
    have hb : numB s = false := by unfold numB; rw [Bool.eq_false_iff.2 hx, Bool.false_and]
    have hne2 : t.isEmpty = false := by rw [List.isEmpty_eq_false_iff]; exact hne
    rw [hv, hb]
    rw [ht] at TR
    clear hx ht hv hb hne
    go_wp2_with (go_at_call 83; refine TR.out.mono ?_; rintro e W1 ⟨rfl, hb⟩; have HB1 := Aside0.mk hb; clear hb)
    go_ret2
    exact ⟨rfl, HB1.out⟩
end Go.Proofs.YtgdlmgdcoedfoaaGreatDoor.Agl
