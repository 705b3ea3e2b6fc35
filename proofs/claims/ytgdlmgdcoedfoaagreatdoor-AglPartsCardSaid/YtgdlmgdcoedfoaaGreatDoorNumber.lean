/- agl.number: digits as a number. -/
import Derived.Test.YtgdlmgdcoedfoaaGreatDoorNum2
import Derived.Test.YtgdlmgdcoedfoaaGreatDoorShelf
import Derived.Shelf.Strings.SlTrimAscii
namespace Go.Proofs.YtgdlmgdcoedfoaaGreatDoor.Agl
open Go.RowKit Go.Proofs.YtgdlmgdcoedfoaaGreatDoorW.PrintWords Go.Proofs.YtgdlmgdcoedfoaaGreatDoorW.PrintLast Go.Proofs.YtgdlmgdcoedfoaaGreatDoorW.PrintMore
set_option linter.unusedVariables false
set_option linter.unusedSimpArgs false

/-- A scalar value. -/
def goodB (r : Int) : Bool := decide (0 ≤ r ∧ r ≤ 1114111 ∧ (r < 55296 ∨ 57343 < r))
set_option maxHeartbeats 400000 in
set_option maxRecDepth 100000 in
theorem good24 (r : Int) (W : World) : Calls Tryz.prog 24 #[.int .i64 r] W fun e W' => e = .returned (.bool (goodB r)) ∧ Below W.heap.size W W' := by
  go_enter Tryz.func24, Tryz.ntmps24
  by_cases h0 : (0 : Int) ≤ r
  · by_cases h1 : r ≤ 1114111
    · by_cases h2 : r < 55296
      · go_wp2
        go_ret
        exact ⟨by unfold goodB; simp [h0, h1, h2], Below.refl _ _⟩
      · by_cases h3 : (57343 : Int) < r
        · go_wp2
          go_ret
          exact ⟨by unfold goodB; simp [h0, h1, h2, h3], Below.refl _ _⟩
        · go_wp2
          go_ret
          exact ⟨by unfold goodB; simp [h0, h1, h2, h3], Below.refl _ _⟩
    · go_wp2
      go_ret
      exact ⟨by unfold goodB; simp; omega, Below.refl _ _⟩
  · go_wp2
    go_ret
    exact ⟨by unfold goodB; simp; omega, Below.refl _ _⟩
def hexCs : List UInt8 := [48, 49, 50, 51, 52, 53, 54, 55, 56, 57, 65, 66, 67, 68, 69, 70]
/-- Are these capital hex digits, all of them? -/
def hexAll (l : List UInt8) : Bool := l.all (hexCs.contains ·)
theorem dropWhile_nil {α : Type} (p : α → Bool) : ∀ l : List α, l.dropWhile p = [] ↔ l.all p = true
  | [] => by simp
  | b :: l => by
    rw [List.dropWhile_cons, List.all_cons]
    cases p b with
    | true => simpa using dropWhile_nil p l
    | false => simp
theorem trim_nil (l : List UInt8) : Lib.trimS l hexCs = [] ↔ hexAll l = true := by
  unfold Lib.trimS Lib.trimLeftS Lib.trimRightS hexAll
  rw [dropWhile_nil]
  constructor
  · intro h
    rw [List.all_eq_true] at h ⊢
    intro b hb
    by_cases hc : hexCs.contains b = true
    · exact hc
    · exfalso
      have hne : l.reverse.dropWhile (hexCs.contains ·) ≠ [] := by
        intro h0
        rw [dropWhile_nil, List.all_eq_true] at h0
        exact hc (h0 b (List.mem_reverse.2 hb))
      obtain ⟨c, t, ht⟩ := List.exists_cons_of_ne_nil hne
      have hc2 : ¬ hexCs.contains c = true := by
        have := List.head?_dropWhile_not (hexCs.contains ·) l.reverse
        rw [ht] at this
        simpa using this
      exact hc2 (h c (by rw [ht]; simp))
  · intro h
    have h2 : l.reverse.dropWhile (hexCs.contains ·) = [] := by
      rw [dropWhile_nil, List.all_reverse]; exact h
    rw [h2]; rfl
theorem hexAll_U {s : ByteArray} (h : hexAll s.data.toList = true) : ∀ c ∈ bytesOf s, isHexU c := by
  intro c hc
  unfold bytesOf at hc
  obtain ⟨b, hb, rfl⟩ := List.mem_map.1 hc
  have h1 := List.all_eq_true.1 h b hb
  have h2 : ∀ x ∈ hexCs, isHexU (x.toNat : Int) := by decide
  exact h2 b (List.contains_iff_mem.1 h1)
theorem trim83 (s : ByteArray) (w : World) (hs : s.size ≤ 9223372036854775807) :
    Calls Tryz.prog 83 #[.string s, .string ⟨#[48, 49, 50, 51, 52, 53, 54, 55, 56, 57, 65, 66, 67, 68, 69, 70]⟩] w fun e w' => e = .returned (.string ⟨(Lib.trimS s.data.toList hexCs).toArray⟩) ∧ Below w.heap.size w w' :=
  Any.strings_Trim_laid Tryz.lays160 (by kernel_rfl) s ⟨#[48, 49, 50, 51, 52, 53, 54, 55, 56, 57, 65, 66, 67, 68, 69, 70]⟩ w hs (by decide) (ascii_of_all (by decide))
/-- What number tells. -/
def numV (s : ByteArray) : Int := if hexAll s.data.toList = true then hexv (bytesOf s) else 0
def numB (s : ByteArray) : Bool := hexAll s.data.toList && goodB (hexv (bytesOf s))
set_option maxHeartbeats 400000 in
set_option maxRecDepth 100000 in
theorem number55 (s : ByteArray) (w : World) (h0 : 1 ≤ s.size) (h7 : s.size ≤ 7) :
    Calls Tryz.prog 55 #[.string s] w fun e W' => e = .returned (.tuple #[.int .i64 (numV s), .bool (numB s)]) ∧ Below w.heap.size w W' := by
  have TR := Aside0.mk (trim83 s w (by omega))
  go_enter Tryz.func55, Tryz.ntmps55
  by_cases hx : hexAll s.data.toList = true
  · have ht := (trim_nil s.data.toList).2 hx
    have hv : numV s = hexv (bytesOf s) := if_pos hx
    have hb : numB s = goodB (hexv (bytesOf s)) := by unfold numB; rw [hx, Bool.true_and]
    have PA := Aside0.mk (fun W => parse16 s W h0 h7 (hexAll_U hx))
    rw [hv, hb]
    obtain ⟨v, hvv⟩ : ∃ v, hexv (bytesOf s) = v := ⟨_, rfl⟩
    rw [hvv] at PA ⊢
    have HT := Aside0.mk ht
    clear ht hv hb hvv hx
    go_wp2_with (first
      | (go_at_call 83; refine TR.out.mono ?_; rintro e W1 ⟨rfl, hb⟩; rw [HT.out]; have HB1 := Aside0.mk hb; clear hb)
      | (go_at_call 76; refine (PA.out W1).mono ?_; rintro e W2 ⟨rfl, hb⟩; have HB2 := Aside0.mk hb; clear hb)
      | (go_at_call 24; refine (good24 v W2).mono ?_; rintro e W3 ⟨rfl, hb⟩; have HB3 := Aside0.mk hb; clear hb))
    go_ret2
    exact ⟨rfl, below_step (below_step HB1.out HB2.out) HB3.out⟩
  · obtain ⟨t, ht⟩ : ∃ t, Lib.trimS s.data.toList hexCs = t := ⟨_, rfl⟩
    have hne : t ≠ [] := fun h => hx ((trim_nil s.data.toList).1 (ht.trans h))
    have hv : numV s = 0 := if_neg hx
    have hb : numB s = false := by unfold numB; rw [Bool.eq_false_iff.2 hx, Bool.false_and]
    have hne2 : t.isEmpty = false := by rw [List.isEmpty_eq_false_iff]; exact hne
    rw [hv, hb]
    rw [ht] at TR
    clear hx ht hv hb hne
    go_wp2_with (go_at_call 83; refine TR.out.mono ?_; rintro e W1 ⟨rfl, hb⟩; have HB1 := Aside0.mk hb; clear hb)
    go_ret2
    exact ⟨rfl, HB1.out⟩
end Go.Proofs.YtgdlmgdcoedfoaaGreatDoor.Agl
