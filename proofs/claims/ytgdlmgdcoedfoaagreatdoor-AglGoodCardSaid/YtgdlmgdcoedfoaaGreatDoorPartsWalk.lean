/- AglParts: the walk. -/
import Derived.Test.YtgdlmgdcoedfoaaGreatDoorPartsLaw
import Derived.Test.YtgdlmgdcoedfoaaGreatDoorHexWalk
namespace Go.Proofs.YtgdlmgdcoedfoaaGreatDoor.Agl
open Go.RowKit Go.Proofs.YtgdlmgdcoedfoaaGreatDoorW.PrintWords Go.Proofs.YtgdlmgdcoedfoaaGreatDoorW.PrintLast Go.Proofs.YtgdlmgdcoedfoaaGreatDoorW.PrintMore
set_option linter.unusedVariables false
set_option linter.unusedSimpArgs false

theorem asB_of (s : ByteArray) : asB s.data.toList = s := by
  apply ByteArray.ext; exact Array.toArray_toList
theorem list_point (a r : ByteArray) : (a ++ ⟨#[46]⟩ ++ r).data.toList = a.data.toList ++ 46 :: r.data.toList := by
  rw [ByteArray.data_append, ByteArray.data_append]; simp
theorem list_both (a r : ByteArray) : (a ++ ⟨#[95]⟩ ++ r).data.toList = a.data.toList ++ 95 :: r.data.toList := by
  rw [ByteArray.data_append, ByteArray.data_append]; simp
theorem uni18a (s : ByteArray) (W : World) (hs : s.size ≤ 100000) (hl : Laid W) : Calls Tryz.prog 18 #[.string s] W fun e W' => ∃ v, e = .returned v ∧ Kd.R (Kd.int .i64) 3 W' W.heap.size (fun _ => True) v (uniAll s.data.toList) ∧ Below W.heap.size W W' :=
  uni18 s W hs hl (told_all s hs)
theorem same15b (A B : Option Addr) (c d : Nat) (l : List Int) (w : World) (hl : l.length ≤ 1000000) (hA : Kd.C (Kd.int .i64) w A l.length l) (hc : l.length ≤ c) (hB : Kd.C (Kd.int .i64) w B l.length l) (hd : l.length ≤ d) :
    Calls Tryz.prog 15 #[.slice A l.length c, .slice B l.length d] w fun e W' => e = .returned (.bool true) ∧ Below w.heap.size w W' := same15e A B c d l w hA hc hB hd hl
set_option maxHeartbeats 1000000 in
set_option maxRecDepth 100000 in
theorem parts5_same (a b rest : ByteArray) (w : World) (ha : a.size ≤ 100) (hb : b.size ≤ 100) (hr : rest.size ≤ 100) (hL : Laid w) (hno : asB (baseL a.data.toList) ≠ a ∨ a.data.toList = [] ∨ baseL b.data.toList = []) :
    Calls Tryz.prog 5 #[.string a, .string b, .string rest] w fun e W' => e = .returned (.bool true) ∧ Below w.heap.size w W' := by
  have HL := Aside0.mk hL
  have AW := Aside0.mk (awake9 w hL)
  clear hL
  have h1 : ¬ (100 : Int) < (a.size : Int) := by omega
  have h2 : ¬ (100 : Int) < (b.size : Int) := by omega
  have h3 : ¬ (100 : Int) < (rest.size : Int) := by omega
  have hz1 : ¬ 9223372036854775807 < a.size + 1 := by omega
  have hz2 : ¬ 9223372036854775807 < a.size + 1 + rest.size := by omega
  have hX : (a ++ ⟨#[46]⟩ ++ rest).size ≤ 201 := by rw [ByteArray.size_append, ByteArray.size_append]; show a.size + 1 + rest.size ≤ 201; omega
  have UX := Aside0.mk (fun W hl => uni18a (a ++ ⟨#[46]⟩ ++ rest) W (by omega) hl)
  rw [list_point, uni_point] at UX
  have UA := Aside0.mk (fun W hl => uni18a a W (by omega) hl)
  have hM := uniAll_len2 a.data.toList (by rw [data_length]; omega)
  have BA := Aside0.mk (fun W hl => base10 a W (by omega) hl)
  have BB := Aside0.mk (fun W hl => base10 b W (by omega) hl)
  obtain ⟨M, hMM⟩ : ∃ M, uniAll a.data.toList = M := ⟨_, rfl⟩
  rw [hMM] at UX UA hM
  have SM := Aside0.mk (fun (A B : Option Addr) (c d : Nat) W => same15b A B c d M W (by omega))
  have t1 := Aside0.mk True.intro
  clear hMM hX hM ha hb hr
  by_cases e1 : asB (baseL a.data.toList) = a
  · rw [e1] at BA
    by_cases e2 : a.data.toList = []
    · have he : a.toList.isEmpty = true := by rw [List.isEmpty_iff, ByteArray.toList_eq]; exact e2
      clear hno e1 e2
      go_enter Tryz.func5, Tryz.ntmps5
      go_wp2_with (first
        | (go_at_call 9; refine AW.out.mono ?_; rintro e W1 ⟨rfl, hb⟩; have HB1 := Aside0.mk hb; clear hb AW)
        | (go_at_call 18; have tt := t1; clear tt t1; refine (UX.out W1 (HL.out.below HB1.out)).mono ?_; rintro e W2 ⟨v2, rfl, hR, hb⟩; obtain ⟨A2, c2, rfl, hc2, hC2⟩ := Kd.R_reads hR; have HK2 := Aside0.mk (And.intro hc2 hC2); have HB2 := Aside0.mk (below_step HB1.out hb); clear hR hb hc2 hC2)
        | (go_at_call 18; refine (UA.out W2 (HL.out.below HB2.out)).mono ?_; rintro e W3 ⟨v3, rfl, hR, hb⟩; obtain ⟨A3, c3, rfl, hc3, hC3⟩ := Kd.R_reads hR; have HK3 := Aside0.mk (And.intro hc3 hC3); have HB3 := Aside0.mk (below_step HB2.out hb); have HJ2 := Aside0.mk (Kd.C_below HK2.out.2 hb); clear hR hb hc3 hC3)
        | (go_at_call 15; refine (SM.out A2 A3 c2 c3 W3 HJ2.out HK2.out.1 HK3.out.2 HK3.out.1).mono ?_; rintro e W4 ⟨rfl, hb⟩; have HB4 := Aside0.mk (below_step HB3.out hb); clear hb)
        | (go_at_call 10; refine (BA.out W4 (HL.out.below HB4.out)).mono ?_; rintro e W5 ⟨rfl, hb⟩; have HB5 := Aside0.mk (below_step HB4.out hb); clear hb))
      go_ret
      exact ⟨rfl, HB5.out⟩
    · have he : a.toList.isEmpty = false := by rw [List.isEmpty_eq_false_iff, ByteArray.toList_eq]; exact e2
      have e3 : baseL b.data.toList = [] := by
        rcases hno with h | h | h
        · exact absurd e1 h
        · exact absurd h e2
        · exact h
      rw [e3] at BB
      obtain ⟨Y, hY⟩ : ∃ Y, asB [] = Y := ⟨_, rfl⟩
      have he2 : Y.toList.isEmpty = true := by rw [List.isEmpty_iff, ByteArray.toList_eq, ← hY]; rfl
      rw [hY] at BB
      have t2 := Aside0.mk True.intro
      clear hno e1 e2 e3 hY
      go_enter Tryz.func5, Tryz.ntmps5
      go_wp2_with (first
        | (go_at_call 9; refine AW.out.mono ?_; rintro e W1 ⟨rfl, hb⟩; have HB1 := Aside0.mk hb; clear hb AW)
        | (go_at_call 18; have tt := t1; clear tt t1; refine (UX.out W1 (HL.out.below HB1.out)).mono ?_; rintro e W2 ⟨v2, rfl, hR, hb⟩; obtain ⟨A2, c2, rfl, hc2, hC2⟩ := Kd.R_reads hR; have HK2 := Aside0.mk (And.intro hc2 hC2); have HB2 := Aside0.mk (below_step HB1.out hb); clear hR hb hc2 hC2)
        | (go_at_call 18; refine (UA.out W2 (HL.out.below HB2.out)).mono ?_; rintro e W3 ⟨v3, rfl, hR, hb⟩; obtain ⟨A3, c3, rfl, hc3, hC3⟩ := Kd.R_reads hR; have HK3 := Aside0.mk (And.intro hc3 hC3); have HB3 := Aside0.mk (below_step HB2.out hb); have HJ2 := Aside0.mk (Kd.C_below HK2.out.2 hb); clear hR hb hc3 hC3)
        | (go_at_call 15; refine (SM.out A2 A3 c2 c3 W3 HJ2.out HK2.out.1 HK3.out.2 HK3.out.1).mono ?_; rintro e W4 ⟨rfl, hb⟩; have HB4 := Aside0.mk (below_step HB3.out hb); clear hb)
        | (go_at_call 10; have tt := t2; clear tt t2; refine (BA.out W4 (HL.out.below HB4.out)).mono ?_; rintro e W5 ⟨rfl, hb⟩; have HB5 := Aside0.mk (below_step HB4.out hb); clear hb)
        | (go_at_call 10; refine (BB.out W5 (HL.out.below HB5.out)).mono ?_; rintro e W6 ⟨rfl, hb⟩; have HB6 := Aside0.mk (below_step HB5.out hb); clear hb))
      go_ret
      exact ⟨rfl, HB6.out⟩
  · obtain ⟨Y, hY⟩ : ∃ Y, asB (baseL a.data.toList) = Y := ⟨_, rfl⟩
    rw [hY] at BA e1
    have t2 := Aside0.mk True.intro
    have e5 : ¬ Y.toList = a.toList := fun h => e1 (by
      rw [ByteArray.toList_eq, ByteArray.toList_eq] at h
      rw [← asB_of Y, ← asB_of a, h])
    clear hno hY
    go_enter Tryz.func5, Tryz.ntmps5
    go_wp2_with (first
      | (go_at_call 9; refine AW.out.mono ?_; rintro e W1 ⟨rfl, hb⟩; have HB1 := Aside0.mk hb; clear hb AW)
      | (go_at_call 18; have tt := t1; clear tt t1; refine (UX.out W1 (HL.out.below HB1.out)).mono ?_; rintro e W2 ⟨v2, rfl, hR, hb⟩; obtain ⟨A2, c2, rfl, hc2, hC2⟩ := Kd.R_reads hR; have HK2 := Aside0.mk (And.intro hc2 hC2); have HB2 := Aside0.mk (below_step HB1.out hb); clear hR hb hc2 hC2)
      | (go_at_call 18; have tt := t2; clear tt t2; refine (UA.out W2 (HL.out.below HB2.out)).mono ?_; rintro e W3 ⟨v3, rfl, hR, hb⟩; obtain ⟨A3, c3, rfl, hc3, hC3⟩ := Kd.R_reads hR; have HK3 := Aside0.mk (And.intro hc3 hC3); have HB3 := Aside0.mk (below_step HB2.out hb); have HJ2 := Aside0.mk (Kd.C_below HK2.out.2 hb); clear hR hb hc3 hC3)
      | (go_at_call 15; refine (SM.out A2 A3 c2 c3 W3 HJ2.out HK2.out.1 HK3.out.2 HK3.out.1).mono ?_; rintro e W4 ⟨rfl, hb⟩; have HB4 := Aside0.mk (below_step HB3.out hb); clear hb)
      | (go_at_call 10; refine (BA.out W4 (HL.out.below HB4.out)).mono ?_; rintro e W5 ⟨rfl, hb⟩; have HB5 := Aside0.mk (below_step HB4.out hb); clear hb))
    go_ret
    exact ⟨rfl, HB5.out⟩
set_option maxHeartbeats 2000000 in
set_option maxRecDepth 100000 in
theorem parts5_both (a b rest : ByteArray) (w : World) (ha : a.size ≤ 100) (hb : b.size ≤ 100) (hr : rest.size ≤ 100) (hL : Laid w) (e1 : asB (baseL a.data.toList) = a) (e2 : a.data.toList ≠ []) (e3 : baseL b.data.toList ≠ []) :
    Calls Tryz.prog 5 #[.string a, .string b, .string rest] w fun e W' => e = .returned (.bool true) ∧ Below w.heap.size w W' := by
  have HL := Aside0.mk hL
  have AW := Aside0.mk (awake9 w hL)
  clear hL
  have h1 : ¬ (100 : Int) < (a.size : Int) := by omega
  have h2 : ¬ (100 : Int) < (b.size : Int) := by omega
  have h3 : ¬ (100 : Int) < (rest.size : Int) := by omega
  have hz1 : ¬ 9223372036854775807 < a.size + 1 := by omega
  have hz2 : ¬ 9223372036854775807 < a.size + 1 + rest.size := by omega
  have hz3 : ¬ 9223372036854775807 < a.size + 1 + b.size := by omega
  have hX : (a ++ ⟨#[46]⟩ ++ rest).size ≤ 201 := by rw [ByteArray.size_append, ByteArray.size_append]; show a.size + 1 + rest.size ≤ 201; omega
  have hX2 : (a ++ ⟨#[95]⟩ ++ b).size ≤ 201 := by rw [ByteArray.size_append, ByteArray.size_append]; show a.size + 1 + b.size ≤ 201; omega
  have eb : baseL a.data.toList = a.data.toList := by
    have := congrArg (fun s : ByteArray => s.data.toList) e1
    exact this
  have UX := Aside0.mk (fun W hl => uni18a (a ++ ⟨#[46]⟩ ++ rest) W (by omega) hl)
  rw [list_point, uni_point] at UX
  have UA := Aside0.mk (fun W hl => uni18a a W (by omega) hl)
  have UB := Aside0.mk (fun W hl => uni18a b W (by omega) hl)
  have UC := Aside0.mk (fun W hl => uni18a (a ++ ⟨#[95]⟩ ++ b) W (by omega) hl)
  rw [list_both, uni_both _ _ eb e2 e3] at UC
  have PA := Aside0.mk (fun W hl => parts13 a W (by omega) hl)
  have PB := Aside0.mk (fun W hl => parts13 b W (by omega) hl)
  have PC := Aside0.mk (fun W hl => parts13 (a ++ ⟨#[95]⟩ ++ b) W (by omega) hl)
  rw [list_both, parts_both _ _ eb e2 e3] at PC
  have hM := uniAll_len2 a.data.toList (by rw [data_length]; omega)
  have hN := uniAll_len2 b.data.toList (by rw [data_length]; omega)
  have BA := Aside0.mk (fun W hl => base10 a W (by omega) hl)
  have BB := Aside0.mk (fun W hl => base10 b W (by omega) hl)
  rw [e1] at BA
  have hpa := (partsB_len a.data.toList).1
  have hpb := (partsB_len b.data.toList).1
  rw [data_length] at hpa hpb
  obtain ⟨pa, hpaa⟩ : ∃ P, partsB a.data.toList = P := ⟨_, rfl⟩
  obtain ⟨pb, hpbb⟩ : ∃ P, partsB b.data.toList = P := ⟨_, rfl⟩
  rw [hpaa] at PA PC hpa
  rw [hpbb] at PB PC hpb
  obtain ⟨M, hMM⟩ : ∃ M, uniAll a.data.toList = M := ⟨_, rfl⟩
  obtain ⟨N, hNN⟩ : ∃ M, uniAll b.data.toList = M := ⟨_, rfl⟩
  rw [hMM] at UX UA UC hM
  rw [hNN] at UB UC hN
  obtain ⟨MN, hMN⟩ : ∃ x, M ++ N = x := ⟨_, rfl⟩
  have hMNl : MN.length ≤ 1000000 := by rw [← hMN, List.length_append]; omega
  rw [hMN] at UC
  have HMN := Aside0.mk (show [] ++ M ++ N = MN by rw [List.nil_append]; exact hMN)
  have SM := Aside0.mk (fun (A B : Option Addr) (c d : Nat) W => same15b A B c d M W (by omega))
  have SMN := Aside0.mk (fun (A B : Option Addr) (c d : Nat) W => same15b A B c d MN W hMNl)
  have he : a.toList.isEmpty = false := by rw [List.isEmpty_eq_false_iff, ByteArray.toList_eq]; exact e2
  obtain ⟨Y, hY⟩ : ∃ Y, asB (baseL b.data.toList) = Y := ⟨_, rfl⟩
  have he2 : Y.toList.isEmpty = false := by rw [List.isEmpty_eq_false_iff, ByteArray.toList_eq, ← hY]; exact e3
  rw [hY] at BB
  have H0 := Aside0.mk (fun W => row_ints W [] (by decide))
  have HN := Aside0.mk (And.intro hM hN)
  have hpa2 : (pa.length : Int) ≤ 101 := by omega
  have hpb2 : (pb.length : Int) ≤ 101 := by omega
  have hpl : (pa ++ pb).length = pa.length + pb.length := List.length_append
  obtain ⟨pc, hpc⟩ : ∃ x, pa ++ pb = x := ⟨_, rfl⟩
  rw [hpc] at hpl PC
  have HPL := Aside0.mk hpl
  have t1 := Aside0.mk True.intro
  have t2 := Aside0.mk True.intro
  have t3 := Aside0.mk True.intro
  have t4 := Aside0.mk True.intro
  have t5 := Aside0.mk True.intro
  have t6 := Aside0.mk True.intro
  have t7 := Aside0.mk True.intro
  have t8 := Aside0.mk True.intro
  have t9 := Aside0.mk True.intro
  clear hMM hNN hX hX2 hM hN ha hb hr hMN hMNl hpaa hpbb hpa hpb hpc hpl hY eb e1 e2 e3
  go_enter Tryz.func5, Tryz.ntmps5
  go_wp2_with (first
    | (go_at_call 9; refine AW.out.mono ?_; rintro e W1 ⟨rfl, hb⟩; have HB1 := Aside0.mk hb; clear hb AW)
    | (go_at_call 18; have tt := t1; clear tt t1; refine (UX.out W1 (HL.out.below HB1.out)).mono ?_; rintro e W2 ⟨v2, rfl, hR, hb⟩; obtain ⟨A2, c2, rfl, hc2, hC2⟩ := Kd.R_reads hR; have HK2 := Aside0.mk (And.intro hc2 hC2); have HB2 := Aside0.mk (below_step HB1.out hb); clear hR hb hc2 hC2)
    | (go_at_call 18; have tt := t2; clear tt t2; refine (UA.out W2 (HL.out.below HB2.out)).mono ?_; rintro e W3 ⟨v3, rfl, hR, hb⟩; obtain ⟨A3, c3, rfl, hc3, hC3⟩ := Kd.R_reads hR; have HK3 := Aside0.mk (And.intro hc3 hC3); have HB3 := Aside0.mk (below_step HB2.out hb); have HJ2 := Aside0.mk (Kd.C_below HK2.out.2 hb); clear hR hb hc3 hC3)
    | (go_at_call 15; have tt := t3; clear tt t3; refine (SM.out A2 A3 c2 c3 W3 HJ2.out HK2.out.1 HK3.out.2 HK3.out.1).mono ?_; rintro e W4 ⟨rfl, hb⟩; have HB4 := Aside0.mk (below_step HB3.out hb); clear hb)
    | (go_at_call 10; have tt := t4; clear tt t4; refine (BA.out W4 (HL.out.below HB4.out)).mono ?_; rintro e W5 ⟨rfl, hb⟩; have HB5 := Aside0.mk (below_step HB4.out hb); clear hb)
    | (go_at_call 10; refine (BB.out W5 (HL.out.below HB5.out)).mono ?_; rintro e W6 ⟨rfl, hb⟩; have HB6 := Aside0.mk (below_step HB5.out hb); clear hb)
    | (go_at_call 18; have tt := t5; clear tt t5; go_loud (refine (UA.out (W6.alloc (.cells #[] 3)) (HL.out.below (below_alloc HB6.out _))).mono ?_; rintro e W7 ⟨v7, rfl, hR, hb⟩; obtain ⟨A7, c7, rfl, hc7, hC7⟩ := Kd.R_reads hR; have HK7 := Aside0.mk hC7; have HO7 := Aside0.mk (Kd.R_below (H0.out W6) hb); have HB7 := Aside0.mk (below_step (Below.alloc (Below.refl _ _) (Nat.le_refl _) _) hb); clear hR hb hc7 hC7))
    | ((with_reducible refine gate_builtin (b := .append) (xs := #[.tmp 49, .tmp 51]) rfl ?_); at_builtin; go_loud (refine Kd.R_append_rows (Kd.int .i64) (w0 := W6) W6.heap.size rfl (.tmp 49) (.tmp 51) 22 3 (.int .i64 0) 8 rfl Tryz.underlying22 info3 rfl (by decide) (by omega) (.slice (some ⟨W6.heap.size, 0, none⟩) 0 0) [] M _ _ _ (fun _ => True) (fun _ => False) rfl rfl ?aO ?aR (fun _ _ h => h) (fun _ h => h.elim) ?aF ?aB ?aS ?aL ?_; (case aR => exact HK7.out); (case aB => exact HB7.out); (case aF => exact fun k hk => trivial); (case aO => exact HO7.out); (case aS => exact HB7.out.size); (case aL => have := HN.out; (try simp only [List.nil_append, List.length_nil]); omega); intro v8 w8 ho hb hg hat; have HO8 := Aside0.mk ho; have HB8 := Aside0.mk hb; clear ho hb hg hat))
    | (go_at_call 18; have tt := t6; clear tt t6; go_loud (refine (UB.out w8 (HL.out.below (below_step HB6.out HB8.out))).mono ?_; rintro e W9 ⟨v9, rfl, hR, hb⟩; obtain ⟨A9, c9, rfl, hc9, hC9⟩ := Kd.R_reads hR; have HK9 := Aside0.mk hC9; have HO9 := Aside0.mk (Kd.R_below HO8.out hb); have HB9 := Aside0.mk (below_step HB8.out hb); clear hR hb hc9 hC9))
    | ((with_reducible refine gate_builtin (b := .append) (xs := #[.tmp 53, .tmp 55]) rfl ?_); at_builtin; go_loud (refine Kd.R_append_rows (Kd.int .i64) (w0 := W6) W6.heap.size rfl (.tmp 53) (.tmp 55) 22 3 (.int .i64 0) 8 rfl Tryz.underlying22 info3 rfl (by decide) (by omega) v8 ([] ++ M) N _ _ _ (fun _ => True) (fun _ => False) rfl rfl ?aO ?aR (fun _ _ h => h) (fun _ h => h.elim) ?aF ?aB ?aS ?aL ?_; (case aR => exact HK9.out); (case aB => exact HB9.out); (case aF => exact fun k hk => trivial); (case aO => exact HO9.out); (case aS => exact HB9.out.size); (case aL => have := HN.out; (try simp only [List.nil_append, List.length_nil]); omega); intro v10 w10 ho hb hg hat; rw [HMN.out] at ho; obtain ⟨A10, c10, rfl, hc10, hC10⟩ := Kd.R_reads ho; have HK10 := Aside0.mk (And.intro hc10 hC10); have HB10 := Aside0.mk (below_step HB6.out hb); clear ho hb hg hat hc10 hC10))
    | (go_at_call 18; refine (UC.out w10 (HL.out.below HB10.out)).mono ?_; rintro e W11 ⟨v11, rfl, hR, hb⟩; obtain ⟨A11, c11, rfl, hc11, hC11⟩ := Kd.R_reads hR; have HK11 := Aside0.mk (And.intro hc11 hC11); have HB11 := Aside0.mk (below_step HB10.out hb); have HJ10 := Aside0.mk (Kd.C_below HK10.out.2 hb); clear hR hb hc11 hC11)
    | (go_at_call 15; refine (SMN.out A11 A10 c11 c10 W11 HK11.out.2 HK11.out.1 HJ10.out HK10.out.1).mono ?_; rintro e W12 ⟨rfl, hb⟩; have HB12 := Aside0.mk (below_step HB11.out hb); clear hb)
    | (go_at_call 13; have tt := t7; clear tt t7; refine (PC.out W12 (HL.out.below HB12.out)).mono ?_; rintro e W13 ⟨v13, rfl, hR, hb⟩; obtain ⟨A13, c13, rfl⟩ := Kd.R_slice hR; rw [HPL.out]; have HB13 := Aside0.mk (below_step HB12.out hb); clear hR hb)
    | (go_at_call 13; have tt := t8; clear tt t8; refine (PA.out W13 (HL.out.below HB13.out)).mono ?_; rintro e W14 ⟨v14, rfl, hR, hb⟩; obtain ⟨A14, c14, rfl⟩ := Kd.R_slice hR; have HB14 := Aside0.mk (below_step HB13.out hb); clear hR hb)
    | (go_at_call 13; refine (PB.out W14 (HL.out.below HB14.out)).mono ?_; rintro e W15 ⟨v15, rfl, hR, hb⟩; obtain ⟨A15, c15, rfl⟩ := Kd.R_slice hR; have HB15 := Aside0.mk (below_step HB14.out hb); clear hR hb))
  go_ret
  exact ⟨rfl, HB15.out⟩
set_option maxHeartbeats 1000000 in
set_option maxRecDepth 100000 in
theorem parts5 (a b rest : ByteArray) (w : World) (hL : Laid w) :
    Calls Tryz.prog 5 #[.string a, .string b, .string rest] w fun e W' => e = .returned (.bool true) ∧ Below w.heap.size w W' := by
  by_cases h1 : (100 : Int) < (a.size : Int)
  · have AW := Aside0.mk (awake9 w hL)
    clear hL
    go_enter Tryz.func5, Tryz.ntmps5
    go_wp2_with (go_at_call 9; refine AW.out.mono ?_; rintro e W1 ⟨rfl, hb⟩; have HB1 := Aside0.mk hb; clear hb AW)
    go_ret
    exact ⟨rfl, HB1.out⟩
  by_cases h2 : (100 : Int) < (b.size : Int)
  · have AW := Aside0.mk (awake9 w hL)
    clear hL
    go_enter Tryz.func5, Tryz.ntmps5
    go_wp2_with (go_at_call 9; refine AW.out.mono ?_; rintro e W1 ⟨rfl, hb⟩; have HB1 := Aside0.mk hb; clear hb AW)
    go_ret
    exact ⟨rfl, HB1.out⟩
  by_cases h3 : (100 : Int) < (rest.size : Int)
  · have AW := Aside0.mk (awake9 w hL)
    clear hL
    go_enter Tryz.func5, Tryz.ntmps5
    go_wp2_with (go_at_call 9; refine AW.out.mono ?_; rintro e W1 ⟨rfl, hb⟩; have HB1 := Aside0.mk hb; clear hb AW)
    go_ret
    exact ⟨rfl, HB1.out⟩
  by_cases e1 : asB (baseL a.data.toList) = a
  · by_cases e2 : a.data.toList = []
    · exact parts5_same a b rest w (by omega) (by omega) (by omega) hL (.inr (.inl e2))
    · by_cases e3 : baseL b.data.toList = []
      · exact parts5_same a b rest w (by omega) (by omega) (by omega) hL (.inr (.inr e3))
      · exact parts5_both a b rest w (by omega) (by omega) (by omega) hL e1 e2 e3
  · exact parts5_same a b rest w (by omega) (by omega) (by omega) hL (.inl e1)
end Go.Proofs.YtgdlmgdcoedfoaaGreatDoor.Agl
