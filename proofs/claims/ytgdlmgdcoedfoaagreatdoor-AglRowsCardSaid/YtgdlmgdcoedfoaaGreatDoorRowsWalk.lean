/- AglRows: the walk. -/
import Derived.Test.YtgdlmgdcoedfoaaGreatDoorRowsLaw
import Derived.Test.YtgdlmgdcoedfoaaGreatDoorHexWalk
namespace Go.Proofs.YtgdlmgdcoedfoaaGreatDoor.Agl
open Go.RowKit Go.Proofs.YtgdlmgdcoedfoaaGreatDoorW.PrintWords Go.Proofs.YtgdlmgdcoedfoaaGreatDoorW.PrintLast Go.Proofs.YtgdlmgdcoedfoaaGreatDoorW.PrintMore
set_option linter.unusedVariables false
set_option linter.unusedSimpArgs false

theorem write_two_b (a b : List Int) (ha : a ≠ []) (hb : b ≠ []) : asB (writeL ([] ++ a ++ b)) = asB (writeL a) ++ ⟨#[95]⟩ ++ asB (writeL b) := by
  rw [List.nil_append, write_two a b ha hb, show (⟨#[95]⟩ : ByteArray) = asB [95] from rfl, asB_app, asB_app, List.append_assoc]; rfl
theorem write_nil_b (a b : List Int) (h : a = [] ∨ b = []) : asB (writeL ([] ++ a ++ b)) = asB (writeL a) ++ asB (writeL b) := by
  rw [List.nil_append, write_nilL a b h, asB_app]
theorem len_zero (l : List Int) : ((l.length : Int) = 0) ↔ l = [] := by
  rw [← List.length_eq_zero_iff]; omega
/-- A part of a written name is one value. -/
theorem part_one (l : List Int) : ∀ p ∈ partsB (writeL l), ∀ W, Laid W → Calls Tryz.prog 16 #[.string p] W fun e W' => ∃ (A : Option Addr) (c : Nat), e = .returned (.slice A 1 c) ∧ Below W.heap.size W W' := by
  intro p hp W hl
  have hl2 := partsB_len (writeL l)
  have hpp := hl2.2 p hp
  unfold partsB at hp
  rw [parts_of l _ (base_write l)] at hp
  obtain ⟨q, hq, rfl⟩ := List.mem_map.1 hp
  obtain ⟨r, hr, rfl⟩ := List.mem_map.1 hq
  have hn := namedL_len r
  refine (part_told (asB (namedL r)) [goodV r] (named_part r) (by rw [asB_size]; omega) (fun b hb => (named_bytes r).2 b hb |>.2.2) W hl).mono ?_
  rintro e W' ⟨v, rfl, hR, hb⟩
  obtain ⟨A, c, rfl⟩ := Kd.R_slice hR
  exact ⟨A, c, rfl, hb⟩
set_option maxHeartbeats 1000000 in
set_option maxRecDepth 100000 in
theorem rows6_a (A B : Option Addr) (c d : Nat) (m : List Int) (w : World) (hA : Kd.C (Kd.int .i64) w A 0 ([] : List Int)) (hc : 0 ≤ c) (hB : Kd.C (Kd.int .i64) w B m.length m) (hd : m.length ≤ d) (hL : Laid w) (hl10 : 0 ≤ 10) (hm10 : m.length ≤ 10) :
    Calls Tryz.prog 6 #[.slice A 0 c, .slice B m.length d] w fun e W' => e = .returned (.bool true) ∧ Below w.heap.size w W' := by
  have HL := Aside0.mk hL; have HA := Aside0.mk hA; have HB := Aside0.mk hB; have HAC := Aside0.mk hc; have HBC := Aside0.mk hd
  have AW := Aside0.mk (awake9 w hL)
  have LL := Aside0.mk (And.intro hl10 hm10)
  clear hL hA hB hc hd
  have h1 : ¬ (10 : Int) < (0 : Int) := by omega
  have h2 : ¬ (10 : Int) < (m.length : Int) := by omega
  have WA := Aside0.mk (fun W (hC : Kd.C (Kd.int .i64) W A 0 ([] : List Int)) hl => write22 A c ([] : List Int) W hC HAC.out (by have := LL.out; (try simp only [List.length_nil]); omega) hl)
  have WB := Aside0.mk (fun W (hC : Kd.C (Kd.int .i64) W B m.length m) hl => write22 B d m W hC HBC.out (by have := LL.out; (try simp only [List.length_nil]); omega) hl)
  try rw [List.length_nil] at WA
  try rw [List.length_nil] at WB
  have hll : ([] ++ ([] : List Int) ++ m).length = 0 + m.length := by simp
  have z0 : (writeL ([] ++ ([] : List Int) ++ m)).length ≤ 2220 := by
    have := writeL_len ([] ++ ([] : List Int) ++ m)
    omega
  have za := writeL_len ([] : List Int)
  have zb := writeL_len m
  try simp only [List.length_nil] at za zb
  have W0 := Aside0.mk (fun (A : Option Addr) (c : Nat) W (hC : Kd.C (Kd.int .i64) W A ([] ++ ([] : List Int) ++ m).length ([] ++ ([] : List Int) ++ m)) hc hl => write22 A c ([] ++ ([] : List Int) ++ m) W hC hc (by omega) hl)
  have P0 := Aside0.mk (fun W hl => parts13 (asB (writeL ([] ++ ([] : List Int) ++ m))) W (by rw [asB_size]; omega) hl)
  rw [asB_list] at P0
  have PO := Aside0.mk (part_one ([] ++ ([] : List Int) ++ m))
  have hpl : (partsB (writeL ([] ++ ([] : List Int) ++ m))).length = ([] ++ ([] : List Int) ++ m).length := by
    unfold partsB
    rw [parts_of _ _ (base_write _), List.length_map, List.length_map]
  obtain ⟨PB, hPB⟩ : ∃ P, partsB (writeL ([] ++ ([] : List Int) ++ m)) = P := ⟨_, rfl⟩
  rw [hPB] at P0 PO hpl
  have hza : (asB (writeL ([] : List Int))).size ≤ 1110 := by rw [asB_size]; omega
  have hzb : (asB (writeL m)).size ≤ 1110 := by rw [asB_size]; omega
  have hS := write_nil_b [] m (.inl rfl)
  obtain ⟨X, hX⟩ : ∃ X, asB (writeL ([] : List Int)) = X := ⟨_, rfl⟩
  rw [hX] at WA hS hza
  try rw [hX] at WB hzb
  obtain ⟨Y, hY⟩ : ∃ Y, asB (writeL m) = Y := ⟨_, rfl⟩
  try rw [hY] at WB hS hzb
  obtain ⟨S, hSS⟩ : ∃ X, asB (writeL ([] ++ ([] : List Int) ++ m)) = X := ⟨_, rfl⟩
  rw [hSS] at W0 P0 hS
  clear hSS
  subst hS
  have H0 := Aside0.mk (fun W => row_ints W [] (by decide))
  obtain ⟨lm, hlm⟩ : ∃ x, [] ++ ([] : List Int) ++ m = x := ⟨_, rfl⟩
  rw [hlm] at W0 hpl hll
  have HLM := Aside0.mk hlm; have HPL := Aside0.mk hpl; have HLL := Aside0.mk hll
  have LN : lm.length ≤ 20 := by have := LL.out; omega
  have HLN := Aside0.mk LN
  have t1 := Aside0.mk True.intro; have t2 := Aside0.mk True.intro
  clear hlm hpl hll LN z0 za zb hPB
  clear P0 PO HPL
  have hz1 : ¬ 9223372036854775807 < X.size + Y.size := by omega
  clear hza hzb hX hY
  go_enter Tryz.func6, Tryz.ntmps6
  go_wp2_with (first
    | (go_at_call 9; refine AW.out.mono ?_; rintro e W1 ⟨rfl, hb⟩; have HB1 := Aside0.mk hb; clear hb AW)
    | ((with_reducible refine gate_builtin (b := .append) (xs := #[.tmp 20, .tmp 21]) rfl ?_); at_builtin; go_loud (refine Kd.R_append_rows (Kd.int .i64) (w0 := W1) W1.heap.size rfl (.tmp 20) (.tmp 21) 22 3 (.int .i64 0) 8 rfl Tryz.underlying22 info3 rfl (by decide) (by omega) (.slice (some ⟨W1.heap.size, 0, none⟩) 0 0) [] ([] : List Int) _ _ _ (fun _ => True) (fun _ => False) rfl rfl ?aO ?aR (fun _ _ h => h) (fun _ h => h.elim) ?aF ?aB ?aS ?aL ?_; (case aR => exact Kd.C_below HA.out (below_alloc HB1.out _)); (case aB => exact Below.alloc (Below.refl _ _) (Nat.le_refl _) _); (case aF => exact fun k hk => trivial); (case aO => exact H0.out W1); (case aS => rw [World.size_alloc]; omega); (case aL => have := LL.out; (try simp only [List.nil_append, List.length_nil]); omega); intro v4 w4 ho hb hg hat; have HO := Aside0.mk ho; have HB4 := Aside0.mk hb; clear ho hb hg hat))
    | ((with_reducible refine gate_builtin (b := .append) (xs := #[.tmp 23, .tmp 24]) rfl ?_); at_builtin; go_loud (refine Kd.R_append_rows (Kd.int .i64) (w0 := W1) W1.heap.size rfl (.tmp 23) (.tmp 24) 22 3 (.int .i64 0) 8 rfl Tryz.underlying22 info3 rfl (by decide) (by omega) v4 ([] ++ ([] : List Int)) m _ _ _ (fun _ => True) (fun _ => False) rfl rfl ?aO ?aR (fun _ _ h => h) (fun _ h => h.elim) ?aF ?aB ?aS ?aL ?_; (case aR => exact Kd.C_below (Kd.C_below HB.out HB1.out) HB4.out); (case aB => exact HB4.out); (case aF => exact fun k hk => trivial); (case aO => exact HO.out); (case aS => exact HB4.out.size); (case aL => have := LL.out; (try simp only [List.nil_append, List.length_nil]); omega); intro v5 w5 ho hb hg hat; rw [HLM.out] at ho; obtain ⟨A5, c5, rfl, hc5, hC5⟩ := Kd.R_reads ho; have HK5 := Aside0.mk (And.intro hc5 hC5); have HB5 := Aside0.mk (below_step HB1.out hb); clear ho hb hg hat hc5 hC5))
    | (go_at_call 22; have tt := t1; clear tt t1; refine (W0.out A5 c5 w5 HK5.out.2 HK5.out.1 (HL.out.below HB5.out)).mono ?_; rintro e W6 ⟨rfl, hb⟩; have HB6 := Aside0.mk (below_step HB5.out hb); clear hb)
    | (go_at_call 22; have tt := t2; clear tt t2; refine (WA.out W6 (Kd.C_below HA.out HB6.out) (HL.out.below HB6.out)).mono ?_; rintro e W7 ⟨rfl, hb⟩; have HB7 := Aside0.mk (below_step HB6.out hb); clear hb)
    | (go_at_call 22; refine (WB.out W7 (Kd.C_below HB.out HB7.out) (HL.out.below HB7.out)).mono ?_; rintro e W8 ⟨rfl, hb⟩; have HB8 := Aside0.mk (below_step HB7.out hb); clear hb))
  go_ret
  exact ⟨rfl, HB8.out⟩
set_option maxHeartbeats 1000000 in
set_option maxRecDepth 100000 in
theorem rows6_b (A B : Option Addr) (c d : Nat) (l : List Int) (w : World) (hl0 : ¬ l = []) (hA : Kd.C (Kd.int .i64) w A l.length l) (hc : l.length ≤ c) (hB : Kd.C (Kd.int .i64) w B 0 ([] : List Int)) (hd : 0 ≤ d) (hL : Laid w) (hl10 : l.length ≤ 10) (hm10 : 0 ≤ 10) :
    Calls Tryz.prog 6 #[.slice A l.length c, .slice B 0 d] w fun e W' => e = .returned (.bool true) ∧ Below w.heap.size w W' := by
  have HL := Aside0.mk hL; have HA := Aside0.mk hA; have HB := Aside0.mk hB; have HAC := Aside0.mk hc; have HBC := Aside0.mk hd
  have AW := Aside0.mk (awake9 w hL)
  have LL := Aside0.mk (And.intro hl10 hm10)
  clear hL hA hB hc hd
  have h1 : ¬ (10 : Int) < (l.length : Int) := by omega
  have h2 : ¬ (10 : Int) < (0 : Int) := by omega
  have WA := Aside0.mk (fun W (hC : Kd.C (Kd.int .i64) W A l.length l) hl => write22 A c l W hC HAC.out (by have := LL.out; (try simp only [List.length_nil]); omega) hl)
  have WB := Aside0.mk (fun W (hC : Kd.C (Kd.int .i64) W B 0 ([] : List Int)) hl => write22 B d ([] : List Int) W hC HBC.out (by have := LL.out; (try simp only [List.length_nil]); omega) hl)
  try rw [List.length_nil] at WA
  try rw [List.length_nil] at WB
  have hll : ([] ++ l ++ ([] : List Int)).length = l.length + 0 := by simp
  have z0 : (writeL ([] ++ l ++ ([] : List Int))).length ≤ 2220 := by
    have := writeL_len ([] ++ l ++ ([] : List Int))
    omega
  have za := writeL_len l
  have zb := writeL_len ([] : List Int)
  try simp only [List.length_nil] at za zb
  have W0 := Aside0.mk (fun (A : Option Addr) (c : Nat) W (hC : Kd.C (Kd.int .i64) W A ([] ++ l ++ ([] : List Int)).length ([] ++ l ++ ([] : List Int))) hc hl => write22 A c ([] ++ l ++ ([] : List Int)) W hC hc (by omega) hl)
  have P0 := Aside0.mk (fun W hl => parts13 (asB (writeL ([] ++ l ++ ([] : List Int)))) W (by rw [asB_size]; omega) hl)
  rw [asB_list] at P0
  have PO := Aside0.mk (part_one ([] ++ l ++ ([] : List Int)))
  have hpl : (partsB (writeL ([] ++ l ++ ([] : List Int)))).length = ([] ++ l ++ ([] : List Int)).length := by
    unfold partsB
    rw [parts_of _ _ (base_write _), List.length_map, List.length_map]
  obtain ⟨PB, hPB⟩ : ∃ P, partsB (writeL ([] ++ l ++ ([] : List Int))) = P := ⟨_, rfl⟩
  rw [hPB] at P0 PO hpl
  have hza : (asB (writeL l)).size ≤ 1110 := by rw [asB_size]; omega
  have hzb : (asB (writeL ([] : List Int))).size ≤ 1110 := by rw [asB_size]; omega
  have hS := write_nil_b l [] (.inr rfl)
  obtain ⟨X, hX⟩ : ∃ X, asB (writeL l) = X := ⟨_, rfl⟩
  rw [hX] at WA hS hza
  try rw [hX] at WB hzb
  obtain ⟨Y, hY⟩ : ∃ Y, asB (writeL ([] : List Int)) = Y := ⟨_, rfl⟩
  try rw [hY] at WB hS hzb
  obtain ⟨S, hSS⟩ : ∃ X, asB (writeL ([] ++ l ++ ([] : List Int))) = X := ⟨_, rfl⟩
  rw [hSS] at W0 P0 hS
  clear hSS
  subst hS
  have H0 := Aside0.mk (fun W => row_ints W [] (by decide))
  obtain ⟨lm, hlm⟩ : ∃ x, [] ++ l ++ ([] : List Int) = x := ⟨_, rfl⟩
  rw [hlm] at W0 hpl hll
  have HLM := Aside0.mk hlm; have HPL := Aside0.mk hpl; have HLL := Aside0.mk hll
  have LN : lm.length ≤ 20 := by have := LL.out; omega
  have HLN := Aside0.mk LN
  have t1 := Aside0.mk True.intro; have t2 := Aside0.mk True.intro
  clear hlm hpl hll LN z0 za zb hPB
  clear P0 PO HPL
  have hz1 : ¬ 9223372036854775807 < X.size + Y.size := by omega
  clear hza hzb hX hY
  go_enter Tryz.func6, Tryz.ntmps6
  go_wp2_with (first
    | (go_at_call 9; refine AW.out.mono ?_; rintro e W1 ⟨rfl, hb⟩; have HB1 := Aside0.mk hb; clear hb AW)
    | ((with_reducible refine gate_builtin (b := .append) (xs := #[.tmp 20, .tmp 21]) rfl ?_); at_builtin; go_loud (refine Kd.R_append_rows (Kd.int .i64) (w0 := W1) W1.heap.size rfl (.tmp 20) (.tmp 21) 22 3 (.int .i64 0) 8 rfl Tryz.underlying22 info3 rfl (by decide) (by omega) (.slice (some ⟨W1.heap.size, 0, none⟩) 0 0) [] l _ _ _ (fun _ => True) (fun _ => False) rfl rfl ?aO ?aR (fun _ _ h => h) (fun _ h => h.elim) ?aF ?aB ?aS ?aL ?_; (case aR => exact Kd.C_below HA.out (below_alloc HB1.out _)); (case aB => exact Below.alloc (Below.refl _ _) (Nat.le_refl _) _); (case aF => exact fun k hk => trivial); (case aO => exact H0.out W1); (case aS => rw [World.size_alloc]; omega); (case aL => have := LL.out; (try simp only [List.nil_append, List.length_nil]); omega); intro v4 w4 ho hb hg hat; have HO := Aside0.mk ho; have HB4 := Aside0.mk hb; clear ho hb hg hat))
    | ((with_reducible refine gate_builtin (b := .append) (xs := #[.tmp 23, .tmp 24]) rfl ?_); at_builtin; go_loud (refine Kd.R_append_rows (Kd.int .i64) (w0 := W1) W1.heap.size rfl (.tmp 23) (.tmp 24) 22 3 (.int .i64 0) 8 rfl Tryz.underlying22 info3 rfl (by decide) (by omega) v4 ([] ++ l) ([] : List Int) _ _ _ (fun _ => True) (fun _ => False) rfl rfl ?aO ?aR (fun _ _ h => h) (fun _ h => h.elim) ?aF ?aB ?aS ?aL ?_; (case aR => exact Kd.C_below (Kd.C_below HB.out HB1.out) HB4.out); (case aB => exact HB4.out); (case aF => exact fun k hk => trivial); (case aO => exact HO.out); (case aS => exact HB4.out.size); (case aL => have := LL.out; (try simp only [List.nil_append, List.length_nil]); omega); intro v5 w5 ho hb hg hat; rw [HLM.out] at ho; obtain ⟨A5, c5, rfl, hc5, hC5⟩ := Kd.R_reads ho; have HK5 := Aside0.mk (And.intro hc5 hC5); have HB5 := Aside0.mk (below_step HB1.out hb); clear ho hb hg hat hc5 hC5))
    | (go_at_call 22; have tt := t1; clear tt t1; refine (W0.out A5 c5 w5 HK5.out.2 HK5.out.1 (HL.out.below HB5.out)).mono ?_; rintro e W6 ⟨rfl, hb⟩; have HB6 := Aside0.mk (below_step HB5.out hb); clear hb)
    | (go_at_call 22; have tt := t2; clear tt t2; refine (WA.out W6 (Kd.C_below HA.out HB6.out) (HL.out.below HB6.out)).mono ?_; rintro e W7 ⟨rfl, hb⟩; have HB7 := Aside0.mk (below_step HB6.out hb); clear hb)
    | (go_at_call 22; refine (WB.out W7 (Kd.C_below HB.out HB7.out) (HL.out.below HB7.out)).mono ?_; rintro e W8 ⟨rfl, hb⟩; have HB8 := Aside0.mk (below_step HB7.out hb); clear hb))
  go_ret
  exact ⟨rfl, HB8.out⟩
set_option maxHeartbeats 1000000 in
set_option maxRecDepth 100000 in
theorem rows6_c (A B : Option Addr) (c d : Nat) (l : List Int) (m : List Int) (w : World) (hl0 : ¬ l = []) (hm0 : ¬ m = []) (hA : Kd.C (Kd.int .i64) w A l.length l) (hc : l.length ≤ c) (hB : Kd.C (Kd.int .i64) w B m.length m) (hd : m.length ≤ d) (hL : Laid w) (hl10 : l.length ≤ 10) (hm10 : m.length ≤ 10) :
    Calls Tryz.prog 6 #[.slice A l.length c, .slice B m.length d] w fun e W' => e = .returned (.bool true) ∧ Below w.heap.size w W' := by
  have HL := Aside0.mk hL; have HA := Aside0.mk hA; have HB := Aside0.mk hB; have HAC := Aside0.mk hc; have HBC := Aside0.mk hd
  have AW := Aside0.mk (awake9 w hL)
  have LL := Aside0.mk (And.intro hl10 hm10)
  clear hL hA hB hc hd
  have h1 : ¬ (10 : Int) < (l.length : Int) := by omega
  have h2 : ¬ (10 : Int) < (m.length : Int) := by omega
  have WA := Aside0.mk (fun W (hC : Kd.C (Kd.int .i64) W A l.length l) hl => write22 A c l W hC HAC.out (by have := LL.out; (try simp only [List.length_nil]); omega) hl)
  have WB := Aside0.mk (fun W (hC : Kd.C (Kd.int .i64) W B m.length m) hl => write22 B d m W hC HBC.out (by have := LL.out; (try simp only [List.length_nil]); omega) hl)
  try rw [List.length_nil] at WA
  try rw [List.length_nil] at WB
  have hll : ([] ++ l ++ m).length = l.length + m.length := by simp
  have z0 : (writeL ([] ++ l ++ m)).length ≤ 2220 := by
    have := writeL_len ([] ++ l ++ m)
    omega
  have za := writeL_len l
  have zb := writeL_len m
  try simp only [List.length_nil] at za zb
  have W0 := Aside0.mk (fun (A : Option Addr) (c : Nat) W (hC : Kd.C (Kd.int .i64) W A ([] ++ l ++ m).length ([] ++ l ++ m)) hc hl => write22 A c ([] ++ l ++ m) W hC hc (by omega) hl)
  have P0 := Aside0.mk (fun W hl => parts13 (asB (writeL ([] ++ l ++ m))) W (by rw [asB_size]; omega) hl)
  rw [asB_list] at P0
  have PO := Aside0.mk (part_one ([] ++ l ++ m))
  have hpl : (partsB (writeL ([] ++ l ++ m))).length = ([] ++ l ++ m).length := by
    unfold partsB
    rw [parts_of _ _ (base_write _), List.length_map, List.length_map]
  obtain ⟨PB, hPB⟩ : ∃ P, partsB (writeL ([] ++ l ++ m)) = P := ⟨_, rfl⟩
  rw [hPB] at P0 PO hpl
  have hza : (asB (writeL l)).size ≤ 1110 := by rw [asB_size]; omega
  have hzb : (asB (writeL m)).size ≤ 1110 := by rw [asB_size]; omega
  have hS := write_two_b l m hl0 hm0
  obtain ⟨X, hX⟩ : ∃ X, asB (writeL l) = X := ⟨_, rfl⟩
  rw [hX] at WA hS hza
  try rw [hX] at WB hzb
  obtain ⟨Y, hY⟩ : ∃ Y, asB (writeL m) = Y := ⟨_, rfl⟩
  try rw [hY] at WB hS hzb
  obtain ⟨S, hSS⟩ : ∃ X, asB (writeL ([] ++ l ++ m)) = X := ⟨_, rfl⟩
  rw [hSS] at W0 P0 hS
  clear hSS
  subst hS
  have H0 := Aside0.mk (fun W => row_ints W [] (by decide))
  obtain ⟨lm, hlm⟩ : ∃ x, [] ++ l ++ m = x := ⟨_, rfl⟩
  rw [hlm] at W0 hpl hll
  have HLM := Aside0.mk hlm; have HPL := Aside0.mk hpl; have HLL := Aside0.mk hll
  have LN : lm.length ≤ 20 := by have := LL.out; omega
  have HLN := Aside0.mk LN
  have t1 := Aside0.mk True.intro; have t2 := Aside0.mk True.intro
  clear hlm hpl hll LN z0 za zb hPB
  have hb1 : ((l.length : Int) == 0) = false := beq_eq_false_iff_ne.2 (fun h => hl0 ((len_zero l).1 h))
  have hb2 : ((m.length : Int) == 0) = false := beq_eq_false_iff_ne.2 (fun h => hm0 ((len_zero m).1 h))
  have hz2 : ¬ 9223372036854775807 < X.size + 1 := by omega
  have hz3 : ¬ 9223372036854775807 < X.size + 1 + Y.size := by omega
  clear hza hzb hX hY
  go_enter Tryz.func6, Tryz.ntmps6
  go_wp2_with (first
    | (go_at_call 9; refine AW.out.mono ?_; rintro e W1 ⟨rfl, hb⟩; have HB1 := Aside0.mk hb; clear hb AW)
    | ((with_reducible refine gate_builtin (b := .append) (xs := #[.tmp 20, .tmp 21]) rfl ?_); at_builtin; go_loud (refine Kd.R_append_rows (Kd.int .i64) (w0 := W1) W1.heap.size rfl (.tmp 20) (.tmp 21) 22 3 (.int .i64 0) 8 rfl Tryz.underlying22 info3 rfl (by decide) (by omega) (.slice (some ⟨W1.heap.size, 0, none⟩) 0 0) [] l _ _ _ (fun _ => True) (fun _ => False) rfl rfl ?aO ?aR (fun _ _ h => h) (fun _ h => h.elim) ?aF ?aB ?aS ?aL ?_; (case aR => exact Kd.C_below HA.out (below_alloc HB1.out _)); (case aB => exact Below.alloc (Below.refl _ _) (Nat.le_refl _) _); (case aF => exact fun k hk => trivial); (case aO => exact H0.out W1); (case aS => rw [World.size_alloc]; omega); (case aL => have := LL.out; (try simp only [List.nil_append, List.length_nil]); omega); intro v4 w4 ho hb hg hat; have HO := Aside0.mk ho; have HB4 := Aside0.mk hb; clear ho hb hg hat))
    | ((with_reducible refine gate_builtin (b := .append) (xs := #[.tmp 23, .tmp 24]) rfl ?_); at_builtin; go_loud (refine Kd.R_append_rows (Kd.int .i64) (w0 := W1) W1.heap.size rfl (.tmp 23) (.tmp 24) 22 3 (.int .i64 0) 8 rfl Tryz.underlying22 info3 rfl (by decide) (by omega) v4 ([] ++ l) m _ _ _ (fun _ => True) (fun _ => False) rfl rfl ?aO ?aR (fun _ _ h => h) (fun _ h => h.elim) ?aF ?aB ?aS ?aL ?_; (case aR => exact Kd.C_below (Kd.C_below HB.out HB1.out) HB4.out); (case aB => exact HB4.out); (case aF => exact fun k hk => trivial); (case aO => exact HO.out); (case aS => exact HB4.out.size); (case aL => have := LL.out; (try simp only [List.nil_append, List.length_nil]); omega); intro v5 w5 ho hb hg hat; rw [HLM.out] at ho; obtain ⟨A5, c5, rfl, hc5, hC5⟩ := Kd.R_reads ho; have HK5 := Aside0.mk (And.intro hc5 hC5); have HB5 := Aside0.mk (below_step HB1.out hb); clear ho hb hg hat hc5 hC5))
    | (go_at_call 22; have tt := t1; clear tt t1; refine (W0.out A5 c5 w5 HK5.out.2 HK5.out.1 (HL.out.below HB5.out)).mono ?_; rintro e W6 ⟨rfl, hb⟩; have HB6 := Aside0.mk (below_step HB5.out hb); clear hb)
    | (go_at_call 13; go_loud (refine (P0.out W6 (HL.out.below HB6.out)).mono ?_; rintro e W7 ⟨v7, rfl, hR, hb⟩; obtain ⟨A7, c7, rfl, hc7, hC7⟩ := Kd.R_reads hR; rw [HPL.out]; have HC := Aside0.mk hC7; have HB7 := Aside0.mk (below_step HB6.out hb); clear hR hb hc7 hC7)))
  have HBB := Aside0.mk HB7.out
  go_loopw [9] (fun i wr => ∃ k : Nat, k ≤ lm.length ∧ i = .int .i64 k ∧ Below W7.heap.size W7 wr) (fun i _ => lm.length - (intOf i).toNat)
  case atStart => exact ⟨0, Nat.zero_le _, rfl, Below.refl _ _⟩
  case round =>
    obtain ⟨k, hk, rfl, hB⟩ := hrel
    have HBr := Aside0.mk hB
    clear hB
    by_cases hlt : k < lm.length
    · obtain ⟨ad, rfl, hcell0⟩ := Kd.at_string HC.out k (by omega) (by have := HPL.out; omega)
      have hmem : rdOf ByteArray.empty PB (k : Int) ∈ PB := by
        unfold rdOf; rw [List.getD_eq_getElem?_getD, Int.toNat_natCast, List.getElem?_eq_getElem (by have := HPL.out; omega)]; exact List.getElem_mem _
      have P := Aside0.mk (PO.out _ hmem wr (HL.out.below (below_step HB7.out HBr.out)))
      obtain ⟨x, hx⟩ : ∃ x, rdOf ByteArray.empty PB (k : Int) = x := ⟨_, rfl⟩
      rw [hx] at hcell0 P
      have hcell1 := cell_below hcell0 HBr.out
      rw [Int.toNat_natCast] at hcell1
      clear hcell0 hmem hx
      have hln := HLN.out
      go_wp2_with (go_at_call 16; refine P.out.mono ?_; rintro e W8 ⟨A8, c8, rfl, hb⟩; have HB8 := Aside0.mk hb; clear hb)
      exact ⟨⟨k + 1, by omega, by go_num, below_step HBr.out HB8.out⟩, by simp [intOf]; omega⟩
    · obtain rfl : k = lm.length := by omega
      have HB8 := Aside0.mk (below_step HB7.out HBr.out)
      go_wp2_with (first
        | (go_at_call 22; have tt := t2; clear tt t2; refine (WA.out wr (Kd.C_below HA.out HB8.out) (HL.out.below HB8.out)).mono ?_; rintro e W9 ⟨rfl, hb⟩; have HB9 := Aside0.mk (below_step HB8.out hb); clear hb)
        | (go_at_call 22; refine (WB.out W9 (Kd.C_below HB.out HB9.out) (HL.out.below HB9.out)).mono ?_; rintro e W10 ⟨rfl, hb⟩; have HB10 := Aside0.mk (below_step HB9.out hb); clear hb))
      go_ret
      exact ⟨rfl, HB10.out⟩
set_option maxHeartbeats 1000000 in
set_option maxRecDepth 100000 in
theorem rows6 (A B : Option Addr) (c d : Nat) (l m : List Int) (w : World) (hA : Kd.C (Kd.int .i64) w A l.length l) (hc : l.length ≤ c) (hB : Kd.C (Kd.int .i64) w B m.length m) (hd : m.length ≤ d) (hL : Laid w) :
    Calls Tryz.prog 6 #[.slice A l.length c, .slice B m.length d] w fun e W' => e = .returned (.bool true) ∧ Below w.heap.size w W' := by
  by_cases h1 : (10 : Int) < (l.length : Int)
  · have AW := Aside0.mk (awake9 w hL)
    clear hL hA hB hc hd
    go_enter Tryz.func6, Tryz.ntmps6
    go_wp2_with (go_at_call 9; refine AW.out.mono ?_; rintro e W1 ⟨rfl, hb⟩; have HB1 := Aside0.mk hb; clear hb AW)
    go_ret
    exact ⟨rfl, HB1.out⟩
  by_cases h2 : (10 : Int) < (m.length : Int)
  · have AW := Aside0.mk (awake9 w hL)
    clear hL hA hB hc hd
    go_enter Tryz.func6, Tryz.ntmps6
    go_wp2_with (go_at_call 9; refine AW.out.mono ?_; rintro e W1 ⟨rfl, hb⟩; have HB1 := Aside0.mk hb; clear hb AW)
    go_ret
    exact ⟨rfl, HB1.out⟩
  by_cases hl : l = []
  · subst hl
    exact rows6_a A B c d m w hA hc hB hd hL (by omega) (by omega)
  by_cases hm : m = []
  · subst hm
    exact rows6_b A B c d l w hl hA hc hB hd hL (by omega) (by omega)
  exact rows6_c A B c d l m w hl hm hA hc hB hd hL (by omega) (by omega)
end Go.Proofs.YtgdlmgdcoedfoaaGreatDoor.Agl
