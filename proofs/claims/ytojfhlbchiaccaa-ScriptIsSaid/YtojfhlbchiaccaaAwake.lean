/- hornbooklaw23.awake: two examples. -/
import Derived.Test.YtojfhlbchiaccaaPutW
import Derived.Test.YtojfhlbchiaccaaReader4
namespace Go.Proofs.Ytojfhlbchiaccaa.Reader
open Go.RowKit Go.Proofs.YtojfhlbchiaccaaW.PrintWords Go.Proofs.YtojfhlbchiaccaaW.PrintLast Go.Proofs.YtojfhlbchiaccaaW.PrintMore
attribute [local go_sem] max2_int min2_int max_two min_two max_three min_three max_four min_four   -- for this text's walks alone
set_option linter.unusedVariables false
set_option linter.unusedSimpArgs false

abbrev Q2 : Kd (ByteArray × ByteArray) := Kd.pair Kd.string Kd.string
theorem q2_open (w : World) (x : ByteArray × ByteArray) (cs : List Value) (h : Q2.K w x cs) : cs = [.string x.1, .string x.2] := by
  obtain ⟨_, _, rfl, rfl, rfl⟩ := h
  exact rfl
theorem q2_mkM (w : World) (base : Nat) (ok : Nat → Prop) (x : ByteArray × ByteArray) : Q2.M w base ok (id x) [.string x.1, .string x.2] := ⟨[.string x.1], [.string x.2], rfl, rfl, rfl⟩
theorem get_nil (W : World) : Calls Try.prog 16 #[.slice none 0 0] W fun e W' => ∃ (A0 A10 A11 : Option Addr) (c0 c10 c11 : Nat), e = .returned (.agg #[.slice A0 0 c0, .bool false, .int .i64 0, .string ⟨#[]⟩, .string ⟨#[]⟩, .string ⟨#[]⟩, .string ⟨#[]⟩, .bool false, .bool false, .bool false, .slice A10 0 c10, .slice A11 0 c11]) ∧
    Kd.C Q2 W' A0 0 [] ∧ Kd.C Tx W' A10 0 [] ∧ Kd.C Tx W' A11 0 [] ∧ Below W.heap.size W W' := by
  refine (get id Q2 rfl q2_mkM none 0 [] W (Kd.C_nil _ _) (Nat.le_refl _) (by simp)).mono ?_
  rintro e W' ⟨v0, v10, v11, rfl, h0, h10, h11, hb⟩
  have e0 : (resN (gN []) ([] : List Int).tail).map id = [] := rfl
  have e1 : lots (rstN 4 (gP []).tail.tail) = [] := rfl
  have e2 : lots (past (rstN 4 (gP []).tail.tail)) = [] := rfl
  rw [e0] at h0; rw [e1] at h10; rw [e2] at h11
  obtain ⟨A0, c0, rfl, _, g0⟩ := Kd.R_reads h0
  obtain ⟨A10, c10, rfl, _, g10⟩ := Kd.S_reads h10
  obtain ⟨A11, c11, rfl, _, g11⟩ := Kd.S_reads h11
  have d1 : fl ((gP ([] : List Int)).headD 0) 1 = false := by decide +kernel
  have d2 : fl ((gP ([] : List Int)).headD 0) 2 = false := by decide +kernel
  have d4 : fl ((gP ([] : List Int)).headD 0) 4 = false := by decide +kernel
  have d8 : fl ((gP ([] : List Int)).headD 0) 8 = false := by decide +kernel
  have db : (gP ([] : List Int)).tail.headD 0 = 0 := by decide +kernel
  have t0 : txt (gP ([] : List Int)).tail.tail = [] := by decide +kernel
  have t1 : txt (rst (gP ([] : List Int)).tail.tail) = [] := by decide +kernel
  have t2 : txt (rstN 2 (gP ([] : List Int)).tail.tail) = [] := by decide +kernel
  have t3 : txt (rstN 3 (gP ([] : List Int)).tail.tail) = [] := by decide +kernel
  rw [d1, d2, d4, d8, db, t0, t1, t2, t3]
  exact ⟨A0, A10, A11, c0, c10, c11, rfl, g0, g10, g11, hb⟩
theorem get_ex (A : Option Addr) (c : Nat) (W : World) (hC : Kd.C (Kd.int .u8) W A 7 [0, 5, 2, 0, 0, 1, 120]) (hc : 7 ≤ c) : Calls Try.prog 16 #[.slice A 7 c] W fun e W' => ∃ (A0 A10 A11 : Option Addr) (c0 c10 c11 : Nat), e = .returned (.agg #[.slice A0 0 c0, .bool true, .int .i64 2, .string ⟨#[120]⟩, .string ⟨#[]⟩, .string ⟨#[]⟩, .string ⟨#[]⟩, .bool false, .bool true, .bool false, .slice A10 0 c10, .slice A11 0 c11]) ∧ Below W.heap.size W W' := by
  refine (get id Q2 rfl q2_mkM A c [0, 5, 2, 0, 0, 1, 120] W hC hc (by decide)).mono ?_
  rintro e W' ⟨v0, v10, v11, rfl, h0, h10, h11, hb⟩
  have e0 : (resN (gN [0, 5, 2, 0, 0, 1, 120]) ([0, 5, 2, 0, 0, 1, 120] : List Int).tail).map id = [] := rfl
  have e1 : lots (rstN 4 (gP [0, 5, 2, 0, 0, 1, 120]).tail.tail) = [] := by decide +kernel
  have e2 : lots (past (rstN 4 (gP [0, 5, 2, 0, 0, 1, 120]).tail.tail)) = [] := by decide +kernel
  rw [e0] at h0; rw [e1] at h10; rw [e2] at h11
  obtain ⟨A0, c0, rfl, _, g0⟩ := Kd.R_reads h0
  obtain ⟨A10, c10, rfl, _, g10⟩ := Kd.S_reads h10
  obtain ⟨A11, c11, rfl, _, g11⟩ := Kd.S_reads h11
  have d1 : fl ((gP [0, 5, 2, 0, 0, 1, 120]).headD 0) 1 = true := by decide +kernel
  have d2 : fl ((gP [0, 5, 2, 0, 0, 1, 120]).headD 0) 2 = false := by decide +kernel
  have d4 : fl ((gP [0, 5, 2, 0, 0, 1, 120]).headD 0) 4 = true := by decide +kernel
  have d8 : fl ((gP [0, 5, 2, 0, 0, 1, 120]).headD 0) 8 = false := by decide +kernel
  have db : (gP [0, 5, 2, 0, 0, 1, 120]).tail.headD 0 = 2 := by decide +kernel
  have t0 : txt (gP [0, 5, 2, 0, 0, 1, 120]).tail.tail = [120] := by decide +kernel
  have t1 : txt (rst (gP [0, 5, 2, 0, 0, 1, 120]).tail.tail) = [] := by decide +kernel
  have t2 : txt (rstN 2 (gP [0, 5, 2, 0, 0, 1, 120]).tail.tail) = [] := by decide +kernel
  have t3 : txt (rstN 3 (gP [0, 5, 2, 0, 0, 1, 120]).tail.tail) = [] := by decide +kernel
  rw [d1, d2, d4, d8, db, t0, t1, t2, t3]
  exact ⟨A0, A10, A11, c0, c10, c11, rfl, hb⟩
theorem C_seven (W : World) (o : Obj) : Kd.C (Kd.int .u8) ((W.alloc o).alloc (.cells #[.int .u8 0, .int .u8 5, .int .u8 2, .int .u8 0, .int .u8 0, .int .u8 1, .int .u8 120] 5)) (some ⟨W.heap.size + 1, 0, none⟩) 7 [0, 5, 2, 0, 0, 1, 120] := by
  have hb := alloc2_cells W o (.cells #[.int .u8 0, .int .u8 5, .int .u8 2, .int .u8 0, .int .u8 0, .int .u8 1, .int .u8 120] 5)
  refine Kd.C_of_reads (d := (0 : Int)) ⟨rfl, by decide, fun _ => ⟨_, rfl, fun j hj => ?_⟩⟩
  rw [add_plain]
  refine (at_cells2 hb j _ ?_).1
  have : j = 0 ∨ j = 1 ∨ j = 2 ∨ j = 3 ∨ j = 4 ∨ j = 5 ∨ j = 6 := by omega
  rcases this with rfl | rfl | rfl | rfl | rfl | rfl | rfl <;> rfl
theorem saneB_nil : saneB [] 0 ⟨#[]⟩ ⟨#[]⟩ ⟨#[]⟩ ⟨#[]⟩ [] [] = true := by decide +kernel
theorem sane_nil (A0 A10 A11 : Option Addr) (c0 c10 c11 : Nat) (W : World) (h0 : Kd.C Q2 W A0 0 []) (h10 : Kd.C Tx W A10 0 []) (h11 : Kd.C Tx W A11 0 []) :
    Calls Try.prog 9 #[.agg #[.slice A0 0 c0, .bool false, .int .i64 0, .string ⟨#[]⟩, .string ⟨#[]⟩, .string ⟨#[]⟩, .string ⟨#[]⟩, .bool false, .bool false, .bool false, .slice A10 0 c10, .slice A11 0 c11]] W fun e W' => e = .returned (.bool true) ∧ Below W.heap.size W W' := by
  have h := sane Prod.fst Prod.snd Q2 rfl q2_open (⟨#[]⟩, ⟨#[]⟩) A0 c0 [] false 0 ⟨#[]⟩ ⟨#[]⟩ ⟨#[]⟩ ⟨#[]⟩ false false false A10 c10 [] A11 c11 [] W h0 (Nat.zero_le _) h10 (Nat.zero_le _) h11 (Nat.zero_le _)
  refine h.mono ?_
  rintro e W' ⟨rfl, hb⟩
  exact ⟨by congr 2, hb⟩
theorem put_nil (HF : ∀ (f1 : Bool) (b : Int) (s3 s4 s5 s6 : ByteArray) (f2 f4 f8 : Bool) (W : World), Calls Try.prog 26 #[.agg #[.bool f1, .int .i64 b, .string s3, .string s4, .string s5, .string s6, .bool f2, .bool f4, .bool f8]] W fun e W' => e = .returned (.int .u8 (flagsI f1 f2 f4 f8)) ∧ Below W.heap.size W W')
    (A0 A10 A11 : Option Addr) (c0 c10 c11 : Nat) (W : World) (h0 : Kd.C Q2 W A0 0 []) (h10 : Kd.C Tx W A10 0 []) (h11 : Kd.C Tx W A11 0 []) :
    Calls Try.prog 12 #[.agg #[.slice A0 0 c0, .bool false, .int .i64 0, .string ⟨#[]⟩, .string ⟨#[]⟩, .string ⟨#[]⟩, .string ⟨#[]⟩, .bool false, .bool false, .bool false, .slice A10 0 c10, .slice A11 0 c11]] W fun e W' => ∃ A c, e = .returned (.slice A 17 c) ∧ Below W.heap.size W W' := by
  have h := put Prod.fst Prod.snd Q2 rfl q2_open (⟨#[]⟩, ⟨#[]⟩) HF A0 c0 [] false 0 ⟨#[]⟩ ⟨#[]⟩ ⟨#[]⟩ ⟨#[]⟩ false false false A10 c10 [] A11 c11 [] W h0 (Nat.zero_le _) h10 (Nat.zero_le _) h11 (Nat.zero_le _) saneB_nil
  refine h.mono ?_
  rintro e W' ⟨v, rfl, hr, hb⟩
  obtain ⟨A, c, rfl⟩ := Kd.R_slice hr
  have hl : (putL (([] : List (ByteArray × ByteArray)).map fun x => (x.1, x.2)) false 0 ⟨#[]⟩ ⟨#[]⟩ ⟨#[]⟩ ⟨#[]⟩ false false false [] []).length = 17 := by decide +kernel
  rw [hl]
  exact ⟨A, c, rfl, hb⟩
set_option maxHeartbeats 4000000 in
set_option maxRecDepth 100000 in
theorem awake (HF : ∀ (f1 : Bool) (b : Int) (s3 s4 s5 s6 : ByteArray) (f2 f4 f8 : Bool) (W : World), Calls Try.prog 26 #[.agg #[.bool f1, .int .i64 b, .string s3, .string s4, .string s5, .string s6, .bool f2, .bool f4, .bool f8]] W fun e W' => e = .returned (.int .u8 (flagsI f1 f2 f4 f8)) ∧ Below W.heap.size W W') (W : World) :
    Calls Try.prog 7 #[] W fun e W' => e = .returned (.bool true) ∧ Below W.heap.size W W' := by
  have HFF := Aside0.mk HF; clear HF
  have t1 := Aside0.mk True.intro
  have t2 := Aside0.mk True.intro
  go_enter Try.func7, Try.ntmps7
  go_upto_region 3 with (first
    | (go_at_call 16; have t := t1; clear t1 t; go_loud (refine (get_nil W).mono ?_; rintro e w1 ⟨A0, A10, A11, c0, c10, c11, rfl, h0, h10, h11, hb1⟩; have H0 := Aside0.mk h0; have H10 := Aside0.mk h10; have H11 := Aside0.mk h11; have HB1 := Aside0.mk hb1; clear h0 h10 h11 hb1))
    | (go_at_call 16; have t := t2; clear t2 t; go_loud (refine (get_ex _ _ _ (C_seven w1 _) (by decide)).mono ?_; rintro e w2 ⟨B0, B10, B11, d0, d10, d11, rfl, hb2⟩; have hsb : w2.heap[w1.heap.size]? = some (.cells #[.slice A0 0 c0, .bool false, .int .i64 0, .string ⟨#[]⟩, .string ⟨#[]⟩, .string ⟨#[]⟩, .string ⟨#[]⟩, .bool false, .bool false, .bool false, .slice A10 0 c10, .slice A11 0 c11] 35 (0, 0)) := (hb2.block _ (by rw [alloc2_size]; omega)).trans ((Below.heap_alloc _ _ _ (by rw [alloc_size2]; omega)).trans (alloc_cells2 w1 _)); have HSB := Aside0.mk hsb; have HB2 := Aside0.mk (below_then (below_alloc (below_alloc (Below.refl w1.heap.size w1) _) _) (by rw [alloc2_size]; omega) hb2); clear hb2 hsb)))
  have hs2 := HB2.out.size
  obtain ⟨TB, hTB⟩ : ∃ TB, w2.heap.size = TB := ⟨_, rfl⟩
  obtain ⟨SB, hSB⟩ : ∃ SB, w1.heap.size = SB := ⟨_, rfl⟩
  have hT3 : (w2.alloc (.cells #[.slice B0 0 d0, .bool true, .int .i64 2, .string ⟨#[120]⟩, .string ⟨#[]⟩, .string ⟨#[]⟩, .string ⟨#[]⟩, .bool false, .bool true, .bool false, .slice B10 0 d10, .slice B11 0 d11] 35)).heap[w2.heap.size]? = some (.cells #[.slice B0 0 d0, .bool true, .int .i64 2, .string ⟨#[120]⟩, .string ⟨#[]⟩, .string ⟨#[]⟩, .string ⟨#[]⟩, .bool false, .bool true, .bool false, .slice B10 0 d10, .slice B11 0 d11] 35 (0, 0)) := alloc_cells2 _ _
  have hS3 : (w2.alloc (.cells #[.slice B0 0 d0, .bool true, .int .i64 2, .string ⟨#[120]⟩, .string ⟨#[]⟩, .string ⟨#[]⟩, .string ⟨#[]⟩, .bool false, .bool true, .bool false, .slice B10 0 d10, .slice B11 0 d11] 35)).heap[w1.heap.size]? = some (.cells #[.slice A0 0 c0, .bool false, .int .i64 0, .string ⟨#[]⟩, .string ⟨#[]⟩, .string ⟨#[]⟩, .string ⟨#[]⟩, .bool false, .bool false, .bool false, .slice A10 0 c10, .slice A11 0 c11] 35 (0, 0)) := (Below.heap_alloc _ _ _ (lt_of_block HSB.out)).trans HSB.out
  have hB3 : Below w1.heap.size w1 (w2.alloc (.cells #[.slice B0 0 d0, .bool true, .int .i64 2, .string ⟨#[120]⟩, .string ⟨#[]⟩, .string ⟨#[]⟩, .string ⟨#[]⟩, .bool false, .bool true, .bool false, .slice B10 0 d10, .slice B11 0 d11] 35)) := below_alloc HB2.out _
  generalize w2.alloc (.cells #[.slice B0 0 d0, .bool true, .int .i64 2, .string ⟨#[120]⟩, .string ⟨#[]⟩, .string ⟨#[]⟩, .string ⟨#[]⟩, .bool false, .bool true, .bool false, .slice B10 0 d10, .slice B11 0 d11] 35) = w3 at *
  rw [hTB] at hT3 ⊢
  rw [hSB] at hS3 ⊢
  have HT3 := Aside0.mk hT3; have HS3 := Aside0.mk hS3; have HB3 := Aside0.mk hB3
  clear HSB HB2 hs2
  obtain ⟨cS0, fS0⟩ := at_cells2 hS3 0 _ rfl
  obtain ⟨cS1, fS1⟩ := at_cells2 hS3 1 _ rfl
  obtain ⟨cS2, fS2⟩ := at_cells2 hS3 2 _ rfl
  obtain ⟨cS3, fS3⟩ := at_cells2 hS3 3 _ rfl
  obtain ⟨cS4, fS4⟩ := at_cells2 hS3 4 _ rfl
  obtain ⟨cS5, fS5⟩ := at_cells2 hS3 5 _ rfl
  obtain ⟨cS6, fS6⟩ := at_cells2 hS3 6 _ rfl
  obtain ⟨cS7, fS7⟩ := at_cells2 hS3 7 _ rfl
  obtain ⟨cS8, fS8⟩ := at_cells2 hS3 8 _ rfl
  obtain ⟨cS9, fS9⟩ := at_cells2 hS3 9 _ rfl
  obtain ⟨cS10, fS10⟩ := at_cells2 hS3 10 _ rfl
  obtain ⟨cS11, fS11⟩ := at_cells2 hS3 11 _ rfl
  clear hT3 hS3 hB3 fS0 fS1 fS2 fS3 fS4 fS5 fS6 fS7 fS8 fS9 fS10 fS11
  have hSB2 : SB < w3.heap.size := lt_of_block HS3.out
  have hc3 : Below w1.heap.size w1 w3 := HB3.out
  have G0 := Aside0.mk (Kd.C_below H0.out hc3); have G10 := Aside0.mk (Kd.C_below H10.out hc3); have G11 := Aside0.mk (Kd.C_below H11.out hc3)
  have HC3 := Aside0.mk hc3; clear hc3
  go_wp2_with (first
    | (go_at_call 9; go_loud (refine (sane_nil A0 A10 A11 c0 c10 c11 w3 G0.out G10.out G11.out).mono ?_; rintro e w4 ⟨rfl, hb4⟩; have hS4 := (hb4.block SB hSB2).trans HS3.out; have hT4 := (hb4.block TB (lt_of_block HT3.out)).trans HT3.out; obtain ⟨cU0, _⟩ := at_cells2 hS4 0 _ rfl; obtain ⟨cU1, _⟩ := at_cells2 hS4 1 _ rfl; obtain ⟨cU2, _⟩ := at_cells2 hS4 2 _ rfl; obtain ⟨cU3, _⟩ := at_cells2 hS4 3 _ rfl; obtain ⟨cU4, _⟩ := at_cells2 hS4 4 _ rfl; obtain ⟨cU5, _⟩ := at_cells2 hS4 5 _ rfl; obtain ⟨cU6, _⟩ := at_cells2 hS4 6 _ rfl; obtain ⟨cU7, _⟩ := at_cells2 hS4 7 _ rfl; obtain ⟨cU8, _⟩ := at_cells2 hS4 8 _ rfl; obtain ⟨cU9, _⟩ := at_cells2 hS4 9 _ rfl; obtain ⟨cU10, _⟩ := at_cells2 hS4 10 _ rfl; obtain ⟨cU11, _⟩ := at_cells2 hS4 11 _ rfl; obtain ⟨cT1, _⟩ := at_cells2 hT4 1 _ rfl; obtain ⟨cT2, _⟩ := at_cells2 hT4 2 _ rfl; obtain ⟨cT3, _⟩ := at_cells2 hT4 3 _ rfl; obtain ⟨cT7, _⟩ := at_cells2 hT4 7 _ rfl; obtain ⟨cT8, _⟩ := at_cells2 hT4 8 _ rfl; have HB4 := Aside0.mk hb4; clear hS4 hT4 hb4))
    | (go_at_call 12; go_loud (refine (put_nil HFF.out A0 A10 A11 c0 c10 c11 w4 (Kd.C_below G0.out HB4.out) (Kd.C_below G10.out HB4.out) (Kd.C_below G11.out HB4.out)).mono ?_; rintro e w5 ⟨Ap, cp, rfl, hb5⟩; have HB5 := Aside0.mk hb5; clear hb5)))
  go_ret
  exact ⟨rfl, below_step (below_step (below_step HB1.out HC3.out) HB4.out) HB5.out⟩
end Go.Proofs.Ytojfhlbchiaccaa.Reader
