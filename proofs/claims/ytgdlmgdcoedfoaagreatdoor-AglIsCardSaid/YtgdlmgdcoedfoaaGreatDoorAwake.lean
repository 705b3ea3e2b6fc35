/- awake: the document's example. -/
import Derived.Test.YtgdlmgdcoedfoaaGreatDoorWrite
namespace Go.Proofs.YtgdlmgdcoedfoaaGreatDoor.Agl
open Go.RowKit Go.Proofs.YtgdlmgdcoedfoaaGreatDoorW.PrintWords Go.Proofs.YtgdlmgdcoedfoaaGreatDoorW.PrintLast Go.Proofs.YtgdlmgdcoedfoaaGreatDoorW.PrintMore
set_option linter.unusedVariables false
set_option linter.unusedSimpArgs false

theorem told_parts (s : ByteArray) (hs : s.size ≤ 100000) (ha : ∀ b ∈ s.data.toList, b.toNat < 128) : ∀ p ∈ partsB s.data.toList, Told p := by
  intro p hp
  have h := (partsB_len s.data.toList).2 p hp
  rw [data_length] at h
  exact told_ascii p (by omega) (fun j b hb => ha b (h.2 b (List.mem_of_getElem? hb)))
def n1 : ByteArray := ⟨#[102, 95, 102, 95, 105, 46, 97, 108, 116]⟩
def n2 : ByteArray := ⟨#[117, 49, 70, 54, 48, 48]⟩
def n3 : ByteArray := ⟨#[117, 110, 105, 50, 48, 65, 67, 65, 46, 120]⟩
theorem aw1 : uniAll n1.data.toList = [102, 102, 105] := by decide +kernel
set_option maxRecDepth 1000000 in
theorem aw2 : uniAll n2.data.toList = [128512] := by decide +kernel
set_option maxRecDepth 1000000 in
theorem aw3 : uniAll n3.data.toList = [] := by decide +kernel
theorem aw4 : baseL [97, 46, 98, 46, 99] = [97] := by decide +kernel
theorem aw5 : writeL [65, 128512] = [65, 95, 117, 49, 70, 54, 48, 48] := by decide +kernel
theorem aw6 : uniAll [65] = [65] := by decide +kernel
theorem aw7 : textL [65] = [65] := by decide +kernel
theorem row_ints (W : World) (l : List Int) (hl : l.length ≤ 9223372036854775807) : Kd.R (Kd.int .i64) 3 (W.alloc (.cells (l.map (Value.int .i64)).toArray 3)) W.heap.size (fun _ => True) (.slice (some ⟨W.heap.size, 0, none⟩) l.length l.length) l := by
  refine Kd.R_of_own (h1 := fun _ => rfl) ?_ (fun _ _ => trivial)
  have h := World.ownsRow_lit (base := W.heap.size) (e := 3) (size := 1) W (l.map (Value.int .i64)).toArray l.length (Nat.le_refl _) (by simpa [maxLen] using hl) (by simp)
  simp only [List.toList_toArray] at h
  exact h
theorem ascii_all {s : ByteArray} (h : s.data.toList.all (fun b => decide (b.toNat < 128)) = true) : ∀ b ∈ s.data.toList, b.toNat < 128 := fun b hb => by simpa using List.all_eq_true.1 h b hb
theorem R_intsA {e base : Nat} {W : World} {ok : Nat → Prop} {v : Value} {l : List Int} (h : Kd.R (Kd.int .i64) e W base ok v l) (hl : 0 < l.length) :
    ∃ g c, v = .slice (some ⟨g, 0, none⟩) l.length c ∧ l.length ≤ c ∧ Kd.C (Kd.int .i64) W (some ⟨g, 0, none⟩) l.length l ∧ ∀ (j : Nat) x, l[j]? = some x → W.cell? ⟨g, j, none⟩ = some (.int .i64 x) := by
  obtain ⟨A, c, rfl, hc, hC⟩ := Kd.R_reads h
  obtain ⟨ad, rfl, _⟩ := Kd.at_int hC 0 (by omega) (by omega)
  obtain ⟨g, rfl⟩ := Kd.R_head h
  refine ⟨g, c, rfl, hc, hC, fun j x hj => ?_⟩
  obtain ⟨hjl, hx⟩ := List.getElem?_eq_some_iff.1 hj
  obtain ⟨ad, he, hcell⟩ := Kd.at_int hC j (by omega) (by omega)
  cases he
  rw [Int.toNat_natCast, add_at, Nat.zero_add] at hcell
  rw [hcell]
  unfold rd
  rw [Int.toNat_natCast, List.getD_eq_getElem?_getD, hj]; rfl
set_option maxHeartbeats 2000000 in
set_option maxRecDepth 100000 in
theorem awake9 (w : World) (hL : Laid w) : Calls Tryz.prog 9 #[] w fun e W' => e = .returned (.bool true) ∧ Below w.heap.size w W' := by
  have HL := Aside0.mk hL
  have U1 := Aside0.mk (fun W hl => uni18 n1 W (by decide) hl (told_parts n1 (by decide) (ascii_all (by decide))))
  have U2 := Aside0.mk (fun W hl => uni18 n2 W (by decide) hl (told_parts n2 (by decide) (ascii_all (by decide))))
  have U3 := Aside0.mk (fun W hl => uni18 n3 W (by decide) hl (told_parts n3 (by decide) (ascii_all (by decide))))
  rw [aw1] at U1
  rw [aw2] at U2
  rw [aw3] at U3
  have B4 := Aside0.mk (fun W hl => base10 ⟨#[97, 46, 98, 46, 99]⟩ W (by decide) hl)
  rw [show (⟨#[97, 46, 98, 46, 99]⟩ : ByteArray).data.toList = [97, 46, 98, 46, 99] from rfl, aw4, show asB [97] = ⟨#[97]⟩ from rfl] at B4
  have T6 := Aside0.mk (fun W hl => text20 ⟨#[65]⟩ W (by decide) (by rw [show (⟨#[65]⟩ : ByteArray).data.toList = [65] from rfl, aw6]; decide) hl (told_parts ⟨#[65]⟩ (by decide) (ascii_all (by decide))))
  rw [show (⟨#[65]⟩ : ByteArray).data.toList = [65] from rfl, aw6, aw7, show asB [65] = ⟨#[65]⟩ from rfl] at T6
  have W5 := Aside0.mk (fun (W : World) (hl : Laid (W.alloc (.cells #[.int .i64 65, .int .i64 128512] 3))) => write22 (some ⟨W.heap.size, 0, none⟩) 2 [65, 128512] (W.alloc (.cells #[.int .i64 65, .int .i64 128512] 3)) (by
    obtain ⟨A, c, he, hc, hC⟩ := Kd.R_reads (row_ints W [65, 128512] (by decide))
    cases he
    exact hC) (Nat.le_refl _) (by decide) hl)
  rw [aw5, show asB [65, 95, 117, 49, 70, 54, 48, 48] = ⟨#[65, 95, 117, 49, 70, 54, 48, 48]⟩ from rfl, show ([65, 128512] : List Int).length = 2 from rfl] at W5
  have t1 := Aside0.mk True.intro; have t2 := Aside0.mk True.intro; have t3 := Aside0.mk True.intro
  rw [show n1 = ⟨#[102, 95, 102, 95, 105, 46, 97, 108, 116]⟩ from rfl] at U1
  rw [show n2 = ⟨#[117, 49, 70, 54, 48, 48]⟩ from rfl] at U2
  rw [show n3 = ⟨#[117, 110, 105, 50, 48, 65, 67, 65, 46, 120]⟩ from rfl] at U3
  clear hL
  go_enter Tryz.func9, Tryz.ntmps9
  go_wp2_with (first
    | (go_at_call 18; have tt := t1; clear tt t1; refine (U1.out w HL.out).mono ?_; rintro e W1 ⟨v, rfl, hR, hb⟩; obtain ⟨g1, c1, rfl, hc, hC, hcs⟩ := R_intsA hR (by decide); have HCS1 := Aside0.mk hcs; have HB1 := Aside0.mk hb; clear hR hb hc hC hcs)
    | (go_at_call 18; have tt := t2; clear tt t2; refine (U2.out W1 (HL.out.below HB1.out)).mono ?_; rintro e W2 ⟨v, rfl, hR, hb⟩; obtain ⟨g2, c2, rfl, hc, hC, hcs⟩ := R_intsA hR (by decide); have HCS2 := Aside0.mk hcs; have hd1 : W2.cell? ⟨g1, 2, none⟩ = some (.int .i64 105) := cell_below (HCS1.out 2 105 rfl) hb; have HB2 := Aside0.mk hb; clear hR hb hc hC hcs)
    | (go_at_call 18; have tt := t3; clear tt t3; refine (U3.out W2 ((HL.out.below HB1.out).below HB2.out)).mono ?_; rintro e W3 ⟨v, rfl, hR, hb⟩; obtain ⟨A3, c3, rfl⟩ := Kd.R_slice hR; have hd2 : W3.cell? ⟨g2, 0, none⟩ = some (.int .i64 128512) := cell_below (HCS2.out 0 128512 rfl) hb; have HB3 := Aside0.mk hb; clear hR hb)
    | (go_at_call 10; refine (B4.out W3 (((HL.out.below HB1.out).below HB2.out).below HB3.out)).mono ?_; rintro e W4 ⟨rfl, hb⟩; have HB4 := Aside0.mk hb; have HL4 := Aside0.mk ((((HL.out.below HB1.out).below HB2.out).below HB3.out).below hb); clear hb)
    | (go_at_call 22; go_loud (refine (W5.out W4 (HL4.out.below (Below.alloc (Below.refl _ _) (Nat.le_refl _) _))).mono ?_; rintro e W6 ⟨rfl, hb⟩; have HB6 := Aside0.mk hb; clear hb))
    | (go_at_call 20; go_loud (refine (T6.out W6 ((HL4.out.below (Below.alloc (Below.refl _ _) (Nat.le_refl _) _)).below HB6.out)).mono ?_; rintro e W7 ⟨rfl, hb⟩; have HB7 := Aside0.mk hb; clear hb)))
  go_ret
  refine ⟨rfl, below_step (below_step (Below.alloc (below_step (below_step (below_step HB1.out HB2.out) HB3.out) HB4.out) ?_ _) HB6.out) HB7.out⟩
  exact Nat.le_trans (Nat.le_trans (Nat.le_trans HB1.out.size HB2.out.size) HB3.out.size) HB4.out.size
end Go.Proofs.YtgdlmgdcoedfoaaGreatDoor.Agl
