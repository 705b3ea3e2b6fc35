/- The reader of package script: a descriptor, and Get. -/
import Derived.Test.YtojfhlbchiaccaaReader2
namespace Go.Proofs.Ytojfhlbchiaccaa.Reader
open Go.RowKit Go.Proofs.YtojfhlbchiaccaaW.PrintWords Go.Proofs.YtojfhlbchiaccaaW.PrintLast Go.Proofs.YtojfhlbchiaccaaW.PrintMore
attribute [local go_sem] max2_int min2_int max_two min_two max_three min_three max_four min_four   -- for this text's walks alone
set_option linter.unusedVariables false
set_option linter.unusedSimpArgs false

theorem at_cells {W : World} {D T : Nat} {cs : Array Value} (h : W.heap[D]? = some (.cells cs T (0, 0))) (j : Nat) (v : Value) (hv : cs[j]? = some v) : W.cell? ⟨D, j, none⟩ = some v ∧ W.frozen? ⟨D, j, none⟩ = false :=
  ⟨by simp [World.cell?, h, hv], by simp [World.frozen?, h]⟩
theorem set_cells {W : World} {D T : Nat} {cs : Array Value} (h : W.heap[D]? = some (.cells cs T (0, 0))) (j : Nat) (v : Value) : (W.setCell ⟨D, j, none⟩ v).heap[D]? = some (.cells (cs.setIfInBounds j v) T (0, 0)) := by
  simp [World.setCell, Array.getElem?_modify, h]
theorem far_set {W : World} {Z o j : Nat} {v : Value} (h : j ≠ Z) : (W.setCell ⟨Z, o, none⟩ v).heap[j]? = W.heap[j]? := Below.heap_setCell W ⟨Z, o, none⟩ v j h
theorem alloc_cells (W : World) (o : Obj) : (W.alloc o).heap[W.heap.size]? = some o := by show (W.heap.push o)[W.heap.size]? = _; simp
theorem alloc_size (W : World) (o : Obj) : (W.alloc o).heap.size = W.heap.size + 1 := by show (W.heap.push o).size = _; simp
theorem Fr.alloc {g : Nat} {W : World} (hg : g < W.heap.size) (o : Obj) : Fr g W (W.alloc o) := Fr.of_below (below_alloc (Below.refl _ _) o) hg
theorem Fr.size {g : Nat} {W W' : World} (h : Fr g W W') : W.heap.size ≤ W'.heap.size := h.1.1
theorem Fr.at {g : Nat} {W W' : World} (h : Fr g W W') {k : Nat} (hk : k < W.heap.size) (hne : k ≠ g) : W'.heap[k]? = W.heap[k]? := h.1.2 k hk hne (by simp)
/-- The i-th text of those behind each other, if it is among the first k. -/
def tx (r : List Int) (k i : Nat) : ByteArray := if i < k then strOfNums (txt (rstN i r)) else ⟨#[]⟩
theorem tx_eq (r : List Int) (i : Nat) (h : i < 4) : tx r 4 i = strOfNums (txt (rstN i r)) := if_pos h
def dcells (f b : Int) (r : List Int) (k : Nat) : Array Value := #[.bool (Go.bits .and .i64 f 1 != 0), .int .i64 b, .string (tx r k 0), .string (tx r k 1), .string (tx r k 2), .string (tx r k 3), .bool (Go.bits .and .i64 f 2 != 0), .bool (Go.bits .and .i64 f 4 != 0), .bool (Go.bits .and .i64 f 8 != 0)]
def zcells : Array Value := #[.bool false, .int .i64 0, .string ⟨#[]⟩, .string ⟨#[]⟩, .string ⟨#[]⟩, .string ⟨#[]⟩, .bool false, .bool false, .bool false]
/-- Is a part's flag in a descriptor's byte? -/
def fl (f m : Int) : Bool := Go.bits .and .i64 f m != 0
set_option maxHeartbeats 4000000 in
set_option maxRecDepth 100000 in
theorem desc (g : Nat) (l : List Int) (W : World) (h : Rd 63 g l W) (hg : g < W.heap.size) :
    Calls Try.prog 34 #[.pointer (some ⟨g, 0, none⟩)] W fun e W' => e = .returned (.agg #[.bool (fl (l.headD 0) 1), .int .i64 (l.tail.headD 0), .string (strOfNums (txt l.tail.tail)), .string (strOfNums (txt (rst l.tail.tail))), .string (strOfNums (txt (rstN 2 l.tail.tail))), .string (strOfNums (txt (rstN 3 l.tail.tail))), .bool (fl (l.headD 0) 2), .bool (fl (l.headD 0) 4), .bool (fl (l.headD 0) 8)]) ∧ Rd 63 g (rstN 4 l.tail.tail) W' ∧ Fr g W W' := by
  have HK := Aside0.mk h
  clear h
  obtain ⟨f, hf⟩ : ∃ f, l.headD 0 = f := ⟨_, rfl⟩
  obtain ⟨b, hb⟩ : ∃ b, l.tail.headD 0 = b := ⟨_, rfl⟩
  have HFF := Aside0.mk hf
  have HBB := Aside0.mk hb
  clear hf hb
  go_enter Try.func34, Try.ntmps34
  have hA : ∀ o, Rd 63 g l (W.alloc o) := fun o => HK.out.same (fun k hk => Below.heap_alloc W o k (by omega))
  go_wp2_with (go_at_call 32; refine (one g l _ (hA _)).mono ?_; rw [HFF.out]; rintro e W1 ⟨rfl, h1, f1⟩; have H1 := Aside0.mk h1; have F1 := Aside0.mk f1; clear h1 f1 hA)
  have FA := Fr.alloc hg (.cells #[.bool false, .int .i64 0, .string { data := #[] }, .string { data := #[] }, .string { data := #[] }, .string { data := #[] }, .bool false, .bool false, .bool false] 33)
  have F1W := FA.trans F1.out
  have hD0 := alloc_size W (.cells #[.bool false, .int .i64 0, .string { data := #[] }, .string { data := #[] }, .string { data := #[] }, .string { data := #[] }, .bool false, .bool false, .bool false] 33)
  have hs1 := F1.out.size
  rw [hD0] at hs1
  have hRz := (F1.out.at (k := W.heap.size) (by omega) (by omega)).trans (alloc_cells W _)
  clear FA hD0
  have hg1 : g < W1.heap.size := by omega
  obtain ⟨o1, ho1⟩ : ∃ o1, Obj.cells #[.bool (Go.bits .and .i64 f 1 != 0), .int .i64 0, .string { data := #[] }, .string { data := #[] }, .string { data := #[] }, .string { data := #[] }, .bool (Go.bits .and .i64 f 2 != 0), .bool (Go.bits .and .i64 f 4 != 0), .bool (Go.bits .and .i64 f 8 != 0)] 33 = o1 := ⟨_, rfl⟩
  have hA1 : Rd 63 g l.tail (W1.alloc o1) := H1.out.same (fun k hk => Below.heap_alloc W1 o1 k (by omega))
  refine Calls.mono (one g l.tail _ (by rw [ho1]; exact hA1)) ?_
  rw [HBB.out]
  rintro e W2 ⟨rfl, h2, f2⟩
  rw [ho1] at f2
  have hD2 := (f2.at (k := W1.heap.size) (by rw [alloc_size]; omega) (by omega)).trans (alloc_cells W1 o1)
  have hR2 := ((f2.at (k := W.heap.size) (by rw [alloc_size]; omega) (by omega)).trans (Below.heap_alloc W1 o1 _ (by omega))).trans hRz
  have F2W := Aside0.mk (F1W.trans ((Fr.alloc hg1 o1).trans f2))
  have hs2 := f2.size
  rw [alloc_size] at hs2
  rw [← ho1] at hD2
  have H2 := Aside0.mk h2
  clear ho1 hA1 f2 h2 hRz F1W o1 F1 H1
  obtain ⟨cD, fD⟩ := at_cells hD2 1 _ rfl
  have HD2 := Aside0.mk hD2
  have HR2 := Aside0.mk hR2
  clear hD2 hR2
  go_wp2
  obtain ⟨D, hDD⟩ : ∃ D, W1.heap.size = D := ⟨_, rfl⟩
  obtain ⟨N, hNN⟩ : ∃ N, W2.heap.size = N := ⟨_, rfl⟩
  obtain ⟨Z, hZZ⟩ : ∃ Z, W.heap.size = Z := ⟨_, rfl⟩
  obtain ⟨r, hr⟩ : ∃ r, l.tail.tail = r := ⟨_, rfl⟩
  have HRR := Aside0.mk hr
  rw [hr] at H2
  rw [hDD] at HD2 hs1 hs2 hg1 ⊢
  rw [hZZ] at HR2 hs1 hg ⊢
  have hD3 := set_cells HD2.out 1 (.int .i64 b)
  have hR3 := (Below.heap_setCell W2 ⟨D, 1, none⟩ (.int .i64 b) Z (by show Z ≠ D; omega)).trans HR2.out
  have hI3 : Rd 63 g r (W2.setCell ⟨D, 1, none⟩ (.int .i64 b)) := H2.out.same (fun k hk => Below.heap_setCell W2 _ _ k (by show k ≠ D; omega))
  have hs3 : (W2.setCell ⟨D, 1, none⟩ (.int .i64 b)).heap.size = N := by rw [← hNN]; simp [World.setCell]
  have hF3 : Fr g W (W2.setCell ⟨D, 1, none⟩ (.int .i64 b)) := F2W.out.below ((Below.refl _ _).setCell (by show W.heap.size ≤ D; omega) _) (by omega)
  have hn2 : D + 1 ≤ N := by omega
  generalize W2.setCell ⟨D, 1, none⟩ (.int .i64 b) = W3 at *
  rw [hNN]
  clear cD fD HD2 HR2 H2 F2W hs2
  go_loopw [31] (fun i wr => ∃ k : Nat, k ≤ 4 ∧ i = .int .i64 k ∧ Rd 63 g (rstN k r) wr ∧ Fr g W wr ∧ wr.heap[Z]? = some (.cells zcells 33 (0, 0)) ∧ wr.heap[D]? = some (.cells (dcells f b r k) 33 (0, 0)) ∧ wr.heap[N]? = some (.cells #[.pointer (some ⟨D, 2, none⟩), .pointer (some ⟨D, 3, none⟩), .pointer (some ⟨D, 4, none⟩), .pointer (some ⟨D, 5, none⟩)] 81 (0, 0))) (fun i _ => 4 - (intOf i).toNat)
  case atStart =>
    refine ⟨0, Nat.zero_le _, rfl, hI3.same (fun k hk => Below.heap_alloc _ _ _ (by omega)), hF3.trans (Fr.alloc (by omega) _), (Below.heap_alloc _ _ _ (by omega)).trans hR3, (Below.heap_alloc _ _ _ (by omega)).trans hD3, ?_⟩
    rw [← hs3]; exact alloc_cells _ _
  case round =>
    obtain ⟨k, hk, rfl, hI, hF, hZ, hD, hN⟩ := hrel
    have hgw : g < wr.heap.size := lt_of_block hN |> fun h => by omega
    have hzw : N < wr.heap.size := lt_of_block hN
    by_cases hlt : k < 4
    · have hfin : ∀ (k : Nat) (_ : k < 4) (w4 w5 : World), Rd 63 g (rst (rstN k r)) w4 → w5 = w4.setCell ⟨D, 2 + k, none⟩ (.string (strOfNums (txt (rstN k r)))) → Fr g wr w4 → wr.heap[D]? = some (.cells (dcells f b r k) 33 (0, 0)) →
          Rd 63 g (rstN (k + 1) r) w5 ∧ Fr g W w5 ∧ w5.heap[Z]? = some (.cells zcells 33 (0, 0)) ∧ w5.heap[D]? = some (.cells (dcells f b r (k + 1)) 33 (0, 0)) ∧ w5.heap[N]? = some (.cells #[.pointer (some ⟨D, 2, none⟩), .pointer (some ⟨D, 3, none⟩), .pointer (some ⟨D, 4, none⟩), .pointer (some ⟨D, 5, none⟩)] 81 (0, 0)) := by
        intro k hk4 w4 w5 hI4 he hF4 hD4
        subst he
        have hD5 := (hF4.at (k := D) (by omega) (by omega)).trans hD4
        refine ⟨?_, ?_, ?_, ?_, ?_⟩
        · rw [rstN_snoc]; exact hI4.same (fun j hj => Below.heap_setCell w4 _ _ j (by show j ≠ D; omega))
        · exact (hF.trans hF4).below ((Below.refl _ _).setCell (by show W.heap.size ≤ D; omega) _) (by omega)
        · exact (Below.heap_setCell w4 _ _ _ (by show Z ≠ D; omega)).trans ((hF4.at (by omega) (by omega)).trans hZ)
        · rw [set_cells hD5]
          have : k = 0 ∨ k = 1 ∨ k = 2 ∨ k = 3 := by omega
          rcases this with rfl | rfl | rfl | rfl <;> rfl
        · exact (Below.heap_setCell w4 _ _ _ (by show N ≠ D; omega)).trans ((hF4.at (by omega) (by omega)).trans hN)
      have HFIN := Aside0.mk hfin
      have HI := Aside0.mk hI
      have HD := Aside0.mk hD
      have hkk : k = 0 ∨ k = 1 ∨ k = 2 ∨ k = 3 := by omega
      clear hfin hI hF hZ hI3 hF3 hR3 hD3 hs3
      rcases hkk with rfl | rfl | rfl | rfl
      · obtain ⟨cN, fN⟩ := at_cells hN 0 _ rfl
        clear hN hD
        go_wp2_with (go_at_call 33; refine (text g (rstN 0 r) wr HI.out hgw).mono ?_; rintro e w4 ⟨rfl, h4, f4⟩; obtain ⟨cD, fD⟩ := at_cells ((f4.at (k := D) (by omega) (by omega)).trans HD.out) 2 _ rfl; have H4 := Aside0.mk h4; have F4 := Aside0.mk f4; clear h4 f4)
        exact ⟨⟨1, by omega, rfl, HFIN.out 0 (by omega) _ _ H4.out rfl F4.out HD.out⟩, by simp [intOf]⟩
      · obtain ⟨cN, fN⟩ := at_cells hN 1 _ rfl
        clear hN hD
        go_wp2_with (go_at_call 33; refine (text g (rstN 1 r) wr HI.out hgw).mono ?_; rintro e w4 ⟨rfl, h4, f4⟩; obtain ⟨cD, fD⟩ := at_cells ((f4.at (k := D) (by omega) (by omega)).trans HD.out) 3 _ rfl; have H4 := Aside0.mk h4; have F4 := Aside0.mk f4; clear h4 f4)
        exact ⟨⟨2, by omega, rfl, HFIN.out 1 (by omega) _ _ H4.out rfl F4.out HD.out⟩, by simp [intOf]⟩
      · obtain ⟨cN, fN⟩ := at_cells hN 2 _ rfl
        clear hN hD
        go_wp2_with (go_at_call 33; refine (text g (rstN 2 r) wr HI.out hgw).mono ?_; rintro e w4 ⟨rfl, h4, f4⟩; obtain ⟨cD, fD⟩ := at_cells ((f4.at (k := D) (by omega) (by omega)).trans HD.out) 4 _ rfl; have H4 := Aside0.mk h4; have F4 := Aside0.mk f4; clear h4 f4)
        exact ⟨⟨3, by omega, rfl, HFIN.out 2 (by omega) _ _ H4.out rfl F4.out HD.out⟩, by simp [intOf]⟩
      · obtain ⟨cN, fN⟩ := at_cells hN 3 _ rfl
        clear hN hD
        go_wp2_with (go_at_call 33; refine (text g (rstN 3 r) wr HI.out hgw).mono ?_; rintro e w4 ⟨rfl, h4, f4⟩; obtain ⟨cD, fD⟩ := at_cells ((f4.at (k := D) (by omega) (by omega)).trans HD.out) 5 _ rfl; have H4 := Aside0.mk h4; have F4 := Aside0.mk f4; clear h4 f4)
        exact ⟨⟨4, by omega, rfl, HFIN.out 3 (by omega) _ _ H4.out rfl F4.out HD.out⟩, by simp [intOf]⟩
    · obtain rfl : k = 4 := by omega
      have HI := Aside0.mk hI
      have HF := Aside0.mk hF
      have hD' : wr.heap[D]? = some (.cells #[.bool (Go.bits .and .i64 f 1 != 0), .int .i64 b, .string (tx r 4 0), .string (tx r 4 1), .string (tx r 4 2), .string (tx r 4 3), .bool (Go.bits .and .i64 f 2 != 0), .bool (Go.bits .and .i64 f 4 != 0), .bool (Go.bits .and .i64 f 8 != 0)] 33 (0, 0)) := hD
      have hZ' : wr.heap[Z]? = some (.cells #[.bool false, .int .i64 0, .string ⟨#[]⟩, .string ⟨#[]⟩, .string ⟨#[]⟩, .string ⟨#[]⟩, .bool false, .bool false, .bool false] 33 (0, 0)) := hZ
      clear hD hZ
      obtain ⟨cD0, fD0⟩ := at_cells hD' 0 _ rfl
      obtain ⟨cZ0, fZ0⟩ := at_cells hZ' 0 _ rfl
      obtain ⟨cD1, fD1⟩ := at_cells hD' 1 _ rfl
      obtain ⟨cZ1, fZ1⟩ := at_cells hZ' 1 _ rfl
      obtain ⟨cD2, fD2⟩ := at_cells hD' 2 _ rfl
      obtain ⟨cZ2, fZ2⟩ := at_cells hZ' 2 _ rfl
      obtain ⟨cD3, fD3⟩ := at_cells hD' 3 _ rfl
      obtain ⟨cZ3, fZ3⟩ := at_cells hZ' 3 _ rfl
      obtain ⟨cD4, fD4⟩ := at_cells hD' 4 _ rfl
      obtain ⟨cZ4, fZ4⟩ := at_cells hZ' 4 _ rfl
      obtain ⟨cD5, fD5⟩ := at_cells hD' 5 _ rfl
      obtain ⟨cZ5, fZ5⟩ := at_cells hZ' 5 _ rfl
      obtain ⟨cD6, fD6⟩ := at_cells hD' 6 _ rfl
      obtain ⟨cZ6, fZ6⟩ := at_cells hZ' 6 _ rfl
      obtain ⟨cD7, fD7⟩ := at_cells hD' 7 _ rfl
      obtain ⟨cZ7, fZ7⟩ := at_cells hZ' 7 _ rfl
      obtain ⟨cD8, fD8⟩ := at_cells hD' 8 _ rfl
      obtain ⟨cZ8, fZ8⟩ := at_cells hZ' 8 _ rfl
      clear hI hF hI3 hF3 hR3 hD3 hs3 hN
      have HZ := Aside0.mk hZ'
      clear hZ' hD'
      go_wp2
      have hZf := set_cells (set_cells (set_cells (set_cells (set_cells (set_cells (set_cells (set_cells (set_cells HZ.out 0 (.bool (Go.bits .and .i64 f 1 != 0))) 1 (.int .i64 b)) 2 (.string (tx r 4 0))) 3 (.string (tx r 4 1))) 4 (.string (tx r 4 2))) 5 (.string (tx r 4 3))) 6 (.bool (Go.bits .and .i64 f 2 != 0))) 7 (.bool (Go.bits .and .i64 f 4 != 0))) 8 (.bool (Go.bits .and .i64 f 8 != 0))
      simp only [List.setIfInBounds_toArray, List.set_cons_zero, List.set_cons_succ] at hZf
      try simp only [Exit.inBlock, Exit.then]
      refine bodyPost_ret (results_cell_row rfl _ _ Z 33 #[.bool (Go.bits .and .i64 f 1 != 0), .int .i64 b, .string (tx r 4 0), .string (tx r 4 1), .string (tx r 4 2), .string (tx r 4 3), .bool (Go.bits .and .i64 f 2 != 0), .bool (Go.bits .and .i64 f 4 != 0), .bool (Go.bits .and .i64 f 8 != 0)] (0, 0) _ rfl hZf Try.underlying33 rfl (by kernel_rfl)) rfl ?_
      refine ⟨?_, ?_, ?_⟩
      · rw [HFF.out, HBB.out, HRR.out, tx_eq r 0 (by decide), tx_eq r 1 (by decide), tx_eq r 2 (by decide), tx_eq r 3 (by decide)]; unfold fl; simp only [rstN]
      · rw [HRR.out]
        refine HI.out.same (fun j hj => ?_)
        simp only [far_set (show j ≠ Z by omega)]
      · refine HF.out.below ?_ (by omega)
        exact (Below.setCell (Below.setCell (Below.setCell (Below.setCell (Below.setCell (Below.setCell (Below.setCell (Below.setCell (Below.setCell (Below.refl _ _) (by show W.heap.size ≤ Z; omega) _) (by show W.heap.size ≤ Z; omega) _) (by show W.heap.size ≤ Z; omega) _) (by show W.heap.size ≤ Z; omega) _) (by show W.heap.size ≤ Z; omega) _) (by show W.heap.size ≤ Z; omega) _) (by show W.heap.size ≤ Z; omega) _) (by show W.heap.size ≤ Z; omega) _) (by show W.heap.size ≤ Z; omega) _)
end Go.Proofs.Ytojfhlbchiaccaa.Reader
