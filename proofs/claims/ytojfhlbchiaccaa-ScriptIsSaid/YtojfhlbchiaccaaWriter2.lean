/- The writer of package script: texts in a row. -/
import Derived.Test.YtojfhlbchiaccaaWriter
namespace Go.Proofs.Ytojfhlbchiaccaa.Reader
open Go.RowKit Go.Proofs.YtojfhlbchiaccaaW.PrintWords Go.Proofs.YtojfhlbchiaccaaW.PrintLast Go.Proofs.YtojfhlbchiaccaaW.PrintMore
attribute [local go_sem] max2_int min2_int max_two min_two max_three min_three max_four min_four   -- for this text's walks alone
set_option linter.unusedVariables false
set_option linter.unusedSimpArgs false

theorem tbs_app (a b : List ByteArray) : tbs (a ++ b) = tbs a ++ tbs b := by
  induction a with
  | nil => rfl
  | cons x a ih => simp [tbs, ih]
theorem Wr.alloc {g base : Nat} {xs : List Int} {W : World} (h : Wr g base xs W) (o : Obj) : Wr g base xs (W.alloc o) := by
  obtain ⟨hb, v, hg, ho⟩ := h
  exact ⟨hb, v, (Below.heap_alloc W o g (lt_of_block hg)).trans hg, ho.alloc o⟩
/-- Texts with their number ahead. -/
def tlot (l : List (List Int)) : List Int := (l.length : Int) :: tbs (l.map strOfNums)
set_option maxHeartbeats 4000000 in
set_option maxRecDepth 100000 in
theorem wtexts (g : Nat) (A : Option Addr) (c : Nat) (l : List (List Int)) (xs : List Int) (w0 W : World) (hW : Wr g w0.heap.size xs W) (hC : Kd.C Tx w0 A l.length l) (hc : l.length ≤ c) (hB : Below w0.heap.size w0 W) (hz : xs.length + (tlot l).length ≤ 100000000) (hl : l.length ≤ 40) :
    Calls Try.prog 27 #[.pointer (some ⟨g, 0, none⟩), .slice A l.length c] W fun e W' => e = .returned (.tuple #[]) ∧ Wr g w0.heap.size (xs ++ tlot l) W' ∧ Below w0.heap.size W W' := by
  obtain ⟨base, hbase⟩ : ∃ b, w0.heap.size = b := ⟨_, rfl⟩
  have hbW : base ≤ W.heap.size := by rw [← hbase]; exact hB.size
  rw [hbase] at hW ⊢
  obtain ⟨hbg, v, hg, ho⟩ := hW
  obtain ⟨Av, cv, rfl⟩ := own_slice ho
  obtain ⟨c0, f0⟩ := at_cells2 hg 0 _ rfl
  have HC := Aside0.mk hC; have HB := Aside0.mk hB; have HZ := Aside0.mk hz; have HG := Aside0.mk hg; have HO := Aside0.mk ho
  clear hC hB hz hg ho
  have hxz : xs.length + 1 ≤ 100000000 := by have := HZ.out; unfold tlot at this; simp only [List.length_cons] at this; omega
  obtain ⟨i5, hi5, hz5, hs5, hy5⟩ := info5w
  have HI5 := Aside0.mk (And.intro hi5 (And.intro hz5 (And.intro hs5 hy5)))
  clear hi5 hz5 hs5 hy5
  go_enter Try.func27, Try.ntmps27
  go_wp2_with (first
    | ((with_reducible refine gate_builtin (b := .append) (xs := #[.tmp 9, .tmp 13]) rfl ?_); at_builtin; go_loud (refine wpList_append_own_at _ rfl (.tmp 9) (.tmp 13) 55 rfl base 5 i5 (.int .u8 0) 1 1 Try.underlying55 HI5.out.1 HI5.out.2.1 HI5.out.2.2.1 HI5.out.2.2.2 rfl (by decide) (.slice Av xs.length cv) xs.length (encs (Value.int .u8) xs) rfl (HO.out.alloc _) ⟨W.heap.size, 0, none⟩ 1 1 [.int .u8 (l.length : Int)] rfl rfl (World.news_of_block (fr := (0, 0)) (heap_alloc_new W _)) (by simp only [List.mem_cons, List.not_mem_nil, or_false, forall_eq_or_imp, forall_eq]; exact rfl) (by simp only [maxLen]; omega) (by omega) (by rw [alloc_size2]; omega) ?_; intro v1 w1 hown1 hg1 _ hat1; have hga := (Below.heap_alloc W (.cells #[.int .u8 (l.length : Int)] 5) g (lt_of_block HG.out)).trans HG.out; obtain ⟨q1, q2, q3⟩ := own_store hga hown1 hg1 (own_ne HO.out HG.out (by decide)); obtain ⟨A1, c1, rfl⟩ := own_slice hown1; obtain ⟨cc1, ff1⟩ := at_cells2 q1 0 _ rfl; have HQ2 := Aside0.mk q2; have HQ3 := Aside0.mk q3; have HG1 := Aside0.mk hg1; clear q1 q2 q3 hg1 hown1 hat1 hga)))
  have hs1 := HG1.out.size
  rw [alloc_size2] at hs1
  have hW1 : Wr g base (xs ++ [(l.length : Int)]) (w1.setCell ⟨g, 0, none⟩ (.slice A1 (xs.length + 1) c1)) := by
    refine ⟨hbg, _, HQ2.out, ?_⟩
    have := HQ3.out
    have e : encs (Value.int .u8) xs ++ [.int .u8 (l.length : Int)] = encs (Value.int .u8) (xs ++ [(l.length : Int)]) := by simp [encs]
    rw [e] at this
    have e2 : (xs ++ [(l.length : Int)]).length = xs.length + 1 := by simp
    rw [e2]; exact this
  have hB1 : Below base W (w1.setCell ⟨g, 0, none⟩ (.slice A1 (xs.length + 1) c1)) := by
    refine Below.setCell ?_ (by show base ≤ g; exact hbg) _
    exact Below.grown (Below.alloc (Below.refl _ _) hbW _) HG1.out (by rw [alloc_size2]; omega) (fun j hj => own_base HO.out j hj)
  have hbw1 : base ≤ (w1.setCell ⟨g, 0, none⟩ (.slice A1 (xs.length + 1) c1)).heap.size := by rw [set_size2]; omega
  generalize w1.setCell ⟨g, 0, none⟩ (.slice A1 (xs.length + 1) c1) = w2 at *
  have HW1 := Aside0.mk hW1; have HB1 := Aside0.mk hB1
  clear HQ2 HQ3 HG1 hW1 hB1 hs1
  go_loopw [18] (fun i wr => ∃ k : Nat, k ≤ l.length ∧ i = .int .i64 k ∧ Wr g base (xs ++ [(l.length : Int)] ++ tbs ((l.take k).map strOfNums)) wr ∧ Below base W wr ∧ base ≤ wr.heap.size) (fun i _ => l.length - (intOf i).toNat)
  case atStart => exact ⟨0, Nat.zero_le _, rfl, by simpa [tbs] using HW1.out, HB1.out, hbw1⟩
  case round =>
    obtain ⟨k, hk, rfl, hI, hB, hbw⟩ := hrel
    have HI := Aside0.mk hI; have HBR := Aside0.mk hB
    clear hI hB
    by_cases hlt : k < l.length
    · have hCr := Kd.C_below HC.out (show Below w0.heap.size w0 wr from HB.out.trans (hbase ▸ HBR.out))
      obtain ⟨ad, cs, rfl, _, hK, hc0⟩ := Kd.C_get hCr ([] : List Int) (k : Int) (by omega) (by omega)
      obtain ⟨A0, cc0, rfl, _, hK2⟩ := hK
      have hcell : wr.cell? (ad.add k) = some (.slice A0 (l.getD k []).length cc0) := by
        have := hc0 0 _ rfl
        rwa [Int.toNat_natCast, show Tx.sz = 1 from rfl, Nat.mul_one, Nat.add_zero] at this
      rw [Int.toNat_natCast] at hK2
      have hat : l.getD k [] = l[k] := by rw [List.getD_eq_getElem?_getD, List.getElem?_eq_getElem hlt]; rfl
      obtain ⟨t, ht⟩ : ∃ t, l[k] = t := ⟨_, rfl⟩
      rw [hat, ht] at hcell hK2
      have hcv := Kd.C_string (P := Try.prog) (c := cc0) Try.underlying28 Try.underlying5 Try.underlying9 hK2
      have HT := Aside0.mk ht
      clear hc0 hat ht hK2 hCr
      obtain ⟨ys, hys⟩ : ∃ ys, xs ++ [(l.length : Int)] ++ tbs ((l.take k).map strOfNums) = ys := ⟨_, rfl⟩
      have hyz : ys.length + (tbs [strOfNums t]).length ≤ 100000000 := by
        have h1 := HZ.out
        unfold tlot at h1
        have h2 : tbs (l.map strOfNums) = tbs ((l.take k).map strOfNums) ++ (tbs [strOfNums t] ++ tbs ((l.drop (k + 1)).map strOfNums)) := by
          conv => lhs; rw [← List.take_append_drop k l, List.drop_eq_getElem_cons hlt, HT.out, List.map_append, tbs_app]
          congr 1
          rw [List.map_cons, ← tbs_app]; rfl
        rw [h2] at h1
        rw [← hys]
        simp only [List.length_append, List.length_cons, List.length_nil] at h1 ⊢
        omega
      rw [hys] at HI
      have HYS := Aside0.mk hys; have HYZ := Aside0.mk hyz
      clear hys hyz
      go_wp2_with (go_at_call 25; go_loud (refine (wtext g base wr.heap.size [strOfNums t] ys _ (HI.out.alloc _) (alloc_cells2 wr (.cells #[.string (strOfNums t)] 9)) HYZ.out (by rw [alloc_size2]; omega)).mono ?_; rintro e w3 ⟨rfl, h3, hb3⟩))
      go_roundw
      case rel =>
        have hb4 : Below base W w3 := (HBR.out.alloc hbw _).trans hb3
        refine ⟨k + 1, by omega, by go_num, ?_, hb4, Nat.le_trans hbW hb4.size⟩
        rw [List.take_succ_eq_append_getElem hlt, List.map_append, tbs_app, HT.out, ← List.append_assoc, HYS.out]
        exact h3
      case measure => simp [intOf]; omega
    · obtain rfl : k = l.length := by omega
      rw [List.take_length] at HI
      go_wp2
      go_end0
      refine ⟨rfl, ?_, HBR.out⟩
      have := HI.out
      rw [List.append_assoc] at this
      exact this
end Go.Proofs.Ytojfhlbchiaccaa.Reader
