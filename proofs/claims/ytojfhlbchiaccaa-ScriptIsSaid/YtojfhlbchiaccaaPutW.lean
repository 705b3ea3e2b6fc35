/- script.Put: a script as bytes. -/
import Derived.Test.YtojfhlbchiaccaaWriter2
import Derived.Test.YtojfhlbchiaccaaSane
namespace Go.Proofs.Ytojfhlbchiaccaa.Reader
open Go.RowKit Go.Proofs.YtojfhlbchiaccaaW.PrintWords Go.Proofs.YtojfhlbchiaccaaW.PrintLast Go.Proofs.YtojfhlbchiaccaaW.PrintMore
attribute [local go_sem] max2_int min2_int max_two min_two max_three min_three max_four min_four   -- for this text's walks alone
set_option linter.unusedVariables false
set_option linter.unusedSimpArgs false

def flagsI (f1 f2 f4 f8 : Bool) : Int := (if f1 then 1 else 0) + (if f2 then 2 else 0) + (if f4 then 4 else 0) + (if f8 then 8 else 0)
def saneB (l0 : List (ByteArray × ByteArray)) (b : Int) (s3 s4 s5 s6 : ByteArray) (l10 l11 : List (List Int)) : Bool :=
  partsB b s3 s4 s5 s6 && decide (l0.length ≤ 12) && !l0.any (fun x => longS x.1 x.2) && mayB l10 && mayB l11
def pairs (l0 : List (ByteArray × ByteArray)) : List ByteArray := l0.flatMap fun x => [x.1, x.2]
def putL (l0 : List (ByteArray × ByteArray)) (f1 : Bool) (b : Int) (s3 s4 s5 s6 : ByteArray) (f2 f4 f8 : Bool) (l10 l11 : List (List Int)) : List Int :=
  (l0.length : Int) :: (tbs (pairs l0) ++ [flagsI f1 f2 f4 f8, b] ++ tbs [s3, s4, s5, s6] ++ tlot l10 ++ tlot l11)
theorem tb_len (t : ByteArray) : (tb t).length = 3 + t.size := by unfold tb; simp [bytesOf_length]; omega
theorem strN_size (l : List Int) : (strOfNums l).size = l.length := by
  show (strOfNums l).data.size = _
  rw [← Array.length_toList, strOfNums_data, List.length_map]
theorem box_at {W : World} {cs1 : Array Value} {T1 : Nat} {w : World} (hb : Below (W.alloc (.cells cs1 T1)).heap.size (W.alloc (.cells cs1 T1)) w) : w.heap[W.heap.size]? = some (.cells cs1 T1 (0, 0)) := by
  have e1 : (W.alloc (.cells cs1 T1)).heap.size = W.heap.size + 1 := alloc_size2 _ _
  rw [hb.block _ (by omega)]
  exact alloc_cells2 _ _
theorem pairs_len : ∀ l : List (ByteArray × ByteArray), (∀ x ∈ l, x.1.size ≤ 65535 ∧ x.2.size ≤ 65535) → (tbs (pairs l)).length ≤ l.length * 131076
  | [], _ => Nat.zero_le _
  | y :: l, hl => by
    have h3 := pairs_len l (fun x hx => hl x (List.mem_cons_of_mem _ hx))
    have h4 := hl y List.mem_cons_self
    have h5 : pairs (y :: l) = [y.1, y.2] ++ pairs l := rfl
    have h6 : tbs [y.1, y.2] = tb y.1 ++ tb y.2 := by simp [tbs]
    rw [h5, tbs_app, h6, List.length_append, List.length_append, tb_len, tb_len, List.length_cons]
    omega
theorem lot_len : ∀ l : List (List Int), (∀ x ∈ l, x.length ≤ 65535) → (tbs (l.map strOfNums)).length ≤ l.length * 65538
  | [], _ => Nat.zero_le _
  | y :: l, hl => by
    have h3 := lot_len l (fun x hx => hl x (List.mem_cons_of_mem _ hx))
    have h4 := hl y List.mem_cons_self
    rw [List.map_cons, tbs, List.length_append, tb_len, strN_size, List.length_cons]
    omega
theorem may_facts {l : List (List Int)} (hm : mayB l = true) : l.length ≤ 40 ∧ (tlot l).length ≤ 2621521 := by
  unfold mayB at hm
  rw [Bool.and_eq_true, decide_eq_true_eq, Bool.not_eq_true'] at hm
  have hx : ∀ x ∈ l, x.length ≤ 65535 := by
    intro x hx
    have h1 := List.any_eq_false.1 hm.2 x hx
    have h2 : ¬ (65535 : Int) < (x.length : Int) := fun h => h1 (decide_eq_true h)
    omega
  have h3 := lot_len l hx
  have h4 := hm.1
  unfold tlot
  rw [List.length_cons]
  omega
theorem sane_facts (l : List (ByteArray × ByteArray)) (b : Int) (s3 s4 s5 s6 : ByteArray) (l10 l11 : List (List Int)) (h : saneB l b s3 s4 s5 s6 l10 l11 = true) :
    l.length ≤ 12 ∧ 0 ≤ b ∧ b ≤ 255 ∧ (tbs [s3, s4, s5, s6]).length ≤ 262152 ∧ (∀ k, (tbs (pairs (l.take k))).length ≤ 1572912) ∧ l10.length ≤ 40 ∧ (tlot l10).length ≤ 2621521 ∧ l11.length ≤ 40 ∧ (tlot l11).length ≤ 2621521 := by
  unfold saneB at h
  rw [Bool.and_eq_true, Bool.and_eq_true, Bool.and_eq_true, Bool.and_eq_true, decide_eq_true_eq, Bool.not_eq_true'] at h
  obtain ⟨⟨⟨⟨hpt, hl⟩, hany⟩, hm10⟩, hm11⟩ := h
  unfold partsB at hpt
  have hp := of_decide_eq_true hpt
  have hx : ∀ x ∈ l, x.1.size ≤ 65535 ∧ x.2.size ≤ 65535 := by
    intro x hx
    have h1 := List.any_eq_false.1 hany x hx
    have h2 : ¬ (65535 : Int) < (x.1.size : Int) := fun h => h1 (by unfold longS; rw [decide_eq_true h]; rfl)
    have h3 : ¬ (65535 : Int) < (x.2.size : Int) := fun h => h1 (by unfold longS; rw [decide_eq_true h, Bool.or_true])
    omega
  have h4 : (tbs [s3, s4, s5, s6]).length = (3 + s3.size) + ((3 + s4.size) + ((3 + s5.size) + ((3 + s6.size) + 0))) := by
    simp only [tbs, List.length_append, tb_len, List.length_nil]
  obtain ⟨a1, a2⟩ := may_facts hm10
  obtain ⟨a3, a4⟩ := may_facts hm11
  refine ⟨hl, hp.2.2.2.2.1, hp.2.2.2.2.2, by omega, fun k => ?_, a1, a2, a3, a4⟩
  have h5 := pairs_len (l.take k) (fun x hx' => hx x (List.mem_of_mem_take hx'))
  rw [List.length_take] at h5
  omega
theorem pairs_app (a b : List (ByteArray × ByteArray)) : pairs (a ++ b) = pairs a ++ pairs b := by unfold pairs; rw [List.flatMap_append]
theorem Wr.new {W : World} (x : Int) : Wr (W.heap.size + 1) W.heap.size [x] ((W.alloc (.cells #[.int .u8 x] 5)).alloc (.cells #[.slice (some ⟨W.heap.size, 0, none⟩) 1 1] 55)) := by
  have s1 := alloc_size2 W (.cells #[.int .u8 x] 5)
  refine ⟨by omega, _, ?_, rfl, .inr ⟨W.heap.size, 1, #[.int .u8 x], rfl, Nat.le_refl _, ?_, Nat.le_refl _, by simp only [maxLen]; omega, rfl, rfl⟩⟩
  · rw [← s1]; exact alloc_cells2 _ _
  · rw [Below.heap_alloc _ _ _ (by omega)]; exact alloc_cells2 _ _
theorem alloc2_cells (W : World) (o1 o2 : Obj) : ((W.alloc o1).alloc o2).heap[W.heap.size + 1]? = some o2 := by
  rw [← alloc_size2 W o1]; exact alloc_cells2 _ _
theorem alloc2_size (W : World) (o1 o2 : Obj) : ((W.alloc o1).alloc o2).heap.size = W.heap.size + 2 := by rw [alloc_size2, alloc_size2]
theorem wtexts_ (g N : Nat) {w0 : World} (hN : w0.heap.size = N) (A : Option Addr) (c : Nat) (l : List (List Int)) (xs : List Int) (W : World) (hW : Wr g N xs W) (hC : Kd.C Tx w0 A l.length l) (hc : l.length ≤ c) (hB : Below N w0 W) (hz : xs.length + (tlot l).length ≤ 100000000) (hl : l.length ≤ 40) :
    Calls Try.prog 27 #[.pointer (some ⟨g, 0, none⟩), .slice A l.length c] W fun e W' => e = .returned (.tuple #[]) ∧ Wr g N (xs ++ tlot l) W' ∧ Below N W W' := by
  subst hN; exact wtexts g A c l xs w0 W hW hC hc hB hz hl
theorem Wr.below {g base : Nat} {xs : List Int} {W W' : World} (h : Wr g base xs W) (hb : Below W.heap.size W W') : Wr g base xs W' := by
  obtain ⟨h0, v, hg, ho⟩ := h
  exact ⟨h0, v, (hb.block g (lt_of_block hg)).trans hg, own_move ho (fun k hk => hb.block k (by obtain ⟨_, hc⟩ := own_typed ho k hk; exact lt_of_block hc))⟩
set_option maxHeartbeats 4000000 in
set_option maxRecDepth 100000 in
theorem put {S : Type} (fst snd : S → ByteArray) (q : Kd S) (hsz : q.sz = 2) (hqK : ∀ w x cs, q.K w x cs → cs = [.string (fst x), .string (snd x)]) (z : S)
    (HF : ∀ (f1 : Bool) (b : Int) (s3 s4 s5 s6 : ByteArray) (f2 f4 f8 : Bool) (W : World), Calls Try.prog 26 #[.agg #[.bool f1, .int .i64 b, .string s3, .string s4, .string s5, .string s6, .bool f2, .bool f4, .bool f8]] W fun e W' => e = .returned (.int .u8 (flagsI f1 f2 f4 f8)) ∧ Below W.heap.size W W')
    (A0 : Option Addr) (c0 : Nat) (l0 : List S) (f1 : Bool) (b : Int) (s3 s4 s5 s6 : ByteArray) (f2 f4 f8 : Bool) (A10 : Option Addr) (c10 : Nat) (l10 : List (List Int)) (A11 : Option Addr) (c11 : Nat) (l11 : List (List Int)) (W : World)
    (h0 : Kd.C q W A0 l0.length l0) (hc0 : l0.length ≤ c0) (h10 : Kd.C Tx W A10 l10.length l10) (hc10 : l10.length ≤ c10) (h11 : Kd.C Tx W A11 l11.length l11) (hc11 : l11.length ≤ c11) (hs : saneB (l0.map fun x => (fst x, snd x)) b s3 s4 s5 s6 l10 l11 = true) :
    Calls Try.prog 12 #[.agg #[.slice A0 l0.length c0, .bool f1, .int .i64 b, .string s3, .string s4, .string s5, .string s6, .bool f2, .bool f4, .bool f8, .slice A10 l10.length c10, .slice A11 l11.length c11]] W fun e W' =>
      ∃ v : Value, e = .returned v ∧ Kd.R (Kd.int .u8) 5 W' W.heap.size (fun _ => True) v (putL (l0.map fun x => (fst x, snd x)) f1 b s3 s4 s5 s6 f2 f4 f8 l10 l11) ∧ Below W.heap.size W W' := by
  have hS : (partsB b s3 s4 s5 s6 && decide (l0.length ≤ 12) && !l0.any (fun x => longS (fst x) (snd x)) && mayB l10 && mayB l11) = true := by
    have := hs
    unfold saneB at this
    rw [List.length_map, List.any_map] at this
    exact this
  obtain ⟨hl12, hb0, hb255, hz4, hzp, hl10, hz10, hl11, hz11⟩ := sane_facts _ b s3 s4 s5 s6 l10 l11 hs
  rw [List.length_map] at hl12
  have HZP := Aside0.mk hzp; have HFF := Aside0.mk HF
  clear hzp HF
  obtain ⟨B, hBB⟩ : ∃ B, W.heap.size = B := ⟨_, rfl⟩
  have H0 := Aside0.mk h0; have H10 := Aside0.mk h10; have H11 := Aside0.mk h11; have HSS := Aside0.mk hS
  clear h0 h10 h11 hS hs
  have hb1 : ∀ o : Obj, Below W.heap.size W (W.alloc o) := fun o => below_alloc (Below.refl _ _) o
  have hb1' := Aside0.mk hb1
  clear hb1
  go_enter Try.func12, Try.ntmps12
  go_upto_region 3 with (go_at_call 9; go_loud (refine (sane fst snd q hsz hqK z A0 c0 l0 f1 b s3 s4 s5 s6 f2 f4 f8 A10 c10 l10 A11 c11 l11 _ (Kd.C_below H0.out (hb1'.out _)) hc0 (Kd.C_below H10.out (hb1'.out _)) hc10 (Kd.C_below H11.out (hb1'.out _)) hc11).mono ?_; rw [HSS.out]; rintro e w1 ⟨rfl, hb2⟩; have hbx := box_at hb2; rw [hBB] at hbx; have HBX := Aside0.mk hbx; have HB2 := Aside0.mk (below_step (hb1'.out _) hb2); clear hbx hb2))
  have hsz1 : B < w1.heap.size := lt_of_block HBX.out
  obtain ⟨cB0, fB0⟩ := at_cells2 HBX.out 0 _ rfl
  obtain ⟨cB1, fB1⟩ := at_cells2 HBX.out 1 _ rfl
  obtain ⟨cB2, fB2⟩ := at_cells2 HBX.out 2 _ rfl
  obtain ⟨cB3, fB3⟩ := at_cells2 HBX.out 3 _ rfl
  obtain ⟨cB4, fB4⟩ := at_cells2 HBX.out 4 _ rfl
  obtain ⟨cB5, fB5⟩ := at_cells2 HBX.out 5 _ rfl
  obtain ⟨cB6, fB6⟩ := at_cells2 HBX.out 6 _ rfl
  obtain ⟨cB7, fB7⟩ := at_cells2 HBX.out 7 _ rfl
  obtain ⟨cB8, fB8⟩ := at_cells2 HBX.out 8 _ rfl
  obtain ⟨cB9, fB9⟩ := at_cells2 HBX.out 9 _ rfl
  obtain ⟨cB10, fB10⟩ := at_cells2 HBX.out 10 _ rfl
  obtain ⟨cB11, fB11⟩ := at_cells2 HBX.out 11 _ rfl
  clear fB0 fB1 fB2 fB3 fB4 fB5 fB6 fB7 fB8 fB9 fB10 fB11
  go_wp2
  have HC0 := Aside0.mk (Kd.C_below H0.out HB2.out); have HC10 := Aside0.mk (Kd.C_below H10.out HB2.out); have HC11 := Aside0.mk (Kd.C_below H11.out HB2.out)
  have hW2 := Wr.new (W := w1) (l0.length : Int)
  have hB2 : Below w1.heap.size w1 ((w1.alloc (.cells #[.int .u8 (l0.length : Int)] 5)).alloc (.cells #[.slice (some ⟨w1.heap.size, 0, none⟩) 1 1] 55)) := below_alloc (below_alloc (Below.refl _ _) _) _
  generalize (w1.alloc (.cells #[.int .u8 (l0.length : Int)] 5)).alloc (.cells #[.slice (some ⟨w1.heap.size, 0, none⟩) 1 1] 55) = w2 at *
  obtain ⟨N, hN⟩ : ∃ N, w1.heap.size = N := ⟨_, rfl⟩
  rw [hN] at hW2 hB2 hsz1 ⊢
  have HW2 := Aside0.mk hW2; have HBW2 := Aside0.mk hB2
  clear hW2 hB2 cB0 cB1 cB2 cB3 cB4 cB5 cB6 cB7 cB8 cB9 cB10 cB11
  go_loopw [17] (fun i wr => ∃ k : Nat, k ≤ l0.length ∧ i = .int .i64 k ∧ Wr (N + 1) N ((l0.length : Int) :: tbs (pairs ((l0.map fun x => (fst x, snd x)).take k))) wr ∧ Below N w1 wr) (fun i _ => l0.length - (intOf i).toNat)
  case atStart => exact ⟨0, Nat.zero_le _, rfl, by simpa [tbs, pairs] using HW2.out, HBW2.out⟩
  case round =>
    obtain ⟨k, hk, rfl, hI, hB⟩ := hrel
    have HI := Aside0.mk hI; have HBR := Aside0.mk hB
    have hNr : N ≤ wr.heap.size := by have := hB.size; omega
    clear hI hB
    by_cases hlt : k < l0.length
    · have hCr := Kd.C_below HC0.out (show Below w1.heap.size w1 wr by rw [hN]; exact HBR.out)
      obtain ⟨ad, cs, rfl, _, hK, hc0⟩ := Kd.C_get hCr z (k : Int) (by omega) (by omega)
      obtain rfl := hqK _ _ _ hK
      have hat : l0.getD k z = l0[k] := by rw [List.getD_eq_getElem?_getD, List.getElem?_eq_getElem hlt]; rfl
      obtain ⟨x, hx⟩ : ∃ x, l0[k] = x := ⟨_, rfl⟩
      have hcell : wr.cell? (ad.add (k * 2)) = some (.string (fst x)) := by
        have := hc0 0 _ rfl
        rwa [Int.toNat_natCast, hsz, Nat.add_zero, hat, hx] at this
      have hcell1 : wr.cell? ⟨(ad.add (k * 2)).block, (ad.add (k * 2)).off + 1, none⟩ = some (.string (snd x)) := by
        have := hc0 1 _ rfl
        rw [Int.toNat_natCast, hsz, hat, hx] at this
        rw [← add_field _ _ 1 (by omega)]; exact this
      obtain ⟨x1, hx1⟩ : ∃ x1, fst x = x1 := ⟨_, rfl⟩
      obtain ⟨x2, hx2⟩ : ∃ x2, snd x = x2 := ⟨_, rfl⟩
      rw [hx1] at hcell; rw [hx2] at hcell1
      have hlm : k < (l0.map fun x => (fst x, snd x)).length := by rw [List.length_map]; exact hlt
      have htk : pairs ((l0.map fun x => (fst x, snd x)).take (k + 1)) = pairs ((l0.map fun x => (fst x, snd x)).take k) ++ [x1, x2] := by
        rw [List.take_succ_eq_append_getElem hlm, pairs_app, List.getElem_map, hx, hx1, hx2]; rfl
      have hyz := HZP.out (k + 1)
      rw [htk, tbs_app, List.length_append] at hyz
      obtain ⟨ys, hys⟩ : ∃ ys, (l0.length : Int) :: tbs (pairs ((l0.map fun x => (fst x, snd x)).take k)) = ys := ⟨_, rfl⟩
      have hyz2 : ys.length + (tbs [x1, x2]).length ≤ 100000000 := by rw [← hys, List.length_cons]; omega
      rw [hys] at HI
      have HYS := Aside0.mk hys; have HTK := Aside0.mk htk; have HYZ := Aside0.mk hyz2
      clear hc0 hat hx hx1 hx2 hys htk hyz hyz2 hCr hlm
      go_wp2_with (go_at_call 25; go_loud (refine (wtext (N + 1) N (wr.heap.size + 1) [x1, x2] ys _ ((HI.out.alloc _).alloc _) (alloc2_cells wr _ _) HYZ.out (by rw [alloc2_size]; omega)).mono ?_; rintro e w3 ⟨rfl, h3, hb3⟩; have H3 := Aside0.mk h3; have HB3 := Aside0.mk hb3; clear h3 hb3))
      go_roundw
      case rel =>
        refine ⟨k + 1, by omega, by go_num, ?_, (Below.alloc (HBR.out.alloc hNr _) (by rw [alloc_size2]; omega) _).trans HB3.out⟩
        rw [HTK.out, tbs_app, ← List.cons_append, HYS.out]
        exact H3.out
      case measure => simp [intOf]; omega
    · obtain rfl : k = l0.length := by omega
      have hk1 : (l0.map fun x => (fst x, snd x)).take l0.length = l0.map fun x => (fst x, snd x) := by
        rw [List.take_of_length_le (by rw [List.length_map]; exact Nat.le_refl _)]
      rw [hk1] at HI
      have hyz := HZP.out l0.length
      rw [hk1] at hyz
      obtain ⟨ys, hys⟩ : ∃ ys, (l0.length : Int) :: tbs (pairs (l0.map fun x => (fst x, snd x))) = ys := ⟨_, rfl⟩
      have hyz2 : ys.length ≤ 1572913 := by rw [← hys, List.length_cons]; omega
      rw [hys] at HI
      have HYS := Aside0.mk hys
      clear hyz hys hk1
      have hbxr := (HBR.out.block B hsz1).trans HBX.out
      have HBXR := Aside0.mk hbxr
      obtain ⟨cB1, fB1⟩ := at_cells2 hbxr 1 _ rfl
      obtain ⟨cB2, fB2⟩ := at_cells2 hbxr 2 _ rfl
      obtain ⟨cB3, fB3⟩ := at_cells2 hbxr 3 _ rfl
      obtain ⟨cB4, fB4⟩ := at_cells2 hbxr 4 _ rfl
      obtain ⟨cB5, fB5⟩ := at_cells2 hbxr 5 _ rfl
      obtain ⟨cB6, fB6⟩ := at_cells2 hbxr 6 _ rfl
      obtain ⟨cB7, fB7⟩ := at_cells2 hbxr 7 _ rfl
      obtain ⟨cB8, fB8⟩ := at_cells2 hbxr 8 _ rfl
      obtain ⟨cB9, fB9⟩ := at_cells2 hbxr 9 _ rfl
      clear hbxr fB1 fB2 fB3 fB4 fB5 fB6 fB7 fB8 fB9
      obtain ⟨hbg, v, hg, ho⟩ := HI.out
      obtain ⟨Av, cv, rfl⟩ := own_slice ho
      obtain ⟨cg0, fg0⟩ := at_cells2 hg 0 _ rfl
      have HG := Aside0.mk hg; have HO := Aside0.mk ho
      clear hg ho
      obtain ⟨fv, hfv⟩ : ∃ fv, flagsI f1 f2 f4 f8 = fv := ⟨_, rfl⟩
      have hcall := HFF.out f1 b s3 s4 s5 s6 f2 f4 f8 wr.drew
      rw [hfv] at hcall
      have HCF := Aside0.mk hcall; have HFV := Aside0.mk hfv
      clear hcall hfv
      obtain ⟨i5, hi5, hz5, hs5, hy5⟩ := info5w
      have HI5 := Aside0.mk (And.intro hi5 (And.intro hz5 (And.intro hs5 hy5)))
      clear hi5 hz5 hs5 hy5
      have HGD : Aside0 (wr.drew.heap[N + 1]? = some (.cells #[.slice Av ys.length cv] 55 (0, 0))) := ⟨HG.out⟩
      have HBXD : Aside0 (wr.drew.heap[B]? = some (.cells #[.slice A0 l0.length c0, .bool f1, .int .i64 b, .string s3, .string s4, .string s5, .string s6, .bool f2, .bool f4, .bool f8, .slice A10 l10.length c10, .slice A11 l11.length c11] 35 (0, 0))) := ⟨HBXR.out⟩
      have hbw : IntKind.u8.wrap b = b := by unfold IntKind.wrap; simp [IntKind.bits, IntKind.signed]; omega
      go_upto_region 9 with (fail)
      refine start_ (n := 11) (S := fun w' => w'.cell? ⟨N + 1, 0, none⟩ = some (.slice Av ys.length cv) ∧ w'.cell? ⟨B, 1, none⟩ = some (.bool f1) ∧ w'.cell? ⟨B, 2, none⟩ = some (.int .i64 b) ∧ w'.cell? ⟨B, 3, none⟩ = some (.string s3) ∧ w'.cell? ⟨B, 4, none⟩ = some (.string s4) ∧ w'.cell? ⟨B, 5, none⟩ = some (.string s5) ∧ w'.cell? ⟨B, 6, none⟩ = some (.string s6) ∧ w'.cell? ⟨B, 7, none⟩ = some (.bool f2) ∧ w'.cell? ⟨B, 8, none⟩ = some (.bool f4) ∧ w'.cell? ⟨B, 9, none⟩ = some (.bool f8)) (ds := [9, 10]) #[false, false, false, false, false, false, false, false, false, false, false] (by kernel_rfl) rfl rfl ⟨(at_cells2 HGD.out 0 _ rfl).1, (at_cells2 HBXD.out 1 _ rfl).1, (at_cells2 HBXD.out 2 _ rfl).1, (at_cells2 HBXD.out 3 _ rfl).1, (at_cells2 HBXD.out 4 _ rfl).1, (at_cells2 HBXD.out 5 _ rfl).1, (at_cells2 HBXD.out 6 _ rfl).1, (at_cells2 HBXD.out 7 _ rfl).1, (at_cells2 HBXD.out 8 _ rfl).1, (at_cells2 HBXD.out 9 _ rfl).1⟩ (fun hHeld => ?_)
      refine pure_ (i := 1) (N := some 29) (v := ?_) (a' := ?_) #[false, true, false, false, false, false, false, false, false, false, false] rfl rfl (by kernel_rfl) (fun _ _ _ h => h) (Or.inl ⟨by rfl, ?_⟩) ?_ ?_
      rotate_left
      · intro w'
        go_simp
        with_reducible rfl
      rotate_left
      · simp only [Act.put, List.setIfInBounds_toArray, List.set_cons_zero, List.set_cons_succ, i64_w, i32_w]
        rfl
      refine pure_ (i := 4) (N := some 32) (v := ?_) (a' := ?_) #[false, true, false, false, true, false, false, false, false, false, false] rfl rfl (by kernel_rfl) (fun _ _ _ h => h) (Or.inl ⟨by rfl, ?_⟩) ?_ ?_
      rotate_left
      · intro w'
        go_simp
        with_reducible rfl
      rotate_left
      · simp only [Act.put, List.setIfInBounds_toArray, List.set_cons_zero, List.set_cons_succ, i64_w, i32_w]
        rfl
      refine pure_ (i := 5) (N := some 33) (v := ?_) (a' := ?_) #[false, true, false, false, true, true, false, false, false, false, false] rfl rfl (by kernel_rfl) (fun _ _ _ h => h) (Or.inl ⟨by rfl, ?_⟩) ?_ ?_
      rotate_left
      · intro w'
        go_simp
        with_reducible rfl
      rotate_left
      · simp only [Act.put, List.setIfInBounds_toArray, List.set_cons_zero, List.set_cons_succ, i64_w, i32_w]
        rfl
      refine take_ (i := 0) (N := some 28) (v := ?_) (a' := ?_) #[true, true, false, false, true, true, false, false, false, false, false] rfl rfl (by kernel_rfl) (fun _ _ _ h => h) (Or.inl ⟨by rfl, ?_⟩) hHeld ?_ ?_
      rotate_left
      · rintro w' ⟨s0, s1, s2, s3, s4, s5, s6, s7, s8, s9⟩
        go_simp
        with_reducible rfl
      rotate_left
      · simp only [Act.put, List.setIfInBounds_toArray, List.set_cons_zero, List.set_cons_succ, i64_w, i32_w]
        rfl
      refine take_ (i := 2) (N := some 30) (v := ?_) (a' := ?_) #[true, true, true, false, true, true, false, false, false, false, false] rfl rfl (by kernel_rfl) (fun _ _ _ h => h) (Or.inl ⟨by rfl, ?_⟩) hHeld ?_ ?_
      rotate_left
      · rintro w' ⟨s0, s1, s2, s3, s4, s5, s6, s7, s8, s9⟩
        go_simp
        with_reducible rfl
      rotate_left
      · simp only [Act.put, List.setIfInBounds_toArray, List.set_cons_zero, List.set_cons_succ, i64_w, i32_w]
        rfl
      refine take_ (i := 6) (N := some 34) (v := ?_) (a' := ?_) #[true, true, true, false, true, true, true, false, false, false, false] rfl rfl (by kernel_rfl) (fun _ _ _ h => h) (Or.inl ⟨by rfl, ?_⟩) hHeld ?_ ?_
      rotate_left
      · rintro w' ⟨s0, s1, s2, s3, s4, s5, s6, s7, s8, s9⟩
        go_simp
        with_reducible rfl
      rotate_left
      · simp only [Act.put, List.setIfInBounds_toArray, List.set_cons_zero, List.set_cons_succ, i64_w, i32_w]
        rfl
      refine pure_ (i := 7) (N := some 35) (v := ?_) (a' := ?_) #[true, true, true, false, true, true, true, true, false, false, false] rfl rfl (by kernel_rfl) (fun _ _ _ h => h) (Or.inl ⟨by rfl, ?_⟩) ?_ ?_
      rotate_left
      · intro w'
        go_simp
        with_reducible rfl
      rotate_left
      · simp only [Act.put, List.setIfInBounds_toArray, List.set_cons_zero, List.set_cons_succ, i64_w, i32_w]
        rfl
      refine one_ (i := 3) (N := some 31) #[true, true, true, true, true, true, true, true, false, false, false] rfl rfl (by kernel_rfl) (by decide) (fun K hK => ?_)
      refine goes_ Try.func26 (by kernel_rfl) rfl #[.agg #[.bool f1, .int .i64 b, .string s3, .string s4, .string s5, .string s6, .bool f2, .bool f4, .bool f8]] (by rfl) rfl rfl (by simp only [List.map_toArray, List.map_cons, List.map_nil]; rfl) ?_
      with_reducible refine HCF.out.mono ?_
      rintro e w4 ⟨rfl, hb4⟩
      refine ⟨_, rfl, ?_⟩
      have hw4 : wr.heap.size ≤ w4.heap.size := hb4.size
      have hbx4 := (hb4.block B (show B < wr.heap.size by omega)).trans HBXR.out
      have hg4 := (hb4.block _ (lt_of_block HGD.out)).trans HG.out
      have ho4 := own_move HO.out (fun k hk => hb4.block k (by obtain ⟨_, hc⟩ := own_typed HO.out k hk; exact (lt_of_block hc : k < wr.heap.size)))
      refine hK.out _ _ ⟨(at_cells2 hg4 0 _ rfl).1, (at_cells2 hbx4 1 _ rfl).1, (at_cells2 hbx4 2 _ rfl).1, (at_cells2 hbx4 3 _ rfl).1, (at_cells2 hbx4 4 _ rfl).1, (at_cells2 hbx4 5 _ rfl).1, (at_cells2 hbx4 6 _ rfl).1, (at_cells2 hbx4 7 _ rfl).1, (at_cells2 hbx4 8 _ rfl).1, (at_cells2 hbx4 9 _ rfl).1⟩ (fun hHeld => ?_)
      clear hK K
      refine norm_ (a' := ?_) ?_ ?_
      rotate_left
      · show Act.put _ (some 31) _ = _
        simp only [Act.put, List.setIfInBounds_toArray, List.set_cons_zero, List.set_cons_succ, i64_w, i32_w]
        rfl
      refine one_ (i := 8) (N := some 36) #[true, true, true, true, true, true, true, true, true, false, false] rfl rfl (by kernel_rfl) (by decide) (fun K hK => ?_)
      refine value_ (w1 := ?_) (v := ?_) (by rfl) rfl ?_ ?_
      rotate_left 2
      · go_simp
        constructor
        · rfl
        · rfl
      refine hK.out _ _ ⟨(at_cells2 ((Below.heap_alloc w4 _ _ (lt_of_block hg4)).trans hg4) 0 _ rfl).1, (at_cells2 ((Below.heap_alloc w4 _ _ (lt_of_block hbx4)).trans hbx4) 1 _ rfl).1, (at_cells2 ((Below.heap_alloc w4 _ _ (lt_of_block hbx4)).trans hbx4) 2 _ rfl).1, (at_cells2 ((Below.heap_alloc w4 _ _ (lt_of_block hbx4)).trans hbx4) 3 _ rfl).1, (at_cells2 ((Below.heap_alloc w4 _ _ (lt_of_block hbx4)).trans hbx4) 4 _ rfl).1, (at_cells2 ((Below.heap_alloc w4 _ _ (lt_of_block hbx4)).trans hbx4) 5 _ rfl).1, (at_cells2 ((Below.heap_alloc w4 _ _ (lt_of_block hbx4)).trans hbx4) 6 _ rfl).1, (at_cells2 ((Below.heap_alloc w4 _ _ (lt_of_block hbx4)).trans hbx4) 7 _ rfl).1, (at_cells2 ((Below.heap_alloc w4 _ _ (lt_of_block hbx4)).trans hbx4) 8 _ rfl).1, (at_cells2 ((Below.heap_alloc w4 _ _ (lt_of_block hbx4)).trans hbx4) 9 _ rfl).1⟩ (fun hHeld => ?_)
      clear hK K
      refine norm_ (a' := ?_) ?_ ?_
      rotate_left
      · show Act.put _ (some 36) _ = _
        simp only [Act.put, List.setIfInBounds_toArray, List.set_cons_zero, List.set_cons_succ, i64_w, i32_w]
        rfl
      refine last_ (i := 9) (N := some 37) #[true, true, true, true, true, true, true, true, true, true, false] rfl rfl (by kernel_rfl) (by decide) (fun K hK => ?_)
      rw [if_pos (by rfl)]
      refine wp_append_own _ (.tmp 28) (.tmp 36) 55 rfl N 5 i5 (.int .u8 0) 1 1 Try.underlying55 HI5.out.1 HI5.out.2.1 HI5.out.2.2.1 HI5.out.2.2.2 rfl (by decide) (.slice Av ys.length cv) ys.length (encs (Value.int .u8) ys) rfl (ho4.alloc _) ⟨w4.heap.size, 0, none⟩ 2 2 [.int .u8 fv, .int .u8 b] rfl rfl (World.news_of_block (fr := (0, 0)) (heap_alloc_new w4 _)) (by simp only [List.mem_cons, List.not_mem_nil, or_false, forall_eq_or_imp, forall_eq]; exact ⟨rfl, rfl⟩) (by simp only [maxLen]; omega) (by omega) (by rw [alloc_size2]; omega) ?_
      intro v5 w5 hown5 hg5 _
      have hga := (Below.heap_alloc w4 (.cells #[.int .u8 fv, .int .u8 b] 5) (N + 1) (lt_of_block hg4)).trans hg4
      obtain ⟨q1, q2, q3⟩ := own_store hga hown5 hg5 (own_ne ho4 hg4 (by decide))
      obtain ⟨A5, c5, rfl⟩ := own_slice hown5
      obtain ⟨cc5, ff5⟩ := at_cells2 q1 0 _ rfl
      refine hK.out _ _ ?_
      clear hK K
      refine norm_ (a' := ?_) ?_ ?_
      rotate_left
      · show Act.put _ (some 37) _ = _
        simp only [Act.put, List.setIfInBounds_toArray, List.set_cons_zero, List.set_cons_succ, i64_w, i32_w]
        rfl
      refine last_ (i := 10) (N := none) #[true, true, true, true, true, true, true, true, true, true, true] rfl rfl (by kernel_rfl) (by decide) (fun K hK => ?_)
      refine skip_ (w1 := ?_) (by rfl) rfl ?_ ?_
      rotate_left
      · go_simp
        rfl
      refine hK.out _ _ ?_
      clear hK K
      refine done_ (by kernel_rfl) ?_
      go_upto_region 10 with (fail)
      have hs5 := hg5.size
      rw [alloc_size2] at hs5
      have HW6 : Aside0 (Wr (N + 1) N (ys ++ [fv, b]) (w5.setCell ⟨N + 1, 0, none⟩ (.slice A5 (ys.length + 2) c5))) := by
        refine ⟨hbg, _, q2, ?_⟩
        have e : encs (Value.int .u8) ys ++ [.int .u8 fv, .int .u8 b] = encs (Value.int .u8) (ys ++ [fv, b]) := by simp [encs]
        have q := q3
        rw [e] at q
        rw [show (ys ++ [fv, b]).length = ys.length + 2 by simp]; exact q
      have hB4 : Below N w1 w4 := (HBR.out.trans (below_drew (Below.refl _ _))).trans (hb4.mono (show N ≤ wr.heap.size from hNr))
      have HB6 : Aside0 (Below N w1 (w5.setCell ⟨N + 1, 0, none⟩ (.slice A5 (ys.length + 2) c5))) := ⟨Below.setCell (Below.grown (hB4.alloc (by omega) _) hg5 (by rw [alloc_size2]; omega) (fun j hj => own_base ho4 j hj)) (p := ⟨N + 1, 0, none⟩) (show N ≤ N + 1 by omega) _⟩
      clear hg5 hB4 q1 q2 q3 hga hown5 hb4 ho4 hg4 hbx4 cc5 ff5
      generalize w5.setCell ⟨N + 1, 0, none⟩ (.slice A5 (ys.length + 2) c5) = w6 at *
      have hn6 : N ≤ w6.heap.size := by have := HB6.out.size; omega
      have HX6 := Aside0.mk ((HB6.out.block B hsz1).trans HBX.out)
      obtain ⟨cB3, fB3⟩ := at_cells2 HX6.out 3 _ rfl
      obtain ⟨cB4, fB4⟩ := at_cells2 HX6.out 4 _ rfl
      obtain ⟨cB5, fB5⟩ := at_cells2 HX6.out 5 _ rfl
      obtain ⟨cB6, fB6⟩ := at_cells2 HX6.out 6 _ rfl
      clear fB3 fB4 fB5 fB6
      obtain ⟨zs, hzs⟩ : ∃ zs, ys ++ [fv, b] = zs := ⟨_, rfl⟩
      have hzl : zs.length ≤ 1572915 := by rw [← hzs, List.length_append]; simp only [List.length_cons, List.length_nil]; omega
      rw [hzs] at HW6
      have HZS := Aside0.mk hzs
      clear hzs
      have tok25 := Aside0.mk True.intro
      have tok10 := Aside0.mk True.intro
      have tok11 := Aside0.mk True.intro
      go_wp2_with (first
        | (go_at_call 25; have t := tok25; clear tok25 t; go_loud (refine (wtext (N + 1) N w6.heap.size [s3, s4, s5, s6] zs _ (HW6.out.alloc _) (alloc_cells2 w6 _) (by omega) (by rw [alloc_size2]; omega)).mono ?_; rintro e w7 ⟨rfl, h7, hb7⟩; have HW7 := Aside0.mk h7; have HB7 := Aside0.mk ((HB6.out.alloc hn6 _).trans hb7); have hx7 := (HB7.out.block B hsz1).trans HBX.out; obtain ⟨cD, fD⟩ := at_cells2 hx7 10 _ rfl; clear fD h7 hb7 hx7))
        | (go_at_call 27; have t := tok10; clear tok10 t; go_loud (refine (wtexts_ (N + 1) N hN A10 c10 l10 (zs ++ tbs [s3, s4, s5, s6]) w7 HW7.out HC10.out hc10 HB7.out (by rw [List.length_append]; omega) hl10).mono ?_; rintro e w8 ⟨rfl, h8, hb8⟩; have HW8 := Aside0.mk h8; have HB8 := Aside0.mk (HB7.out.trans hb8); have hx8 := (HB8.out.block B hsz1).trans HBX.out; obtain ⟨cE, fE⟩ := at_cells2 hx8 11 _ rfl; clear fE h8 hb8 hx8))
        | (go_at_call 27; have t := tok11; clear tok11 t; go_loud (refine (wtexts_ (N + 1) N hN A11 c11 l11 (zs ++ tbs [s3, s4, s5, s6] ++ tlot l10) w8 HW8.out HC11.out hc11 HB8.out (by rw [List.length_append, List.length_append]; omega) hl11).mono ?_; rintro e w9 ⟨rfl, h9, hb9⟩; have HB9 := Aside0.mk (HB8.out.trans hb9); obtain ⟨hbg9, v9, hg9, ho9⟩ := h9; have HO9 := Aside0.mk ho9; obtain ⟨cF, fF⟩ := at_cells2 hg9 0 _ rfl; clear fF hg9 ho9 hb9)))
      go_ret
      have hput : putL (l0.map fun x => (fst x, snd x)) f1 b s3 s4 s5 s6 f2 f4 f8 l10 l11 = zs ++ tbs [s3, s4, s5, s6] ++ tlot l10 ++ tlot l11 := by
        unfold putL
        rw [HFV.out, List.length_map, ← HZS.out, ← HYS.out]
        simp only [List.cons_append, List.append_assoc]
      refine ⟨v9, rfl, ?_, HB2.out.trans (HB9.out.mono (by omega))⟩
      rw [hput]
      exact Kd.R_lower (Kd.R_of_own HO9.out (fun _ _ => trivial)) (by omega)
end Go.Proofs.Ytojfhlbchiaccaa.Reader
