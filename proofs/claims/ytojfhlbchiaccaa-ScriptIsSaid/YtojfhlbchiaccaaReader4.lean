/- script.Get: bytes as a script. -/
import Derived.Test.YtojfhlbchiaccaaReader3
namespace Go.Proofs.Ytojfhlbchiaccaa.Reader
open Go.RowKit Go.Proofs.YtojfhlbchiaccaaW.PrintWords Go.Proofs.YtojfhlbchiaccaaW.PrintLast Go.Proofs.YtojfhlbchiaccaaW.PrintMore
attribute [local go_sem] max2_int min2_int max_two min_two max_three min_three max_four min_four   -- for this text's walks alone
set_option linter.unusedVariables false
set_option linter.unusedSimpArgs false

/-- Pairs of texts, one behind the other. -/
def resN : Nat → List Int → List (ByteArray × ByteArray)
  | 0, _ => []
  | k + 1, l => (strOfNums (txt l), strOfNums (txt (rst l))) :: resN k (rst (rst l))
theorem rstN_add (k m : Nat) (l : List Int) : rstN (k + m) l = rstN m (rstN k l) := by
  induction k generalizing l with
  | zero => rw [Nat.zero_add]; rfl
  | succ k ih => rw [Nat.succ_add]; exact ih (rst l)
theorem resN_snoc (k : Nat) (l : List Int) : resN (k + 1) l = resN k l ++ [(strOfNums (txt (rstN (2 * k) l)), strOfNums (txt (rst (rstN (2 * k) l))))] := by
  induction k generalizing l with
  | zero => rfl
  | succ k ih =>
    rw [resN, ih (rst (rst l))]
    have : rstN (2 * (k + 1)) l = rstN (2 * k) (rst (rst l)) := rfl
    rw [this]; rfl
theorem resN_len (k : Nat) (l : List Int) : (resN k l).length = k := by
  induction k generalizing l with
  | zero => rfl
  | succ k ih => rw [resN, List.length_cons, ih]
theorem C_lt {A : Option Addr} {l : List Int} {W : World} (h : Kd.C (Kd.int .u8) W A l.length l) : ∀ ad, A = some ad → 0 < l.length → ad.block < W.heap.size := by
  intro ad e hn
  obtain ⟨ad', e', hc⟩ := (Kd.reads_of_C (enc := Value.int .u8) (d := (0 : Int)) (h1 := fun _ => rfl) h).2.2 hn
  obtain rfl : ad' = ad := by rw [e] at e'; exact (Option.some.inj e').symm
  have := World.block_lt_of_cell? W _ (hc 0 hn)
  rwa [add_blk] at this
def zc35 : Array Value := #[.slice none 0 0, .bool false, .int .i64 0, .string ⟨#[]⟩, .string ⟨#[]⟩, .string ⟨#[]⟩, .string ⟨#[]⟩, .bool false, .bool false, .bool false, .slice none 0 0, .slice none 0 0]
def dc35 (u : Value) : Array Value := #[u, .bool false, .int .i64 0, .string ⟨#[]⟩, .string ⟨#[]⟩, .string ⟨#[]⟩, .string ⟨#[]⟩, .bool false, .bool false, .bool false, .slice none 0 0, .slice none 0 0]
theorem info48 : (Try.prog.info? 48).map (fun i => (i.zero, i.size, i.bytes)) = some (some (.agg #[.string ⟨#[]⟩, .string ⟨#[]⟩]), 2, 32) := by kernel_rfl
/-- How many pairs there are, and what is left behind them. -/
def gN (l : List Int) : Nat := (l.headD 0).toNat % 13
def gP (l : List Int) : List Int := rstN (2 * gN l) l.tail
/-- Texts that are told by their number. -/
def lots (l : List Int) : List (List Int) := txtN ((l.headD 0).toNat % 41) l.tail
def past (l : List Int) : List Int := rstN ((l.headD 0).toNat % 41) l.tail
theorem texts_ (g : Nat) (l : List Int) (W : World) (h : Rd 63 g l W) (hg : g < W.heap.size) :
    Calls Try.prog 35 #[.pointer (some ⟨g, 0, none⟩)] W fun e W' => ∃ v : Value, e = .returned v ∧ Kd.S Tx 28 W' W.heap.size (fun _ => True) v (lots l) ∧ Rd 63 g (past l) W' ∧ Fr g W W' := texts g l W h hg
set_option maxHeartbeats 4000000 in
set_option maxRecDepth 100000 in
theorem get {S : Type} (mk : ByteArray × ByteArray → S) (q : Kd S) (hsz : q.sz = 2) (hqM : ∀ w base ok x, q.M w base ok (mk x) [.string x.1, .string x.2]) (A : Option Addr) (c : Nat) (l : List Int) (W : World) (hC : Kd.C (Kd.int .u8) W A l.length l) (hc : l.length ≤ c) (hr : ∀ x ∈ l, 0 ≤ x ∧ x < 256) :
    Calls Try.prog 16 #[.slice A l.length c] W fun e W' => ∃ v0 v10 v11 : Value, e = .returned (.agg #[v0, .bool (fl ((gP l).headD 0) 1), .int .i64 ((gP l).tail.headD 0), .string (strOfNums (txt (gP l).tail.tail)), .string (strOfNums (txt (rst (gP l).tail.tail))), .string (strOfNums (txt (rstN 2 (gP l).tail.tail))), .string (strOfNums (txt (rstN 3 (gP l).tail.tail))), .bool (fl ((gP l).headD 0) 2), .bool (fl ((gP l).headD 0) 4), .bool (fl ((gP l).headD 0) 8), v10, v11]) ∧
      Kd.R q 48 W' W.heap.size (fun _ => True) v0 ((resN (gN l) l.tail).map mk) ∧ Kd.S Tx 28 W' W.heap.size (fun k_ => some k_ ≠ v11.ownBlock) v10 (lots (rstN 4 (gP l).tail.tail)) ∧ Kd.S Tx 28 W' W.heap.size (fun k_ => some k_ ≠ v10.ownBlock) v11 (lots (past (rstN 4 (gP l).tail.tail))) ∧ Below W.heap.size W W' := by
  obtain ⟨x, hx⟩ : ∃ x, l.headD 0 = x := ⟨_, rfl⟩
  have hx01 := num_le hr
  rw [hx] at hx01
  obtain ⟨hx0, hx1⟩ := hx01
  have HX := Aside0.mk hx; clear hx
  obtain ⟨n, hn⟩ : ∃ n : Nat, x % 13 = (n : Int) := ⟨(x % 13).toNat, by omega⟩
  have hn1 : n ≤ 12 := by omega
  obtain ⟨t, ht⟩ : ∃ t, l.tail = t := ⟨_, rfl⟩
  have HTT := Aside0.mk ht; clear ht
  obtain ⟨Z, hZZ⟩ : ∃ Z, W.heap.size = Z := ⟨_, rfl⟩
  have HA : ∀ o1 o2 : Obj, Rd 63 (Z + 1) l (((W.alloc o1).alloc (.cells #[.slice A l.length c] 63)).alloc o2) ∧ (((W.alloc o1).alloc (.cells #[.slice A l.length c] 63)).alloc o2).heap[Z]? = some o1 ∧ (((W.alloc o1).alloc (.cells #[.slice A l.length c] 63)).alloc o2).heap[Z + 2]? = some o2 ∧ (((W.alloc o1).alloc (.cells #[.slice A l.length c] 63)).alloc o2).heap.size = Z + 3 ∧ Below W.heap.size W (((W.alloc o1).alloc (.cells #[.slice A l.length c] 63)).alloc o2) := by
    intro o1 o2
    subst hZZ
    have b1 : Below W.heap.size W (W.alloc o1) := below_alloc (Below.refl _ _) o1
    have b2 : Below W.heap.size W ((W.alloc o1).alloc (.cells #[.slice A l.length c] 63)) := below_alloc b1 _
    have b3 := below_alloc b2 o2
    have s1 := alloc_size W o1
    have s2 := alloc_size (W.alloc o1) (.cells #[.slice A l.length c] 63)
    have s3 := alloc_size ((W.alloc o1).alloc (.cells #[.slice A l.length c] 63)) o2
    refine ⟨⟨A, c, ?_, hc, Kd.C_below hC b3, fun ad e h0 => Nat.lt_succ_of_lt (C_lt hC ad e h0), hr⟩, ?_, ?_, by omega, b3⟩
    · rw [Below.heap_alloc _ _ _ (by omega), ← s1]; exact alloc_cells _ _
    · rw [Below.heap_alloc _ _ _ (by omega), Below.heap_alloc _ _ _ (by omega)]; exact alloc_cells _ _
    · rw [← (show ((W.alloc o1).alloc (.cells #[.slice A l.length c] 63)).heap.size = W.heap.size + 2 by omega)]; exact alloc_cells _ _
  have HAA := Aside0.mk HA
  clear HA hC hc hr
  go_enter Try.func16, Try.ntmps16
  go_wp2_with (go_at_call 32; go_loud (refine (one (Z + 1) l _ ((HAA.out _ _).1)).mono ?_; rw [HX.out, HTT.out]; rintro e W1 ⟨rfl, h1, f1⟩; have H1 := Aside0.mk h1; have F1 := Aside0.mk f1; clear h1 f1))
  rw [hn]
  have HN := Aside0.mk hn; clear hn
  obtain ⟨hB1, hZ1, hD1, hs1⟩ : Below W.heap.size W W1 ∧ W1.heap[Z]? = some (.cells zc35 35 (0, 0)) ∧ W1.heap[Z + 1 + 1]? = some (.cells (dc35 (.slice none 0 0)) 35 (0, 0)) ∧ Z + 3 ≤ W1.heap.size := by
    obtain ⟨_, a2, a3, a4, a5⟩ := HAA.out (.cells zc35 35) (.cells zc35 35)
    have f := F1.out
    have fs := f.size
    refine ⟨?_, ?_, ?_, ?_⟩
    · exact a5.trans (f.2.mono (by omega))
    · exact (f.at (k := Z) (Nat.lt_of_lt_of_eq (show Z < Z + 3 by omega) a4.symm) (by omega)).trans a2
    · exact (f.at (k := Z + 1 + 1) (Nat.lt_of_lt_of_eq (show Z + 1 + 1 < Z + 3 by omega) a4.symm) (by omega)).trans a3
    · exact Nat.le_trans (Nat.le_of_eq a4.symm) fs
  obtain ⟨G, hGG⟩ : ∃ G, Z + 1 = G := ⟨_, rfl⟩
  rw [hGG] at H1 hD1 ⊢
  obtain ⟨D, hDD⟩ : ∃ D, G + 1 = D := ⟨_, rfl⟩
  rw [hDD] at hD1 ⊢
  clear HAA F1
  go_loopw [9] (fun i wr => ∃ k : Nat, k ≤ n ∧ i = .int .i64 k ∧ Rd 63 G (rstN (2 * k) t) wr ∧ Below W.heap.size W wr ∧ Z + 3 ≤ wr.heap.size ∧ wr.heap[Z]? = some (.cells zc35 35 (0, 0)) ∧ ∃ u, wr.heap[D]? = some (.cells (dc35 u) 35 (0, 0)) ∧ Kd.R q 48 wr W.heap.size (fun j => j ≠ Z ∧ j ≠ G ∧ j ≠ D) u ((resN k t).map mk)) (fun i _ => n - (intOf i).toNat)
  case atStart => exact ⟨0, Nat.zero_le _, rfl, H1.out, hB1, hs1, hZ1, _, hD1, Kd.R_nil _ _ _ _ _⟩
  case round =>
    clear hB1 hZ1 hD1 hs1 H1
    obtain ⟨k, hk, rfl, hI, hB, hs, hZ, u, hD, hR⟩ := hrel
    have HI := Aside0.mk hI
    have HB := Aside0.mk hB
    have HD := Aside0.mk hD
    have HZ := Aside0.mk hZ
    have HR := Aside0.mk hR
    clear hI hB hZ hD hR
    by_cases hlt : k < n
    · obtain ⟨l1, hl1⟩ : ∃ l1, rstN (2 * k) t = l1 := ⟨_, rfl⟩
      have HL1 := Aside0.mk hl1
      rw [hl1] at HI
      obtain ⟨l2, hl2⟩ : ∃ l2, rst l1 = l2 := ⟨_, rfl⟩
      obtain ⟨s1, hs1⟩ : ∃ s1, strOfNums (txt l1) = s1 := ⟨_, rfl⟩
      obtain ⟨s2, hs2⟩ : ∃ s2, strOfNums (txt l2) = s2 := ⟨_, rfl⟩
      have HL2 := Aside0.mk hl2; have HS1 := Aside0.mk hs1; have HS2 := Aside0.mk hs2
      clear hl1 hl2 hs1 hs2
      go_upto_region 6 with (go_at_call 33; go_loud (refine (text G l1 wr HI.out (by omega)).mono ?_; rw [HL2.out, HS1.out]; rintro e w4 ⟨rfl, h4, f4⟩; have H4 := Aside0.mk h4; have F4 := Aside0.mk f4; clear h4 f4))
      have f4 := F4.out
      have hs4 := f4.size
      have hzd : w4.drew.heap.size = w4.heap.size := rfl
      have hI4 := H4.out.same (W' := w4.drew) (fun _ _ => rfl)
      have HI4 := Aside0.mk hI4
      have hD4 := (f4.at (k := D) (by omega) (by omega)).trans HD.out
      have HD4 : Aside0 (w4.drew.heap[D]? = some (.cells (dc35 u) 35 (0, 0))) := ⟨hD4⟩
      have HR4 := Aside0.mk (Kd.R_drew (Kd.R_keep HR.out f4.1 (fun j hj => hj.2.1)))
      clear hI4 hD4 f4
      refine start_ (n := 9) (S := fun w' => w'.cell? ⟨D, 0, none⟩ = some u) (ds := [8]) #[false, false, false, false, false, false, false, false, false] (by kernel_rfl) rfl rfl ((at_cells HD4.out 0 _ rfl).1) (fun hHeld => ?_)
      refine pure_ (i := 0) (N := some 12) (v := ?_) (a' := ?_) #[true, false, false, false, false, false, false, false, false] rfl rfl (by kernel_rfl) (fun _ _ _ h => h) (Or.inl ⟨by rfl, ?_⟩) ?_ ?_
      rotate_left
      · intro w'
        go_simp
        with_reducible rfl
      rotate_left
      · simp only [Act.put, List.setIfInBounds_toArray, List.set_cons_zero, List.set_cons_succ, i64_w, i32_w]
        rfl
      refine pure_ (i := 2) (N := some 14) (v := ?_) (a' := ?_) #[true, false, true, false, false, false, false, false, false] rfl rfl (by kernel_rfl) (fun _ _ _ h => h) (Or.inl ⟨by rfl, ?_⟩) ?_ ?_
      rotate_left
      · intro w'
        go_simp
        with_reducible rfl
      rotate_left
      · simp only [Act.put, List.setIfInBounds_toArray, List.set_cons_zero, List.set_cons_succ, i64_w, i32_w]
        rfl
      refine take_ (i := 1) (N := some 13) (v := ?_) (a' := ?_) #[true, true, true, false, false, false, false, false, false] rfl rfl (by kernel_rfl) (fun _ _ _ h => h) (Or.inl ⟨by rfl, ?_⟩) hHeld ?_ ?_
      rotate_left
      · intro w' s0
        go_simp
        with_reducible rfl
      rotate_left
      · simp only [Act.put, List.setIfInBounds_toArray, List.set_cons_zero, List.set_cons_succ, i64_w, i32_w]
        rfl
      refine one_ (i := 3) (N := some 15) #[true, true, true, true, false, false, false, false, false] rfl rfl (by kernel_rfl) (by decide) (fun K hK => ?_)
      refine goes_ Try.func33 (by kernel_rfl) rfl #[.pointer (some ⟨G, 0, none⟩)] (by rfl) rfl rfl (by simp only [List.map_toArray, List.map_cons, List.map_nil]; rfl) ?_
      with_reducible refine (text G l2 _ HI4.out (by omega)).mono ?_
      rw [HS2.out]
      rintro e w5 ⟨rfl, h5, f5⟩
      refine ⟨_, rfl, ?_⟩
      have hD5 := (f5.at (k := D) (by omega) (by omega)).trans HD4.out
      have HR5 := Aside0.mk (Kd.R_keep HR4.out f5.1 (fun j hj => hj.2.1))
      have hz5 := f5.size
      have hsz5 : w5.heap.size = w5.heap.size := rfl
      refine hK.out _ _ ((at_cells hD5 0 _ rfl).1) (fun hHeld => ?_)
      clear hK K
      refine norm_ (a' := ?_) ?_ ?_
      rotate_left
      · show Act.put _ (some 15) _ = _
        simp only [Act.put, List.setIfInBounds_toArray, List.set_cons_zero, List.set_cons_succ, i64_w, i32_w]
        rfl
      refine pure_ (i := 4) (N := some 16) (v := ?_) (a' := ?_) #[true, true, true, true, true, false, false, false, false] rfl rfl (by kernel_rfl) (fun _ _ _ h => h) (Or.inl ⟨by rfl, ?_⟩) ?_ ?_
      rotate_left
      · intro w'
        go_simp
        with_reducible rfl
      rotate_left
      · simp only [Act.put, List.setIfInBounds_toArray, List.set_cons_zero, List.set_cons_succ, i64_w, i32_w]
        rfl
      refine one_ (i := 5) (N := some 17) #[true, true, true, true, true, true, false, false, false] rfl rfl (by kernel_rfl) (by decide) (fun K hK => ?_)
      refine value_ (w1 := ?_) (v := ?_) (by rfl) rfl ?_ ?_
      rotate_left 2
      · go_simp
        constructor
        · rfl
        · rfl
      refine hK.out _ _ ((at_cells ((Below.heap_alloc _ _ _ (by omega)).trans hD5) 0 _ rfl).1) (fun hHeld => ?_)
      clear hK K
      refine norm_ (a' := ?_) ?_ ?_
      rotate_left
      · show Act.put _ (some 17) _ = _
        simp only [Act.put, List.setIfInBounds_toArray, List.set_cons_zero, List.set_cons_succ, i64_w, i32_w]
        rfl
      refine one_ (i := 6) (N := some 18) #[true, true, true, true, true, true, true, false, false] rfl rfl (by kernel_rfl) (by decide) (fun K hK => ?_)
      refine Kd.R_append_step q (w0 := w5) W.heap.size (by rfl) (.tmp 13) (.tmp 17) 32 48 (.agg #[.string ⟨#[]⟩, .string ⟨#[]⟩]) 32 rfl Try.underlying32 (by rw [hsz]; exact info48) (by rw [hsz]; rfl) (by rw [hsz]; decide) (by omega) u ((resN k t).map mk) (mk (s1, s2)) [.string s1, .string s2] (fun j => j ≠ Z ∧ j ≠ G ∧ j ≠ D) (fun _ => False) rfl rfl ?aP (fun _ hk => hk.elim) ?aF ?aO ?aB ?aS ?aL ?_
      (case aP => exact hqM _ _ _ (s1, s2))
      (case aF => intro j hj; omega)
      (case aO => exact HR5.out)
      (case aB => exact Below.refl _ _)
      (case aS => omega)
      (case aL => rw [List.length_map, resN_len]; omega)
      intro v6 w6 ho6 hb6 hg6 hat6
      obtain ⟨A6, c6, rfl⟩ := Kd.R_slice ho6
      have ho7 := ho6
      have hl7 : (List.map mk (resN k t) ++ [mk (s1, s2)]).length = (resN k t).length + 1 := by simp
      rw [hl7] at ho7
      have HO7 := Aside0.mk ho7; clear ho7 hl7
      have hD6 := (hg6.block D (by omega) (fun he => (HR5.out.1 D he.symm).2.2 rfl)).trans hD5
      have fD6 := (at_cells hD6 0 _ rfl).2
      have hG6 : ∀ j, j ≤ G → w6.heap[j]? = w5.heap[j]? := fun j hj => hg6.block j (by omega) (fun he => by have := Kd.R_base HR5.out j he.symm; have := HR5.out.1 j he.symm; omega)
      refine hK.out _ _ ((at_cells hD6 0 _ rfl).1) (fun hHeld => ?_)
      clear hK K
      refine norm_ (a' := ?_) ?_ ?_
      rotate_left
      · show Act.put _ (some 18) _ = _
        simp only [Act.put, List.setIfInBounds_toArray, List.set_cons_zero, List.set_cons_succ, i64_w, i32_w]
        rfl
      refine pure_ (i := 7) (N := some 19) (v := ?_) (a' := ?_) #[true, true, true, true, true, true, true, true, false] rfl rfl (by kernel_rfl) (fun _ _ _ h => h) (Or.inl ⟨by rfl, ?_⟩) ?_ ?_
      rotate_left
      · intro w'
        go_simp
        with_reducible rfl
      rotate_left
      · simp only [Act.put, List.setIfInBounds_toArray, List.set_cons_zero, List.set_cons_succ, i64_w, i32_w]
        rfl
      refine last_ (i := 8) (N := none) #[true, true, true, true, true, true, true, true, true] rfl rfl (by kernel_rfl) (by decide) (fun K hK => ?_)
      refine skip_ (w1 := ?_) (by rfl) rfl ?_ ?_
      rotate_left
      · go_simp
        rfl
      refine hK.out _ _ ?_
      clear hK K
      refine done_ (by kernel_rfl) ?_
      go_wp2
      go_roundw
      case rel =>
        have hz6 := hg6.size
        have hza : (w5.alloc (.cells #[.string s1, .string s2] 48)).heap.size = w5.heap.size + 1 := alloc_size _ _
        have hfar : ∀ j, j ≤ G → (w6.setCell ⟨D, 0, none⟩ (.slice A6 ((resN k t).length + 1) c6)).heap[j]? = w5.heap[j]? := fun j hj => (far_set (by omega)).trans (hG6 j hj)
        refine ⟨k + 1, by omega, by go_num, ?_, ?_, ?_, ?_, _, set_cells hD6 0 _, ?_⟩
        · have : rstN (2 * (k + 1)) t = rst l2 := by rw [show 2 * (k + 1) = 2 * k + 2 by omega, rstN_add, HL1.out]; show rst (rst l1) = _; rw [HL2.out]
          rw [this]; exact h5.same (fun j hj => hfar j hj)
        · refine Below.setCell ?_ (by show W.heap.size ≤ D; omega) _
          exact (HB.out.trans (F4.out.2.mono (by omega))).trans ((Below.trans (below_drew (Below.refl _ _)) (f5.2.mono (by omega))).trans hb6)
        · have : (w6.setCell ⟨D, 0, none⟩ (.slice A6 ((resN k t).length + 1) c6)).heap.size = w6.heap.size := by simp [World.setCell]
          omega
        · rw [hfar Z (by omega)]
          exact (f5.at (k := Z) (by omega) (by omega)).trans ((F4.out.at (k := Z) (by omega) (by omega)).trans HZ.out)
        · rw [resN_snoc, List.map_append, HL1.out, HS1.out, HL2.out, HS2.out]
          exact Kd.R_far HO7.out (p := ⟨D, 0, none⟩) (fun j hj => hj.2.2) _
      case measure => simp [intOf]; omega
    · obtain rfl : k = n := by omega
      obtain ⟨p, hp⟩ : ∃ p, rstN (2 * k) t = p := ⟨_, rfl⟩
      rw [hp] at HI
      have HP := Aside0.mk hp; clear hp
      obtain ⟨f1, hf1⟩ : ∃ z, fl (p.headD 0) 1 = z := ⟨_, rfl⟩
      obtain ⟨b, hb⟩ : ∃ z, p.tail.headD 0 = z := ⟨_, rfl⟩
      obtain ⟨s3, hs3⟩ : ∃ z, strOfNums (txt p.tail.tail) = z := ⟨_, rfl⟩
      obtain ⟨s4, hs4⟩ : ∃ z, strOfNums (txt (rst p.tail.tail)) = z := ⟨_, rfl⟩
      obtain ⟨s5, hs5⟩ : ∃ z, strOfNums (txt (rstN 2 p.tail.tail)) = z := ⟨_, rfl⟩
      obtain ⟨s6, hs6⟩ : ∃ z, strOfNums (txt (rstN 3 p.tail.tail)) = z := ⟨_, rfl⟩
      obtain ⟨f2, hf2⟩ : ∃ z, fl (p.headD 0) 2 = z := ⟨_, rfl⟩
      obtain ⟨f4, hf4⟩ : ∃ z, fl (p.headD 0) 4 = z := ⟨_, rfl⟩
      obtain ⟨f8, hf8⟩ : ∃ z, fl (p.headD 0) 8 = z := ⟨_, rfl⟩
      have Nf1 := Aside0.mk hf1
      have Nb := Aside0.mk hb
      have Ns3 := Aside0.mk hs3
      have Ns4 := Aside0.mk hs4
      have Ns5 := Aside0.mk hs5
      have Ns6 := Aside0.mk hs6
      have Nf2 := Aside0.mk hf2
      have Nf4 := Aside0.mk hf4
      have Nf8 := Aside0.mk hf8
      clear hf1 hb hs3 hs4 hs5 hs6 hf2 hf4 hf8
      have hdesc := desc G p wr HI.out (by omega)
      rw [Nf1.out, Nb.out, Ns3.out, Ns4.out, Ns5.out, Ns6.out, Nf2.out, Nf4.out, Nf8.out] at hdesc
      have HDS := Aside0.mk hdesc; clear hdesc
      go_upto_region 9 with (go_at_call 34; go_loud (refine HDS.out.mono ?_; rintro e w4 ⟨rfl, h4, f4⟩; have hD4 : w4.heap[D]? = some (.cells #[u, .bool false, .int .i64 0, .string ⟨#[]⟩, .string ⟨#[]⟩, .string ⟨#[]⟩, .string ⟨#[]⟩, .bool false, .bool false, .bool false, .slice none 0 0, .slice none 0 0] 35 (0, 0)) := (f4.at (k := D) (by omega) (by omega)).trans HD.out; obtain ⟨cD1, fD1⟩ := at_cells hD4 1 _ rfl; obtain ⟨cD2, fD2⟩ := at_cells hD4 2 _ rfl; obtain ⟨cD3, fD3⟩ := at_cells hD4 3 _ rfl; obtain ⟨cD4, fD4⟩ := at_cells hD4 4 _ rfl; obtain ⟨cD5, fD5⟩ := at_cells hD4 5 _ rfl; obtain ⟨cD6, fD6⟩ := at_cells hD4 6 _ rfl; obtain ⟨cD7, fD7⟩ := at_cells hD4 7 _ rfl; obtain ⟨cD8, fD8⟩ := at_cells hD4 8 _ rfl; obtain ⟨cD9, fD9⟩ := at_cells hD4 9 _ rfl; have H4 := Aside0.mk h4; have F4 := Aside0.mk f4; have HD4 := Aside0.mk hD4; clear h4 f4 hD4))
      have hD4 := HD4.out
      have hD5 := set_cells (set_cells (set_cells (set_cells (set_cells (set_cells (set_cells (set_cells (set_cells hD4 1 (.bool f1)) 2 (.int .i64 b)) 3 (.string s3)) 4 (.string s4)) 5 (.string s5)) 6 (.string s6)) 7 (.bool f2)) 8 (.bool f4)) 9 (.bool f8)
      simp only [List.setIfInBounds_toArray, List.set_cons_zero, List.set_cons_succ] at hD5
      have hZ5 := (F4.out.at (k := Z) (by omega) (by omega)).trans HZ.out
      have hI5 := H4.out
      have hs5 := F4.out.size
      have hR5 := Kd.R_keep HR.out F4.out.1 (fun j hj => hj.2.1)
      have hB5 := Below.setCell (Below.setCell (Below.setCell (Below.setCell (Below.setCell (Below.setCell (Below.setCell (Below.setCell (Below.setCell (HB.out.trans (F4.out.2.mono (by omega))) (p := ⟨D, 1, none⟩) (show W.heap.size ≤ D by omega) (.bool f1)) (p := ⟨D, 2, none⟩) (show W.heap.size ≤ D by omega) (.int .i64 b)) (p := ⟨D, 3, none⟩) (show W.heap.size ≤ D by omega) (.string s3)) (p := ⟨D, 4, none⟩) (show W.heap.size ≤ D by omega) (.string s4)) (p := ⟨D, 5, none⟩) (show W.heap.size ≤ D by omega) (.string s5)) (p := ⟨D, 6, none⟩) (show W.heap.size ≤ D by omega) (.string s6)) (p := ⟨D, 7, none⟩) (show W.heap.size ≤ D by omega) (.bool f2)) (p := ⟨D, 8, none⟩) (show W.heap.size ≤ D by omega) (.bool f4)) (p := ⟨D, 9, none⟩) (show W.heap.size ≤ D by omega) (.bool f8)
      obtain ⟨w5, hw5⟩ : ∃ w5, (((((((((w4.setCell ⟨D, 1, none⟩ (.bool f1)).setCell ⟨D, 2, none⟩ (.int .i64 b)).setCell ⟨D, 3, none⟩ (.string s3)).setCell ⟨D, 4, none⟩ (.string s4)).setCell ⟨D, 5, none⟩ (.string s5)).setCell ⟨D, 6, none⟩ (.string s6)).setCell ⟨D, 7, none⟩ (.bool f2)).setCell ⟨D, 8, none⟩ (.bool f4)).setCell ⟨D, 9, none⟩ (.bool f8)) = w5 := ⟨_, rfl⟩
      have hfar : ∀ j, j ≠ D → w5.heap[j]? = w4.heap[j]? := by
        intro j hj; rw [← hw5]; simp only [far_set hj]
      have hs6 : w5.heap.size = w4.heap.size := by rw [← hw5]; simp [World.setCell]
      have hR6 := Kd.R_move hR5 (fun j hj => hfar j hj.2.2)
      have hI6 := hI5.same (W' := w5) (fun j hj => hfar j (by omega))
      have hZ6 := (hfar Z (by omega)).trans hZ5
      rw [hw5] at hD5 hB5 ⊢
      have HD5 := Aside0.mk hD5; have HB5 := Aside0.mk hB5; have HR6 := Aside0.mk hR6; have HI6 := Aside0.mk hI6; have HZ6 := Aside0.mk hZ6
      have hs7 : Z + 3 ≤ w5.heap.size := by omega
      clear hD4 hD5 hZ5 hI5 hR5 hB5 hfar hR6 hI6 hZ6 hw5 hs6 hs5 cD1 fD1 cD2 fD2 cD3 fD3 cD4 fD4 cD5 fD5 cD6 fD6 cD7 fD7 cD8 fD8 cD9 fD9
      obtain ⟨p1, hp1⟩ : ∃ p1, rstN 4 p.tail.tail = p1 := ⟨_, rfl⟩
      rw [hp1] at HI6
      obtain ⟨T10, hT10⟩ : ∃ T, lots p1 = T := ⟨_, rfl⟩
      obtain ⟨p2, hp2⟩ : ∃ p2, past p1 = p2 := ⟨_, rfl⟩
      obtain ⟨T11, hT11⟩ : ∃ T, lots p2 = T := ⟨_, rfl⟩
      have NP1 := Aside0.mk hp1; have NT10 := Aside0.mk hT10; have NP2 := Aside0.mk hp2; have NT11 := Aside0.mk hT11
      clear hp1 hT10 hp2 hT11
      go_upto_region 10 with (go_at_call 35; go_loud (refine (texts_ G p1 w5 HI6.out (by omega)).mono ?_; rw [NT10.out, NP2.out]; rintro e w6 ⟨v10, rfl, hS, h6, f6⟩; obtain ⟨A10, c10, rfl⟩ := Kd.S_slice hS; obtain ⟨cE, fE⟩ := at_cells ((f6.at (k := D) (by omega) (by omega)).trans HD5.out) 10 _ rfl; have HS10 := Aside0.mk hS; have H6 := Aside0.mk h6; have F6 := Aside0.mk f6; clear h6 f6 hS))
      have hs8 := F6.out.size
      have hD7 := set_cells ((F6.out.at (k := D) (by omega) (by omega)).trans HD5.out) 10 (.slice A10 T10.length c10)
      simp only [List.setIfInBounds_toArray, List.set_cons_zero, List.set_cons_succ] at hD7
      have hfar : ∀ j, j ≠ D → (w6.setCell ⟨D, 10, none⟩ (.slice A10 T10.length c10)).heap[j]? = w6.heap[j]? := fun j hj => far_set hj
      have hs9 : (w6.setCell ⟨D, 10, none⟩ (.slice A10 T10.length c10)).heap.size = w6.heap.size := by simp [World.setCell]
      have hZ7 := (hfar Z (by omega)).trans ((F6.out.at (k := Z) (by omega) (by omega)).trans HZ6.out)
      have hI7 := H6.out.same (W' := w6.setCell ⟨D, 10, none⟩ (.slice A10 T10.length c10)) (fun j hj => hfar j (by omega))
      have hB7 := Below.setCell (HB5.out.trans (F6.out.2.mono (by omega))) (p := ⟨D, 10, none⟩) (show W.heap.size ≤ D by omega) (.slice A10 T10.length c10)
      have hR7 := Kd.R_move (Kd.R_keep HR6.out F6.out.1 (fun j hj => hj.2.1)) (fun j hj => hfar j hj.2.2)
      have hS7 := Kd.S_move (Kd.S_bound HS10.out) (w1 := w6.setCell ⟨D, 10, none⟩ (.slice A10 T10.length c10)) (fun j hj => hfar j (by have := hj.2.1; omega))
      have hS7' : Kd.S Tx 28 (w6.setCell ⟨D, 10, none⟩ (.slice A10 T10.length c10)) W.heap.size (fun j => D < j ∧ j < w6.heap.size) (.slice A10 T10.length c10) T10 := Kd.S_lower (Kd.S_mono hS7 (fun j hj => ⟨by have := hj.2.1; omega, hj.2.2.1⟩)) (by omega)
      obtain ⟨w7, hw7⟩ : ∃ w7, w6.setCell ⟨D, 10, none⟩ (.slice A10 T10.length c10) = w7 := ⟨_, rfl⟩
      rw [hw7] at hD7 hs9 hZ7 hI7 hB7 hR7 hS7' ⊢
      have HD7 := Aside0.mk hD7; have HZ7 := Aside0.mk hZ7; have HI7 := Aside0.mk hI7; have HB7 := Aside0.mk hB7; have HR7 := Aside0.mk hR7; have HS7 := Aside0.mk hS7'
      have hs10 : w6.heap.size = w7.heap.size := hs9.symm
      clear hD7 hZ7 hI7 hB7 hR7 hS7 hS7' hfar hw7 hs9 cE fE
      go_upto_region 11 with (go_at_call 35; go_loud (refine (texts_ G p2 w7 HI7.out (by omega)).mono ?_; rw [NT11.out]; rintro e w8 ⟨v11, rfl, hS, h8, f8⟩; obtain ⟨A11, c11, rfl⟩ := Kd.S_slice hS; obtain ⟨cE, fE⟩ := at_cells ((f8.at (k := D) (by omega) (by omega)).trans HD7.out) 11 _ rfl; have HS11 := Aside0.mk hS; have H8 := Aside0.mk h8; have F8 := Aside0.mk f8; clear h8 f8 hS))
      have hs11 := F8.out.size
      have hD9 := set_cells ((F8.out.at (k := D) (by omega) (by omega)).trans HD7.out) 11 (.slice A11 T11.length c11)
      simp only [List.setIfInBounds_toArray, List.set_cons_zero, List.set_cons_succ] at hD9
      have hfar : ∀ j, j ≠ D → (w8.setCell ⟨D, 11, none⟩ (.slice A11 T11.length c11)).heap[j]? = w8.heap[j]? := fun j hj => far_set hj
      have hs12 : (w8.setCell ⟨D, 11, none⟩ (.slice A11 T11.length c11)).heap.size = w8.heap.size := by simp [World.setCell]
      have hZ9 := (hfar Z (by omega)).trans ((F8.out.at (k := Z) (by omega) (by omega)).trans HZ7.out)
      have hB9 := Below.setCell (HB7.out.trans (F8.out.2.mono (by omega))) (p := ⟨D, 11, none⟩) (show W.heap.size ≤ D by omega) (.slice A11 T11.length c11)
      have hR9 := Kd.R_move (Kd.R_keep HR7.out F8.out.1 (fun j hj => hj.2.1)) (fun j hj => hfar j hj.2.2)
      have hS9 := Kd.S_move (Kd.S_keep HS7.out F8.out.1 (fun j hj => by omega)) (w1 := w8.setCell ⟨D, 11, none⟩ (.slice A11 T11.length c11)) (fun j hj => hfar j (by omega))
      have hS11 := Kd.S_move (Kd.S_bound HS11.out) (w1 := w8.setCell ⟨D, 11, none⟩ (.slice A11 T11.length c11)) (fun j hj => hfar j (by have := hj.2.1; omega))
      have hS11' : Kd.S Tx 28 (w8.setCell ⟨D, 11, none⟩ (.slice A11 T11.length c11)) W.heap.size (fun j => w7.heap.size ≤ j) (.slice A11 T11.length c11) T11 := Kd.S_lower (Kd.S_mono hS11 (fun j hj => hj.2.1)) (by omega)
      obtain ⟨w9, hw9⟩ : ∃ w9, w8.setCell ⟨D, 11, none⟩ (.slice A11 T11.length c11) = w9 := ⟨_, rfl⟩
      rw [hw9] at hD9 hs12 hZ9 hB9 hR9 hS9 hS11' ⊢
      obtain ⟨u, A0, c0, hu0⟩ : ∃ (u' : Value) (A0 : Option Addr) (c0 : Nat), u = .slice A0 (List.map mk (resN k t)).length c0 := by
        obtain ⟨A0, c0, h⟩ := Kd.R_slice hR9
        exact ⟨u, A0, c0, h⟩
      subst hu0
      have HD9 := Aside0.mk hD9; have HB9 := Aside0.mk hB9; have HR9 := Aside0.mk hR9; have HS9 := Aside0.mk hS9; have HS1 := Aside0.mk hS11'
      have hZ9' : w9.heap[Z]? = some (.cells #[.slice none 0 0, .bool false, .int .i64 0, .string ⟨#[]⟩, .string ⟨#[]⟩, .string ⟨#[]⟩, .string ⟨#[]⟩, .bool false, .bool false, .bool false, .slice none 0 0, .slice none 0 0] 35 (0, 0)) := hZ9
      have HZ9 := Aside0.mk hZ9'
      clear hB9 hR9 hS9 hS11' hS11 hfar hw9 hZ9 cE fE
      obtain ⟨d0, fd0⟩ := at_cells hD9 0 _ rfl
      obtain ⟨d1, fd1⟩ := at_cells hD9 1 _ rfl
      obtain ⟨d2, fd2⟩ := at_cells hD9 2 _ rfl
      obtain ⟨d3, fd3⟩ := at_cells hD9 3 _ rfl
      obtain ⟨d4, fd4⟩ := at_cells hD9 4 _ rfl
      obtain ⟨d5, fd5⟩ := at_cells hD9 5 _ rfl
      obtain ⟨d6, fd6⟩ := at_cells hD9 6 _ rfl
      obtain ⟨d7, fd7⟩ := at_cells hD9 7 _ rfl
      obtain ⟨d8, fd8⟩ := at_cells hD9 8 _ rfl
      obtain ⟨d9, fd9⟩ := at_cells hD9 9 _ rfl
      obtain ⟨d10, fd10⟩ := at_cells hD9 10 _ rfl
      obtain ⟨d11, fd11⟩ := at_cells hD9 11 _ rfl
      obtain ⟨z0, fz0⟩ := at_cells hZ9' 0 _ rfl
      obtain ⟨z1, fz1⟩ := at_cells hZ9' 1 _ rfl
      obtain ⟨z2, fz2⟩ := at_cells hZ9' 2 _ rfl
      obtain ⟨z3, fz3⟩ := at_cells hZ9' 3 _ rfl
      obtain ⟨z4, fz4⟩ := at_cells hZ9' 4 _ rfl
      obtain ⟨z5, fz5⟩ := at_cells hZ9' 5 _ rfl
      obtain ⟨z6, fz6⟩ := at_cells hZ9' 6 _ rfl
      obtain ⟨z7, fz7⟩ := at_cells hZ9' 7 _ rfl
      obtain ⟨z8, fz8⟩ := at_cells hZ9' 8 _ rfl
      obtain ⟨z9, fz9⟩ := at_cells hZ9' 9 _ rfl
      obtain ⟨z10, fz10⟩ := at_cells hZ9' 10 _ rfl
      obtain ⟨z11, fz11⟩ := at_cells hZ9' 11 _ rfl
      clear hD9 hZ9'
      go_wp2
      try simp only [Exit.inBlock, Exit.then]
      have hZf := set_cells (set_cells (set_cells (set_cells (set_cells (set_cells (set_cells (set_cells (set_cells (set_cells (set_cells (set_cells HZ9.out 0 (.slice A0 (resN k t).length c0)) 1 (.bool f1)) 2 (.int .i64 b)) 3 (.string s3)) 4 (.string s4)) 5 (.string s5)) 6 (.string s6)) 7 (.bool f2)) 8 (.bool f4)) 9 (.bool f8)) 10 (.slice A10 T10.length c10)) 11 (.slice A11 T11.length c11)
      simp only [List.setIfInBounds_toArray, List.set_cons_zero, List.set_cons_succ] at hZf
      refine bodyPost_ret (results_cell_row rfl _ _ Z 35 #[.slice A0 (resN k t).length c0, .bool f1, .int .i64 b, .string s3, .string s4, .string s5, .string s6, .bool f2, .bool f4, .bool f8, .slice A10 T10.length c10, .slice A11 T11.length c11] (0, 0) _ rfl hZf Try.underlying35 rfl (by kernel_rfl)) rfl ?_
      have hk : gN l = k := by unfold gN; rw [HX.out]; have := HN.out; omega
      have hgp : gP l = p := by unfold gP; rw [hk, HTT.out]; exact HP.out
      rw [hgp, hk, HTT.out, NP1.out, NP2.out, NT10.out, NT11.out, Nf1.out, Nb.out, Ns3.out, Ns4.out, Ns5.out, Ns6.out, Nf2.out, Nf4.out, Nf8.out]
      have hfz : ∀ j, j ≠ Z → (((((((((((((w9.setCell ⟨Z, 0, none⟩ (.slice A0 (resN k t).length c0)).setCell ⟨Z, 1, none⟩ (.bool f1)).setCell ⟨Z, 2, none⟩ (.int .i64 b)).setCell ⟨Z, 3, none⟩ (.string s3)).setCell ⟨Z, 4, none⟩ (.string s4)).setCell ⟨Z, 5, none⟩ (.string s5)).setCell ⟨Z, 6, none⟩ (.string s6)).setCell ⟨Z, 7, none⟩ (.bool f2)).setCell ⟨Z, 8, none⟩ (.bool f4)).setCell ⟨Z, 9, none⟩ (.bool f8)).setCell ⟨Z, 10, none⟩ (.slice A10 T10.length c10)).setCell ⟨Z, 11, none⟩ (.slice A11 T11.length c11))).heap[j]? = w9.heap[j]? := by intro j hj; simp only [far_set hj]
      refine ⟨_, _, _, rfl, ?_, ?_, ?_, Below.setCell (Below.setCell (Below.setCell (Below.setCell (Below.setCell (Below.setCell (Below.setCell (Below.setCell (Below.setCell (Below.setCell (Below.setCell (Below.setCell HB9.out (p := ⟨Z, 0, none⟩) (show W.heap.size ≤ Z by omega) (.slice A0 (resN k t).length c0)) (p := ⟨Z, 1, none⟩) (show W.heap.size ≤ Z by omega) (.bool f1)) (p := ⟨Z, 2, none⟩) (show W.heap.size ≤ Z by omega) (.int .i64 b)) (p := ⟨Z, 3, none⟩) (show W.heap.size ≤ Z by omega) (.string s3)) (p := ⟨Z, 4, none⟩) (show W.heap.size ≤ Z by omega) (.string s4)) (p := ⟨Z, 5, none⟩) (show W.heap.size ≤ Z by omega) (.string s5)) (p := ⟨Z, 6, none⟩) (show W.heap.size ≤ Z by omega) (.string s6)) (p := ⟨Z, 7, none⟩) (show W.heap.size ≤ Z by omega) (.bool f2)) (p := ⟨Z, 8, none⟩) (show W.heap.size ≤ Z by omega) (.bool f4)) (p := ⟨Z, 9, none⟩) (show W.heap.size ≤ Z by omega) (.bool f8)) (p := ⟨Z, 10, none⟩) (show W.heap.size ≤ Z by omega) (.slice A10 T10.length c10)) (p := ⟨Z, 11, none⟩) (show W.heap.size ≤ Z by omega) (.slice A11 T11.length c11)⟩
      · have h := Kd.R_move HR9.out (fun j hj => hfz j hj.1)
        rw [List.length_map] at h
        exact Kd.R_mono h (fun _ _ => trivial)
      · refine Kd.S_mono (Kd.S_move HS9.out (fun j hj => hfz j (by omega))) (fun j hj he => ?_)
        have := Kd.S_base HS11.out j he.symm
        omega
      · refine Kd.S_mono (Kd.S_move HS1.out (fun j hj => hfz j (by omega))) (fun j hj he => ?_)
        have := HS10.out
        have h2 := Kd.S_lt HS10.out j he.symm
        omega
end Go.Proofs.Ytojfhlbchiaccaa.Reader
