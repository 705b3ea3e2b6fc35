/- Get of the reference: bytes as a script. -/
import Derived.Test.YtojfhlbchiaccaaReader4
import Derived.Test.YtojfhlbchiaccaaRef2
namespace Go.Proofs.Ytojfhlbchiaccaa.Reader
open Go.RowKit Go.Proofs.YtojfhlbchiaccaaW.PrintWords Go.Proofs.YtojfhlbchiaccaaW.PrintLast Go.Proofs.YtojfhlbchiaccaaW.PrintMore
attribute [local go_sem] max2_int min2_int max_two min_two max_three min_three max_four min_four   -- for this text's walks alone
set_option linter.unusedVariables false
set_option linter.unusedSimpArgs false

theorem fl_all : ∀ n : Fin 256, (((n.val : Int) % 2 == 1) = fl n.val 1) ∧ (((n.val : Int) / 2 % 2 == 1) = fl n.val 2) ∧ (((n.val : Int) / 4 % 2 == 1) = fl n.val 4) ∧ (((n.val : Int) / 8 % 2 == 1) = fl n.val 8) := by decide +kernel
theorem fl_quo (f : Int) (h0 : 0 ≤ f) (h1 : f < 256) : ((f % 2 == 1) = fl f 1) ∧ ((f / 2 % 2 == 1) = fl f 2) ∧ ((f / 4 % 2 == 1) = fl f 4) ∧ ((f / 8 % 2 == 1) = fl f 8) := by
  obtain ⟨n, rfl⟩ : ∃ n : Nat, f = n := ⟨f.toNat, by omega⟩
  exact fl_all ⟨n, by omega⟩
theorem info54 : (Try.prog.info? 54).map (fun i => (i.zero, i.size, i.bytes)) = some (some (.agg #[.string ⟨#[]⟩, .string ⟨#[]⟩]), 2, 32) := by kernel_rfl
theorem rtexts_ (g : Nat) (l : List Int) (W : World) (h : Rd 70 g l W) (hg : g < W.heap.size) :
    Calls Try.prog 38 #[.pointer (some ⟨g, 0, none⟩)] W fun e W' => ∃ v : Value, e = .returned v ∧ Kd.S Tx 28 W' W.heap.size (fun _ => True) v (lots l) ∧ Rd 70 g (past l) W' ∧ Fr g W W' := rtexts g l W h hg
/-- What holds while the script's cells are filled, one by one. -/
def St {S : Type} (q : Kd S) (b0 Z G D : Nat) (W0 : World) (cs : Array Value) (u : Value) (xs : List S) (r : List Int) (W : World) : Prop :=
  Rd 70 G r W ∧ Below b0 W0 W ∧ D < W.heap.size ∧ W.heap[Z]? = some (.cells zc35 27 (0, 0)) ∧ W.heap[D]? = some (.cells cs 27 (0, 0)) ∧ Kd.R q 54 W b0 (fun j => j ≠ Z ∧ j ≠ G ∧ j ≠ D) u xs
theorem St.fr {S : Type} {q : Kd S} {b0 Z G D : Nat} {W0 : World} {cs : Array Value} {u : Value} {xs : List S} {r r' : List Int} {W W' : World} (h : St q b0 Z G D W0 cs u xs r W) (hZ : b0 ≤ Z) (hG : Z < G) (hD : G < D) (hr : Rd 70 G r' W') (f : Fr G W W') : St q b0 Z G D W0 cs u xs r' W' := by
  obtain ⟨h1, h2, h3, h4, h5, h6⟩ := h
  have := f.size
  exact ⟨hr, h2.trans (f.2.mono (by omega)), by omega, (f.at (by omega) (by omega)).trans h4, (f.at (by omega) (by omega)).trans h5, Kd.R_keep h6 f.1 (fun j hj => hj.2.1)⟩
theorem St.set {S : Type} {q : Kd S} {b0 Z G D : Nat} {W0 : World} {cs : Array Value} {u : Value} {xs : List S} {r : List Int} {W : World} (h : St q b0 Z G D W0 cs u xs r W) (hZ : b0 ≤ Z) (hG : Z < G) (hD : G < D) (j : Nat) (v : Value) : St q b0 Z G D W0 (cs.setIfInBounds j v) u xs r (W.setCell ⟨D, j, none⟩ v) := by
  obtain ⟨h1, h2, h3, h4, h5, h6⟩ := h
  have hs : (W.setCell ⟨D, j, none⟩ v).heap.size = W.heap.size := by simp [World.setCell]
  exact ⟨h1.same (fun k hk => far_set (by omega)), Below.setCell h2 (p := ⟨D, j, none⟩) (show b0 ≤ D by omega) v, by omega, (far_set (by omega)).trans h4, set_cells h5 j v, Kd.R_move h6 (fun k hk => far_set hk.2.2)⟩
theorem St.cell {S : Type} {q : Kd S} {b0 Z G D : Nat} {W0 : World} {cs : Array Value} {u : Value} {xs : List S} {r : List Int} {W : World} (h : St q b0 Z G D W0 cs u xs r W) (j : Nat) (v : Value) (hv : cs[j]? = some v) : W.cell? ⟨D, j, none⟩ = some v ∧ W.frozen? ⟨D, j, none⟩ = false := at_cells h.2.2.2.2.1 j v hv
set_option maxHeartbeats 4000000 in
set_option maxRecDepth 100000 in
theorem rget {S : Type} (mk : ByteArray × ByteArray → S) (q : Kd S) (hsz : q.sz = 2) (hqM : ∀ w base ok x, q.M w base ok (mk x) [.string x.1, .string x.2]) (A : Option Addr) (c : Nat) (l : List Int) (W : World) (hC : Kd.C (Kd.int .u8) W A l.length l) (hc : l.length ≤ c) (hr : ∀ x ∈ l, 0 ≤ x ∧ x < 256) :
    Calls Try.prog 17 #[.slice A l.length c] W fun e W' => ∃ v0 v10 v11 : Value, e = .returned (.agg #[v0, .bool (fl ((gP l).headD 0) 1), .int .i64 ((gP l).tail.headD 0), .string (strOfNums (txt (gP l).tail.tail)), .string (strOfNums (txt (rst (gP l).tail.tail))), .string (strOfNums (txt (rstN 2 (gP l).tail.tail))), .string (strOfNums (txt (rstN 3 (gP l).tail.tail))), .bool (fl ((gP l).headD 0) 2), .bool (fl ((gP l).headD 0) 4), .bool (fl ((gP l).headD 0) 8), v10, v11]) ∧
      Kd.R q 54 W' W.heap.size (fun _ => True) v0 ((resN (gN l) l.tail).map mk) ∧ Kd.S Tx 28 W' W.heap.size (fun k_ => some k_ ≠ v11.ownBlock) v10 (lots (rstN 4 (gP l).tail.tail)) ∧ Kd.S Tx 28 W' W.heap.size (fun k_ => some k_ ≠ v10.ownBlock) v11 (lots (past (rstN 4 (gP l).tail.tail))) ∧ Below W.heap.size W W' := by
  obtain ⟨x, hx⟩ : ∃ x, l.headD 0 = x := ⟨_, rfl⟩
  have hx01 := num_le hr
  rw [hx] at hx01
  obtain ⟨hx0, hx1⟩ := hx01
  have HX := Aside0.mk hx; clear hx
  obtain ⟨n, hn⟩ : ∃ n : Nat, x % 13 = (n : Int) := ⟨(x % 13).toNat, by omega⟩
  have hn1 : n ≤ 12 := by omega
  obtain ⟨t, ht⟩ : ∃ t, l.tail = t := ⟨_, rfl⟩
  have HTT := Aside0.mk ht; clear ht
  obtain ⟨Z, hZZ⟩ : ∃ Z, W.heap.size = Z := ⟨_, rfl⟩
  have HA : ∀ o1 o2 : Obj, Rd 70 (Z + 1) l (((W.alloc o1).alloc (.cells #[.slice A l.length c] 70)).alloc o2) ∧ (((W.alloc o1).alloc (.cells #[.slice A l.length c] 70)).alloc o2).heap[Z]? = some o1 ∧ (((W.alloc o1).alloc (.cells #[.slice A l.length c] 70)).alloc o2).heap[Z + 2]? = some o2 ∧ (((W.alloc o1).alloc (.cells #[.slice A l.length c] 70)).alloc o2).heap.size = Z + 3 ∧ Below W.heap.size W (((W.alloc o1).alloc (.cells #[.slice A l.length c] 70)).alloc o2) := by
    intro o1 o2
    subst hZZ
    have b1 : Below W.heap.size W (W.alloc o1) := below_alloc (Below.refl _ _) o1
    have b2 : Below W.heap.size W ((W.alloc o1).alloc (.cells #[.slice A l.length c] 70)) := below_alloc b1 _
    have b3 := below_alloc b2 o2
    have s1 := alloc_size W o1
    have s2 := alloc_size (W.alloc o1) (.cells #[.slice A l.length c] 70)
    have s3 := alloc_size ((W.alloc o1).alloc (.cells #[.slice A l.length c] 70)) o2
    refine ⟨⟨A, c, ?_, hc, Kd.C_below hC b3, fun ad e h0 => Nat.lt_succ_of_lt (C_lt hC ad e h0), hr⟩, ?_, ?_, by omega, b3⟩
    · rw [Below.heap_alloc _ _ _ (by omega), ← s1]; exact alloc_cells _ _
    · rw [Below.heap_alloc _ _ _ (by omega), Below.heap_alloc _ _ _ (by omega)]; exact alloc_cells _ _
    · rw [← (show ((W.alloc o1).alloc (.cells #[.slice A l.length c] 70)).heap.size = W.heap.size + 2 by omega)]; exact alloc_cells _ _
  have HAA := Aside0.mk HA
  clear HA hC hc hr
  go_enter Try.func17, Try.ntmps17
  go_wp2_with (go_at_call 36; go_loud (refine (rone (Z + 1) l _ ((HAA.out _ _).1)).mono ?_; rw [HX.out, HTT.out]; rintro e W1 ⟨rfl, h1, f1⟩; have H1 := Aside0.mk h1; have F1 := Aside0.mk f1; clear h1 f1))
  rw [hn]
  have HN := Aside0.mk hn; clear hn
  obtain ⟨hB1, hZ1, hD1, hs1⟩ : Below W.heap.size W W1 ∧ W1.heap[Z]? = some (.cells zc35 27 (0, 0)) ∧ W1.heap[Z + 1 + 1]? = some (.cells (dc35 (.slice none 0 0)) 27 (0, 0)) ∧ Z + 3 ≤ W1.heap.size := by
    obtain ⟨_, a2, a3, a4, a5⟩ := HAA.out (.cells zc35 27) (.cells zc35 27)
    have f := F1.out
    have fs := f.size
    refine ⟨?_, ?_, ?_, ?_⟩
    · exact a5.trans (f.2.mono (by omega))
    · exact (f.at (k := Z) (Nat.lt_of_lt_of_eq (show Z < Z + 3 by omega) a4.symm) (by omega)).trans a2
    · exact (f.at (k := Z + 1 + 1) (Nat.lt_of_lt_of_eq (show Z + 1 + 1 < Z + 3 by omega) a4.symm) (by omega)).trans a3
    · exact Nat.le_trans (Nat.le_of_eq a4.symm) fs
  obtain ⟨G, hGG⟩ : ∃ G, Z + 1 = G := ⟨_, rfl⟩
  rw [hGG] at H1 hD1 ⊢
  obtain ⟨D, hDD⟩ : ∃ D, G + 1 = D := ⟨_, rfl⟩
  rw [hDD] at hD1 ⊢
  clear HAA F1
  go_loopw [6] (fun i wr => ∃ k : Nat, k ≤ n ∧ i = .int .i64 k ∧ Rd 70 G (rstN (2 * k) t) wr ∧ Below W.heap.size W wr ∧ Z + 3 ≤ wr.heap.size ∧ wr.heap[Z]? = some (.cells zc35 27 (0, 0)) ∧ ∃ u, wr.heap[D]? = some (.cells (dc35 u) 27 (0, 0)) ∧ Kd.R q 54 wr W.heap.size (fun j => j ≠ Z ∧ j ≠ G ∧ j ≠ D) u ((resN k t).map mk)) (fun i _ => n - (intOf i).toNat)
  case atStart => exact ⟨0, Nat.zero_le _, rfl, H1.out, hB1, hs1, hZ1, _, hD1, Kd.R_nil _ _ _ _ _⟩
  case round =>
    clear hB1 hZ1 hD1 hs1 H1
    obtain ⟨k, hk, rfl, hI, hB, hs, hZ, u, hD, hR⟩ := hrel
    have HI := Aside0.mk hI
    have HB := Aside0.mk hB
    have HD := Aside0.mk hD
    have HZ := Aside0.mk hZ
    have HR := Aside0.mk hR
    clear hI hB hZ hD hR
    by_cases hlt : k < n
    · obtain ⟨l1, hl1⟩ : ∃ l1, rstN (2 * k) t = l1 := ⟨_, rfl⟩
      have HL1 := Aside0.mk hl1
      rw [hl1] at HI
      obtain ⟨l2, hl2⟩ : ∃ l2, rst l1 = l2 := ⟨_, rfl⟩
      obtain ⟨s1, hs1⟩ : ∃ s1, strOfNums (txt l1) = s1 := ⟨_, rfl⟩
      obtain ⟨s2, hs2⟩ : ∃ s2, strOfNums (txt l2) = s2 := ⟨_, rfl⟩
      have HL2 := Aside0.mk hl2; have HS1 := Aside0.mk hs1; have HS2 := Aside0.mk hs2
      clear hl1 hl2 hs1 hs2
      go_upto_region 8 with (first
        | (go_at_call 37; go_loud (refine (rbytes G l1 wr HI.out (by omega)).mono ?_; rw [HL2.out]; rintro e w4 ⟨v4, rfl, hR4, h4, f4⟩; have hcv := own_string (P := Try.prog) Try.underlying28 Try.underlying5 Try.underlying9 (Kd.own_of_R hR4); rw [show strOfNums (txt l1) = s1 from HS1.out] at hcv; have H4 := Aside0.mk h4; have F4 := Aside0.mk f4; clear h4 f4 hR4))
        | (rw [hcv]; simp only [Result.andThen]; rw [Oper.upon_value]))
      obtain ⟨X, hX⟩ : ∃ X, w4.heap.size = X := ⟨_, rfl⟩
      obtain ⟨w5, hw5⟩ : ∃ w5, w4.alloc (.cells #[.string s1, .string { data := #[] }] 54) = w5 := ⟨_, rfl⟩
      have f4 := F4.out
      have hs4 := f4.size
      rw [hX] at hs4
      have hs5 : w5.heap.size = X + 1 := by rw [← hw5, alloc_size, hX]
      have hold5 : ∀ j, j < X → w5.heap[j]? = w4.heap[j]? := fun j hj => by rw [← hw5]; exact Below.heap_alloc _ _ _ (by omega)
      have hX5 : w5.heap[X]? = some (.cells #[.string s1, .string { data := #[] }] 54 (0, 0)) := by rw [← hw5, ← hX]; exact alloc_cells _ _
      have hB5 : Below w4.heap.size w4 w5 := by rw [← hw5]; exact below_alloc (Below.refl _ _) _
      have hI5 := H4.out.same (W' := w5) (fun j hj => hold5 j (by omega))
      have hD5 := (hold5 D (by omega)).trans ((f4.at (k := D) (by omega) (by omega)).trans HD.out)
      have hZ5 := (hold5 Z (by omega)).trans ((f4.at (k := Z) (by omega) (by omega)).trans HZ.out)
      have hR5 := Kd.R_mono (Kd.R_bound (Kd.R_keep HR.out f4.1 (fun j hj => hj.2.1))) (ok' := fun j => (j ≠ Z ∧ j ≠ G ∧ j ≠ D) ∧ j < X) (fun j hj => ⟨hj.1, by have := hj.2.2.1; omega⟩)
      have HBB5 := Aside0.mk ((HB.out.trans (f4.2.mono (by omega))).trans (hB5.mono (by omega)))
      have HR5 := Aside0.mk (Kd.R_below hR5 hB5)
      have HI5 := Aside0.mk hI5; have HD5 := Aside0.mk hD5; have HZ5 := Aside0.mk hZ5; have HX5 := Aside0.mk hX5
      rw [hw5, hX]
      clear hw5 hX hold5 hX5 hB5 hI5 hD5 hZ5 hR5 f4 hcv H4 F4 HI HB HD HZ HR
      go_upto_region 9 with (first
        | (go_at_call 37; go_loud (refine (rbytes G l2 w5 HI5.out (by omega)).mono ?_; rintro e w6 ⟨v6, rfl, hR6, h6, f6⟩; have hcv := own_string (P := Try.prog) Try.underlying28 Try.underlying5 Try.underlying9 (Kd.own_of_R hR6); rw [show strOfNums (txt l2) = s2 from HS2.out] at hcv; obtain ⟨cX1, fX1⟩ := at_cells ((f6.at (k := X) (by omega) (by omega)).trans HX5.out) 1 _ rfl; have H6 := Aside0.mk h6; have F6 := Aside0.mk f6; clear h6 f6 hR6))
        | (rw [hcv]; simp only [Result.andThen]; rw [Oper.upon_value]))
      obtain ⟨w7, hw7⟩ : ∃ w7, w6.setCell ⟨X, 1, none⟩ (.string s2) = w7 := ⟨_, rfl⟩
      have f6 := F6.out
      have hs6 := f6.size
      have hs7 : w7.heap.size = w6.heap.size := by rw [← hw7]; simp [World.setCell]
      have hold7 : ∀ j, j ≠ X → w7.heap[j]? = w6.heap[j]? := fun j hj => by rw [← hw7]; exact far_set hj
      have hX7 : w7.heap[X]? = some (.cells #[.string s1, .string s2] 54 (0, 0)) := by
        rw [← hw7]
        exact set_cells ((f6.at (k := X) (by omega) (by omega)).trans HX5.out) 1 _
      have hI7 := H6.out.same (W' := w7) (fun j hj => hold7 j (by omega))
      have hD7 := (hold7 D (by omega)).trans ((f6.at (k := D) (by omega) (by omega)).trans HD5.out)
      have hZ7 := (hold7 Z (by omega)).trans ((f6.at (k := Z) (by omega) (by omega)).trans HZ5.out)
      have HR7 := Aside0.mk (Kd.R_mono (Kd.R_move (Kd.R_keep HR5.out f6.1 (fun j hj => hj.1.2.1)) (fun j hj => hold7 j (by omega))) (ok' := fun j => j ≠ Z ∧ j ≠ G ∧ j ≠ D) (fun j hj => hj.1))
      have HB7 : Aside0 (Below W.heap.size W w7) := ⟨by rw [← hw7]; exact Below.setCell (HBB5.out.trans (f6.2.mono (by omega))) (p := ⟨X, 1, none⟩) (show W.heap.size ≤ X by omega) _⟩
      have HI7 := Aside0.mk hI7; have HD7 := Aside0.mk hD7; have HZ7 := Aside0.mk hZ7
      obtain ⟨x0, fx0⟩ := at_cells hX7 0 _ rfl
      obtain ⟨x1, fx1⟩ := at_cells hX7 1 _ rfl
      obtain ⟨d0, fd0⟩ := at_cells hD7 0 _ rfl
      have hs8 : X + 1 ≤ w7.heap.size := by omega
      rw [hw7]
      clear hw7 hold7 hX7 hI7 hD7 hZ7 f6 hcv H6 F6 HX5 HI5 HD5 HZ5 HR5 HBB5 cX1 fX1 hs5 hs6 hs7
      go_wp2_with ((with_reducible refine gate_builtin (b := .append) (xs := #[.tmp 30, .tmp 32]) rfl ?_); at_builtin; go_loud (refine Kd.R_append q (w0 := w7) W.heap.size (by rfl) (.tmp 30) (.tmp 32) 22 54 (.agg #[.string ⟨#[]⟩, .string ⟨#[]⟩]) 32 rfl Try.underlying22 (by rw [hsz]; exact info54) (by rw [hsz]; rfl) (by rw [hsz]; decide) (by omega) u ((resN k t).map mk) (mk (s1, s2)) [.string s1, .string s2] (fun j => j ≠ Z ∧ j ≠ G ∧ j ≠ D) (fun _ => False) rfl rfl ?aP (fun _ hk => hk.elim) ?aF ?aO ?aB ?aS ?aL ?_; (case aP => exact hqM _ _ _ (s1, s2)); (case aF => intro j hj; omega); (case aO => exact HR7.out); (case aB => exact Below.refl _ _); (case aS => omega); (case aL => rw [List.length_map, resN_len]; omega); intro v8 w8 ho8 hb8 hg8 hat8; obtain ⟨A8, c8, rfl⟩ := Kd.R_slice ho8; have ho9 := ho8; have hl9 : (List.map mk (resN k t) ++ [mk (s1, s2)]).length = (resN k t).length + 1 := (by simp); rw [hl9] at ho9; have hD8 := (hg8.block D (by omega) (fun he => (HR7.out.1 D he.symm).2.2 rfl)).trans HD7.out; obtain ⟨e0, fe0⟩ := at_cells hD8 0 _ rfl; have HD8 := Aside0.mk hD8; have HO9 := Aside0.mk ho9; have HB8 := Aside0.mk hb8; have HG8 := Aside0.mk hg8; have HS8 := Aside0.mk hg8.size; clear ho8 hb8 hg8 hat8 hD8 ho9 hl9))
      go_roundw
      case rel =>
        have hs9 := HS8.out
        have hG8 : ∀ j, j ≤ G → w8.heap[j]? = w7.heap[j]? := fun j hj => HG8.out.block j (by omega) (fun he => by have := Kd.R_base HR7.out j he.symm; have := HR7.out.1 j he.symm; omega)
        have hfar : ∀ j, j ≤ G → (w8.setCell ⟨D, 0, none⟩ (.slice A8 ((resN k t).length + 1) c8)).heap[j]? = w7.heap[j]? := fun j hj => (far_set (by omega)).trans (hG8 j hj)
        refine ⟨k + 1, by omega, by go_num, ?_, ?_, ?_, ?_, _, set_cells HD8.out 0 _, ?_⟩
        · have : rstN (2 * (k + 1)) t = rst l2 := by rw [show 2 * (k + 1) = 2 * k + 2 by omega, rstN_add, HL1.out]; show rst (rst l1) = _; rw [HL2.out]
          rw [this]; exact HI7.out.same (fun j hj => hfar j hj)
        · refine Below.setCell ?_ (by show W.heap.size ≤ D; omega) _
          exact HB7.out.trans (HB8.out.mono (by omega))
        · have : (w8.setCell ⟨D, 0, none⟩ (.slice A8 ((resN k t).length + 1) c8)).heap.size = w8.heap.size := by simp [World.setCell]
          omega
        · rw [hfar Z (by omega)]
          exact HZ7.out
        · rw [resN_snoc, List.map_append, HL1.out, HS1.out, HL2.out, HS2.out]
          exact Kd.R_far HO9.out (p := ⟨D, 0, none⟩) (fun j hj => hj.2.2) _
      case measure => simp [intOf]; omega
    · obtain rfl : k = n := by omega
      obtain ⟨p, hp⟩ : ∃ p, rstN (2 * k) t = p := ⟨_, rfl⟩
      rw [hp] at HI
      have HP := Aside0.mk hp; clear hp
      obtain ⟨f1, hf1⟩ : ∃ z, fl (p.headD 0) 1 = z := ⟨_, rfl⟩
      obtain ⟨b, hb⟩ : ∃ z, p.tail.headD 0 = z := ⟨_, rfl⟩
      obtain ⟨s3, hs3⟩ : ∃ z, strOfNums (txt p.tail.tail) = z := ⟨_, rfl⟩
      obtain ⟨s4, hs4⟩ : ∃ z, strOfNums (txt (rst p.tail.tail)) = z := ⟨_, rfl⟩
      obtain ⟨s5, hs5⟩ : ∃ z, strOfNums (txt (rstN 2 p.tail.tail)) = z := ⟨_, rfl⟩
      obtain ⟨s6, hs6⟩ : ∃ z, strOfNums (txt (rstN 3 p.tail.tail)) = z := ⟨_, rfl⟩
      obtain ⟨f2, hf2⟩ : ∃ z, fl (p.headD 0) 2 = z := ⟨_, rfl⟩
      obtain ⟨f4, hf4⟩ : ∃ z, fl (p.headD 0) 4 = z := ⟨_, rfl⟩
      obtain ⟨f8, hf8⟩ : ∃ z, fl (p.headD 0) 8 = z := ⟨_, rfl⟩
      have Nf1 := Aside0.mk hf1
      have Nb := Aside0.mk hb
      have Ns3 := Aside0.mk hs3
      have Ns4 := Aside0.mk hs4
      have Ns5 := Aside0.mk hs5
      have Ns6 := Aside0.mk hs6
      have Nf2 := Aside0.mk hf2
      have Nf4 := Aside0.mk hf4
      have Nf8 := Aside0.mk hf8
      clear hf1 hb hs3 hs4 hs5 hs6 hf2 hf4 hf8
      have HS0 : St q W.heap.size Z G D W (dc35 u) u ((resN k t).map mk) p wr := ⟨HI.out, HB.out, by omega, HZ.out, HD.out, HR.out⟩
      have hfr : 0 ≤ p.headD 0 ∧ p.headD 0 < 256 := num_le (by obtain ⟨_, _, _, _, _, _, hr⟩ := HI.out; exact hr)
      have hb0 : W.heap.size ≤ Z := by omega
      have hZG : Z < G := by omega
      have hGD : G < D := by omega
      have HS0 := Aside0.mk HS0
      clear HI HB HD HZ HR
      obtain ⟨f, hf⟩ : ∃ f, p.headD 0 = f := ⟨_, rfl⟩
      rw [hf] at hfr
      obtain ⟨hf0, hf1⟩ := hfr
      have HF := Aside0.mk hf; clear hf
      go_upto_region 11 with (go_at_call 36; go_loud (refine (rone G p wr HS0.out.1).mono ?_; rw [HF.out]; rintro e w4 ⟨rfl, h4, f4⟩; have HS4 := Aside0.mk (HS0.out.fr hb0 hZG hGD h4 f4); clear h4 f4))
      obtain ⟨cD1, fD1⟩ := HS4.out.cell 1 _ rfl
      obtain ⟨cD7, fD7⟩ := HS4.out.cell 7 _ rfl
      obtain ⟨cD8, fD8⟩ := HS4.out.cell 8 _ rfl
      obtain ⟨cD9, fD9⟩ := HS4.out.cell 9 _ rfl
      go_upto_region 15 with fail
      obtain ⟨q1, q2, q4, q8⟩ := fl_quo f hf0 hf1
      have Q1 := Nf1.out; have Q2 := Nf2.out; have Q4 := Nf4.out; have Q8 := Nf8.out
      rw [HF.out] at Q1 Q2 Q4 Q8
      rw [q1, q2, q4, q8, Q1, Q2, Q4, Q8]
      have h := (((HS4.out.set hb0 hZG hGD 1 (.bool f1)).set hb0 hZG hGD 7 (.bool f2)).set hb0 hZG hGD 8 (.bool f4)).set hb0 hZG hGD 9 (.bool f8)
      obtain ⟨y0, hy0⟩ : ∃ y0, (((w4.setCell ⟨D, 1, none⟩ (.bool f1)).setCell ⟨D, 7, none⟩ (.bool f2)).setCell ⟨D, 8, none⟩ (.bool f4)).setCell ⟨D, 9, none⟩ (.bool f8) = y0 := ⟨_, rfl⟩
      rw [hy0] at h ⊢
      simp only [dc35, List.setIfInBounds_toArray, List.set_cons_zero, List.set_cons_succ] at h
      have HY0 := Aside0.mk h
      clear h hy0 cD1 fD1 cD7 fD7 cD8 fD8 cD9 fD9 HS4 HS0 q1 q2 q4 q8 Q1 Q2 Q4 Q8 hf0 hf1
      go_upto_region 16 with (go_at_call 36; go_loud (refine (rone G p.tail y0 HY0.out.1).mono ?_; rw [Nb.out]; rintro e x4 ⟨rfl, h4, f4⟩; have HX := Aside0.mk (HY0.out.fr hb0 hZG hGD h4 f4); obtain ⟨cD, fD⟩ := HX.out.cell 2 _ rfl; clear h4 f4))
      have h := HX.out.set hb0 hZG hGD 2 (.int .i64 b)
      obtain ⟨y1, hy⟩ : ∃ y, x4.setCell ⟨D, 2, none⟩ (.int .i64 b) = y := ⟨_, rfl⟩
      rw [hy] at h ⊢
      simp only [List.setIfInBounds_toArray, List.set_cons_zero, List.set_cons_succ] at h
      have HY1 := Aside0.mk h
      clear h hy cD fD HX HY0
      go_upto_region 17 with (first
        | (go_at_call 37; go_loud (refine (rbytes G p.tail.tail y1 HY1.out.1 (Nat.lt_trans hGD HY1.out.2.2.1)).mono ?_; rintro e x4 ⟨vv, rfl, hR, h4, f4⟩; have hcv := own_string (P := Try.prog) Try.underlying28 Try.underlying5 Try.underlying9 (Kd.own_of_R hR); rw [show strOfNums (txt p.tail.tail) = s3 from Ns3.out] at hcv; have HX := Aside0.mk (HY1.out.fr hb0 hZG hGD h4 f4); obtain ⟨cD, fD⟩ := HX.out.cell 3 _ rfl; clear h4 f4; clear hR))
        | (rw [hcv]; simp only [Result.andThen]; rw [Oper.upon_value]))
      have h := HX.out.set hb0 hZG hGD 3 (.string s3)
      obtain ⟨y2, hy⟩ : ∃ y, x4.setCell ⟨D, 3, none⟩ (.string s3) = y := ⟨_, rfl⟩
      rw [hy] at h ⊢
      simp only [List.setIfInBounds_toArray, List.set_cons_zero, List.set_cons_succ] at h
      have HY2 := Aside0.mk h
      clear h hy cD fD HX HY1 hcv
      go_upto_region 18 with (first
        | (go_at_call 37; go_loud (refine (rbytes G (rst p.tail.tail) y2 HY2.out.1 (Nat.lt_trans hGD HY2.out.2.2.1)).mono ?_; rintro e x4 ⟨vv, rfl, hR, h4, f4⟩; have hcv := own_string (P := Try.prog) Try.underlying28 Try.underlying5 Try.underlying9 (Kd.own_of_R hR); rw [show strOfNums (txt (rst p.tail.tail)) = s4 from Ns4.out] at hcv; have HX := Aside0.mk (HY2.out.fr hb0 hZG hGD h4 f4); obtain ⟨cD, fD⟩ := HX.out.cell 4 _ rfl; clear h4 f4; clear hR))
        | (rw [hcv]; simp only [Result.andThen]; rw [Oper.upon_value]))
      have h := HX.out.set hb0 hZG hGD 4 (.string s4)
      obtain ⟨y3, hy⟩ : ∃ y, x4.setCell ⟨D, 4, none⟩ (.string s4) = y := ⟨_, rfl⟩
      rw [hy] at h ⊢
      simp only [List.setIfInBounds_toArray, List.set_cons_zero, List.set_cons_succ] at h
      have HY3 := Aside0.mk h
      clear h hy cD fD HX HY2 hcv
      go_upto_region 19 with (first
        | (go_at_call 37; go_loud (refine (rbytes G (rstN 2 p.tail.tail) y3 HY3.out.1 (Nat.lt_trans hGD HY3.out.2.2.1)).mono ?_; rintro e x4 ⟨vv, rfl, hR, h4, f4⟩; have hcv := own_string (P := Try.prog) Try.underlying28 Try.underlying5 Try.underlying9 (Kd.own_of_R hR); rw [show strOfNums (txt (rstN 2 p.tail.tail)) = s5 from Ns5.out] at hcv; have HX := Aside0.mk (HY3.out.fr hb0 hZG hGD h4 f4); obtain ⟨cD, fD⟩ := HX.out.cell 5 _ rfl; clear h4 f4; clear hR))
        | (rw [hcv]; simp only [Result.andThen]; rw [Oper.upon_value]))
      have h := HX.out.set hb0 hZG hGD 5 (.string s5)
      obtain ⟨y4, hy⟩ : ∃ y, x4.setCell ⟨D, 5, none⟩ (.string s5) = y := ⟨_, rfl⟩
      rw [hy] at h ⊢
      simp only [List.setIfInBounds_toArray, List.set_cons_zero, List.set_cons_succ] at h
      have HY4 := Aside0.mk h
      clear h hy cD fD HX HY3 hcv
      go_upto_region 20 with (first
        | (go_at_call 37; go_loud (refine (rbytes G (rstN 3 p.tail.tail) y4 HY4.out.1 (Nat.lt_trans hGD HY4.out.2.2.1)).mono ?_; rintro e x4 ⟨vv, rfl, hR, h4, f4⟩; have hcv := own_string (P := Try.prog) Try.underlying28 Try.underlying5 Try.underlying9 (Kd.own_of_R hR); rw [show strOfNums (txt (rstN 3 p.tail.tail)) = s6 from Ns6.out] at hcv; have HX := Aside0.mk (HY4.out.fr hb0 hZG hGD h4 f4); obtain ⟨cD, fD⟩ := HX.out.cell 6 _ rfl; clear h4 f4; clear hR))
        | (rw [hcv]; simp only [Result.andThen]; rw [Oper.upon_value]))
      have h := HX.out.set hb0 hZG hGD 6 (.string s6)
      obtain ⟨y5, hy⟩ : ∃ y, x4.setCell ⟨D, 6, none⟩ (.string s6) = y := ⟨_, rfl⟩
      rw [hy] at h ⊢
      simp only [List.setIfInBounds_toArray, List.set_cons_zero, List.set_cons_succ] at h
      have HY5 := Aside0.mk h
      clear h hy cD fD HX HY4 hcv
      obtain ⟨w5, hw5⟩ : ∃ w5, y5 = w5 := ⟨_, rfl⟩
      rw [hw5] at HY5 ⊢
      have hI6 : Rd 70 G (rstN 4 p.tail.tail) w5 := HY5.out.1
      have HI6 := Aside0.mk hI6
      have HB5 := Aside0.mk HY5.out.2.1
      have HZ6 := Aside0.mk HY5.out.2.2.2.1
      have HD5 := Aside0.mk HY5.out.2.2.2.2.1
      have HR6 := Aside0.mk HY5.out.2.2.2.2.2
      have hs7 : Z + 3 ≤ w5.heap.size := by have := HY5.out.2.2.1; omega
      clear HY5 hw5 hI6
      obtain ⟨p1, hp1⟩ : ∃ p1, rstN 4 p.tail.tail = p1 := ⟨_, rfl⟩
      rw [hp1] at HI6
      obtain ⟨T10, hT10⟩ : ∃ T, lots p1 = T := ⟨_, rfl⟩
      obtain ⟨p2, hp2⟩ : ∃ p2, past p1 = p2 := ⟨_, rfl⟩
      obtain ⟨T11, hT11⟩ : ∃ T, lots p2 = T := ⟨_, rfl⟩
      have NP1 := Aside0.mk hp1; have NT10 := Aside0.mk hT10; have NP2 := Aside0.mk hp2; have NT11 := Aside0.mk hT11
      clear hp1 hT10 hp2 hT11
      go_upto_region 21 with (go_at_call 38; go_loud (refine (rtexts_ G p1 w5 HI6.out (by omega)).mono ?_; rw [NT10.out, NP2.out]; rintro e w6 ⟨v10, rfl, hS, h6, f6⟩; obtain ⟨A10, c10, rfl⟩ := Kd.S_slice hS; obtain ⟨cE, fE⟩ := at_cells ((f6.at (k := D) (by omega) (by omega)).trans HD5.out) 10 _ rfl; have HS10 := Aside0.mk hS; have H6 := Aside0.mk h6; have F6 := Aside0.mk f6; clear h6 f6 hS))
      have hs8 := F6.out.size
      have hD7 := set_cells ((F6.out.at (k := D) (by omega) (by omega)).trans HD5.out) 10 (.slice A10 T10.length c10)
      simp only [List.setIfInBounds_toArray, List.set_cons_zero, List.set_cons_succ] at hD7
      have hfar : ∀ j, j ≠ D → (w6.setCell ⟨D, 10, none⟩ (.slice A10 T10.length c10)).heap[j]? = w6.heap[j]? := fun j hj => far_set hj
      have hs9 : (w6.setCell ⟨D, 10, none⟩ (.slice A10 T10.length c10)).heap.size = w6.heap.size := by simp [World.setCell]
      have hZ7 := (hfar Z (by omega)).trans ((F6.out.at (k := Z) (by omega) (by omega)).trans HZ6.out)
      have hI7 := H6.out.same (W' := w6.setCell ⟨D, 10, none⟩ (.slice A10 T10.length c10)) (fun j hj => hfar j (by omega))
      have hB7 := Below.setCell (HB5.out.trans (F6.out.2.mono (by omega))) (p := ⟨D, 10, none⟩) (show W.heap.size ≤ D by omega) (.slice A10 T10.length c10)
      have hR7 := Kd.R_move (Kd.R_keep HR6.out F6.out.1 (fun j hj => hj.2.1)) (fun j hj => hfar j hj.2.2)
      have hS7 := Kd.S_move (Kd.S_bound HS10.out) (w1 := w6.setCell ⟨D, 10, none⟩ (.slice A10 T10.length c10)) (fun j hj => hfar j (by have := hj.2.1; omega))
      have hS7' : Kd.S Tx 28 (w6.setCell ⟨D, 10, none⟩ (.slice A10 T10.length c10)) W.heap.size (fun j => D < j ∧ j < w6.heap.size) (.slice A10 T10.length c10) T10 := Kd.S_lower (Kd.S_mono hS7 (fun j hj => ⟨by have := hj.2.1; omega, hj.2.2.1⟩)) (by omega)
      obtain ⟨w7, hw7⟩ : ∃ w7, w6.setCell ⟨D, 10, none⟩ (.slice A10 T10.length c10) = w7 := ⟨_, rfl⟩
      rw [hw7] at hD7 hs9 hZ7 hI7 hB7 hR7 hS7' ⊢
      have HD7 := Aside0.mk hD7; have HZ7 := Aside0.mk hZ7; have HI7 := Aside0.mk hI7; have HB7 := Aside0.mk hB7; have HR7 := Aside0.mk hR7; have HS7 := Aside0.mk hS7'
      have hs10 : w6.heap.size = w7.heap.size := hs9.symm
      clear hD7 hZ7 hI7 hB7 hR7 hS7 hS7' hfar hw7 hs9 cE fE
      go_upto_region 22 with (go_at_call 38; go_loud (refine (rtexts_ G p2 w7 HI7.out (by omega)).mono ?_; rw [NT11.out]; rintro e w8 ⟨v11, rfl, hS, h8, f8⟩; obtain ⟨A11, c11, rfl⟩ := Kd.S_slice hS; obtain ⟨cE, fE⟩ := at_cells ((f8.at (k := D) (by omega) (by omega)).trans HD7.out) 11 _ rfl; have HS11 := Aside0.mk hS; have H8 := Aside0.mk h8; have F8 := Aside0.mk f8; clear h8 f8 hS))
      have hs11 := F8.out.size
      have hD9 := set_cells ((F8.out.at (k := D) (by omega) (by omega)).trans HD7.out) 11 (.slice A11 T11.length c11)
      simp only [List.setIfInBounds_toArray, List.set_cons_zero, List.set_cons_succ] at hD9
      have hfar : ∀ j, j ≠ D → (w8.setCell ⟨D, 11, none⟩ (.slice A11 T11.length c11)).heap[j]? = w8.heap[j]? := fun j hj => far_set hj
      have hs12 : (w8.setCell ⟨D, 11, none⟩ (.slice A11 T11.length c11)).heap.size = w8.heap.size := by simp [World.setCell]
      have hZ9 := (hfar Z (by omega)).trans ((F8.out.at (k := Z) (by omega) (by omega)).trans HZ7.out)
      have hB9 := Below.setCell (HB7.out.trans (F8.out.2.mono (by omega))) (p := ⟨D, 11, none⟩) (show W.heap.size ≤ D by omega) (.slice A11 T11.length c11)
      have hR9 := Kd.R_move (Kd.R_keep HR7.out F8.out.1 (fun j hj => hj.2.1)) (fun j hj => hfar j hj.2.2)
      have hS9 := Kd.S_move (Kd.S_keep HS7.out F8.out.1 (fun j hj => by omega)) (w1 := w8.setCell ⟨D, 11, none⟩ (.slice A11 T11.length c11)) (fun j hj => hfar j (by omega))
      have hS11 := Kd.S_move (Kd.S_bound HS11.out) (w1 := w8.setCell ⟨D, 11, none⟩ (.slice A11 T11.length c11)) (fun j hj => hfar j (by have := hj.2.1; omega))
      have hS11' : Kd.S Tx 28 (w8.setCell ⟨D, 11, none⟩ (.slice A11 T11.length c11)) W.heap.size (fun j => w7.heap.size ≤ j) (.slice A11 T11.length c11) T11 := Kd.S_lower (Kd.S_mono hS11 (fun j hj => hj.2.1)) (by omega)
      obtain ⟨w9, hw9⟩ : ∃ w9, w8.setCell ⟨D, 11, none⟩ (.slice A11 T11.length c11) = w9 := ⟨_, rfl⟩
      rw [hw9] at hD9 hs12 hZ9 hB9 hR9 hS9 hS11' ⊢
      obtain ⟨u, A0, c0, hu0⟩ : ∃ (u' : Value) (A0 : Option Addr) (c0 : Nat), u = .slice A0 (List.map mk (resN k t)).length c0 := by
        obtain ⟨A0, c0, h⟩ := Kd.R_slice hR9
        exact ⟨u, A0, c0, h⟩
      subst hu0
      have HD9 := Aside0.mk hD9; have HB9 := Aside0.mk hB9; have HR9 := Aside0.mk hR9; have HS9 := Aside0.mk hS9; have HS1 := Aside0.mk hS11'
      have hZ9' : w9.heap[Z]? = some (.cells #[.slice none 0 0, .bool false, .int .i64 0, .string ⟨#[]⟩, .string ⟨#[]⟩, .string ⟨#[]⟩, .string ⟨#[]⟩, .bool false, .bool false, .bool false, .slice none 0 0, .slice none 0 0] 27 (0, 0)) := hZ9
      have HZ9 := Aside0.mk hZ9'
      clear hB9 hR9 hS9 hS11' hS11 hfar hw9 hZ9 cE fE
      obtain ⟨d0, fd0⟩ := at_cells hD9 0 _ rfl
      obtain ⟨d1, fd1⟩ := at_cells hD9 1 _ rfl
      obtain ⟨d2, fd2⟩ := at_cells hD9 2 _ rfl
      obtain ⟨d3, fd3⟩ := at_cells hD9 3 _ rfl
      obtain ⟨d4, fd4⟩ := at_cells hD9 4 _ rfl
      obtain ⟨d5, fd5⟩ := at_cells hD9 5 _ rfl
      obtain ⟨d6, fd6⟩ := at_cells hD9 6 _ rfl
      obtain ⟨d7, fd7⟩ := at_cells hD9 7 _ rfl
      obtain ⟨d8, fd8⟩ := at_cells hD9 8 _ rfl
      obtain ⟨d9, fd9⟩ := at_cells hD9 9 _ rfl
      obtain ⟨d10, fd10⟩ := at_cells hD9 10 _ rfl
      obtain ⟨d11, fd11⟩ := at_cells hD9 11 _ rfl
      obtain ⟨z0, fz0⟩ := at_cells hZ9' 0 _ rfl
      obtain ⟨z1, fz1⟩ := at_cells hZ9' 1 _ rfl
      obtain ⟨z2, fz2⟩ := at_cells hZ9' 2 _ rfl
      obtain ⟨z3, fz3⟩ := at_cells hZ9' 3 _ rfl
      obtain ⟨z4, fz4⟩ := at_cells hZ9' 4 _ rfl
      obtain ⟨z5, fz5⟩ := at_cells hZ9' 5 _ rfl
      obtain ⟨z6, fz6⟩ := at_cells hZ9' 6 _ rfl
      obtain ⟨z7, fz7⟩ := at_cells hZ9' 7 _ rfl
      obtain ⟨z8, fz8⟩ := at_cells hZ9' 8 _ rfl
      obtain ⟨z9, fz9⟩ := at_cells hZ9' 9 _ rfl
      obtain ⟨z10, fz10⟩ := at_cells hZ9' 10 _ rfl
      obtain ⟨z11, fz11⟩ := at_cells hZ9' 11 _ rfl
      clear hD9 hZ9'
      go_wp2
      try simp only [Exit.inBlock, Exit.then]
      have hZf := set_cells (set_cells (set_cells (set_cells (set_cells (set_cells (set_cells (set_cells (set_cells (set_cells (set_cells (set_cells HZ9.out 0 (.slice A0 (resN k t).length c0)) 1 (.bool f1)) 2 (.int .i64 b)) 3 (.string s3)) 4 (.string s4)) 5 (.string s5)) 6 (.string s6)) 7 (.bool f2)) 8 (.bool f4)) 9 (.bool f8)) 10 (.slice A10 T10.length c10)) 11 (.slice A11 T11.length c11)
      simp only [List.setIfInBounds_toArray, List.set_cons_zero, List.set_cons_succ] at hZf
      refine bodyPost_ret (results_cell_row rfl _ _ Z 27 #[.slice A0 (resN k t).length c0, .bool f1, .int .i64 b, .string s3, .string s4, .string s5, .string s6, .bool f2, .bool f4, .bool f8, .slice A10 T10.length c10, .slice A11 T11.length c11] (0, 0) _ rfl hZf Try.underlying27 rfl (by kernel_rfl)) rfl ?_
      have hk : gN l = k := by unfold gN; rw [HX.out]; have := HN.out; omega
      have hgp : gP l = p := by unfold gP; rw [hk, HTT.out]; exact HP.out
      rw [hgp, hk, HTT.out, NP1.out, NP2.out, NT10.out, NT11.out, Nf1.out, Nb.out, Ns3.out, Ns4.out, Ns5.out, Ns6.out, Nf2.out, Nf4.out, Nf8.out]
      have hfz : ∀ j, j ≠ Z → (((((((((((((w9.setCell ⟨Z, 0, none⟩ (.slice A0 (resN k t).length c0)).setCell ⟨Z, 1, none⟩ (.bool f1)).setCell ⟨Z, 2, none⟩ (.int .i64 b)).setCell ⟨Z, 3, none⟩ (.string s3)).setCell ⟨Z, 4, none⟩ (.string s4)).setCell ⟨Z, 5, none⟩ (.string s5)).setCell ⟨Z, 6, none⟩ (.string s6)).setCell ⟨Z, 7, none⟩ (.bool f2)).setCell ⟨Z, 8, none⟩ (.bool f4)).setCell ⟨Z, 9, none⟩ (.bool f8)).setCell ⟨Z, 10, none⟩ (.slice A10 T10.length c10)).setCell ⟨Z, 11, none⟩ (.slice A11 T11.length c11))).heap[j]? = w9.heap[j]? := by intro j hj; simp only [far_set hj]
      refine ⟨_, _, _, rfl, ?_, ?_, ?_, Below.setCell (Below.setCell (Below.setCell (Below.setCell (Below.setCell (Below.setCell (Below.setCell (Below.setCell (Below.setCell (Below.setCell (Below.setCell (Below.setCell HB9.out (p := ⟨Z, 0, none⟩) (show W.heap.size ≤ Z by omega) (.slice A0 (resN k t).length c0)) (p := ⟨Z, 1, none⟩) (show W.heap.size ≤ Z by omega) (.bool f1)) (p := ⟨Z, 2, none⟩) (show W.heap.size ≤ Z by omega) (.int .i64 b)) (p := ⟨Z, 3, none⟩) (show W.heap.size ≤ Z by omega) (.string s3)) (p := ⟨Z, 4, none⟩) (show W.heap.size ≤ Z by omega) (.string s4)) (p := ⟨Z, 5, none⟩) (show W.heap.size ≤ Z by omega) (.string s5)) (p := ⟨Z, 6, none⟩) (show W.heap.size ≤ Z by omega) (.string s6)) (p := ⟨Z, 7, none⟩) (show W.heap.size ≤ Z by omega) (.bool f2)) (p := ⟨Z, 8, none⟩) (show W.heap.size ≤ Z by omega) (.bool f4)) (p := ⟨Z, 9, none⟩) (show W.heap.size ≤ Z by omega) (.bool f8)) (p := ⟨Z, 10, none⟩) (show W.heap.size ≤ Z by omega) (.slice A10 T10.length c10)) (p := ⟨Z, 11, none⟩) (show W.heap.size ≤ Z by omega) (.slice A11 T11.length c11)⟩
      · have h := Kd.R_move HR9.out (fun j hj => hfz j hj.1)
        rw [List.length_map] at h
        exact Kd.R_mono h (fun _ _ => trivial)
      · refine Kd.S_mono (Kd.S_move HS9.out (fun j hj => hfz j (by omega))) (fun j hj he => ?_)
        have := Kd.S_base HS11.out j he.symm
        omega
      · refine Kd.S_mono (Kd.S_move HS1.out (fun j hj => hfz j (by omega))) (fun j hj he => ?_)
        have := HS10.out
        have h2 := Kd.S_lt HS10.out j he.symm
        omega
end Go.Proofs.Ytojfhlbchiaccaa.Reader
