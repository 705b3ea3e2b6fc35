/- The reader of the reference: bytes that are taken one by one. -/
import Derived.Test.YtojfhlbchiaccaaReader2
namespace Go.Proofs.Ytojfhlbchiaccaa.Reader
open Go.RowKit Go.Proofs.YtojfhlbchiaccaaW.PrintWords Go.Proofs.YtojfhlbchiaccaaW.PrintLast Go.Proofs.YtojfhlbchiaccaaW.PrintMore
attribute [local go_sem] max2_int min2_int max_two min_two max_three min_three max_four min_four   -- for this text's walks alone
set_option linter.unusedVariables false
set_option linter.unusedSimpArgs false

set_option maxHeartbeats 4000000 in
set_option maxRecDepth 100000 in
theorem rone (g : Nat) (l : List Int) (W : World) (h : Rd 70 g l W) :
    Calls Try.prog 36 #[.pointer (some ⟨g, 0, none⟩)] W fun e W' => e = .returned (.int .i64 (l.headD 0)) ∧ Rd 70 g l.tail W' ∧ Fr g W W' := by
  have HK := Aside0.mk h
  obtain ⟨A, c, hh, hc, hC, hne, hr⟩ := h
  have c0 := cell_of_one hh
  have f0 := free_of_one hh
  have HH := Aside0.mk hh
  have HC := Aside0.mk hC
  have HN := Aside0.mk hne
  have HR := Aside0.mk hr
  clear hh hC hne hr
  cases l with
  | nil =>
    go_enter Try.func36, Try.ntmps36
    go_wp2
    go_ret
    exact ⟨rfl, HK.out, Fr.refl _ _⟩
  | cons x l =>
    obtain ⟨ad, rfl, hx0⟩ := Kd.at_int HC.out 0 (by omega) (by simp)
    have hx1 : W.cell? ad = some (.int .u8 x) := hx0
    clear hx0
    obtain ⟨hb0, hb1⟩ := HR.out x (List.mem_cons_self ..)
    have HD := Aside0.mk (Rd.drop (m := 1) HH.out hc HC.out HN.out HR.out (by simp))
    by_cases hc1 : c = 1
    · subst hc1
      go_enter Try.func36, Try.ntmps36
      go_wp2
      go_ret
      exact ⟨rfl, HD.out _ rfl, Fr.set _ _ _⟩
    · go_enter Try.func36, Try.ntmps36
      go_wp2
      go_ret
      exact ⟨rfl, HD.out _ (by rw [if_neg hc1]; rfl), Fr.set _ _ _⟩
theorem cnt_eq {l : List Int} (h : ∀ x ∈ l, 0 ≤ x ∧ x < 256) : num l 3 % 65536 = 256 * l.tail.headD 0 + l.tail.tail.headD 0 := by
  have h1 := head_rng h 1
  have h2 := head_rng h 2
  have e1 : l.drop 1 = l.tail := by simp
  have e2 : l.drop 2 = l.tail.tail := by cases l with
    | nil => rfl
    | cons a l => cases l <;> rfl
  rw [e1] at h1; rw [e2] at h2
  simp only [num, List.drop_zero, e1, e2]
  omega
set_option maxHeartbeats 4000000 in
set_option maxRecDepth 100000 in
theorem rbytes (g : Nat) (l : List Int) (W : World) (h : Rd 70 g l W) (hg : g < W.heap.size) :
    Calls Try.prog 37 #[.pointer (some ⟨g, 0, none⟩)] W fun e W' => ∃ v : Value, e = .returned v ∧ Kd.R (Kd.int .u8) 5 W' W.heap.size (fun _ => True) v (txt l) ∧ Rd 70 g (rst l) W' ∧ Fr g W W' := by
  have HK := Aside0.mk h
  have hr : ∀ x ∈ l, 0 ≤ x ∧ x < 256 := by obtain ⟨_, _, _, _, _, _, hr⟩ := h; exact hr
  have hr1 : ∀ x ∈ l.tail, 0 ≤ x ∧ x < 256 := fun x hx => hr x (List.mem_of_mem_tail hx)
  have hr2 : ∀ x ∈ l.tail.tail, 0 ≤ x ∧ x < 256 := fun x hx => hr1 x (List.mem_of_mem_tail hx)
  have hx := num_le hr1
  have hy := num_le hr2
  have hcn := cnt_eq hr
  have HR := Aside0.mk hr
  obtain ⟨x, hxx⟩ : ∃ x, l.tail.headD 0 = x := ⟨_, rfl⟩
  obtain ⟨y, hyy⟩ : ∃ y, l.tail.tail.headD 0 = y := ⟨_, rfl⟩
  rw [hxx] at hx hcn
  rw [hyy] at hy hcn
  obtain ⟨hx0, hx1⟩ := hx
  obtain ⟨hy0, hy1⟩ := hy
  have HX := Aside0.mk hxx; have HY := Aside0.mk hyy; have HC0 := Aside0.mk hcn
  have tok := True.intro
  have tok2 := And.intro tok tok
  clear h hr hr1 hr2 hxx hyy hcn
  obtain ⟨r3, h3⟩ : ∃ r, l.tail.tail.tail = r := ⟨_, rfl⟩
  have H3 := Aside0.mk h3; clear h3
  go_enter Try.func37, Try.ntmps37
  go_upto_region 4 with (first
    | (have t := tok; clear tok; go_at_call 36; refine (rone g l W HK.out).mono ?_; rintro e W1 ⟨rfl, h1, f1⟩; have H1 := Aside0.mk h1; have F1 := Aside0.mk f1; clear h1 f1)
    | (have t := tok2; clear tok2; go_at_call 36; refine (rone g l.tail W1 H1.out).mono ?_; rw [HX.out]; rintro e W2 ⟨rfl, h1, f1⟩; have H2 := Aside0.mk h1; have F2 := Aside0.mk (F1.out.trans f1); clear h1 f1)
    | (go_at_call 36; refine (rone g l.tail.tail W2 H2.out).mono ?_; rw [HY.out, H3.out]; rintro e W3 ⟨rfl, h1, f1⟩; have HI := Aside0.mk h1; have HF := Aside0.mk (F2.out.trans f1); clear h1 f1))
  have hrest : l.drop 3 = r3 := by
    rw [← H3.out]
    rcases l with _ | ⟨a, _ | ⟨b, _ | ⟨c, l⟩⟩⟩ <;> rfl
  have hr3 : ∀ x ∈ r3, 0 ≤ x ∧ x < 256 := fun x hx => HR.out x (List.mem_of_mem_drop (by rw [hrest]; exact hx))
  obtain ⟨A, c, hh, hc, hC, hne, _⟩ := HI.out
  have c0 := cell_of_one hh
  have f0 := free_of_one hh
  have hgw : g < W3.heap.size := lt_of_block hh
  have hle : W.heap.size ≤ W3.heap.size := HF.out.1.1
  have hmn : 0 ≤ mn (256 * x + y) (r3.length : Int) ∧ mn (256 * x + y) (r3.length : Int) < 65536 ∧ (mn (256 * x + y) (r3.length : Int)).toNat = cnt l := by
    unfold mn cnt; rw [HC0.out, hrest]; split <;> omega
  obtain ⟨z, hz⟩ : ∃ z, mn (256 * x + y) (r3.length : Int) = z := ⟨_, rfl⟩
  rw [hz] at hmn
  have hzi : (if (r3.length : Int) < 256 * x + y then (r3.length : Int) else 256 * x + y) = z := hz
  clear hz
  obtain ⟨hz0, hz1, hz2⟩ := hmn
  obtain ⟨m, hm⟩ : ∃ m, cnt l = m := ⟨_, rfl⟩
  have hml : m ≤ r3.length := by rw [← hm]; unfold cnt; rw [hrest]; omega
  rw [hm] at hz2
  obtain rfl : z = (m : Int) := by omega
  have htx : txt l = r3.take m := by unfold txt; rw [hrest, hm]
  have hrs : rst l = r3.drop m := by unfold rst; rw [hm, ← List.drop_drop, hrest]
  have HTX := Aside0.mk htx; have HRS := Aside0.mk hrs
  have HH := Aside0.mk hh; have HCC := Aside0.mk hC; have HN := Aside0.mk hne; have HR3 := Aside0.mk hr3
  have HD := Aside0.mk (fun W' (hW : W'.heap[g]? = W3.heap[g]?) (hC' : Kd.C (Kd.int .u8) W' A r3.length r3) => Rd.drop (T := 70) (m := m) (W := W') (hW.trans HH.out) hc hC' HN.out HR3.out hml)
  have hcm2 : (m : Int) ≤ c := by omega
  clear hh hC hne hr3 htx hrs hm hz2 hz0 hrest H1 H2 F1 F2 HK
  have hmc : (0 : Int) ≤ m := by omega
  go_upto_region 6 with (first
    | ((with_reducible refine gate_dst (N := 23) rfl ?_); go_loud (refine Kd.R_lit (Kd.int .u8) (w0 := W3) W3.heap.size 5 ?hg (N := 23) ?hd (xs := ([] : List Int)) (inner := []) (ok := fun _ => True) (okp := fun _ => True) ?hr ?hp (fun _ hk => hk) trivial (Below.refl _ _) (Nat.le_refl _) (by simp) ?_; (case hd => rfl); (case hg => rfl); (case hr => first | (go_simp; done) | (go_simp; rfl)); (case hp => exact (Reps.none _ _)); intro v4 w4 ho4 hb4 hg4 hn4; have c4 := cell_of_one ((hb4.block g hgw).trans HH.out); have f4 := free_of_one ((hb4.block g hgw).trans HH.out); have HO4 := Aside0.mk ho4; have HB4 := Aside0.mk hb4; clear ho4 hb4 hg4 hn4))
    | ((with_reducible refine gate_builtin (b := .append) (xs := #[.tmp 23, .tmp 29]) rfl ?_); at_builtin; go_loud (refine Kd.R_append_rows (Kd.int .u8) (w0 := W3) W3.heap.size rfl (.tmp 23) (.tmp 29) 28 5 (.int .u8 0) 1 rfl Try.underlying28 info5 rfl (by decide) (by omega) v4 [] (r3.take m) A m c (fun _ => True) (fun _ => False) rfl rfl ?aO ?aR (fun _ _ h => h) (fun _ h => h.elim) ?aF ?aB ?aS ?aL ?_; (case aR => have h := Kd.C_take (Kd.C_below HCC.out HB4.out) hml; rw [List.length_take, Nat.min_eq_left hml] at h; exact h); (case aB => exact HB4.out); (case aF => exact fun k hk => trivial); (case aO => exact HO4.out); (case aS => exact HB4.out.size); (case aL => simp only [List.length_nil]; omega); intro v5 w5 ho5 hb5 hg5 hat5; have hh5 := (hb5.block g hgw).trans HH.out; have c5 := cell_of_one hh5; have f5 := free_of_one hh5; have HO5 := Aside0.mk ho5; have HB5 := Aside0.mk hb5; clear ho5 hb5 hg5 hat5)))
  have hh5 := (HB5.out.block g hgw).trans HH.out
  have fin : ∀ u : Value, u = .slice (if c = m then A else A.map (·.add m)) (r3.length - m) (c - m) → ((∃ v1 : Value, Ending.returned v5 = .returned v1 ∧ Kd.R (Kd.int .u8) 5 (w5.setCell ⟨g, 0, none⟩ u) W.heap.size (fun _ => True) v1 (txt l) ∧ Rd 70 g (rst l) (w5.setCell ⟨g, 0, none⟩ u) ∧ Fr g W (w5.setCell ⟨g, 0, none⟩ u))) := by
    intro u hu
    refine ⟨v5, rfl, ?_, ?_, HF.out.trans ((Fr.of_below HB5.out hgw).trans (Fr.set _ _ _))⟩
    · rw [HTX.out]
      have h := HO5.out
      rw [List.nil_append] at h
      refine Kd.R_mono (Kd.R_lower (Kd.R_far (Kd.R_mono (Kd.R_bound h) (fun k hk => (show k ≠ g by have := hk.2.1; omega))) (p := ⟨g, 0, none⟩) (fun k hk => hk) u) hle) (fun _ _ => trivial)
    · rw [HRS.out]
      exact HD.out w5 (HB5.out.block g hgw) (Kd.C_below HCC.out HB5.out) u hu
  have FIN := Aside0.mk fin
  have hC3 := HCC.out
  clear fin hh5 HH HD HN HR3 HO4 HB4
  cases A with
  | none =>
    have hr0 : r3 = [] := by
      rcases Nat.eq_zero_or_pos r3.length with h | h
      · exact List.eq_nil_of_length_eq_zero h
      · obtain ⟨ad, e, _⟩ := (Kd.reads_of_C (d := (0 : Int)) hC3).2.2 h
        cases e
    subst hr0
    obtain rfl : m = 0 := by simpa using hml
    clear hC3
    go_wp2
    go_ret
    exact FIN.out _ (by simp)
  | some ad =>
    clear hC3
    by_cases hcm : c = m
    · subst hcm
      go_wp2
      go_ret
      exact FIN.out _ (by rw [show r3.length = c by omega]; simp)
    · go_wp2
      go_ret
      exact FIN.out _ (by rw [if_neg hcm]; first | rfl | (cases m <;> rfl))
end Go.Proofs.Ytojfhlbchiaccaa.Reader
