/- script.Sane: what is told of rows by slices.ContainsFunc. -/
import Derived.Test.YtojfhlbchiaccaaReader2
namespace Go.Proofs.Ytojfhlbchiaccaa.Reader
open Go.RowKit Go.Proofs.YtojfhlbchiaccaaW.PrintWords Go.Proofs.YtojfhlbchiaccaaW.PrintLast Go.Proofs.YtojfhlbchiaccaaW.PrintMore
attribute [local go_sem] max2_int min2_int max_two min_two max_three min_three max_four min_four   -- for this text's walks alone
set_option linter.unusedVariables false
set_option linter.unusedSimpArgs false

theorem alloc_cells' (W : World) (o : Obj) : (W.alloc o).heap[W.heap.size]? = some o := by show (W.heap.push o)[W.heap.size]? = _; simp
theorem alloc_size' (W : World) (o : Obj) : (W.alloc o).heap.size = W.heap.size + 1 := by show (W.heap.push o).size = _; simp
theorem at_cells' {W : World} {D T : Nat} {cs : Array Value} (h : W.heap[D]? = some (.cells cs T (0, 0))) (j : Nat) (v : Value) (hv : cs[j]? = some v) : W.cell? ⟨D, j, none⟩ = some v :=
  by simp [World.cell?, h, hv]
def longS (a b : ByteArray) : Bool := decide (65535 < (a.size : Int)) || decide (65535 < (b.size : Int))
theorem call19 (a b : ByteArray) (W : World) : Calls Try.prog 19 #[.agg #[.string a, .string b]] W fun e W' => e = .returned (.bool (longS a b)) ∧ Below W.heap.size W W' := by
  go_enter Try.func19, Try.ntmps19
  by_cases h : (65535 : Int) < a.size
  · go_wp2
    go_ret
    exact ⟨by unfold longS; rw [decide_eq_true h]; rfl, below_alloc (Below.refl _ _) _⟩
  · go_wp2
    go_ret
    exact ⟨by unfold longS; rw [decide_eq_false (show ¬ (65535 : Int) < a.size by omega), Bool.false_or]; rfl, below_alloc (Below.refl _ _) _⟩
theorem call42 (A : Option Addr) (n c : Nat) (W : World) : Calls Try.prog 42 #[.slice A n c] W fun e W' => e = .returned (.bool (decide (65535 < (n : Int)))) ∧ Below W.heap.size W W' := by
  go_enter Try.func42, Try.ntmps42
  go_wp2
  go_ret
  exact ⟨rfl, Below.refl _ _⟩
theorem any_snoc {α : Type} (l : List α) (f : α → Bool) (k : Nat) (hk : k < l.length) : (l.take (k + 1)).any f = ((l.take k).any f || f l[k]) := by
  rw [List.take_succ_eq_append_getElem hk, List.any_append]; simp
theorem any_at {α : Type} (l : List α) (f : α → Bool) (k : Nat) (hk : k < l.length) (h : f l[k] = true) : l.any f = true := List.any_eq_true.2 ⟨_, List.getElem_mem hk, h⟩
set_option maxHeartbeats 4000000 in
set_option maxRecDepth 100000 in
theorem idx44 (A : Option Addr) (c : Nat) (l : List (List Int)) (W : World) (hC : Kd.C Tx W A l.length l) (hc : l.length ≤ c) (hl : l.length ≤ 9223372036854775807) :
    Calls Try.prog 44 #[.slice A l.length c, .func (.func 42) #[] #[]] W fun e W' => ∃ r : Int, e = .returned (.int .i64 r) ∧ decide (0 ≤ r) = l.any (fun x => decide (65535 < (x.length : Int))) ∧ Below W.heap.size W W' := by
  have HC := Aside0.mk hC; clear hC
  go_enter Try.func44, Try.ntmps44
  go_wp2
  go_loopw [8] (fun i wr => ∃ k : Nat, k ≤ l.length ∧ i = .int .i64 k ∧ Below W.heap.size W wr ∧ (l.take k).any (fun x => decide (65535 < (x.length : Int))) = false) (fun i _ => l.length - (intOf i).toNat)
  case atStart => exact ⟨0, Nat.zero_le _, rfl, Below.refl _ _, rfl⟩
  case round =>
    obtain ⟨k, hk, rfl, hB, hany⟩ := hrel
    have HB := Aside0.mk hB; have HANY := Aside0.mk hany; clear hB hany
    by_cases hlt : k < l.length
    · obtain ⟨ad, cs, rfl, _, hK, hc0⟩ := Kd.C_get (Kd.C_below HC.out HB.out) ([] : List Int) (k : Int) (by omega) (by omega)
      obtain ⟨A0, c0, rfl, _, _⟩ := hK
      have hcell : wr.cell? (ad.add k) = some (.slice A0 (l.getD k []).length c0) := by
        have := hc0 0 _ rfl
        rwa [Int.toNat_natCast, show Tx.sz = 1 from rfl, Nat.mul_one, Nat.add_zero] at this
      have hat : l.getD k [] = l[k] := by rw [List.getD_eq_getElem?_getD, List.getElem?_eq_getElem hlt]; rfl
      rw [hat] at hcell
      clear hc0 hat
      by_cases hp : (65535 : Int) < (l[k].length : Int)
      · have HANS := Aside0.mk (any_at l (fun x => decide (65535 < (x.length : Int))) k hlt (decide_eq_true hp))
        obtain ⟨m, hm⟩ : ∃ m, l[k].length = m := ⟨_, rfl⟩
        rw [hm] at hcell hp
        clear hm
        go_wp2_with (go_at_call 42; refine (call42 _ _ _ _).mono ?_; rw [decide_eq_true hp]; rintro e w2 ⟨rfl, hb⟩)
        go_ret
        exact ⟨(k : Int), rfl, by rw [HANS.out]; exact decide_eq_true (by omega), below_step HB.out hb⟩
      · have HANS : Aside0 ((l.take (k + 1)).any (fun x => decide (65535 < (x.length : Int))) = false) := ⟨by rw [any_snoc l _ k hlt, HANY.out, decide_eq_false hp]; rfl⟩
        obtain ⟨m, hm⟩ : ∃ m, l[k].length = m := ⟨_, rfl⟩
        rw [hm] at hcell hp
        clear hm
        go_wp2_with (go_at_call 42; refine (call42 _ _ _ _).mono ?_; rw [decide_eq_false hp]; rintro e w2 ⟨rfl, hb⟩)
        go_roundw
        case rel => exact ⟨k + 1, by omega, by go_num, below_step HB.out hb, HANS.out⟩
        case measure => simp [intOf]; omega
    · obtain rfl : k = l.length := by omega
      go_wp2
      go_ret
      have := HANY.out
      rw [List.take_length] at this
      exact ⟨-1, rfl, by rw [this]; rfl, HB.out⟩
set_option maxHeartbeats 4000000 in
set_option maxRecDepth 100000 in
theorem idx40 {S : Type} (fst snd : S → ByteArray) (q : Kd S) (hsz : q.sz = 2) (hqK : ∀ w x cs, q.K w x cs → cs = [.string (fst x), .string (snd x)]) (z : S) (A : Option Addr) (c : Nat) (l : List S) (W : World) (hC : Kd.C q W A l.length l) (hc : l.length ≤ c) (hl : l.length ≤ 9223372036854775807) :
    Calls Try.prog 40 #[.slice A l.length c, .func (.func 19) #[] #[]] W fun e W' => ∃ r : Int, e = .returned (.int .i64 r) ∧ decide (0 ≤ r) = l.any (fun x => longS (fst x) (snd x)) ∧ Below W.heap.size W W' := by
  have HC := Aside0.mk hC; clear hC
  go_enter Try.func40, Try.ntmps40
  go_wp2
  go_loopw [8] (fun i wr => ∃ k : Nat, k ≤ l.length ∧ i = .int .i64 k ∧ Below W.heap.size W wr ∧ (l.take k).any (fun x => longS (fst x) (snd x)) = false) (fun i _ => l.length - (intOf i).toNat)
  case atStart => exact ⟨0, Nat.zero_le _, rfl, Below.refl _ _, rfl⟩
  case round =>
    obtain ⟨k, hk, rfl, hB, hany⟩ := hrel
    have HB := Aside0.mk hB; have HANY := Aside0.mk hany; clear hB hany
    by_cases hlt : k < l.length
    · obtain ⟨ad, cs, rfl, _, hK, hc0⟩ := Kd.C_get (Kd.C_below HC.out HB.out) z (k : Int) (by omega) (by omega)
      obtain rfl := hqK _ _ _ hK
      have hat : l.getD k z = l[k] := by rw [List.getD_eq_getElem?_getD, List.getElem?_eq_getElem hlt]; rfl
      have hcell : wr.cell? (ad.add (k * 2)) = some (.string (fst l[k])) := by
        have := hc0 0 _ rfl
        rwa [Int.toNat_natCast, hsz, Nat.add_zero, hat] at this
      have hcell1 : wr.cell? ⟨(ad.add (k * 2)).block, (ad.add (k * 2)).off + 1, none⟩ = some (.string (snd l[k])) := by
        have := hc0 1 _ rfl
        rw [Int.toNat_natCast, hsz, hat] at this
        rw [← add_field _ _ 1 (by omega)]; exact this
      clear hc0 hat
      obtain ⟨s1, hs1⟩ : ∃ s1, fst l[k] = s1 := ⟨_, rfl⟩
      obtain ⟨s2, hs2⟩ : ∃ s2, snd l[k] = s2 := ⟨_, rfl⟩
      by_cases hp : longS (fst l[k]) (snd l[k]) = true
      · have HANS := Aside0.mk (any_at l (fun x => longS (fst x) (snd x)) k hlt hp)
        rw [hs1] at hcell hp
        rw [hs2] at hcell1 hp
        have HP := Aside0.mk hp; clear hp hs1 hs2
        go_wp2_with (go_at_call 19; refine (call19 _ _ _).mono ?_; rw [HP.out]; rintro e w2 ⟨rfl, hb⟩)
        go_ret
        exact ⟨(k : Int), rfl, by rw [HANS.out]; exact decide_eq_true (by omega), below_step HB.out hb⟩
      · have HANS : Aside0 ((l.take (k + 1)).any (fun x => longS (fst x) (snd x)) = false) := ⟨by rw [any_snoc l _ k hlt, HANY.out, Bool.eq_false_iff.2 hp]; rfl⟩
        rw [hs1] at hcell hp
        rw [hs2] at hcell1 hp
        have HP := Aside0.mk hp; clear hp hs1 hs2
        go_wp2_with (go_at_call 19; refine (call19 _ _ _).mono ?_; rw [Bool.eq_false_iff.2 HP.out]; rintro e w2 ⟨rfl, hb⟩)
        go_roundw
        case rel => exact ⟨k + 1, by omega, by go_num, below_step HB.out hb, HANS.out⟩
        case measure => simp [intOf]; omega
    · obtain rfl : k = l.length := by omega
      go_wp2
      go_ret
      have := HANY.out
      rw [List.take_length] at this
      exact ⟨-1, rfl, by rw [this]; rfl, HB.out⟩
theorem has41 (A : Option Addr) (c : Nat) (l : List (List Int)) (W : World) (hC : Kd.C Tx W A l.length l) (hc : l.length ≤ c) (hl : l.length ≤ 9223372036854775807) :
    Calls Try.prog 41 #[.slice A l.length c, .func (.func 42) #[] #[]] W fun e W' => e = .returned (.bool (l.any (fun x => decide (65535 < (x.length : Int))))) ∧ Below W.heap.size W W' := by
  have HC := Aside0.mk hC; clear hC
  go_enter Try.func41, Try.ntmps41
  go_wp2_with (go_at_call 44; refine (idx44 _ _ l _ HC.out hc hl).mono ?_; rintro e w2 ⟨r, rfl, hr, hb⟩; have HR := Aside0.mk hr; clear hr)
  go_ret
  exact ⟨by rw [← HR.out]; rfl, hb⟩
theorem has20 {S : Type} (fst snd : S → ByteArray) (q : Kd S) (hsz : q.sz = 2) (hqK : ∀ w x cs, q.K w x cs → cs = [.string (fst x), .string (snd x)]) (z : S) (A : Option Addr) (c : Nat) (l : List S) (W : World) (hC : Kd.C q W A l.length l) (hc : l.length ≤ c) (hl : l.length ≤ 9223372036854775807) :
    Calls Try.prog 20 #[.slice A l.length c, .func (.func 19) #[] #[]] W fun e W' => e = .returned (.bool (l.any (fun x => longS (fst x) (snd x)))) ∧ Below W.heap.size W W' := by
  have HC := Aside0.mk hC; clear hC
  go_enter Try.func20, Try.ntmps20
  go_wp2_with (go_at_call 40; refine (idx40 fst snd q hsz hqK z _ _ l _ HC.out hc hl).mono ?_; rintro e w2 ⟨r, rfl, hr, hb⟩; have HR := Aside0.mk hr; clear hr)
  go_ret
  exact ⟨by rw [← HR.out]; rfl, hb⟩
def mayB (l : List (List Int)) : Bool := decide (l.length ≤ 40) && !l.any (fun x => decide (65535 < (x.length : Int)))
theorem may (A : Option Addr) (c : Nat) (l : List (List Int)) (W : World) (hC : Kd.C Tx W A l.length l) (hc : l.length ≤ c) (hl : l.length ≤ 9223372036854775807) :
    Calls Try.prog 21 #[.slice A l.length c] W fun e W' => e = .returned (.bool (mayB l)) ∧ Below W.heap.size W W' := by
  have HC := Aside0.mk hC; clear hC
  by_cases h : (40 : Int) < l.length
  · go_enter Try.func21, Try.ntmps21
    go_wp2
    go_ret
    exact ⟨by unfold mayB; rw [decide_eq_false (by omega)]; rfl, Below.refl _ _⟩
  · go_enter Try.func21, Try.ntmps21
    go_wp2_with (go_at_call 41; refine (has41 _ _ l _ HC.out hc hl).mono ?_; rintro e w2 ⟨rfl, hb⟩)
    go_ret
    exact ⟨by unfold mayB; rw [decide_eq_true (by omega)]; rfl, hb⟩
def partsB (b : Int) (s3 s4 s5 s6 : ByteArray) : Bool := decide (s3.size ≤ 65535 ∧ s4.size ≤ 65535 ∧ s5.size ≤ 65535 ∧ s6.size ≤ 65535 ∧ 0 ≤ b ∧ b ≤ 255)
set_option maxHeartbeats 4000000 in
set_option maxRecDepth 100000 in
theorem sane {S : Type} (fst snd : S → ByteArray) (q : Kd S) (hsz : q.sz = 2) (hqK : ∀ w x cs, q.K w x cs → cs = [.string (fst x), .string (snd x)]) (z : S) (A0 : Option Addr) (c0 : Nat) (l0 : List S) (f1 : Bool) (b : Int) (s3 s4 s5 s6 : ByteArray) (f2 f4 f8 : Bool) (A10 : Option Addr) (c10 : Nat) (l10 : List (List Int)) (A11 : Option Addr) (c11 : Nat) (l11 : List (List Int)) (W : World)
    (h0 : Kd.C q W A0 l0.length l0) (hc0 : l0.length ≤ c0) (h10 : Kd.C Tx W A10 l10.length l10) (hc10 : l10.length ≤ c10) (h11 : Kd.C Tx W A11 l11.length l11) (hc11 : l11.length ≤ c11) :
    Calls Try.prog 9 #[.agg #[.slice A0 l0.length c0, .bool f1, .int .i64 b, .string s3, .string s4, .string s5, .string s6, .bool f2, .bool f4, .bool f8, .slice A10 l10.length c10, .slice A11 l11.length c11]] W fun e W' =>
      e = .returned (.bool (partsB b s3 s4 s5 s6 && decide (l0.length ≤ 12) && !l0.any (fun x => longS (fst x) (snd x)) && mayB l10 && mayB l11)) ∧ Below W.heap.size W W' := by
  have H0 := Aside0.mk h0; have H10 := Aside0.mk h10; have H11 := Aside0.mk h11
  clear h0 h10 h11
  have hba : ∀ o1 o2 : Obj, Below W.heap.size W ((W.alloc o1).alloc o2) := fun o1 o2 => below_alloc (below_alloc (Below.refl _ _) o1) o2
  have hbx : ∀ (cs1 : Array Value) (T1 : Nat) (o2 : Obj) (w : World), Below ((W.alloc (.cells cs1 T1)).alloc o2).heap.size ((W.alloc (.cells cs1 T1)).alloc o2) w → w.heap[W.heap.size]? = some (.cells cs1 T1 (0, 0)) := by
    intro cs1 T1 o2 w hb
    have e1 : (W.alloc (.cells cs1 T1)).heap.size = W.heap.size + 1 := alloc_size' _ _
    have e2 : ((W.alloc (.cells cs1 T1)).alloc o2).heap.size = W.heap.size + 2 := by rw [alloc_size', e1]
    rw [hb.block _ (by omega), Below.heap_alloc _ _ _ (by omega)]
    exact alloc_cells' _ _
  have hlen : ∀ {A : Option Addr} (l : List (List Int)), Kd.C Tx W A l.length l → l.length ≤ 9223372036854775807 := by
    intro A l h; have := h.2.1; omega
  obtain ⟨n3, hn3⟩ : ∃ n3 : Int, (s3.size : Int) = n3 := ⟨_, rfl⟩
  obtain ⟨n4, hn4⟩ : ∃ n4 : Int, (s4.size : Int) = n4 := ⟨_, rfl⟩
  obtain ⟨n5, hn5⟩ : ∃ n5 : Int, (s5.size : Int) = n5 := ⟨_, rfl⟩
  obtain ⟨n6, hn6⟩ : ∃ n6 : Int, (s6.size : Int) = n6 := ⟨_, rfl⟩
  obtain ⟨m1, hm1⟩ : ∃ m : Int, (if n3 < n4 then n4 else n3) = m := ⟨_, rfl⟩
  obtain ⟨m2, hm2⟩ : ∃ m : Int, (if m1 < n5 then n5 else m1) = m := ⟨_, rfl⟩
  obtain ⟨m3, hm3⟩ : ∃ m : Int, (if m2 < n6 then n6 else m2) = m := ⟨_, rfl⟩
  have hmm : m3 ≤ 65535 ↔ (s3.size ≤ 65535 ∧ s4.size ≤ 65535 ∧ s5.size ≤ 65535 ∧ s6.size ≤ 65535) := by
    rw [← hm3, ← hm2, ← hm1, ← hn3, ← hn4, ← hn5, ← hn6]
    split <;> split <;> split <;> omega
  have HMM := Aside0.mk hmm; clear hmm
  by_cases h1 : m3 ≤ 65535
  · by_cases h2 : 0 ≤ b
    · by_cases h3 : b ≤ 255
      · have HPT : Aside0 (partsB b s3 s4 s5 s6 = true) := ⟨by unfold partsB; have := HMM.out.1 h1; exact decide_eq_true ⟨this.1, this.2.1, this.2.2.1, this.2.2.2, h2, h3⟩⟩
        by_cases h4 : (l0.length : Int) ≤ 12
        · have H4 : Aside0 (decide (l0.length ≤ 12) = true) := ⟨decide_eq_true (by omega)⟩
          by_cases h5 : l0.any (fun x => longS (fst x) (snd x)) = true
          · have HX5 := Aside0.mk h5; clear h5
            go_enter Try.func9, Try.ntmps9
            go_wp2_with (first | (go_at_call 20; go_loud (refine (has20 fst snd q hsz hqK z _ _ l0 _ (Kd.C_below H0.out (hba _ _)) hc0 (by omega)).mono ?_; rw [HX5.out]; rintro e w2 ⟨rfl, hb2⟩; have HX2 := Aside0.mk (hbx _ _ _ _ hb2); have hcc10 := at_cells' HX2.out 10 _ rfl; have HB2 := Aside0.mk (below_step (hba _ _) hb2); clear hb2)))
            go_ret
            exact ⟨by simp only [HPT.out, H4.out, HX5.out, Bool.and_true, Bool.true_and, Bool.and_false, Bool.false_and, Bool.not_true, Bool.not_false]; rfl, HB2.out⟩
          · have HX5 := Aside0.mk (Bool.eq_false_iff.2 h5); clear h5
            by_cases h6 : mayB l10 = true
            · have HX6 := Aside0.mk h6
              have HX6' := Aside0.mk h6; clear h6
              by_cases h7 : mayB l11 = true
              · have HX7 := Aside0.mk h7; clear h7
                go_enter Try.func9, Try.ntmps9
                go_wp2_with (first | (go_at_call 20; go_loud (refine (has20 fst snd q hsz hqK z _ _ l0 _ (Kd.C_below H0.out (hba _ _)) hc0 (by omega)).mono ?_; rw [HX5.out]; rintro e w2 ⟨rfl, hb2⟩; have HX2 := Aside0.mk (hbx _ _ _ _ hb2); have hcc10 := at_cells' HX2.out 10 _ rfl; have HB2 := Aside0.mk (below_step (hba _ _) hb2); clear hb2)) | (go_at_call 21; have hx6 := HX6.out; clear HX6; go_loud (refine (may _ _ l10 _ (Kd.C_below H10.out HB2.out) hc10 (hlen _ H10.out)).mono ?_; rw [hx6]; clear hx6; rintro e w3 ⟨rfl, hb3⟩; have HX3 := Aside0.mk ((hb3.block _ (lt_of_block HX2.out)).trans HX2.out); have hcc11 := at_cells' HX3.out 11 _ rfl; have HB3 := Aside0.mk (below_step HB2.out hb3); clear hb3)) | (go_at_call 21; go_loud (refine (may _ _ l11 _ (Kd.C_below H11.out HB3.out) hc11 (hlen _ H11.out)).mono ?_; rw [HX7.out]; rintro e w4 ⟨rfl, hb4⟩; have HB4 := Aside0.mk (below_step HB3.out hb4); clear hb4)))
                go_ret
                exact ⟨by simp only [HPT.out, H4.out, HX5.out, HX6'.out, HX7.out, Bool.and_true, Bool.true_and, Bool.and_false, Bool.false_and, Bool.not_true, Bool.not_false]; rfl, HB4.out⟩
              · have HX7 := Aside0.mk (Bool.eq_false_iff.2 h7); clear h7
                go_enter Try.func9, Try.ntmps9
                go_wp2_with (first | (go_at_call 20; go_loud (refine (has20 fst snd q hsz hqK z _ _ l0 _ (Kd.C_below H0.out (hba _ _)) hc0 (by omega)).mono ?_; rw [HX5.out]; rintro e w2 ⟨rfl, hb2⟩; have HX2 := Aside0.mk (hbx _ _ _ _ hb2); have hcc10 := at_cells' HX2.out 10 _ rfl; have HB2 := Aside0.mk (below_step (hba _ _) hb2); clear hb2)) | (go_at_call 21; have hx6 := HX6.out; clear HX6; go_loud (refine (may _ _ l10 _ (Kd.C_below H10.out HB2.out) hc10 (hlen _ H10.out)).mono ?_; rw [hx6]; clear hx6; rintro e w3 ⟨rfl, hb3⟩; have HX3 := Aside0.mk ((hb3.block _ (lt_of_block HX2.out)).trans HX2.out); have hcc11 := at_cells' HX3.out 11 _ rfl; have HB3 := Aside0.mk (below_step HB2.out hb3); clear hb3)) | (go_at_call 21; go_loud (refine (may _ _ l11 _ (Kd.C_below H11.out HB3.out) hc11 (hlen _ H11.out)).mono ?_; rw [HX7.out]; rintro e w4 ⟨rfl, hb4⟩; have HB4 := Aside0.mk (below_step HB3.out hb4); clear hb4)))
                go_ret
                exact ⟨by simp only [HPT.out, H4.out, HX5.out, HX6'.out, HX7.out, Bool.and_true, Bool.true_and, Bool.and_false, Bool.false_and, Bool.not_true, Bool.not_false]; rfl, HB4.out⟩
            · have HX6 := Aside0.mk (Bool.eq_false_iff.2 h6)
              have HX6' := Aside0.mk (Bool.eq_false_iff.2 h6); clear h6
              go_enter Try.func9, Try.ntmps9
              go_wp2_with (first | (go_at_call 20; go_loud (refine (has20 fst snd q hsz hqK z _ _ l0 _ (Kd.C_below H0.out (hba _ _)) hc0 (by omega)).mono ?_; rw [HX5.out]; rintro e w2 ⟨rfl, hb2⟩; have HX2 := Aside0.mk (hbx _ _ _ _ hb2); have hcc10 := at_cells' HX2.out 10 _ rfl; have HB2 := Aside0.mk (below_step (hba _ _) hb2); clear hb2)) | (go_at_call 21; have hx6 := HX6.out; clear HX6; go_loud (refine (may _ _ l10 _ (Kd.C_below H10.out HB2.out) hc10 (hlen _ H10.out)).mono ?_; rw [hx6]; clear hx6; rintro e w3 ⟨rfl, hb3⟩; have HX3 := Aside0.mk ((hb3.block _ (lt_of_block HX2.out)).trans HX2.out); have hcc11 := at_cells' HX3.out 11 _ rfl; have HB3 := Aside0.mk (below_step HB2.out hb3); clear hb3)))
              go_ret
              exact ⟨by simp only [HPT.out, H4.out, HX5.out, HX6'.out, Bool.and_true, Bool.true_and, Bool.and_false, Bool.false_and, Bool.not_true, Bool.not_false]; rfl, HB3.out⟩
        · have H4 : Aside0 (decide (l0.length ≤ 12) = false) := ⟨decide_eq_false (by omega)⟩
          go_enter Try.func9, Try.ntmps9
          go_wp2
          go_ret
          exact ⟨by simp only [HPT.out, H4.out, Bool.and_true, Bool.true_and, Bool.and_false, Bool.false_and, Bool.not_true, Bool.not_false]; rfl, hba _ _⟩
      · have HPT : Aside0 (partsB b s3 s4 s5 s6 = false) := ⟨by unfold partsB; exact decide_eq_false (fun h => h3 h.2.2.2.2.2)⟩
        go_enter Try.func9, Try.ntmps9
        go_wp2
        go_ret
        exact ⟨by simp only [HPT.out, Bool.and_true, Bool.true_and, Bool.and_false, Bool.false_and, Bool.not_true, Bool.not_false]; rfl, hba _ _⟩
    · have HPT : Aside0 (partsB b s3 s4 s5 s6 = false) := ⟨by unfold partsB; exact decide_eq_false (fun h => h2 h.2.2.2.2.1)⟩
      go_enter Try.func9, Try.ntmps9
      go_wp2
      go_ret
      exact ⟨by simp only [HPT.out, Bool.and_true, Bool.true_and, Bool.and_false, Bool.false_and, Bool.not_true, Bool.not_false]; rfl, hba _ _⟩
  · have HPT : Aside0 (partsB b s3 s4 s5 s6 = false) := ⟨by unfold partsB; exact decide_eq_false (fun h => h1 (HMM.out.2 ⟨h.1, h.2.1, h.2.2.1, h.2.2.2.1⟩))⟩
    go_enter Try.func9, Try.ntmps9
    go_wp2
    go_ret
    exact ⟨by simp only [HPT.out, Bool.and_true, Bool.true_and, Bool.and_false, Bool.false_and, Bool.not_true, Bool.not_false]; rfl, hba _ _⟩
end Go.Proofs.Ytojfhlbchiaccaa.Reader
