/- The reader of package script: texts in a row, and a descriptor. -/
import Derived.Test.YtojfhlbchiaccaaReader
import Derived.Deep.RegionHeld3
namespace Go.Proofs.Ytojfhlbchiaccaa.Reader
open Go.RowKit Go.Proofs.YtojfhlbchiaccaaW.PrintWords Go.Proofs.YtojfhlbchiaccaaW.PrintLast Go.Proofs.YtojfhlbchiaccaaW.PrintMore
attribute [local go_sem] max2_int min2_int max_two min_two max_three min_three max_four min_four   -- for this text's walks alone
set_option linter.unusedVariables false
set_option linter.unusedSimpArgs false

/-- k texts, one behind the other; what is left behind them. -/
def txtN : Nat → List Int → List (List Int)
  | 0, _ => []
  | k + 1, l => txt l :: txtN k (rst l)
def rstN : Nat → List Int → List Int
  | 0, l => l
  | k + 1, l => rstN k (rst l)
theorem txtN_snoc (k : Nat) (l : List Int) : txtN (k + 1) l = txtN k l ++ [txt (rstN k l)] := by
  induction k generalizing l with
  | zero => rfl
  | succ k ih => rw [txtN, ih (rst l)]; rfl
theorem rstN_snoc (k : Nat) (l : List Int) : rstN (k + 1) l = rst (rstN k l) := by
  induction k generalizing l with
  | zero => rfl
  | succ k ih => rw [rstN, ih (rst l)]; rfl
theorem info28 : (Try.prog.info? 28).map (fun i => (i.zero, i.size, i.bytes)) = some (some (.slice none 0 0), 1, 24) := by kernel_rfl
theorem num_le {l : List Int} (h : ∀ x ∈ l, 0 ≤ x ∧ x < 256) : 0 ≤ l.headD 0 ∧ l.headD 0 < 256 := by simpa using head_rng h 0
theorem txtN_len (k : Nat) (l : List Int) : (txtN k l).length = k := by
  induction k generalizing l with
  | zero => rfl
  | succ k ih => rw [txtN, List.length_cons, ih]
theorem Fr.below {g : Nat} {W W1 W2 : World} (h : Fr g W W1) (k : Below W.heap.size W1 W2) (hg : g < W.heap.size) : Fr g W W2 := by
  obtain ⟨hk, hb⟩ := h
  exact ⟨⟨Nat.le_trans hk.1 k.size, fun j hj hne hn => (k.block j hj).trans (hk.2 j hj hne hn)⟩, hb.trans (k.mono (Nat.le_of_lt hg))⟩
abbrev Tx : Kd (List Int) := Kd.slice 5 (Kd.int .u8)
set_option maxHeartbeats 4000000 in
set_option maxRecDepth 100000 in
theorem texts (g : Nat) (l : List Int) (W : World) (h : Rd 63 g l W) (hg : g < W.heap.size) :
    Calls Try.prog 35 #[.pointer (some ⟨g, 0, none⟩)] W fun e W' => ∃ v : Value, e = .returned v ∧ Kd.S (Kd.slice 5 (Kd.int .u8)) 28 W' W.heap.size (fun _ => True) v (txtN ((l.headD 0).toNat % 41) l.tail) ∧ Rd 63 g (rstN ((l.headD 0).toNat % 41) l.tail) W' ∧ Fr g W W' := by
  have HK := Aside0.mk h
  have hr : ∀ x ∈ l, 0 ≤ x ∧ x < 256 := by obtain ⟨_, _, _, _, _, _, hr⟩ := h; exact hr
  obtain ⟨hx0, hx1⟩ := num_le hr
  clear h hr
  obtain ⟨x, hx⟩ : ∃ x, l.headD 0 = x := ⟨_, rfl⟩
  rw [hx] at hx0 hx1
  have HX := Aside0.mk hx; clear hx
  obtain ⟨n, hn⟩ : ∃ n : Nat, x % 41 = (n : Int) := ⟨(x % 41).toNat, by omega⟩
  have hn1 : n ≤ 40 := by omega
  go_enter Try.func35, Try.ntmps35
  go_wp2_with (go_at_call 32; refine (one g l W HK.out).mono ?_; rw [HX.out]; rintro e W1 ⟨rfl, h1, f1⟩)
  have H1 := Aside0.mk h1
  have F1 := Aside0.mk f1
  clear h1 f1
  go_wp2
  rw [hn]
  have HN := Aside0.mk hn; clear hn
  go_loopw [3, 7] (fun v i wr => ∃ k : Nat, k ≤ n ∧ i = .int .i64 k ∧ Kd.S Tx 28 wr W.heap.size (fun j => j ≠ g) v (txtN k l.tail) ∧ Rd 63 g (rstN k l.tail) wr ∧ Fr g W wr) (fun _ i _ => n - (intOf i).toNat)
  case atStart => exact ⟨0, Nat.zero_le _, rfl, Kd.S_nil _ _ _ _ _, H1.out, F1.out⟩
  case round =>
    obtain ⟨k, hk, rfl, hS, hI, hF⟩ := hrel
    obtain ⟨v3, hv3⟩ : ∃ v3, u3 = v3 := ⟨_, rfl⟩
    rw [hv3] at hS ⊢
    have HS := Aside0.mk hS
    have HI := Aside0.mk hI
    have HF := Aside0.mk hF
    clear hS hI hF
    have hgw : g < wr.heap.size := Nat.lt_of_lt_of_le hg HF.out.1.1
    by_cases hlt : k < n
    · have HL := Aside0.mk (txtN_len k l.tail)
      obtain ⟨xs, hxs⟩ : ∃ xs, txtN k l.tail = xs := ⟨_, rfl⟩
      rw [hxs] at HS HL
      have HXS := Aside0.mk hxs; clear hxs
      obtain ⟨l1, hl1⟩ : ∃ l1, rstN k l.tail = l1 := ⟨_, rfl⟩
      rw [hl1] at HI
      have HL1 := Aside0.mk hl1; clear hl1
      obtain ⟨t, ht⟩ : ∃ t, txt l1 = t := ⟨_, rfl⟩
      have HT := Aside0.mk ht; clear ht
      go_wp2_with (first
        | (go_at_call 43; refine (bytes_ g l1 wr HI.out hgw).mono ?_; rw [HT.out]; rintro e W2 ⟨v, rfl, hR, h1, f1⟩; obtain ⟨Av, cv, rfl⟩ := Kd.R_slice hR; have HR := Aside0.mk hR; have HI1 := Aside0.mk h1; have HF1 := Aside0.mk f1; clear hR h1 f1)
        | ((with_reducible refine gate_builtin (b := .append) (xs := #[.tmp 9, .tmp 12]) rfl ?_); at_builtin; go_loud (refine Kd.S_append Tx (w0 := W2) W.heap.size rfl (.tmp 9) (.tmp 12) 25 28 (.slice none 0 0) 24 rfl Try.underlying25 info28 rfl (by decide) (by omega) v3 xs t [.slice Av t.length cv] (fun j => j ≠ g) (fun j => wr.heap.size ≤ j) rfl rfl ?aP ?aQ ?aF ?aO ?aB ?aS ?aL ?_; (case aP => exact Kd.M_row (Kd.R_lower (Kd.R_mono (Kd.R_bound HR.out) (fun j hj => hj.2.1)) HF.out.1.1)); (case aQ => exact fun j hj => ⟨by omega, fun he => by have := Kd.S_lt HS.out j he.symm; omega⟩); (case aF => exact fun j hj => by have := HF1.out.1.1; omega); (case aO => exact Kd.S_keep (Kd.S_mono (Kd.S_bound HS.out) (fun j hj => ⟨hj.1, by have := hj.2.2.1; omega⟩)) HF1.out.1 (fun j hj => hj.1)); (case aB => exact Below.refl _ _); (case aS => exact Nat.le_trans HF.out.1.1 HF1.out.1.1); (case aL => have := HL.out; omega)); intro v1 w1 hS1 hB1 hG1 hat1))
      go_roundw
      case rel => exact ⟨k + 1, by omega, by go_num, by rw [txtN_snoc, HXS.out, HL1.out, HT.out]; exact hS1, by rw [rstN_snoc, HL1.out]; exact Rd.same HI1.out (fun j hj => (hB1.block j (by omega))), (HF.out.trans HF1.out).below (hB1) hg⟩
      case measure => simp [intOf]; omega
    · obtain rfl : k = n := by omega
      go_wp2
      go_ret
      have hnx : (l.headD 0).toNat % 41 = k := by rw [HX.out]; have := HN.out; omega
      rw [hnx]
      exact ⟨_, rfl, Kd.S_mono HS.out (fun _ _ => trivial), HI.out, HF.out⟩
end Go.Proofs.Ytojfhlbchiaccaa.Reader
