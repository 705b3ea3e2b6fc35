/- The reader of package script: bytes that are taken one by one. What each of its methods does to the block that holds what is left. -/
import Derived.Test.YtojfhlbchiaccaaWMore
import Derived.Test.YtojfhlbchiaccaaWApart
import Derived.Test.YtojfhlbchiaccaaProg
import Derived.WalkKit
import Derived.BigCall
import Derived.IntWalk
import Derived.Outline
import Derived.OneCell
import Derived.Laws.CopyRow
import Derived.KernelRfl
namespace Go.Proofs.Ytojfhlbchiaccaa.Reader
open Go.RowKit Go.Proofs.YtojfhlbchiaccaaW.PrintWords Go.Proofs.YtojfhlbchiaccaaW.PrintLast Go.Proofs.YtojfhlbchiaccaaW.PrintMore
attribute [local go_sem] max2_int min2_int max_two min_two max_three min_three max_four min_four   -- for this text's walks alone
set_option linter.unusedVariables false
set_option linter.unusedSimpArgs false

/-- Block g holds what is left: bytes that lie elsewhere. -/
def Rd (T : TypeId) (g : Nat) (l : List Int) (W : World) : Prop :=
  ∃ A c, W.heap[g]? = some (.cells #[.slice A l.length c] T (0, 0)) ∧ l.length ≤ c ∧ Kd.C (Kd.int .u8) W A l.length l ∧ (∀ ad, A = some ad → 0 < l.length → ad.block < g) ∧ ∀ x ∈ l, 0 ≤ x ∧ x < 256

/-- A call that turns block g alone, makes new blocks, and nothing else. -/
def Fr (g : Nat) (W W' : World) : Prop := KeepBut W W' g none ∧ Below g W W'
theorem Fr.refl (g : Nat) (W : World) : Fr g W W := ⟨KeepBut.refl _ _ _, Below.refl _ _⟩
theorem Fr.trans {g : Nat} {W W1 W2 : World} (h : Fr g W W1) (k : Fr g W1 W2) : Fr g W W2 := ⟨h.1.trans k.1 (.inl rfl), h.2.trans k.2⟩
theorem Fr.set (g : Nat) (W : World) (v : Value) : Fr g W (W.setCell ⟨g, 0, none⟩ v) := ⟨(KeepBut.refl W g none).set_ 0 v, (Below.refl g W).setCell (Nat.le_refl _) v⟩
theorem Fr.of_below {g : Nat} {W W' : World} (h : Below W.heap.size W W') (hg : g < W.heap.size) : Fr g W W' := ⟨KeepBut.of_below h g none, ⟨h.os, h.tape, h.output, h.size, fun k hk => h.block k (by omega)⟩⟩
theorem add_blk (ad : Addr) (m : Nat) : (ad.add m).block = ad.block := by unfold Addr.add; split <;> rfl
/-- A row of bytes that lies in a block that is as it was. -/
theorem C_block {W W' : World} {A : Option Addr} {l : List Int} (h : Kd.C (Kd.int .u8) W A l.length l) (hb : ∀ ad, A = some ad → 0 < l.length → W'.heap[ad.block]? = W.heap[ad.block]?) : Kd.C (Kd.int .u8) W' A l.length l := by
  have hr := Kd.reads_of_C (enc := Value.int .u8) (d := (0 : Int)) (h1 := fun _ => rfl) h
  refine Kd.C_of_reads (d := (0 : Int)) ⟨hr.1, hr.2.1, fun hn => ?_⟩
  obtain ⟨ad, e, hc⟩ := hr.2.2 hn
  refine ⟨ad, e, fun j hj => ?_⟩
  rw [← hc j hj]
  exact World.cell?_of_block (by rw [add_blk]; exact hb ad e hn)
theorem Rd.same {T : TypeId} {g : Nat} {l : List Int} {W W' : World} (h : Rd T g l W) (hb : ∀ k, k ≤ g → W'.heap[k]? = W.heap[k]?) : Rd T g l W' := by
  obtain ⟨A, c, hh, hc, hC, hne, hr⟩ := h
  exact ⟨A, c, (hb g (Nat.le_refl _)).trans hh, hc, C_block hC (fun ad e h0 => hb _ (Nat.le_of_lt (hne ad e h0))), hne, hr⟩
/-- What is left behind a store of a tail. -/
theorem Rd.drop {T : TypeId} {g m : Nat} {l : List Int} {W : World} {A : Option Addr} {c : Nat} (hh : W.heap[g]? = some (.cells #[.slice A l.length c] T (0, 0))) (hc : l.length ≤ c) (hC : Kd.C (Kd.int .u8) W A l.length l)
    (hne : ∀ ad, A = some ad → 0 < l.length → ad.block < g) (hr : ∀ x ∈ l, 0 ≤ x ∧ x < 256) (hm : m ≤ l.length) (v : Value) (hv : v = .slice (if c = m then A else A.map (·.add m)) (l.length - m) (c - m)) : Rd T g (l.drop m) (W.setCell ⟨g, 0, none⟩ v) := by
  subst hv
  have hl : (l.drop m).length = l.length - m := List.length_drop
  have hd := Kd.C_drop hC hm hc
  have hz : (Kd.int .u8).sz = 1 := rfl
  rw [hz, Nat.mul_one] at hd
  refine ⟨_, c - m, by rw [hl]; exact one_setCell hh, by omega, Kd.C_keep (0 : Int) hd ((KeepBut.refl W g none).set_ 0 _) ?_, ?_, fun x hx => hr x (List.mem_of_mem_drop hx)⟩
  · intro ad he h0
    split at he
    · exact Nat.ne_of_lt (hne ad he (by omega))
    · cases hA : A with
      | none => rw [hA] at he; cases he
      | some a =>
        rw [hA] at he
        obtain rfl : a.add m = ad := by simpa using he
        rw [add_blk]; exact Nat.ne_of_lt (hne a hA (by omega))
  · intro ad he h0
    split at he
    · exact hne ad he (by omega)
    · cases hA : A with
      | none => rw [hA] at he; cases he
      | some a =>
        rw [hA] at he
        obtain rfl : a.add m = ad := by simpa using he
        rw [add_blk]; exact hne a hA (by omega)
set_option maxHeartbeats 4000000 in
set_option maxRecDepth 100000 in
theorem one (g : Nat) (l : List Int) (W : World) (h : Rd 63 g l W) :
    Calls Try.prog 32 #[.pointer (some ⟨g, 0, none⟩)] W fun e W' => e = .returned (.int .i64 (l.headD 0)) ∧ Rd 63 g l.tail W' ∧ Fr g W W' := by
  have HK := Aside0.mk h
  obtain ⟨A, c, hh, hc, hC, hne, hr⟩ := h
  have c0 := cell_of_one hh
  have f0 := free_of_one hh
  have HH := Aside0.mk hh
  have HC := Aside0.mk hC
  have HN := Aside0.mk hne
  have HR := Aside0.mk hr
  clear hh hC hne hr
  cases l with
  | nil =>
    go_enter Try.func32, Try.ntmps32
    go_wp2
    go_ret
    exact ⟨rfl, HK.out, Fr.refl _ _⟩
  | cons x l =>
    obtain ⟨ad, rfl, hx0⟩ := Kd.at_int HC.out 0 (by omega) (by simp)
    have hx1 : W.cell? ad = some (.int .u8 x) := hx0
    clear hx0
    obtain ⟨hb0, hb1⟩ := HR.out x (List.mem_cons_self ..)
    have HD := Aside0.mk (Rd.drop (m := 1) HH.out hc HC.out HN.out HR.out (by simp))
    by_cases hc1 : c = 1
    · subst hc1
      go_enter Try.func32, Try.ntmps32
      go_wp2
      go_ret
      exact ⟨rfl, HD.out _ rfl, Fr.set _ _ _⟩
    · go_enter Try.func32, Try.ntmps32
      go_wp2
      go_ret
      exact ⟨rfl, HD.out _ (by rw [if_neg hc1]; rfl), Fr.set _ _ _⟩
/-- copy of the first bytes of a row that is read into a row of one's own. -/
theorem copy_own {P : Program} {w : World} {base e : Nat} {v : Value} {m : Nat} {zs l : List Int} {A : Option Addr} {c : Nat} (dT sT ty : TypeId) (hu : P.underlying dT = some (.slice e)) (hs : (P.info? e).map (·.size) = some 1)
    (ho : w.ownsRow base e 1 v m (encs (Value.int .u8) zs)) (hC : Kd.C (Kd.int .u8) w A l.length l) (hm : m ≤ l.length) :
    ∃ w', (Builtin.copy_ #[dT, sT] ty #[v, .slice A l.length c]).run P w = .ok (goInt m) w' ∧ w'.ownsRow base e 1 v m (encs (Value.int .u8) (l.take m)) ∧ (∀ k, v.ownBlock ≠ some k → w'.heap[k]? = w.heap[k]?) ∧ w'.heap.size = w.heap.size ∧ Below base w w' := by
  by_cases hm0 : m = 0
  · subst hm0
    obtain ⟨A', n', c', rfl⟩ : ∃ A' n' c', v = .slice A' n' c' := by
      rcases ho.2 with ⟨rfl, _⟩ | ⟨g, cap, cur, rfl, _⟩
      · exact ⟨_, _, _, rfl⟩
      · exact ⟨_, _, _, rfl⟩
    have hn : n' = 0 := by
      rcases ho.2 with ⟨h, _⟩ | ⟨g, cap, cur, h, _⟩
      · cases h; rfl
      · cases h; rfl
    subst hn
    refine ⟨w, run_copy_none (P := P) w dT sT ty e A' A 0 c' l.length c hu hs (by simp), ?_, fun _ _ => rfl, rfl, Below.refl _ _⟩
    have hz : zs = [] := by have := ho.1; simpa [encs] using this
    subst hz
    simpa [encs] using ho
  · rcases ho.2 with ⟨_, h0⟩ | ⟨g, cap, cur, rfl, hg, hh, hmc, hcm, hsz, htk⟩
    · exact absurd h0 hm0
    · obtain ⟨ad, rfl, hcell⟩ : ∃ ad, A = some ad ∧ ∀ j, j < l.length → w.cell? (ad.add j) = some (.int .u8 (l.getD j 0)) := by
        obtain ⟨_, _, h⟩ := Kd.reads_of_C (d := (0 : Int)) hC
        obtain ⟨ad, e, h⟩ := h (by omega)
        exact ⟨ad, e, h⟩
      have hlen : (encs (Value.int .u8) (l.take m)).length = m := by simp [encs]; omega
      have hrun := run_copy_row (P := P) w dT sT ty e g 0 m cap ad l.length c cur e (encs (Value.int .u8) (l.take m)) hu hs hh (by rw [hlen]; exact (Nat.min_eq_right hm).symm) (fun j u hj => by
        have hjm : j < m := by have := (List.getElem?_eq_some_iff.1 hj).1; omega
        rw [encs_get (d := (0 : Int)) _ j (by rw [List.length_take]; omega)] at hj
        rw [hcell j (by omega), ← hj]
        congr 2
        rw [List.getD_eq_getElem?_getD, List.getD_eq_getElem?_getD, List.getElem?_take, if_pos hjm]) (by rw [hlen, hsz]; omega) (fun u hu => by
        obtain ⟨x, _, rfl⟩ := List.mem_map.1 hu; rfl)
      rw [hlen] at hrun
      have hc2 : (cur.toList.take 0 ++ encs (Value.int .u8) (l.take m) ++ cur.toList.drop (0 + m)).toArray.size = cap := by
        simp [hlen, hsz]; omega
      refine ⟨_, hrun, ⟨by rw [hlen]; omega, .inr ⟨g, cap, _, rfl, hg, setRow_heap w g cur _ e _ hh, hmc, hcm, by rw [hc2]; omega, ?_⟩⟩, fun k hk => ?_, ?_, ⟨rfl, rfl, rfl, ?_, fun k hk => ?_⟩⟩
      · simp only [List.take_zero, List.nil_append]
        rw [Nat.mul_one, List.take_append_of_le_length (by omega), List.take_of_length_le (by omega)]
      · unfold World.setRow
        have : g ≠ k := fun h => hk (by rw [← h]; rfl)
        simp [Array.getElem?_modify, this]
      · unfold World.setRow; simp
      · unfold World.setRow; simp
      · unfold World.setRow
        have : g ≠ k := by omega
        simp [Array.getElem?_modify, this]
def num : List Int → Nat → Int
  | _, 0 => 0
  | l, k + 1 => num l k * 256 + (l.drop k).headD 0
def bnd : Nat → Int
  | 0 => 1
  | 1 => 256
  | 2 => 65536
  | _ => 16777216
theorem head_rng {l : List Int} (h : ∀ x ∈ l, 0 ≤ x ∧ x < 256) (k : Nat) : 0 ≤ (l.drop k).headD 0 ∧ (l.drop k).headD 0 < 256 := by
  cases hd : l.drop k with
  | nil => simp
  | cons x r => exact h x (List.mem_of_mem_drop (by rw [hd]; exact List.mem_cons_self ..))
theorem num_rng {l : List Int} (h : ∀ x ∈ l, 0 ≤ x ∧ x < 256) : ∀ k, k ≤ 3 → 0 ≤ num l k ∧ num l k < bnd k
  | 0, _ => by simp [num, bnd]
  | k + 1, hk => by
    have h1 := num_rng h k (by omega)
    have h2 := head_rng h k
    have : k = 0 ∨ k = 1 ∨ k = 2 := by omega
    simp only [num]
    rcases this with rfl | rfl | rfl <;> simp only [bnd] at * <;> omega
theorem or_256 (v x : Int) (hv : 0 ≤ v) (hv1 : v < 65536) (hx : 0 ≤ x) (hx1 : x < 256) : Go.bits .or .i64 (v * 256) x = v * 256 + x :=
  bits_join .i64 62 (by decide) (fun n h0 h1 => by rw [IntKind.wrap_i64]; omega) 8 (v * 256) x (by omega) (by omega) (by omega) hx (by omega) (by omega)
/-- How many bytes a text takes that begins here, of what is left. -/
def cnt (l : List Int) : Nat := min (num l 3 % 65536).toNat (l.drop 3).length
theorem info5 : (Try.prog.info? 5).map (fun i => (i.zero, i.size, i.bytes)) = some (some (.int .u8 0), 1, 1) := by kernel_rfl
theorem size5 : (Try.prog.info? 5).map (fun i => i.size) = some 1 := by kernel_rfl
set_option maxHeartbeats 4000000 in
set_option maxRecDepth 100000 in
theorem bytes (g : Nat) (l : List Int) (W : World) (h : Rd 63 g l W) (hg : g < W.heap.size) :
    Calls Try.prog 43 #[.pointer (some ⟨g, 0, none⟩)] W fun e W' => ∃ v : Value, e = .returned v ∧ Kd.R (Kd.int .u8) 5 W' W.heap.size (fun _ => True) v ((l.drop 3).take (cnt l)) ∧ Rd 63 g (l.drop (3 + cnt l)) W' ∧ Fr g W W' := by
  have HK := Aside0.mk h
  have hr : ∀ x ∈ l, 0 ≤ x ∧ x < 256 := by obtain ⟨_, _, _, _, _, _, hr⟩ := h; exact hr
  have HR := Aside0.mk hr
  clear h hr
  go_enter Try.func43, Try.ntmps43
  go_wp2
  go_loopw [3, 5] (fun n i wr => ∃ k : Nat, k ≤ 3 ∧ i = .int .i64 k ∧ n = .int .i64 (num l k) ∧ Rd 63 g (l.drop k) wr ∧ Fr g W wr) (fun _ i _ => 3 - (intOf i).toNat)
  case atStart => exact ⟨0, Nat.zero_le _, rfl, rfl, HK.out, Fr.refl _ _⟩
  case round =>
    obtain ⟨k, hk, rfl, rfl, hI, hF⟩ := hrel
    have HI := Aside0.mk hI
    have HF := Aside0.mk hF
    clear hI hF
    by_cases hlt : k < 3
    · have hh := head_rng HR.out k
      obtain ⟨x, hx⟩ : ∃ x, (l.drop k).headD 0 = x := ⟨_, rfl⟩
      rw [hx] at hh
      have hn := num_rng HR.out k (by omega)
      have hn2 : num l k < 65536 := by
        have : k = 0 ∨ k = 1 ∨ k = 2 := by omega
        rcases this with rfl | rfl | rfl <;> simp only [bnd] at hn <;> omega
      have hor := or_256 (num l k) x hn.1 hn2 hh.1 hh.2
      have HNS : Aside0 (num l (k + 1) = num l k * 256 + x) := ⟨by simp only [num]; rw [hx]⟩
      have HHX := Aside0.mk hx; clear hx
      obtain ⟨y, hy⟩ : ∃ y, num l k = y := ⟨_, rfl⟩
      obtain ⟨hx0, hx1⟩ := hh
      obtain ⟨hn0, _⟩ := hn
      rw [hy] at hor hn0 hn2 ⊢
      have HY := Aside0.mk hy; clear hy
      go_wp2_with (go_at_call 32; refine (one g (l.drop k) wr HI.out).mono ?_; rw [HHX.out]; rintro e W1 ⟨rfl, h1, f1⟩)
      go_wp2
      go_roundw
      case rel => exact ⟨k + 1, by omega, by go_num, by rw [HNS.out, HY.out], by rw [List.tail_drop] at h1; exact h1, HF.out.trans f1⟩
      case measure => simp [intOf]; omega
    · obtain rfl : k = 3 := by omega
      have hn := num_rng HR.out 3 (by omega)
      simp only [bnd] at hn
      obtain ⟨y, hy⟩ : ∃ y, num l 3 = y := ⟨_, rfl⟩
      rw [hy] at hn ⊢
      have HY := Aside0.mk hy; clear hy
      have hr3 : ∀ x ∈ l.drop 3, 0 ≤ x ∧ x < 256 := fun x hx => HR.out x (List.mem_of_mem_drop hx)
      obtain ⟨r3, h3⟩ : ∃ r, l.drop 3 = r := ⟨_, rfl⟩
      rw [h3] at HI hr3
      have H3 := Aside0.mk h3
      clear h3
      have HR3 := Aside0.mk hr3
      clear hr3
      obtain ⟨A, c, hh, hc, hC, hne, hr⟩ := HI.out
      have c0 := cell_of_one hh
      have f0 := free_of_one hh
      have HH := Aside0.mk hh
      have HC := Aside0.mk hC
      have HN := Aside0.mk hne
      clear hh hC hne hr
      have hand : Go.bits .and .i64 y 65535 = y % 65536 := bits_mask .i64 62 (by decide) (fun n h0 h1 => by rw [IntKind.wrap_i64]; omega) 16 (by decide) y hn.1 (by omega)
      have hmn : 0 ≤ mn (y % 65536) (r3.length : Int) ∧ mn (y % 65536) (r3.length : Int) < 65536 ∧ (mn (y % 65536) (r3.length : Int)).toNat = cnt l := by
        unfold mn cnt; rw [HY.out, H3.out]; split <;> omega
      obtain ⟨z, hz⟩ : ∃ z, mn (y % 65536) (r3.length : Int) = z := ⟨_, rfl⟩
      rw [hz] at hmn
      have hzi : (if (r3.length : Int) < y % 65536 then (r3.length : Int) else y % 65536) = z := hz
      clear hz
      obtain ⟨hz0, hz1, hz2⟩ := hmn
      obtain ⟨m, hm⟩ : ∃ m, cnt l = m := ⟨_, rfl⟩
      rw [hm] at hz2
      have hml : m ≤ r3.length := by rw [← hm]; unfold cnt; rw [H3.out]; omega
      have HM := Aside0.mk hm
      clear hm
      have hgw : g < wr.heap.size := lt_of_block HH.out
      go_wp2_with ((with_reducible refine gate_dst (N := 20) rfl ?_); refine Kd.R_make (Kd.int .u8) wr.heap.size 5 rfl (N := 20) rfl 28 _ _ rfl z rfl rfl Try.underlying28 (.int .u8 0) 1 info5 rfl (by decide) (by omega) 0 (ok := fun _ => True) (okp := fun _ => True) rfl (fun _ hk => hk) trivial hz0 (by omega) (Below.refl _ _) (Nat.le_refl _) ?_; intro v w3 hR hB3 hg3 hnew)
      rw [hz2] at hR
      have hown := Kd.own_of_R hR
      rw [List.length_replicate] at hown
      obtain ⟨w4, hw4⟩ : ∃ w4, w3.drew = w4 := ⟨_, rfl⟩
      have hB4 : Below wr.heap.size wr w4 := by rw [← hw4]; exact hB3.drew
      have hown4 : w4.ownsRow wr.heap.size 5 1 v m (encs (Value.int .u8) (List.replicate m 0)) := by rw [← hw4]; exact hown
      have hh4 := (hB4.block g hgw).trans HH.out
      have hC4 := Kd.C_below HC.out hB4
      obtain ⟨w5, hcp, hown5, hoth5, hsz5, hB5⟩ := copy_own 28 63 3 Try.underlying28 size5 hown4 hC4 (c := c) hml
      unfold goInt at hcp
      have hBB : Below wr.heap.size wr w5 := hB4.trans hB5
      have hh5 := (hBB.block g hgw).trans HH.out
      have hC5 := Kd.C_below HC.out hBB
      have hD := Rd.drop (m := m) hh5 hc hC5 HN.out HR3.out hml
      have HD := Aside0.mk hD
      have HOWN := Aside0.mk hown5
      have HBB := Aside0.mk hBB
      clear hD hown5 hBB hoth5 hsz5 hB5 hown4 hC4 hown hR hB3 hg3 hnew hB4 hC5
      have fin : ∀ u : Value, u = .slice (if c = m then A else A.map (·.add m)) (r3.length - m) (c - m) → 
          ((∃ v1 : Value, Ending.returned v = .returned v1 ∧ Kd.R (Kd.int .u8) 5 (w5.setCell ⟨g, 0, none⟩ u) W.heap.size (fun _ => True) v1 ((l.drop 3).take (cnt l)) ∧ Rd 63 g (l.drop (3 + cnt l)) (w5.setCell ⟨g, 0, none⟩ u) ∧ Fr g W (w5.setCell ⟨g, 0, none⟩ u))) := by
        intro u hu
        have hle : W.heap.size ≤ wr.heap.size := HF.out.1.1
        refine ⟨v, rfl, ?_, ?_, HF.out.trans ((Fr.of_below HBB.out hgw).trans (Fr.set _ _ _))⟩
        · rw [HM.out, H3.out]
          refine Kd.R_mono (Kd.R_lower (Kd.R_far (Kd.R_of_own (ok := fun k => k ≠ g) (by rw [List.length_take, Nat.min_eq_left hml]; exact HOWN.out) (fun k hk => ?_)) (p := ⟨g, 0, none⟩) (fun k hk => hk) u) hle) (fun _ _ => trivial)
          have := own_base HOWN.out k hk
          omega
        · rw [HM.out, ← List.drop_drop, H3.out]
          exact HD.out u hu
      have FIN := Aside0.mk fin
      clear fin
      have hf5 := free_of_one hh5
      cases A with
      | none =>
        have hr0 : r3 = [] := by
          rcases Nat.eq_zero_or_pos r3.length with h | h
          · exact List.eq_nil_of_length_eq_zero h
          · obtain ⟨ad, e, _⟩ := (Kd.reads_of_C (d := (0 : Int)) HC.out).2.2 h
            cases e
        subst hr0
        simp only [List.length_nil] at hcp
        obtain rfl : m = 0 := by simpa using hml
        refine start_ (n := 12) (S := fun w' => w'.cell? ⟨g, 0, none⟩ = some (.slice none 0 c)) (ds := [11]) #[false, false, false, false, false, false, false, false, false, false, false, false] (by kernel_rfl) rfl rfl ((by rw [hw4]; exact cell_of_one hh4)) (fun hHeld => ?_)
        rw [hw4] at hHeld ⊢
        refine pure_ (i := 0) (N := some 21) (v := ?_) (a' := ?_) #[true, false, false, false, false, false, false, false, false, false, false, false] rfl rfl (by kernel_rfl) (fun _ _ _ h => h) (Or.inl ⟨by rfl, ?_⟩) ?_ ?_
        rotate_left
        · intro w'
          go_simp
          with_reducible rfl
        rotate_left
        · simp only [Act.put, List.setIfInBounds_toArray, List.set_cons_zero, List.set_cons_succ, i64_w, i32_w]
          rfl
        refine pure_ (i := 1) (N := some 22) (v := ?_) (a' := ?_) #[true, true, false, false, false, false, false, false, false, false, false, false] rfl rfl (by kernel_rfl) (fun _ _ _ h => h) (Or.inl ⟨by rfl, ?_⟩) ?_ ?_
        rotate_left
        · intro w'
          go_simp
          with_reducible rfl
        rotate_left
        · simp only [Act.put, List.setIfInBounds_toArray, List.set_cons_zero, List.set_cons_succ, i64_w, i32_w]
          rfl
        refine pure_ (i := 2) (N := some 23) (v := ?_) (a' := ?_) #[true, true, true, false, false, false, false, false, false, false, false, false] rfl rfl (by kernel_rfl) (fun _ _ _ h => h) (Or.inl ⟨by rfl, ?_⟩) ?_ ?_
        rotate_left
        · intro w'
          go_simp
          with_reducible rfl
        rotate_left
        · simp only [Act.put, List.setIfInBounds_toArray, List.set_cons_zero, List.set_cons_succ, i64_w, i32_w]
          rfl
        refine pure_ (i := 4) (N := some 25) (v := ?_) (a' := ?_) #[true, true, true, false, true, false, false, false, false, false, false, false] rfl rfl (by kernel_rfl) (fun _ _ _ h => h) (Or.inl ⟨by rfl, ?_⟩) ?_ ?_
        rotate_left
        · intro w'
          go_simp
          with_reducible rfl
        rotate_left
        · simp only [Act.put, List.setIfInBounds_toArray, List.set_cons_zero, List.set_cons_succ, i64_w, i32_w]
          rfl
        refine pure_ (i := 5) (N := some 26) (v := ?_) (a' := ?_) #[true, true, true, false, true, true, false, false, false, false, false, false] rfl rfl (by kernel_rfl) (fun _ _ _ h => h) (Or.inl ⟨by rfl, ?_⟩) ?_ ?_
        rotate_left
        · intro w'
          go_simp
          with_reducible rfl
        rotate_left
        · simp only [Act.put, List.setIfInBounds_toArray, List.set_cons_zero, List.set_cons_succ, i64_w, i32_w]
          rfl
        refine pure_ (i := 6) (N := some 27) (v := ?_) (a' := ?_) #[true, true, true, false, true, true, true, false, false, false, false, false] rfl rfl (by kernel_rfl) (fun _ _ _ h => h) (Or.inl ⟨by rfl, ?_⟩) ?_ ?_
        rotate_left
        · intro w'
          go_simp
          with_reducible rfl
        rotate_left
        · simp only [Act.put, List.setIfInBounds_toArray, List.set_cons_zero, List.set_cons_succ, i64_w, i32_w]
          rfl
        refine take_ (i := 3) (N := some 24) (v := ?_) (a' := ?_) #[true, true, true, true, true, true, true, false, false, false, false, false] rfl rfl (by kernel_rfl) (fun _ _ _ h => h) (Or.inl ⟨by rfl, ?_⟩) hHeld ?_ ?_
        rotate_left
        · intro w' s0
          go_simp
          with_reducible rfl
        rotate_left
        · simp only [Act.put, List.setIfInBounds_toArray, List.set_cons_zero, List.set_cons_succ, i64_w, i32_w]
          rfl
        refine take_ (i := 7) (N := some 28) (v := ?_) (a' := ?_) #[true, true, true, true, true, true, true, true, false, false, false, false] rfl rfl (by kernel_rfl) (fun _ _ _ h => h) (Or.inl ⟨by rfl, ?_⟩) hHeld ?_ ?_
        rotate_left
        · intro w' s0
          go_simp
          with_reducible rfl
        rotate_left
        · simp only [Act.put, List.setIfInBounds_toArray, List.set_cons_zero, List.set_cons_succ, i64_w, i32_w]
          rfl
        refine one_ (i := 8) (N := some 29) #[true, true, true, true, true, true, true, true, true, false, false, false] rfl rfl (by kernel_rfl) (by decide) (fun K hK => ?_)
        refine value_ (w1 := ?_) (v := ?_) (by rfl) rfl ?_ ?_
        rotate_left 2
        · go_simp
          constructor
          · rfl
          · rfl
        refine hK.out _ _ ((cell_of_one hh5)) (fun hHeld => ?_)
        clear hK K
        refine norm_ (a' := ?_) ?_ ?_
        rotate_left
        · show Act.put _ (some 29) _ = _
          simp only [Act.put, List.setIfInBounds_toArray, List.set_cons_zero, List.set_cons_succ, i64_w, i32_w]
          rfl
        refine pure_ (i := 9) (N := some 30) (v := ?_) (a' := ?_) #[true, true, true, true, true, true, true, true, true, true, false, false] rfl rfl (by kernel_rfl) (fun _ _ _ h => h) (Or.inl ⟨by rfl, ?_⟩) ?_ ?_
        rotate_left
        · intro w'
          go_simp
          with_reducible rfl
        rotate_left
        · simp only [Act.put, List.setIfInBounds_toArray, List.set_cons_zero, List.set_cons_succ, i64_w, i32_w]
          rfl
        refine pure_ (i := 10) (N := some 31) (v := ?_) (a' := ?_) #[true, true, true, true, true, true, true, true, true, true, true, false] rfl rfl (by kernel_rfl) (fun _ _ _ h => h) (Or.inl ⟨by rfl, ?_⟩) ?_ ?_
        rotate_left
        · intro w'
          go_simp
          with_reducible rfl
        rotate_left
        · simp only [Act.put, List.setIfInBounds_toArray, List.set_cons_zero, List.set_cons_succ, i64_w, i32_w]
          rfl
        refine last_ (i := 11) (N := none) #[true, true, true, true, true, true, true, true, true, true, true, true] rfl rfl (by kernel_rfl) (by decide) (fun K hK => ?_)
        refine skip_ (w1 := ?_) (by rfl) rfl ?_ ?_
        rotate_left
        · go_simp
          rfl
        refine hK.out _ _ ?_
        clear hK K
        refine done_ (by kernel_rfl) ?_
        go_wp2
        go_ret
        exact FIN.out _ (by simp)
      | some ad =>
        by_cases hcm : c = m
        · subst hcm
          refine start_ (n := 12) (S := fun w' => w'.cell? ⟨g, 0, none⟩ = some (.slice (some ad) r3.length c)) (ds := [11]) #[false, false, false, false, false, false, false, false, false, false, false, false] (by kernel_rfl) rfl rfl ((by rw [hw4]; exact cell_of_one hh4)) (fun hHeld => ?_)
          rw [hw4] at hHeld ⊢
          refine pure_ (i := 0) (N := some 21) (v := ?_) (a' := ?_) #[true, false, false, false, false, false, false, false, false, false, false, false] rfl rfl (by kernel_rfl) (fun _ _ _ h => h) (Or.inl ⟨by rfl, ?_⟩) ?_ ?_
          rotate_left
          · intro w'
            go_simp
            with_reducible rfl
          rotate_left
          · simp only [Act.put, List.setIfInBounds_toArray, List.set_cons_zero, List.set_cons_succ, i64_w, i32_w]
            rfl
          refine pure_ (i := 1) (N := some 22) (v := ?_) (a' := ?_) #[true, true, false, false, false, false, false, false, false, false, false, false] rfl rfl (by kernel_rfl) (fun _ _ _ h => h) (Or.inl ⟨by rfl, ?_⟩) ?_ ?_
          rotate_left
          · intro w'
            go_simp
            with_reducible rfl
          rotate_left
          · simp only [Act.put, List.setIfInBounds_toArray, List.set_cons_zero, List.set_cons_succ, i64_w, i32_w]
            rfl
          refine pure_ (i := 2) (N := some 23) (v := ?_) (a' := ?_) #[true, true, true, false, false, false, false, false, false, false, false, false] rfl rfl (by kernel_rfl) (fun _ _ _ h => h) (Or.inl ⟨by rfl, ?_⟩) ?_ ?_
          rotate_left
          · intro w'
            go_simp
            with_reducible rfl
          rotate_left
          · simp only [Act.put, List.setIfInBounds_toArray, List.set_cons_zero, List.set_cons_succ, i64_w, i32_w]
            rfl
          refine pure_ (i := 4) (N := some 25) (v := ?_) (a' := ?_) #[true, true, true, false, true, false, false, false, false, false, false, false] rfl rfl (by kernel_rfl) (fun _ _ _ h => h) (Or.inl ⟨by rfl, ?_⟩) ?_ ?_
          rotate_left
          · intro w'
            go_simp
            with_reducible rfl
          rotate_left
          · simp only [Act.put, List.setIfInBounds_toArray, List.set_cons_zero, List.set_cons_succ, i64_w, i32_w]
            rfl
          refine pure_ (i := 5) (N := some 26) (v := ?_) (a' := ?_) #[true, true, true, false, true, true, false, false, false, false, false, false] rfl rfl (by kernel_rfl) (fun _ _ _ h => h) (Or.inl ⟨by rfl, ?_⟩) ?_ ?_
          rotate_left
          · intro w'
            go_simp
            with_reducible rfl
          rotate_left
          · simp only [Act.put, List.setIfInBounds_toArray, List.set_cons_zero, List.set_cons_succ, i64_w, i32_w]
            rfl
          refine pure_ (i := 6) (N := some 27) (v := ?_) (a' := ?_) #[true, true, true, false, true, true, true, false, false, false, false, false] rfl rfl (by kernel_rfl) (fun _ _ _ h => h) (Or.inl ⟨by rfl, ?_⟩) ?_ ?_
          rotate_left
          · intro w'
            go_simp
            with_reducible rfl
          rotate_left
          · simp only [Act.put, List.setIfInBounds_toArray, List.set_cons_zero, List.set_cons_succ, i64_w, i32_w]
            rfl
          refine take_ (i := 3) (N := some 24) (v := ?_) (a' := ?_) #[true, true, true, true, true, true, true, false, false, false, false, false] rfl rfl (by kernel_rfl) (fun _ _ _ h => h) (Or.inl ⟨by rfl, ?_⟩) hHeld ?_ ?_
          rotate_left
          · intro w' s0
            go_simp
            with_reducible rfl
          rotate_left
          · simp only [Act.put, List.setIfInBounds_toArray, List.set_cons_zero, List.set_cons_succ, i64_w, i32_w]
            rfl
          refine take_ (i := 7) (N := some 28) (v := ?_) (a' := ?_) #[true, true, true, true, true, true, true, true, false, false, false, false] rfl rfl (by kernel_rfl) (fun _ _ _ h => h) (Or.inl ⟨by rfl, ?_⟩) hHeld ?_ ?_
          rotate_left
          · intro w' s0
            go_simp
            with_reducible rfl
          rotate_left
          · simp only [Act.put, List.setIfInBounds_toArray, List.set_cons_zero, List.set_cons_succ, i64_w, i32_w]
            rfl
          refine one_ (i := 8) (N := some 29) #[true, true, true, true, true, true, true, true, true, false, false, false] rfl rfl (by kernel_rfl) (by decide) (fun K hK => ?_)
          refine value_ (w1 := ?_) (v := ?_) (by rfl) rfl ?_ ?_
          rotate_left 2
          · go_simp
            constructor
            · rfl
            · rfl
          refine hK.out _ _ ((cell_of_one hh5)) (fun hHeld => ?_)
          clear hK K
          refine norm_ (a' := ?_) ?_ ?_
          rotate_left
          · show Act.put _ (some 29) _ = _
            simp only [Act.put, List.setIfInBounds_toArray, List.set_cons_zero, List.set_cons_succ, i64_w, i32_w]
            rfl
          refine pure_ (i := 9) (N := some 30) (v := ?_) (a' := ?_) #[true, true, true, true, true, true, true, true, true, true, false, false] rfl rfl (by kernel_rfl) (fun _ _ _ h => h) (Or.inl ⟨by rfl, ?_⟩) ?_ ?_
          rotate_left
          · intro w'
            go_simp
            with_reducible rfl
          rotate_left
          · simp only [Act.put, List.setIfInBounds_toArray, List.set_cons_zero, List.set_cons_succ, i64_w, i32_w]
            rfl
          refine pure_ (i := 10) (N := some 31) (v := ?_) (a' := ?_) #[true, true, true, true, true, true, true, true, true, true, true, false] rfl rfl (by kernel_rfl) (fun _ _ _ h => h) (Or.inl ⟨by rfl, ?_⟩) ?_ ?_
          rotate_left
          · intro w'
            go_simp
            with_reducible rfl
          rotate_left
          · simp only [Act.put, List.setIfInBounds_toArray, List.set_cons_zero, List.set_cons_succ, i64_w, i32_w]
            rfl
          refine last_ (i := 11) (N := none) #[true, true, true, true, true, true, true, true, true, true, true, true] rfl rfl (by kernel_rfl) (by decide) (fun K hK => ?_)
          refine skip_ (w1 := ?_) (by rfl) rfl ?_ ?_
          rotate_left
          · go_simp
            rfl
          refine hK.out _ _ ?_
          clear hK K
          refine done_ (by kernel_rfl) ?_
          go_wp2
          go_ret
          exact FIN.out _ (by rw [show r3.length = c by omega]; simp)
        · have hcm2 : (m : Int) ≤ c := by omega
          refine start_ (n := 12) (S := fun w' => w'.cell? ⟨g, 0, none⟩ = some (.slice (some ad) r3.length c)) (ds := [11]) #[false, false, false, false, false, false, false, false, false, false, false, false] (by kernel_rfl) rfl rfl ((by rw [hw4]; exact cell_of_one hh4)) (fun hHeld => ?_)
          rw [hw4] at hHeld ⊢
          refine pure_ (i := 0) (N := some 21) (v := ?_) (a' := ?_) #[true, false, false, false, false, false, false, false, false, false, false, false] rfl rfl (by kernel_rfl) (fun _ _ _ h => h) (Or.inl ⟨by rfl, ?_⟩) ?_ ?_
          rotate_left
          · intro w'
            go_simp
            with_reducible rfl
          rotate_left
          · simp only [Act.put, List.setIfInBounds_toArray, List.set_cons_zero, List.set_cons_succ, i64_w, i32_w]
            rfl
          refine pure_ (i := 1) (N := some 22) (v := ?_) (a' := ?_) #[true, true, false, false, false, false, false, false, false, false, false, false] rfl rfl (by kernel_rfl) (fun _ _ _ h => h) (Or.inl ⟨by rfl, ?_⟩) ?_ ?_
          rotate_left
          · intro w'
            go_simp
            with_reducible rfl
          rotate_left
          · simp only [Act.put, List.setIfInBounds_toArray, List.set_cons_zero, List.set_cons_succ, i64_w, i32_w]
            rfl
          refine pure_ (i := 2) (N := some 23) (v := ?_) (a' := ?_) #[true, true, true, false, false, false, false, false, false, false, false, false] rfl rfl (by kernel_rfl) (fun _ _ _ h => h) (Or.inl ⟨by rfl, ?_⟩) ?_ ?_
          rotate_left
          · intro w'
            go_simp
            with_reducible rfl
          rotate_left
          · simp only [Act.put, List.setIfInBounds_toArray, List.set_cons_zero, List.set_cons_succ, i64_w, i32_w]
            rfl
          refine pure_ (i := 4) (N := some 25) (v := ?_) (a' := ?_) #[true, true, true, false, true, false, false, false, false, false, false, false] rfl rfl (by kernel_rfl) (fun _ _ _ h => h) (Or.inl ⟨by rfl, ?_⟩) ?_ ?_
          rotate_left
          · intro w'
            go_simp
            with_reducible rfl
          rotate_left
          · simp only [Act.put, List.setIfInBounds_toArray, List.set_cons_zero, List.set_cons_succ, i64_w, i32_w]
            rfl
          refine pure_ (i := 5) (N := some 26) (v := ?_) (a' := ?_) #[true, true, true, false, true, true, false, false, false, false, false, false] rfl rfl (by kernel_rfl) (fun _ _ _ h => h) (Or.inl ⟨by rfl, ?_⟩) ?_ ?_
          rotate_left
          · intro w'
            go_simp
            with_reducible rfl
          rotate_left
          · simp only [Act.put, List.setIfInBounds_toArray, List.set_cons_zero, List.set_cons_succ, i64_w, i32_w]
            rfl
          refine pure_ (i := 6) (N := some 27) (v := ?_) (a' := ?_) #[true, true, true, false, true, true, true, false, false, false, false, false] rfl rfl (by kernel_rfl) (fun _ _ _ h => h) (Or.inl ⟨by rfl, ?_⟩) ?_ ?_
          rotate_left
          · intro w'
            go_simp
            with_reducible rfl
          rotate_left
          · simp only [Act.put, List.setIfInBounds_toArray, List.set_cons_zero, List.set_cons_succ, i64_w, i32_w]
            rfl
          refine take_ (i := 3) (N := some 24) (v := ?_) (a' := ?_) #[true, true, true, true, true, true, true, false, false, false, false, false] rfl rfl (by kernel_rfl) (fun _ _ _ h => h) (Or.inl ⟨by rfl, ?_⟩) hHeld ?_ ?_
          rotate_left
          · intro w' s0
            go_simp
            with_reducible rfl
          rotate_left
          · simp only [Act.put, List.setIfInBounds_toArray, List.set_cons_zero, List.set_cons_succ, i64_w, i32_w]
            rfl
          refine take_ (i := 7) (N := some 28) (v := ?_) (a' := ?_) #[true, true, true, true, true, true, true, true, false, false, false, false] rfl rfl (by kernel_rfl) (fun _ _ _ h => h) (Or.inl ⟨by rfl, ?_⟩) hHeld ?_ ?_
          rotate_left
          · intro w' s0
            go_simp
            with_reducible rfl
          rotate_left
          · simp only [Act.put, List.setIfInBounds_toArray, List.set_cons_zero, List.set_cons_succ, i64_w, i32_w]
            rfl
          refine one_ (i := 8) (N := some 29) #[true, true, true, true, true, true, true, true, true, false, false, false] rfl rfl (by kernel_rfl) (by decide) (fun K hK => ?_)
          refine value_ (w1 := ?_) (v := ?_) (by rfl) rfl ?_ ?_
          rotate_left 2
          · go_simp
            constructor
            · rfl
            · rfl
          refine hK.out _ _ ((cell_of_one hh5)) (fun hHeld => ?_)
          clear hK K
          refine norm_ (a' := ?_) ?_ ?_
          rotate_left
          · show Act.put _ (some 29) _ = _
            simp only [Act.put, List.setIfInBounds_toArray, List.set_cons_zero, List.set_cons_succ, i64_w, i32_w]
            rfl
          refine pure_ (i := 9) (N := some 30) (v := ?_) (a' := ?_) #[true, true, true, true, true, true, true, true, true, true, false, false] rfl rfl (by kernel_rfl) (fun _ _ _ h => h) (Or.inl ⟨by rfl, ?_⟩) ?_ ?_
          rotate_left
          · intro w'
            go_simp
            with_reducible rfl
          rotate_left
          · simp only [Act.put, List.setIfInBounds_toArray, List.set_cons_zero, List.set_cons_succ, i64_w, i32_w]
            rfl
          refine pure_ (i := 10) (N := some 31) (v := ?_) (a' := ?_) #[true, true, true, true, true, true, true, true, true, true, true, false] rfl rfl (by kernel_rfl) (fun _ _ _ h => h) (Or.inl ⟨by rfl, ?_⟩) ?_ ?_
          rotate_left
          · intro w'
            go_simp
            with_reducible rfl
          rotate_left
          · simp only [Act.put, List.setIfInBounds_toArray, List.set_cons_zero, List.set_cons_succ, i64_w, i32_w]
            rfl
          refine last_ (i := 11) (N := none) #[true, true, true, true, true, true, true, true, true, true, true, true] rfl rfl (by kernel_rfl) (by decide) (fun K hK => ?_)
          refine skip_ (w1 := ?_) (by rfl) rfl ?_ ?_
          rotate_left
          · go_simp
            rfl
          refine hK.out _ _ ?_
          clear hK K
          refine done_ (by kernel_rfl) ?_
          go_wp2
          go_ret
          exact FIN.out _ (by rw [if_neg hcm]; first | rfl | (cases m <;> rfl))
def txt (l : List Int) : List Int := (l.drop 3).take (cnt l)
def rst (l : List Int) : List Int := l.drop (3 + cnt l)
theorem bytes_ (g : Nat) (l : List Int) (W : World) (h : Rd 63 g l W) (hg : g < W.heap.size) :
    Calls Try.prog 43 #[.pointer (some ⟨g, 0, none⟩)] W fun e W' => ∃ v : Value, e = .returned v ∧ Kd.R (Kd.int .u8) 5 W' W.heap.size (fun _ => True) v (txt l) ∧ Rd 63 g (rst l) W' ∧ Fr g W W' := bytes g l W h hg
theorem txt_rng {l : List Int} (h : ∀ x ∈ l, 0 ≤ x ∧ x < 256) : ∀ x ∈ txt l, 0 ≤ x ∧ x < 256 := fun x hx => h x (List.mem_of_mem_drop (List.mem_of_mem_take hx))
theorem txt_len (l : List Int) : (txt l).length ≤ 65535 := by
  unfold txt cnt; rw [List.length_take]; omega
set_option maxHeartbeats 4000000 in
set_option maxRecDepth 100000 in
theorem text (g : Nat) (l : List Int) (W : World) (h : Rd 63 g l W) (hg : g < W.heap.size) :
    Calls Try.prog 33 #[.pointer (some ⟨g, 0, none⟩)] W fun e W' => e = .returned (.string (strOfNums (txt l))) ∧ Rd 63 g (rst l) W' ∧ Fr g W W' := by
  have HK := Aside0.mk h
  clear h
  go_enter Try.func33, Try.ntmps33
  go_wp2_with (go_at_call 43; refine (bytes g l W HK.out hg).mono ?_; rintro e W1 ⟨v, rfl, hR, h1, f1⟩)
  have hcv := own_string (P := Try.prog) Try.underlying28 Try.underlying5 Try.underlying9 (Kd.own_of_R hR)
  have H1 := Aside0.mk h1
  have F1 := Aside0.mk f1
  clear h1 f1 hR
  go_wp2_with fail
  rw [hcv]
  simp only [Result.andThen]
  rw [Oper.upon_value]
  go_wp2
  go_ret
  exact ⟨rfl, H1.out, F1.out⟩
end Go.Proofs.Ytojfhlbchiaccaa.Reader
