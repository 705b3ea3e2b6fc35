/- text of the reference: a row of one's own, three bytes more, and then a string's. -/
import Derived.Test.YtojfhlbchiaccaaWriter
import Derived.Test.YtojfhlbchiaccaaWKept
import Derived.Test.YtojfhlbchiaccaaWRepsOne
namespace Go.Proofs.Ytojfhlbchiaccaa.Reader
open Go.RowKit Go.Proofs.YtojfhlbchiaccaaW.PrintWords Go.Proofs.YtojfhlbchiaccaaW.PrintLast Go.Proofs.YtojfhlbchiaccaaW.PrintMore
attribute [local go_sem] max2_int min2_int max_two min_two max_three min_three max_four min_four   -- for this text's walks alone
set_option linter.unusedVariables false
set_option linter.unusedSimpArgs false

/-- Where the row lies behind an append of a string: where it was, or in a new block. -/
theorem append_str_where {P : Program} (w : World) (base : Nat) (t u ty e : TypeId) (i : TypeInfo) (ht : P.underlying t = some (.slice e)) (hu : P.underlying u = some .string) (hi : P.info? e = some i) (hz : i.zero = some (.int .u8 0))
    (hs1 : i.size = 1) (hb1 : i.bytes = 1) (v : Value) (n : Nat) (xs : List Value) (hown : w.ownsRow base e 1 v n xs) (s : ByteArray) (hn0 : 0 < n) (hl : n + s.size ≤ 140737488355328) (hbase : base ≤ w.heap.size) :
    ∃ v' w', (Builtin.append_ #[t, u] ty #[v, .string s]).run P w = .ok v' w' ∧ w'.ownsRow base e 1 v' (n + s.size) (xs ++ Go.Lib.strCells s) ∧ w.grownBy w' v.ownBlock ∧ (v'.ownBlock = v.ownBlock ∨ ∃ b, v'.ownBlock = some b ∧ w.heap.size ≤ b) := by
  obtain ⟨v', w', hr, ho, hg, _⟩ := Go.Lib.run_append_own_string (P := P) w base t u ty e i ht hu hi hz hs1 hb1 v n xs hown s (by simp only [maxLen]; omega) hl hbase
  refine ⟨v', w', hr, ho, hg, ?_⟩
  have hxl : xs.length = n := by simpa using hown.1
  rcases hown.2 with ⟨_, h0⟩ | ⟨g, cap, cur, rfl, _, hh, _, _, hcs, _⟩
  · omega
  · by_cases hroom : n + s.size ≤ cap
    · have h := Go.Lib.run_append_room_string (P := P) w t u ty e i ht hu hi hs1 g n cap cur hh s hroom (by simp at hcs; omega)
      rw [h] at hr
      cases hr
      exact .inl rfl
    · have h := Go.Lib.run_append_grow_string (P := P) w t u ty e i (.int .u8 0) ht hu hi hz ⟨g, 0, none⟩ n cap xs (by rw [hs1]; simpa using hxl) (hown.cells (g := g) rfl) s (by omega) (by omega) (by rw [hb1]; exact growslice_fits (by omega) (by omega))
      rw [h] at hr
      cases hr
      exact .inr ⟨_, rfl, Nat.le_refl _⟩
theorem wpList_str_where {P : Program} {w : World} {ops : Array Oper} {rest : List Oper} {o : Oper} {a : Act} {Q : Exit → Act → World → Prop} (hgd : o.guard = none) (sl x : Operand) (t u : TypeId)
    (ho : o.op = .call { callee := .builtin .append, args := #[sl, x], argTypes := #[t, u] })
    (base : Nat) (e : TypeId) (i : TypeInfo) (ht : P.underlying t = some (.slice e)) (hu : P.underlying u = some .string) (hi : P.info? e = some i) (hz : i.zero = some (.int .u8 0)) (hs1 : i.size = 1) (hb1 : i.bytes = 1)
    (v : Value) (n : Nat) (xs : List Value) (hs : a.eval sl = v) (hown : w.ownsRow base e 1 v n xs) (s : ByteArray) (hx : a.eval x = .string s) (hn0 : 0 < n) (hl : n + s.size ≤ 140737488355328) (hbase : base ≤ w.heap.size)
    (h : ∀ v' w', w'.ownsRow base e 1 v' (n + s.size) (xs ++ Go.Lib.strCells s) → w.grownBy w' v.ownBlock → (v'.ownBlock = v.ownBlock ∨ ∃ b, v'.ownBlock = some b ∧ w.heap.size ≤ b) → wpList P ops Q rest (a.put o.dst v') w') : wpList P ops Q (o :: rest) a w := by
  refine wpList_plain hgd fun K hK => ?_
  obtain ⟨v', w', hr, h2, h3, h4⟩ := append_str_where (P := P) w base t u o.type e i ht hu hi hz hs1 hb1 v n xs hown s hn0 hl hbase
  unfold Oper.wp execOp
  simp only [ho, resolve, invoke, builtin, Sem.run_bind, Sem.run_pure, Result.andThen_ok, List.map_toArray, List.map_cons, List.map_nil, hs, hx, hr]
  exact hK _ _ (h v' w' h2 h3 h4)
set_option maxHeartbeats 4000000 in
set_option maxRecDepth 100000 in
theorem rtext (P0_ : Nat → Prop) (u : Value) (l0 : List Int) (a1 : ByteArray) (w0 w : World) (hB : Below w0.heap.size w0 w) (ho0 : Kd.R (Kd.int .u8) 5 w w0.heap.size P0_ u l0) (hz : l0.length + 3 + a1.size ≤ 100000000) :
    Calls Try.prog 28 #[u, .string a1] w fun e w' => ∃ v0_ : Value, e = .returned v0_ ∧ Kd.R (Kd.int .u8) 5 w' w0.heap.size (fun k_ => (P0_ k_ ∨ w.heap.size ≤ k_)) v0_ (l0 ++ tb a1) ∧ Below w0.heap.size w0 w' ∧ Kept w w' (fun k_ => P0_ k_) := by
  have HB := Aside0.mk hB
  have HO := Aside0.mk (show Kd.R (Kd.int .u8) 5 w w0.heap.size (fun k_ => P0_ k_ ∨ w.heap.size ≤ k_) u l0 from Kd.R_mono ho0 (fun k_ hk => .inl hk))
  have HP := Aside0.mk ho0.1
  have HLT := Aside0.mk (Kd.R_lt ho0)
  have HBA := Aside0.mk (Kd.R_base ho0)
  have hle := hB.size
  obtain ⟨A0, c0, hu⟩ := Kd.R_slice ho0
  subst hu
  obtain ⟨i5, hi5, hz5, hs5, hy5⟩ := info5w
  have HI5 := Aside0.mk (And.intro hi5 (And.intro hz5 (And.intro hs5 hy5)))
  clear hB ho0 hi5 hz5 hs5 hy5
  go_enter Try.func28, Try.ntmps28
  go_wp2_with (first
    | ((with_reducible refine gate_dst (N := 14) rfl ?_); go_loud (refine Kd.R_lit (Kd.int .u8) (w0 := w) w.heap.size 5 ?hg (N := 14) ?hd (xs := [0, ((a1.size : Int) / 256) % 256, (a1.size : Int) % 256]) (inner := [.int .u8 0, .int .u8 (((a1.size : Int) / 256) % 256), .int .u8 ((a1.size : Int) % 256)]) (ok := fun _ => True) (okp := fun _ => True) ?hr ?hp (fun _ hk => hk) trivial (Below.refl _ _) (Nat.le_refl _) (by simp) ?_; (case hd => rfl); (case hg => rfl); (case hr => first | (go_simp; done) | (go_simp; rfl)); (case hp => exact (Reps.one (show Kd.M (Kd.int .u8) _ _ _ (0 : Int) [.int .u8 0] from rfl) (Reps.one (show Kd.M (Kd.int .u8) _ _ _ (((a1.size : Int) / 256) % 256) [.int .u8 (((a1.size : Int) / 256) % 256)] from rfl) (Reps.one (show Kd.M (Kd.int .u8) _ _ _ ((a1.size : Int) % 256) [.int .u8 ((a1.size : Int) % 256)] from rfl) (Reps.none _ _))))); intro v1 w1 ho1 hb1 hg1 hn1; obtain ⟨A1, c1, rfl⟩ := Kd.R_slice ho1; have HO1 := Aside0.mk ho1; have HB1 := Aside0.mk hb1; have HN1 := Aside0.mk hn1; clear ho1 hb1 hg1 hn1))
    | ((with_reducible refine gate_builtin (b := .append) (xs := #[.tmp 5, .tmp 14]) rfl ?_); at_builtin; go_loud (refine Kd.R_append_rows (Kd.int .u8) (w0 := w0) w0.heap.size rfl (.tmp 5) (.tmp 14) 28 5 (.int .u8 0) 1 rfl Try.underlying28 info5 rfl (by decide) (by omega) (.slice A0 l0.length c0) l0 [0, ((a1.size : Int) / 256) % 256, (a1.size : Int) % 256] _ _ _ (fun k_ => P0_ k_ ∨ w.heap.size ≤ k_) (fun _ => False) rfl rfl ?aO ?aR (fun _ _ h => h) (fun _ h => h.elim) ?aF ?aB ?aS ?aL ?_; (case aR => exact (Kd.R_reads' HO1.out).2.2); (case aB => exact HB.out.trans (HB1.out.mono hle)); (case aF => exact fun k hk => .inr (Nat.le_trans HB1.out.size hk)); (case aO => exact Kd.R_below HO.out HB1.out); (case aS => exact Nat.le_trans hle HB1.out.size); (case aL => simp only [List.length_cons, List.length_nil]; omega); intro v2 w2 ho2 hb2 hg2 hat2; obtain ⟨A2, c2, rfl⟩ := Kd.R_slice ho2; have hown2 := Kd.own_of_R ho2; rw [show (l0 ++ [0, ((a1.size : Int) / 256) % 256, (a1.size : Int) % 256]).length = l0.length + 3 by simp] at hown2; have HOW2 := Aside0.mk hown2; have HO2 := Aside0.mk ho2; have HB2 := Aside0.mk hb2; have HG2 := Aside0.mk hg2; have HAT2 := Aside0.mk hat2; clear ho2 hb2 hg2 hat2 hown2))
    | ((with_reducible refine gate_builtin (b := .append) (xs := #[.tmp 16, .tmp 17]) rfl ?_); at_builtin; go_loud (refine wpList_str_where (w := w2) rfl (.tmp 16) (.tmp 17) 28 9 rfl w0.heap.size 5 i5 Try.underlying28 Try.underlying9 HI5.out.1 HI5.out.2.1 HI5.out.2.2.1 HI5.out.2.2.2 (.slice A2 (l0.length + 3) c2) (l0.length + 3) _ rfl HOW2.out a1 rfl (by omega) (by omega) HB2.out.size ?_; intro v3 w3 ho3 hg3 hat3; have HO3 := Aside0.mk ho3; have HG3 := Aside0.mk hg3; have HAT3 := Aside0.mk hat3; clear ho3 hg3 hat3)))
  go_ret
  have h12 := HB1.out.size
  have h23 := HG2.out.size
  have hok2 : ∀ k, (Value.slice A2 (l0.length + 3) c2).ownBlock = some k → P0_ k ∨ w.heap.size ≤ k := fun k hk => HO2.out.1 k (by simpa [Value.ownBlock] using hk)
  have hbase2 : ∀ k, (Value.slice A2 (l0.length + 3) c2).ownBlock = some k → w0.heap.size ≤ k := fun k hk => Kd.R_base HO2.out k (by simpa [Value.ownBlock] using hk)
  have h3ok : ∀ k, v3.ownBlock = some k → P0_ k ∨ w.heap.size ≤ k := by
    intro k hk
    rcases HAT3.out with h | ⟨b, h, hb⟩
    · rw [h] at hk; exact hok2 k hk
    · rw [hk] at h; cases h; exact .inr (by omega)
  refine ⟨v3, rfl, ?_, ?_, ?_⟩
  · refine Kd.R_of_own ?_ h3ok
    have e : (l0 ++ tb a1).length = l0.length + 3 + a1.size := by
      unfold tb; simp [bytesOf_length]; omega
    have e2 : encs (Value.int .u8) (l0 ++ [0, ((a1.size : Int) / 256) % 256, (a1.size : Int) % 256]) ++ Go.Lib.strCells a1 = encs (Value.int .u8) (l0 ++ tb a1) := by
      rw [encs_str]; unfold tb; simp [encs]
    rw [e, ← e2]
    exact HO3.out
  · exact Below.grown HB2.out HG3.out HB2.out.size hbase2
  · refine Kept.of_grown HG3.out (Kept.of_grown HG2.out (Kept.of_below HB1.out _) (fun k hk => ?_)) hok2
    exact .inl (HP.out k hk)
end Go.Proofs.Ytojfhlbchiaccaa.Reader
