/- glyph.values: what digits tell, pieces between commas. -/
import Derived.Test.YtgdlmgdcoedfoaaGreatDoorValues
namespace Go.Proofs.YtgdlmgdcoedfoaaGreatDoor.Agl
open Go.RowKit Go.Shelf Go.Proofs.YtgdlmgdcoedfoaaGreatDoorW.PrintWords Go.Proofs.YtgdlmgdcoedfoaaGreatDoorW.PrintLast Go.Proofs.YtgdlmgdcoedfoaaGreatDoorW.PrintMore
set_option linter.unusedVariables false
set_option linter.unusedSimpArgs false

attribute [local go_sem] Oper.semAt_some
set_option maxHeartbeats 400000 in
set_option maxRecDepth 100000 in
theorem seq101 (s : ByteArray) (W : World) : Calls Tryz.prog 101 #[.string s, .string ⟨#[44]⟩, .int .i64 0] W fun e W' =>
    e = .returned (.func (.func 133) #[] #[.pointer (some ⟨W.heap.size + 1, 0, none⟩), .pointer (some ⟨W.heap.size, 0, none⟩), .pointer (some ⟨W.heap.size + 2, 0, none⟩)]) ∧ ((W.alloc (.cells #[.string s] 9)).alloc (.cells #[.string ⟨#[44]⟩] 9)).alloc (.cells #[.int .i64 0] 3) = W' := by
  go_enter Tryz.func101, Tryz.ntmps101
  go_wp2
  go_ret
  exact ⟨rfl, rfl⟩
set_option maxHeartbeats 400000 in
set_option maxRecDepth 100000 in
theorem seq75 (s : ByteArray) (W : World) : Calls Tryz.prog 75 #[.string s, .string ⟨#[44]⟩] W fun e W' =>
    e = .returned (.func (.func 133) #[] #[.pointer (some ⟨W.heap.size + 1, 0, none⟩), .pointer (some ⟨W.heap.size, 0, none⟩), .pointer (some ⟨W.heap.size + 2, 0, none⟩)]) ∧ ((W.alloc (.cells #[.string s] 9)).alloc (.cells #[.string ⟨#[44]⟩] 9)).alloc (.cells #[.int .i64 0] 3) = W' := by
  go_enter Tryz.func75, Tryz.ntmps75
  go_wp2_with (go_at_call 101; refine (seq101 s W).mono ?_; rintro e W' ⟨rfl, rfl⟩)
  go_ret
  exact ⟨rfl, rfl⟩
theorem far_put {W : World} {l k : Nat} {o : Obj} (h : k ≠ l) : (W.putObj l o).heap[k]? = W.heap[k]? := World.putObj_heap_other h
/-- A range over a function value, no loop around it: the record and the mark are laid, and the value is called. -/
theorem range_plain {P : Program} {g : Operand} {ps : Array Tmp} {assign body : Code} {Q : Exit → Act → World → Prop} {a : Act} {w : World} {n gf : Nat} {lb : Array Value} (h1 : 1 ≤ n) (hg : a.eval g = .func (.func gf) #[] lb)
    (eg : ∀ args w, (callFunc gf args).run P w = .ok (.enter gf args) w)
    (hcall : ∀ (fn : FuncId) (rec : LoopState → Option Code → Loop), (rec = fun st pe => { state := st, pending := pe, fn, tmps := a.tmps, params := ps, assign, body, defers := w.heap.size }) →
      CallsIn Fence.wide (n - 1) P gf (#[.func (.yield (w.heap.size + 1)) #[] #[]] ++ lb) ((w.alloc (.deferred (some []))).alloc (.loop (rec .ready none))) (rangePost Fence.wide n P (w.heap.size + 1) Q { a with defers := [{ target := .collected w.heap.size, args := #[] }] ++ a.defers })) :
    (Code.rangeFunc g ps assign body).wpIn Fence.wide n P Q a w := by
  refine wpIn_rangeFunc ?_
  intro fn _
  obtain ⟨rec, hrec⟩ : ∃ rec : LoopState → Option Code → Loop, rec = fun st pe => { state := st, pending := pe, fn, tmps := a.tmps, params := ps, assign, body, defers := w.heap.size } := ⟨_, rfl⟩
  obtain ⟨W1, hW1⟩ : ∃ W1, (w.alloc (.deferred (some []))).alloc (.loop (rec .ready none)) = W1 := ⟨_, rfl⟩
  refine ⟨w.heap.size + 1, [{ target := .collected w.heap.size, args := #[] }], W1, { target := .fn (.func gf) lb, args := #[.func (.yield (w.heap.size + 1)) #[] #[]] }, W1, gf, #[.func (.yield (w.heap.size + 1)) #[] #[]] ++ lb, W1, ?_, ?_, ?_, ?_, fun _ => h1, ?_⟩
  · rw [← hW1, hrec]; exact run_enterLoop_outer _ _ _ _ _
  · simp only [resolve, hg]
    simp [go_sem]
  · intro f' _; trivial
  · simp [invoke, go_sem, eg]
  · rw [← hW1]; exact hcall fn rec hrec
def pval (l : List UInt8) : Int := hexv (bytesOf ⟨l.toArray⟩)
/-- The state between two rounds. -/
def VI (w : World) (pre : List (List UInt8)) (W : World) : Prop :=
  (∃ v, W.heap[w.heap.size]? = some (.cells #[v] 22 (0, 0)) ∧ W.ownsRow (w.heap.size + 6) 3 1 v (pre.map pval).length (encs (Value.int .i64) (pre.map pval))) ∧ Below w.heap.size w W ∧ w.heap.size + 6 ≤ W.heap.size
theorem VI.move {w : World} {pre : List (List UInt8)} {W W' : World} (h : VI w pre W) (hm : ∀ k, k = w.heap.size ∨ w.heap.size + 5 < k → W'.heap[k]? = W.heap[k]?) (hb : Below w.heap.size w W') (hs : w.heap.size + 6 ≤ W'.heap.size) : VI w pre W' := by
  obtain ⟨⟨v, h1, h2⟩, _, _⟩ := h
  exact ⟨⟨v, (hm _ (.inl rfl)).trans h1, own_move h2 (fun k hk => hm k (.inr (by have := own_base h2 k hk; omega)))⟩, hb, hs⟩
/-- A block of the loop's own turns. -/
theorem VI.put {w : World} {pre : List (List UInt8)} {W : World} (h : VI w pre W) (l : Nat) (o : Obj) (h0 : w.heap.size < l) (h5 : l ≤ w.heap.size + 5) : VI w pre (W.putObj l o) :=
  h.move (fun k hk => World.putObj_heap_other (by omega)) (h.2.1.grown (grownBy_putObj' W l o) (by have := h.2.2; omega) (fun k e => by cases e; omega)) (by rw [World.putObj_size]; exact h.2.2)
theorem VI.set {w : World} {pre : List (List UInt8)} {W : World} (h : VI w pre W) (b : Nat) (u : Value) (h0 : w.heap.size < b) (h5 : b ≤ w.heap.size + 5) : VI w pre (W.setCell ⟨b, 0, none⟩ u) :=
  h.move (fun k hk => Below.heap_setCell W _ _ k (by show k ≠ b; omega)) (Below.setCell h.2.1 (p := ⟨b, 0, none⟩) (show w.heap.size ≤ b by omega) u) (by rw [show (W.setCell ⟨b, 0, none⟩ u).heap.size = W.heap.size by simp [World.setCell]]; exact h.2.2)
theorem below_put {n₀ : Nat} {w W : World} (h : Below n₀ w W) {l : Nat} {o : Obj} (hl : n₀ ≤ l) (hsz : n₀ ≤ W.heap.size) : Below n₀ w (W.putObj l o) :=
  h.grown (grownBy_putObj' W l o) hsz (fun k e => by cases e; exact hl)
theorem pieces_len : ∀ (k : Nat) (l : List UInt8), (pieces k l).length ≤ k + 1
  | 0, _ => by simp [pieces]
  | k + 1, l => by
    simp only [pieces]
    split
    · simp
    · rw [List.length_cons]
      have := pieces_len k (l.drop ((Lib.indexByte l 44).toNat + 1))
      omega
theorem own_row_slice {W : World} {base e sz : Nat} {v : Value} {n : Nat} {zs : List Value} (h : W.ownsRow base e sz v n zs) : ∃ A c, v = .slice A n c := by
  rcases h.2 with ⟨rfl, rfl⟩ | ⟨g, cap, cur, rfl, _⟩
  · exact ⟨_, _, rfl⟩
  · exact ⟨_, _, rfl⟩
def valuesL (s : ByteArray) : List Int := (pieces s.size s.data.toList).map pval
set_option maxHeartbeats 800000 in
set_option maxRecDepth 100000 in
theorem values50 (s : ByteArray) (w : World) (hs : s.size ≤ 100000) (hx : ∀ p ∈ pieces s.size s.data.toList, 1 ≤ p.length ∧ p.length ≤ 7 ∧ hexAll p = true) :
    Calls Tryz.prog 50 #[.string s] w fun e W' => ∃ v : Value, e = .returned v ∧ Kd.R (Kd.int .i64) 3 W' w.heap.size (fun _ => True) v (valuesL s) ∧ Below w.heap.size w W' := by
  have HX := Aside0.mk hx
  clear hx
  refine (callsIn_wide (n := 6)).1 ?_
  refine callsIn_of_wp_marks Tryz.func50 rfl trivial ?_ rfl
  simp only [Tryz.ntmps50, List.size_toArray, List.length_cons, List.length_nil, Nat.reduceAdd, Nat.reduceSub, Array.replicate_succ, Array.replicate_zero, List.push_toArray, List.append_toArray, List.nil_append, List.cons_append]
  gi_wp2_with (refine ⟨trivial, ?_⟩; gi_at_call 75; refine (callsIn_wide.2 (seq75 s _)).mono ?_; rintro e w' ⟨rfl, rfl⟩)
  obtain ⟨w1, hw1⟩ : ∃ w1, (((w.alloc (.cells #[.slice none 0 0] 22)).alloc (.cells #[.string s] 9)).alloc (.cells #[.string ⟨#[44]⟩] 9)).alloc (.cells #[.int .i64 0] 3) = w1 := ⟨_, rfl⟩
  have e1 : (w.alloc (.cells #[.slice none 0 0] 22)).heap.size = w.heap.size + 1 := World.size_alloc _ _
  have e2 : ((w.alloc (.cells #[.slice none 0 0] 22)).alloc (.cells #[.string s] 9)).heap.size = w.heap.size + 2 := by rw [World.size_alloc, e1]
  have e3 : (((w.alloc (.cells #[.slice none 0 0] 22)).alloc (.cells #[.string s] 9)).alloc (.cells #[.string ⟨#[44]⟩] 9)).heap.size = w.heap.size + 3 := by rw [World.size_alloc, e2]
  have hs1 : w1.heap.size = w.heap.size + 4 := by rw [← hw1, World.size_alloc, e3]
  have hO : w1.heap[w.heap.size]? = some (.cells #[.slice none 0 0] 22 (0, 0)) := by
    rw [← hw1, Below.heap_alloc _ _ _ (by omega), Below.heap_alloc _ _ _ (by omega), Below.heap_alloc _ _ _ (by omega)]; exact World.alloc_heap_new _ _
  have hS : w1.heap[w.heap.size + 1]? = some (.cells #[.string s] 9 (0, 0)) := by
    rw [← hw1, Below.heap_alloc _ _ _ (by omega), Below.heap_alloc _ _ _ (by omega), ← e1]; exact World.alloc_heap_new _ _
  have hP : w1.heap[w.heap.size + 2]? = some (.cells #[.string ⟨#[44]⟩] 9 (0, 0)) := by
    rw [← hw1, Below.heap_alloc _ _ _ (by omega), ← e2]; exact World.alloc_heap_new _ _
  have hV : w1.heap[w.heap.size + 3]? = some (.cells #[.int .i64 0] 3 (0, 0)) := by
    rw [← hw1, ← e3]; exact World.alloc_heap_new _ _
  have hB1 : Below w.heap.size w w1 := by
    rw [← hw1]
    exact (((Below.alloc (Below.refl _ _) (Nat.le_refl _) _).alloc (by omega) _).alloc (by omega) _).alloc (by omega) _
  rw [hw1]
  simp only [Nat.add_assoc, Nat.reduceAdd]
  clear hw1 e1 e2 e3
  refine range_plain (n := 6) (by omega) rfl (enters_of Tryz.func133 (by kernel_rfl) rfl) ?_
  intro fn rec hrec
  obtain ⟨W1, hW1⟩ : ∃ W1, (w1.alloc (.deferred (some []))).alloc (.loop (rec .ready none)) = W1 := ⟨_, rfl⟩
  have e1 : (w1.alloc (.deferred (some []))).heap.size = w.heap.size + 5 := by rw [World.size_alloc, hs1]
  have hs2 : W1.heap.size = w.heap.size + 6 := by rw [← hW1, World.size_alloc, e1]
  have hold : ∀ k, k < w.heap.size + 4 → W1.heap[k]? = w1.heap[k]? := fun k hk => by rw [← hW1, Below.heap_alloc _ _ _ (by omega), Below.heap_alloc _ _ _ (by omega)]
  have hD : W1.heap[w.heap.size + 4]? = some (.deferred (some [])) := by rw [← hW1, Below.heap_alloc _ _ _ (by omega), ← hs1]; exact World.alloc_heap_new _ _
  have hL : W1.heap[w.heap.size + 5]? = some (.loop (rec .ready none)) := by rw [← hW1, ← e1]; exact World.alloc_heap_new _ _
  have hB2 : Below w.heap.size w W1 := by rw [← hW1]; exact (hB1.alloc (by omega) _).alloc (by omega) _
  have hO := (hold _ (by omega)).trans hO
  have hS := (hold _ (by omega)).trans hS
  have hP := (hold _ (by omega)).trans hP
  have hV := (hold _ (by omega)).trans hV
  rw [hs1, hW1]
  clear hW1 e1 hold hB1 hs1
  have hone : ∀ {b T : Nat} {v : Value}, W1.heap[b]? = some (.cells #[v] T (0, 0)) → W1.cell? ⟨b, 0, none⟩ = some v ∧ W1.frozen? ⟨b, 0, none⟩ = false := fun h => ⟨by simp [World.cell?, h], by simp [World.frozen?, h]⟩
  refine callsIn_wide.2 ((callsIn_wide (n := 3)).1 ((split_in (w.heap.size + 5) (w.heap.size + 1) (w.heap.size + 2) (w.heap.size + 3) s
    (fun pre W => VI w pre W ∧ W.heap[w.heap.size + 5]? = some (.loop (rec .ready none)) ∧ W.heap[w.heap.size + 4]? = some (.deferred (some [])))
    hs (by omega) (by omega) ?hJs ?hY W1 (hone hP).1 (hone hS).1 (hone hV).1 (hone hS).2 ⟨⟨⟨_, hO, World.ownsRow_nil _ _ _ _⟩, hB2, by omega⟩, hL, hD⟩).mono ?done))
  case hJs =>
    rintro pre W v ⟨h1, h2, h3⟩
    exact ⟨h1.set _ v (by omega) (by omega), (Below.heap_setCell W _ _ _ (by show w.heap.size + 5 ≠ w.heap.size + 1; omega)).trans h2, (Below.heap_setCell W _ _ _ (by show w.heap.size + 4 ≠ w.heap.size + 1; omega)).trans h3⟩
  case hY =>
    rintro pre x rest W ⟨hI, hl, hd⟩ hpc
    have hy := run_yield (P := Tryz.prog) (args := #[.string ⟨x.toArray⟩]) hl (by rw [hrec]; rfl)
    have hbg := run_beginRound (P := Tryz.prog) hl (by rw [hrec])
    have hre : ({ rec .ready none with state := .ready, pending := none } : Loop) = rec .ready none := by rw [hrec]
    have HRE := Aside0.mk hre
    have HBG := Aside0.mk hbg
    simp only [hrec] at hy
    refine ⟨fn, _, _, _, hy, roundIn_of_wpIn trivial ?_⟩
    clear hre hrec hbg
    have hx := HX.out x (by rw [← hpc]; simp)
    have hplen : (pre.map pval).length ≤ 100001 := by
      have h1 := congrArg List.length hpc
      have h2 := pieces_len s.size s.data.toList
      rw [List.length_append, List.length_cons] at h1
      rw [List.length_map]; omega
    obtain ⟨xs, hxs⟩ : ∃ xs : ByteArray, (⟨x.toArray⟩ : ByteArray) = xs := ⟨_, rfl⟩
    have hxl : xs.data.toList = x := by rw [← hxs]
    have hxz : xs.size = x.length := by rw [← data_length, hxl]
    have PA := Aside0.mk (fun W => parse16 xs W (by omega) (by omega) (hexAll_U (by rw [hxl]; exact hx.2.2)))
    have hpv : pval x = hexv (bytesOf xs) := by unfold pval; rw [hxs]
    rw [← hpv] at PA
    obtain ⟨z, hz⟩ : ∃ z, pval x = z := ⟨_, rfl⟩
    rw [hz] at PA
    have HZ := Aside0.mk hz
    rw [hxs]
    clear hpv hz hxs hxl hxz hx hy
    gi_wp2
    refine ⟨_, HBG.out, ?_⟩
    have hI2 := hI.put (w.heap.size + 5) (.loop { rec .ready none with state := .busy }) (by omega) (by omega)
    have hl2 : (W.putObj (w.heap.size + 5) (.loop { rec .ready none with state := .busy })).heap[w.heap.size + 5]? = some (.loop { rec .ready none with state := .busy }) := World.putObj_heap_same (by have := hI.2.2; omega)
    have hd2 := (far_put (W := W) (l := w.heap.size + 5) (o := .loop { rec .ready none with state := .busy }) (k := w.heap.size + 4) (by omega)).trans hd
    have hold2 : ∀ k, k < w.heap.size + 4 → (W.putObj (w.heap.size + 5) (.loop { rec .ready none with state := .busy })).heap[k]? = W.heap[k]? := fun k hk => far_put (by omega)
    obtain ⟨W2, hW2⟩ : ∃ W2, W.putObj (w.heap.size + 5) (.loop { rec .ready none with state := .busy }) = W2 := ⟨_, rfl⟩
    rw [hW2] at hI2 hl2 hd2 hold2 ⊢
    obtain ⟨⟨v, hO2, hR2⟩, hB2, hs2⟩ := hI2
    obtain ⟨ys, hys⟩ : ∃ ys, pre.map pval = ys := ⟨_, rfl⟩
    rw [hys] at hR2 hplen
    have HYS := Aside0.mk hys
    have c2 : W2.cell? ⟨w.heap.size, 0, none⟩ = some v := by simp [World.cell?, hO2]
    obtain ⟨i0, hi, hz0, hz1, hz2⟩ := info_parts info3
    have HR2 := Aside0.mk hR2; have HB2 := Aside0.mk hB2; have HO2 := Aside0.mk hO2; have HL2 := Aside0.mk hl2; have HD2 := Aside0.mk hd2; have HOLD := Aside0.mk hold2
    have HI0 := Aside0.mk (And.intro hi (And.intro hz0 (And.intro hz1 hz2)))
    clear hW2 HBG hI hl hd hys hR2 hB2 hO2 hl2 hd2 hold2 hi hz0 hz1 hz2
    gi_wp2_with (first
      | (refine ⟨trivial, ?_⟩; gi_at_call 76; refine (CallsIn.inRound (w.heap.size + 5) (callsIn_wide.2 (PA.out W2))).mono ?_; rintro e W3 ⟨rfl, hb3⟩; have hO3 := (hb3.block w.heap.size (by omega)).trans HO2.out; have c3 : W3.cell? ⟨w.heap.size, 0, none⟩ = some v := (by simp [World.cell?, hO3]); have hs3 := hb3.size; have HB3 := Aside0.mk hb3; have HO3 := Aside0.mk hO3; have hR3 := own_move HR2.out (fun k hk => hb3.block k (own_lt HR2.out k hk)); obtain ⟨Av, cv, rfl⟩ := own_row_slice hR3; have HR3 := Aside0.mk hR3; clear hb3 hO3 hR3)
      | (gi_at_builtin; go_loud (refine wpListIn_append_own _ rfl _ _ 22 rfl (w.heap.size + 6) 3 i0 (.int .i64 0) 1 8 Tryz.underlying22 HI0.out.1 HI0.out.2.1 HI0.out.2.2.1 HI0.out.2.2.2 rfl (by decide) _ _ _ rfl (HR3.out.alloc _) ⟨W3.heap.size, 0, none⟩ 1 1 [.int .i64 z] rfl rfl (cell_one_new _ _ _) (by simp [Value.oneCell']) (by unfold maxLen; omega) (by omega) (by rw [World.size_alloc]; omega) ?_; intro v' w4 hown' hgrow _; obtain ⟨g', cap', rfl⟩ := ownsRow_succ hown'; have hO4 := hgrow.block w.heap.size (by rw [World.size_alloc]; omega) (fun e => by have := own_base HR3.out _ e.symm; omega); have hO5 := hO4.trans ((Below.heap_alloc W3 _ _ (by omega)).trans HO3.out); have c4 : w4.cell? ⟨w.heap.size, 0, none⟩ = some _ := (by simp [World.cell?, hO5]; rfl); have f4 : w4.frozen? ⟨w.heap.size, 0, none⟩ = false := (by simp [World.frozen?, hO5]); have HOW := Aside0.mk hown'; have HG4 := Aside0.mk hgrow; have HO5 := Aside0.mk hO5; clear hown' hgrow hO4 hO5)))
    obtain ⟨W5, hW5⟩ : ∃ W5, w4.setCell ⟨w.heap.size, 0, none⟩ (.slice (some ⟨g', 0, none⟩) (ys.length + 1) cap') = W5 := ⟨_, rfl⟩
    have hsz4 := HG4.out.size
    rw [World.size_alloc] at hsz4
    have hsz5 : W5.heap.size = w4.heap.size := by rw [← hW5]; simp [World.setCell]
    have hkeep : ∀ k, w.heap.size < k → k ≤ w.heap.size + 5 → W5.heap[k]? = W2.heap[k]? := fun k h1 h2 => by
      rw [← hW5, Below.heap_setCell w4 _ _ k (by show k ≠ w.heap.size; omega), HG4.out.block k (by rw [World.size_alloc]; omega) (fun e => by have := own_base HR3.out k e.symm; omega), Below.heap_alloc W3 _ k (by omega)]
      exact HB3.out.block k (by omega)
    have hl5 := (hkeep (w.heap.size + 5) (by omega) (by omega)).trans HL2.out
    have hd5 := (hkeep (w.heap.size + 4) (by omega) (by omega)).trans HD2.out
    have hend := run_endRound (P := Tryz.prog) none hl5
    have hB5 : Below w.heap.size w W5 := by
      rw [← hW5]
      refine Below.setCell ?_ (p := ⟨w.heap.size, 0, none⟩) (Nat.le_refl _) _
      exact (Below.alloc (HB2.out.trans (HB3.out.mono (by omega))) (by omega) _).grown HG4.out (by rw [World.size_alloc]; omega) (fun k e => by have := own_base HR3.out k e; omega)
    have hVI : VI w (pre ++ [x]) W5 := by
      refine ⟨⟨.slice (some ⟨g', 0, none⟩) (ys.length + 1) cap', ?_, ?_⟩, hB5, by omega⟩
      · rw [← hW5]; simp [World.setCell, Array.getElem?_modify, HO5.out]
      · rw [List.map_append, HYS.out, List.map_cons, List.map_nil, HZ.out]
        have e : (ys ++ [z]).length = ys.length + 1 := by simp
        have e2 : encs (Value.int .i64) ys ++ [.int .i64 z] = encs (Value.int .i64) (ys ++ [z]) := by simp [encs]
        rw [e, ← e2]
        have h := HOW.out
        refine own_move h (fun k hk => ?_)
        rw [← hW5]
        exact Below.heap_setCell w4 _ _ k (by show k ≠ w.heap.size; have := own_base h k hk; omega)
    rw [hW5]
    refine ⟨_, _, hend, rfl, ⟨hVI.put _ _ (by omega) (by omega), ?_, (far_put (by omega)).trans hd5⟩, ?_⟩
    · rw [World.putObj_heap_same (by omega)]
      exact congrArg (fun r => some (Obj.loop r)) HRE.out
    · have hh : ∀ k, w.heap.size < k → k < w.heap.size + 4 → W5.heap[k]? = W.heap[k]? := fun k h1 h2 => (hkeep k h1 (by omega)).trans (HOLD.out k h2)
      exact ⟨(far_put (by omega)).trans (hh _ (by omega) (by omega)), (far_put (by omega)).trans (hh _ (by omega) (by omega)), (far_put (by omega)).trans (hh _ (by omega) (by omega))⟩
  case done =>
    rintro e W ⟨⟨v, rfl⟩, hI, hl, hd⟩
    have hend := run_endLoop (P := Tryz.prog) hl (by rw [hrec]; simp)
    have hpn : (rec .ready none).pending = none := by rw [hrec]
    obtain ⟨o, ho⟩ : ∃ o : Obj, Obj.loop { rec .ready none with state := .exhausted } = o := ⟨_, rfl⟩
    have hend2 : (Instr.endLoop (w.heap.size + 5)).run Tryz.prog W = .ok none (W.putObj (w.heap.size + 5) o) := by rw [hend, ← ho]; simp only [hpn]
    have hd2 := (far_put (W := W) (l := w.heap.size + 5) (o := o) (k := w.heap.size + 4) (by omega)).trans hd
    obtain ⟨⟨u, hO2, hR2⟩, hB2, hs2⟩ := hI.put (w.heap.size + 5) o (by omega) (by omega)
    refine ⟨none, _, hend2, ?_⟩
    obtain ⟨W4, hW4⟩ : ∃ W4, W.putObj (w.heap.size + 5) o = W4 := ⟨_, rfl⟩
    rw [hW4] at hd2 hO2 hR2 hB2 hs2 ⊢
    have c2 : W4.cell? ⟨w.heap.size, 0, none⟩ = some u := by simp [World.cell?, hO2]
    have HD := Aside0.mk hd2; have HR2 := Aside0.mk hR2; have HB2 := Aside0.mk hB2
    clear hend hend2 ho hpn hW4 hl hd hI hd2 hR2 hB2 hO2
    gi_wp2
    refine ⟨by simp, .inl ⟨_, _, rfl, run_takeDeferred HD.out, ?_⟩⟩
    refine ⟨_, results_tmp rfl _ _ _, u, rfl, ?_, ?_⟩
    · have h := Kd.R_lower (base' := w.heap.size) (Kd.R_of_own (ok := fun k => w.heap.size + 5 < k) (h1 := fun _ => rfl) HR2.out (fun k hk => by have := own_base HR2.out k hk; omega)) (by omega)
      exact Kd.R_mono (Kd.R_move h (fun k hk => far_put (by omega))) (fun _ _ => trivial)
    · exact below_put HB2.out (by omega) (by omega)
end Go.Proofs.YtgdlmgdcoedfoaaGreatDoor.Agl
