/- The writer of package script. -/
import Derived.Test.YtojfhlbchiaccaaReader2
namespace Go.Proofs.Ytojfhlbchiaccaa.Reader
open Go.RowKit Go.Proofs.YtojfhlbchiaccaaW.PrintWords Go.Proofs.YtojfhlbchiaccaaW.PrintLast Go.Proofs.YtojfhlbchiaccaaW.PrintMore
attribute [local go_sem] max2_int min2_int max_two min_two max_three min_three max_four min_four   -- for this text's walks alone
set_option linter.unusedVariables false
set_option linter.unusedSimpArgs false

/-- Block g holds a row of one's own: the bytes that are written. -/
def Wr (g base : Nat) (xs : List Int) (W : World) : Prop := base ≤ g ∧ ∃ v, W.heap[g]? = some (.cells #[v] 55 (0, 0)) ∧ W.ownsRow base 5 1 v xs.length (encs (Value.int .u8) xs)
/-- A text as bytes. -/
def tb (s : ByteArray) : List Int := [0, ((s.size : Int) / 256) % 256, (s.size : Int) % 256] ++ bytesOf s
def tbs : List ByteArray → List Int
  | [] => []
  | s :: r => tb s ++ tbs r
theorem tbs_snoc (l : List ByteArray) (s : ByteArray) : tbs (l ++ [s]) = tbs l ++ tb s := by
  induction l with
  | nil => simp [tbs]
  | cons x l ih => simp [tbs, ih]
theorem alloc_cells2 (W : World) (o : Obj) : (W.alloc o).heap[W.heap.size]? = some o := by show (W.heap.push o)[W.heap.size]? = _; simp
theorem alloc_size2 (W : World) (o : Obj) : (W.alloc o).heap.size = W.heap.size + 1 := by show (W.heap.push o).size = _; simp
theorem at_cells2 {W : World} {D T : Nat} {cs : Array Value} (h : W.heap[D]? = some (.cells cs T (0, 0))) (j : Nat) (v : Value) (hv : cs[j]? = some v) : W.cell? ⟨D, j, none⟩ = some v ∧ W.frozen? ⟨D, j, none⟩ = false :=
  ⟨by simp [World.cell?, h, hv], by simp [World.frozen?, h]⟩
theorem set_cells2 {W : World} {D T : Nat} {cs : Array Value} (h : W.heap[D]? = some (.cells cs T (0, 0))) (j : Nat) (v : Value) : (W.setCell ⟨D, j, none⟩ v).heap[D]? = some (.cells (cs.setIfInBounds j v) T (0, 0)) := by
  simp [World.setCell, Array.getElem?_modify, h]
theorem far_set2 {W : World} {Z o j : Nat} {v : Value} (h : j ≠ Z) : (W.setCell ⟨Z, o, none⟩ v).heap[j]? = W.heap[j]? := Below.heap_setCell W ⟨Z, o, none⟩ v j h
theorem own_ne {W : World} {base s T : Nat} {v : Value} {n : Nat} {zs : List Value} {cs : Array Value} (h : W.ownsRow base 5 1 v n zs) (hs : W.heap[s]? = some (.cells cs T (0, 0))) (hT : T ≠ 5) : some s ≠ v.ownBlock := by
  intro he
  obtain ⟨cells, hc⟩ := own_typed h s he.symm
  rw [hs] at hc
  simp at hc
  exact hT hc.2
theorem info5w : ∃ i, Try.prog.info? 5 = some i ∧ i.zero = some (.int .u8 0) ∧ i.size = 1 ∧ i.bytes = 1 := by
  have h := info5
  obtain ⟨i, hi, he⟩ := Option.map_eq_some_iff.1 h
  simp only [Prod.mk.injEq] at he
  exact ⟨i, hi, he.1, he.2.1, he.2.2⟩
theorem own_slice {W : World} {base : Nat} {v : Value} {n : Nat} {zs : List Value} (h : W.ownsRow base 5 1 v n zs) : ∃ A c, v = .slice A n c := by
  rcases h.2 with ⟨rfl, rfl⟩ | ⟨g, cap, cur, rfl, _⟩
  · exact ⟨_, _, rfl⟩
  · exact ⟨_, _, rfl⟩
theorem own_store {g base : Nat} {zs : List Value} {n : Nat} {W1 W2 : World} {v v' : Value} (hg : W1.heap[g]? = some (.cells #[v] 55 (0, 0))) (ho : W2.ownsRow base 5 1 v' n zs) (hgb : W1.grownBy W2 v.ownBlock) (hne : some g ≠ v.ownBlock) :
    W2.heap[g]? = some (.cells #[v] 55 (0, 0)) ∧ (W2.setCell ⟨g, 0, none⟩ v').heap[g]? = some (.cells #[v'] 55 (0, 0)) ∧ (W2.setCell ⟨g, 0, none⟩ v').ownsRow base 5 1 v' n zs := by
  have h2 := (hgb.block g (lt_of_block hg) hne).trans hg
  have hne2 := own_ne ho h2 (by decide)
  refine ⟨h2, set_cells2 h2 0 v', own_move ho (fun k hk => far_set2 (fun e => hne2 (by rw [hk, e])))⟩
theorem encs_str (t : ByteArray) : Go.Lib.strCells t = encs (Value.int .u8) (bytesOf t) := by
  unfold Go.Lib.strCells encs bytesOf; rw [List.map_map]; rfl
theorem set_size2 (W : World) (a : Addr) (v : Value) : (W.setCell a v).heap.size = W.heap.size := by simp [World.setCell]
theorem Wr.put {g base : Nat} {xs ys : List Int} {W W1 W2 : World} {v v' : Value} (hb : base ≤ g) (hg : W1.heap[g]? = some (.cells #[v] 55 (0, 0))) (ho : W2.ownsRow base 5 1 v' ys.length (encs (Value.int .u8) ys)) (hgb : W1.grownBy W2 v.ownBlock) (hne : some g ≠ v.ownBlock) :
    Wr g base ys (W2.setCell ⟨g, 0, none⟩ v') := by
  have h2 := (hgb.block g (lt_of_block hg) hne).trans hg
  have hne2 := own_ne ho h2 (by decide)
  refine ⟨hb, v', set_cells2 h2 0 v', own_move ho (fun k hk => far_set2 (fun e => hne2 (by rw [hk, e])))⟩
set_option maxHeartbeats 4000000 in
set_option maxRecDepth 100000 in
/-- texts: a row of strings of its own block. -/
theorem wtext (g base s : Nat) (l : List ByteArray) (xs : List Int) (W : World) (hW : Wr g base xs W) (hS : W.heap[s]? = some (.cells (l.map Value.string).toArray 9 (0, 0))) (hz : xs.length + (tbs l).length ≤ 100000000) (hbs : base ≤ W.heap.size) :
    Calls Try.prog 25 #[.pointer (some ⟨g, 0, none⟩), .slice (some ⟨s, 0, none⟩) l.length l.length] W fun e W' => e = .returned (.tuple #[]) ∧ Wr g base (xs ++ tbs l) W' ∧ Below base W W' := by
  have HW := Aside0.mk hW; have HS := Aside0.mk hS; have HZ := Aside0.mk hz
  have hlz : l.length ≤ 100000000 := by
    have : ∀ l : List ByteArray, l.length ≤ (tbs l).length := by
      intro l; induction l with
      | nil => simp [tbs]
      | cons x l ih => simp only [tbs, tb, List.length_append, List.length_cons]; omega
    have := this l; omega
  clear hW hS hz
  go_enter Try.func25, Try.ntmps25
  go_wp2
  go_loopw [8] (fun i wr => ∃ k : Nat, k ≤ l.length ∧ i = .int .i64 k ∧ Wr g base (xs ++ tbs (l.take k)) wr ∧ wr.heap[s]? = some (.cells (l.map Value.string).toArray 9 (0, 0)) ∧ Below base W wr ∧ base ≤ wr.heap.size) (fun i _ => l.length - (intOf i).toNat)
  case atStart => exact ⟨0, Nat.zero_le _, rfl, by simpa [tbs] using HW.out, HS.out, Below.refl _ _, hbs⟩
  case round =>
    obtain ⟨k, hk, rfl, hI, hs, hB, hbw⟩ := hrel
    by_cases hlt : k < l.length
    · obtain ⟨hbg, v, hg, ho⟩ := hI
      obtain ⟨ys, hys⟩ : ∃ ys, xs ++ tbs (l.take k) = ys := ⟨_, rfl⟩
      obtain ⟨t, ht⟩ : ∃ t, l[k] = t := ⟨_, rfl⟩
      have hyz : ys.length + 3 + t.size ≤ 100000000 := by
        have h1 : tbs l = tbs (l.take k) ++ (tb t ++ tbs (l.drop (k + 1))) := by
          conv => lhs; rw [← List.take_append_drop k l, List.drop_eq_getElem_cons hlt, ht]
          have : ∀ (a b : List ByteArray), tbs (a ++ b) = tbs a ++ tbs b := by
            intro a b; induction a with
            | nil => rfl
            | cons x a ih => simp [tbs, ih]
          rw [this]; rfl
        have h2 := HZ.out
        rw [h1] at h2
        have h3 : (tb t).length = 3 + t.size := by unfold tb; simp [bytesOf_length]; omega
        rw [← hys]
        simp only [List.length_append] at h2 ⊢
        omega
      rw [hys] at ho
      have HYS := Aside0.mk hys
      obtain ⟨Av, cv, rfl⟩ := own_slice ho
      obtain ⟨c0, f0⟩ := at_cells2 hg 0 _ rfl
      have cS := (at_cells2 hs k (.string t) (by simp [List.getElem?_eq_getElem hlt, ht])).1
      have HG := Aside0.mk hg; have HO := Aside0.mk ho; have HB := Aside0.mk hB; have HSS := Aside0.mk hs; have HT := Aside0.mk ht
      clear hg ho hB hs ht hys
      obtain ⟨i5, hi5, hz5, hs5, hy5⟩ := info5w
      have HI5 := Aside0.mk (And.intro hi5 (And.intro hz5 (And.intro hs5 hy5)))
      clear hi5 hz5 hs5 hy5
      go_wp2_with (first
        | ((with_reducible refine gate_builtin (b := .append) (xs := #[.tmp 15, .tmp 23]) rfl ?_); at_builtin; go_loud (refine wpList_append_own_at _ rfl (.tmp 15) (.tmp 23) 55 rfl base 5 i5 (.int .u8 0) 1 1 Try.underlying55 HI5.out.1 HI5.out.2.1 HI5.out.2.2.1 HI5.out.2.2.2 rfl (by decide) (.slice Av ys.length cv) ys.length (encs (Value.int .u8) ys) rfl (HO.out.alloc _) ⟨wr.heap.size, 0, none⟩ 3 3 [.int .u8 0, .int .u8 ((t.size : Int) / 256 % 256), .int .u8 ((t.size : Int) % 256)] rfl rfl (World.news_of_block (fr := (0, 0)) (heap_alloc_new wr _)) (by simp only [List.mem_cons, List.not_mem_nil, or_false, forall_eq_or_imp, forall_eq]; exact ⟨rfl, rfl, rfl⟩) (by simp only [maxLen]; omega) (by omega) (by rw [alloc_size2]; omega) ?_; intro v1 w1 hown1 hg1 _ hat1; have hga := (Below.heap_alloc wr (.cells #[.int .u8 0, .int .u8 ((t.size : Int) / 256 % 256), .int .u8 ((t.size : Int) % 256)] 5) g (lt_of_block HG.out)).trans HG.out; obtain ⟨q1, q2, q3⟩ := own_store hga hown1 hg1 (own_ne HO.out HG.out (by decide)); obtain ⟨A1, c1, rfl⟩ := own_slice hown1; obtain ⟨cc1, ff1⟩ := at_cells2 q1 0 _ rfl; have HQ2 := Aside0.mk q2; have HQ3 := Aside0.mk q3; have HG1 := Aside0.mk hg1; have HOW1 := Aside0.mk hown1; clear q1 q2 q3 hg1 hown1 hat1 hga))
        | ((with_reducible refine gate_builtin (b := .append) (xs := #[.tmp 29, .tmp 30]) rfl ?_); at_builtin; go_loud (refine Go.Lib.wpList_append_own_string (w := w1.setCell ⟨g, 0, none⟩ (.slice A1 (ys.length + 3) c1)) rfl (.tmp 29) (.tmp 30) 55 9 rfl base 5 i5 Try.underlying55 Try.underlying9 HI5.out.1 HI5.out.2.1 HI5.out.2.2.1 HI5.out.2.2.2 (.slice A1 (ys.length + 3) c1) (ys.length + 3) _ rfl HQ3.out t rfl (by simp only [maxLen]; omega) (by omega) (by have := HG1.out.size; rw [alloc_size2] at this; rw [set_size2]; omega) ?_; intro v2 w2 hown2 hg2 _; obtain ⟨q1, q2, q3⟩ := own_store HQ2.out hown2 hg2 (own_ne HQ3.out HQ2.out (by decide)); obtain ⟨A2, c2, rfl⟩ := own_slice hown2; obtain ⟨cc2, ff2⟩ := at_cells2 q1 0 _ rfl; have HP2 := Aside0.mk q2; have HP3 := Aside0.mk q3; have HG2 := Aside0.mk hg2; clear q1 q2 q3 hg2 hown2)))
      go_roundw
      case rel =>
        have hs1 := HG1.out.size
        have hs2 := HG2.out.size
        rw [alloc_size2] at hs1
        rw [set_size2] at hs2
        have hlen : (encs (Value.int .u8) ys ++ [.int .u8 0, .int .u8 ((t.size : Int) / 256 % 256), .int .u8 ((t.size : Int) % 256)] ++ Go.Lib.strCells t) = encs (Value.int .u8) (ys ++ tb t) := by
          rw [encs_str]; unfold tb; simp [encs]
        have hln : (ys ++ tb t).length = ys.length + 3 + t.size := by
          unfold tb; simp [bytesOf_length]; omega
        have hne1 := own_ne HO.out HSS.out (by decide)
        have hne2 := own_ne HQ3.out (s := s) (T := 9) (cs := (l.map Value.string).toArray) ?hs1 (by decide)
        case hs1 =>
          by_cases hsg : s = g
          · exfalso; subst hsg; have := HG.out; rw [HSS.out] at this; simp at this
          · rw [far_set2 hsg, HG1.out.block s (by rw [alloc_size2]; have := lt_of_block HSS.out; omega) hne1, Below.heap_alloc _ _ _ (lt_of_block HSS.out)]; exact HSS.out
        have hsg : s ≠ g := by
          intro hsg; subst hsg; have := HG.out; rw [HSS.out] at this; simp at this
        refine ⟨k + 1, by omega, by go_num, ⟨hbg, _, HP2.out, ?_⟩, ?_, ?_, ?_⟩
        · have : xs ++ tbs (l.take (k + 1)) = ys ++ tb t := by rw [List.take_succ_eq_append_getElem hlt, tbs_snoc, HT.out, ← List.append_assoc, HYS.out]
          rw [this, hln, ← hlen]; exact HP3.out
        · rw [far_set2 hsg, HG2.out.block s (by rw [set_size2]; have := lt_of_block HSS.out; omega) hne2, far_set2 hsg, HG1.out.block s (by rw [alloc_size2]; have := lt_of_block HSS.out; omega) hne1, Below.heap_alloc _ _ _ (lt_of_block HSS.out)]; exact HSS.out
        · refine Below.setCell ?_ (by show base ≤ g; exact hbg) _
          refine Below.grown ?_ HG2.out (by rw [set_size2]; omega) (fun j hj => own_base HQ3.out j hj)
          refine Below.setCell ?_ (by show base ≤ g; exact hbg) _
          exact Below.grown (HB.out.alloc hbw _) HG1.out (by rw [alloc_size2]; omega) (fun j hj => own_base HO.out j hj)
        · rw [set_size2]; omega
      case measure => simp [intOf]; omega
    · obtain rfl : k = l.length := by omega
      rw [List.take_length] at hI
      have HI := Aside0.mk hI; have HB := Aside0.mk hB
      clear hI hB hs
      go_wp2
      go_end0
      exact ⟨rfl, HI.out, HB.out⟩
end Go.Proofs.Ytojfhlbchiaccaa.Reader
