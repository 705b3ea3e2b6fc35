/- A script that is a parameter, taken apart: its rows as they are read. -/
import Derived.Test.YtojfhlbchiaccaaReader2
import Derived.Deep.SlicePairs
import Derived.ChangeSlices
import Derived.ProofKit
import Derived.OpenShut
import Derived.Lib.SmallJoins
namespace Go.Proofs.Ytojfhlbchiaccaa.Reader
open Go.RowKit Go.ChangeShapes Go.WideShapes Go.ChangeAt Go.Deep Go.Proofs.YtojfhlbchiaccaaW.PrintWords Go.Proofs.YtojfhlbchiaccaaW.PrintLast Go.Proofs.YtojfhlbchiaccaaW.PrintMore
set_option linter.unusedVariables false
set_option linter.unusedSimpArgs false
section
variable {H : Type} {enc : TypeId × Value → H} {w : World} {base : Nat} {sp : Nat → Bool} {held : Bool}
theorem open_bytes {fuel : Nat} {cs : List Value} {x : DataW H × List MemPlace} (h : DataW.trod enc Try.prog w base sp held fuel 28 cs = some x) :
    ∃ (A : Option Addr) (l : List Int) (c : Nat), cs = [.slice A l.length c] ∧ l.length ≤ c ∧ Kd.C (Kd.int .u8) w A l.length l ∧ ∀ x ∈ l, (Lit.int .u8 x).wf = true := by
  rcases open_ints Try.underlying28 Try.underlying5 (by kernel_rfl) h with ⟨rfl, _⟩ | ⟨a, len, cap, zs, rfl, _, hl, hm, hz, _, hcell, hw⟩
  · exact ⟨none, [], 0, rfl, Nat.le_refl _, Kd.C_nil _ _, by simp⟩
  · have hlen : len ≤ zs.length := by rw [hz]; split <;> omega
    have hlt : (zs.take len).length = len := by rw [List.length_take, Nat.min_eq_left hlen]
    refine ⟨some a, zs.take len, cap, by rw [hlt], by rw [hlt]; exact hl, ?_, fun x hx => hw x (List.mem_of_mem_take hx)⟩
    refine Kd.C_of_reads (d := (0 : Int)) ⟨rfl, by rw [hlt]; simp only [maxLen] at hm; omega, fun _ => ⟨a, rfl, fun j hj => ?_⟩⟩
    rw [hlt] at hj
    rw [hcell j (by omega)]
    congr 2
    rw [List.getD_eq_getElem?_getD, List.getD_eq_getElem?_getD, List.getElem?_take, if_pos hj]
theorem open_lots {fuel : Nat} {cs : List Value} {x : DataW H × List MemPlace} (h : DataW.trod enc Try.prog w base sp held fuel 25 cs = some x) :
    ∃ (A : Option Addr) (l : List (List Int)) (c : Nat), cs = [.slice A l.length c] ∧ l.length ≤ c ∧ Kd.C Tx w A l.length l ∧ ∀ y ∈ l, ∀ x ∈ y, (Lit.int .u8 x).wf = true := by
  rcases open_slice1 Try.underlying25 (by kernel_rfl) h with ⟨rfl, _⟩ | ⟨a, len, cap, m, n, V, D, Pl, rfl, _, hl, hm, hmm, _, hx⟩
  · exact ⟨none, [], 0, rfl, Nat.le_refl _, Kd.C_nil _ _, by simp⟩
  · have hlm : len ≤ m := by rw [hmm]; split <;> omega
    obtain ⟨q, hq⟩ := choose_lt (n := len) (α := Option Addr × List Int × Nat) (p := fun i q => w.cell? (a.add i) = some (.slice q.1 q.2.1.length q.2.2) ∧ q.2.1.length ≤ q.2.2 ∧ Kd.C (Kd.int .u8) w q.1 q.2.1.length q.2.1 ∧ ∀ x ∈ q.2.1, (Lit.int .u8 x).wf = true) (fun i hi => by
      obtain ⟨h1, h2⟩ := hx i (by omega)
      obtain ⟨A, l, c, e, h3, h4, h5⟩ := open_bytes h2
      simp only [List.cons.injEq, and_true] at e
      exact ⟨(A, l, c), by rw [h1, e], h3, h4, h5⟩)
    have hln : ((List.range len).map fun i => (q i).2.1).length = len := by simp
    refine ⟨some a, (List.range len).map fun i => (q i).2.1, cap, by rw [hln], by rw [hln]; exact hl, ⟨rfl, by rw [hln]; simp only [maxLen] at hm; omega, fun _ => ⟨a, rfl, fun j p hj => ?_⟩⟩, ?_⟩
    · have hj2 := (List.getElem?_eq_some_iff.1 hj).1
      rw [hln] at hj2
      have hp : p = (q j).2.1 := by
        rw [List.getElem?_map, List.getElem?_range hj2] at hj
        simpa using hj.symm
      subst hp
      obtain ⟨h1, h2, h3, _⟩ := hq j hj2
      refine ⟨[.slice (q j).1 (q j).2.1.length (q j).2.2], rfl, ⟨_, _, rfl, h2, h3⟩, fun i u hu => ?_⟩
      cases i with
      | zero =>
        have : Value.slice (q j).1 (q j).2.1.length (q j).2.2 = u := by simpa using hu
        subst this
        rw [show Tx.sz = 1 from rfl, Nat.mul_one, Nat.add_zero]; exact h1
      | succ i => simp at hu
    · intro y hy
      obtain ⟨i, hi, rfl⟩ := List.mem_map.1 hy
      exact (hq i (List.mem_range.1 hi)).2.2.2
theorem open_pairs {S : Type} (mk : ByteArray → ByteArray → S) (q : Kd S) (hsz : q.sz = 2) (hqK : ∀ w a b, q.K w (mk a b) [.string a, .string b]) {fuel : Nat} {cs : List Value} {x : DataW H × List MemPlace} (h : DataW.trod enc Try.prog w base sp held fuel 22 cs = some x) :
    ∃ (A : Option Addr) (l : List (ByteArray × ByteArray)) (c : Nat), cs = [.slice A l.length c] ∧ l.length ≤ c ∧ Kd.C q w A l.length (l.map fun x => mk x.1 x.2) := by
  rcases open_slice_pairs Try.underlying22 Try.underlying54 (by kernel_rfl) rfl rfl (by kernel_rfl) (by kernel_rfl) h with ⟨rfl, _⟩ | ⟨a, len, cap, m, n, V0, V1, D0, D1, P0, P1, rfl, _, hl, hm, hmm, _, hx⟩
  · exact ⟨none, [], 0, rfl, Nat.le_refl _, Kd.C_nil _ _⟩
  · have hlm : len ≤ m := by rw [hmm]; split <;> omega
    obtain ⟨r, hq⟩ := choose_lt (n := len) (α := ByteArray × ByteArray) (p := fun i r => w.cell? (a.add (i * 2)) = some (.string r.1) ∧ w.cell? (a.add (i * 2 + 1)) = some (.string r.2)) (fun i hi => by
      obtain ⟨h1, h2, h3, h4⟩ := hx i (by omega)
      obtain ⟨s1, e1, _⟩ := DataW.trod_string Try.underlying9 h3
      obtain ⟨s2, e2, _⟩ := DataW.trod_string Try.underlying9 h4
      simp only [List.cons.injEq, and_true] at e1 e2
      exact ⟨(s1, s2), by rw [h1, e1], by rw [h2, e2]⟩)
    have hln : ((List.range len).map r).length = len := by simp
    refine ⟨some a, (List.range len).map r, cap, by rw [hln], by rw [hln]; exact hl, ⟨by simp, by rw [hln]; simp only [maxLen] at hm; omega, fun _ => ⟨a, rfl, fun j p hj => ?_⟩⟩⟩
    have hj2 := (List.getElem?_eq_some_iff.1 hj).1
    simp only [List.length_map, List.length_range] at hj2
    have hp : p = mk (r j).1 (r j).2 := by
      rw [List.getElem?_map, List.getElem?_map, List.getElem?_range hj2] at hj
      simpa using hj.symm
    subst hp
    obtain ⟨h1, h2⟩ := hq j hj2
    refine ⟨[.string (r j).1, .string (r j).2], by rw [hsz]; rfl, hqK _ _ _, fun i u hu => ?_⟩
    rw [hsz]
    match i, hu with
    | 0, hu =>
      have : Value.string (r j).1 = u := by simpa using hu
      subst this
      rw [Nat.add_zero]; exact h1
    | 1, hu =>
      have : Value.string (r j).2 = u := by simpa using hu
      subst this
      exact h2
theorem open_desc {fuel : Nat} {c1 c2 c3 c4 c5 c6 c7 c8 c9 : Value} {x : DataW H × List MemPlace} (h : DataW.trod enc Try.prog w base sp held fuel 24 [c1, c2, c3, c4, c5, c6, c7, c8, c9] = some x) :
    ∃ (f1 : Bool) (b : Int) (s3 s4 s5 s6 : ByteArray) (f2 f4 f8 : Bool), c1 = .bool f1 ∧ c2 = .int .i64 b ∧ c3 = .string s3 ∧ c4 = .string s4 ∧ c5 = .string s5 ∧ c6 = .string s6 ∧ c7 = .bool f2 ∧ c8 = .bool f4 ∧ c9 = .bool f8 ∧
      (Lit.int .i64 b).wf = true ∧ s3.size ≤ maxLen ∧ s4.size ≤ maxLen ∧ s5.size ≤ maxLen ∧ s6.size ≤ maxLen := by
  obtain ⟨xs, n, _, _, _, hlen, hf⟩ := DataW.trod_struct Try.underlying24 h
  match xs, hlen with
  | [y0, y1, y2, y3, y4, y5, y6, y7, y8], _ =>
    have g0 : DataW.trod enc Try.prog w base sp held n 4 [c1] = some y0 := hf 0 _ rfl
    have g1 : DataW.trod enc Try.prog w base sp held n 3 [c2] = some y1 := hf 1 _ rfl
    have g2 : DataW.trod enc Try.prog w base sp held n 9 [c3] = some y2 := hf 2 _ rfl
    have g3 : DataW.trod enc Try.prog w base sp held n 9 [c4] = some y3 := hf 3 _ rfl
    have g4 : DataW.trod enc Try.prog w base sp held n 9 [c5] = some y4 := hf 4 _ rfl
    have g5 : DataW.trod enc Try.prog w base sp held n 9 [c6] = some y5 := hf 5 _ rfl
    have g6 : DataW.trod enc Try.prog w base sp held n 4 [c7] = some y6 := hf 6 _ rfl
    have g7 : DataW.trod enc Try.prog w base sp held n 4 [c8] = some y7 := hf 7 _ rfl
    have g8 : DataW.trod enc Try.prog w base sp held n 4 [c9] = some y8 := hf 8 _ rfl
    obtain ⟨f1, e1, _⟩ := DataW.trod_bool Try.underlying4 g0
    obtain ⟨b, e2, _, wb⟩ := DataW.trod_int Try.underlying3 g1
    obtain ⟨s3, e3, _, z3⟩ := DataW.trod_string Try.underlying9 g2
    obtain ⟨s4, e4, _, z4⟩ := DataW.trod_string Try.underlying9 g3
    obtain ⟨s5, e5, _, z5⟩ := DataW.trod_string Try.underlying9 g4
    obtain ⟨s6, e6, _, z6⟩ := DataW.trod_string Try.underlying9 g5
    obtain ⟨f2, e7, _⟩ := DataW.trod_bool Try.underlying4 g6
    obtain ⟨f4, e8, _⟩ := DataW.trod_bool Try.underlying4 g7
    obtain ⟨f8, e9, _⟩ := DataW.trod_bool Try.underlying4 g8
    simp only [List.cons.injEq, and_true] at e1 e2 e3 e4 e5 e6 e7 e8 e9
    exact ⟨f1, b, s3, s4, s5, s6, f2, f4, f8, e1, e2, e3, e4, e5, e6, e7, e8, e9, wb, z3, z4, z5, z6⟩
theorem open_script {S : Type} (mk : ByteArray → ByteArray → S) (q : Kd S) (hsz : q.sz = 2) (hqK : ∀ w a b, q.K w (mk a b) [.string a, .string b]) {r : Reach} {b0 : Nat} {v : Value} {d : DataW H} {p : List MemPlace} (hval : Value.okWide Try.prog w r b0 27 v) (h : DataW.Trod enc Try.prog w base sp held 27 v d p) :
    ∃ (A0 : Option Addr) (l0 : List (ByteArray × ByteArray)) (c0 : Nat) (f1 : Bool) (b : Int) (s3 s4 s5 s6 : ByteArray) (f2 f4 f8 : Bool) (A10 : Option Addr) (l10 : List (List Int)) (c10 : Nat) (A11 : Option Addr) (l11 : List (List Int)) (c11 : Nat),
      v = .agg #[.slice A0 l0.length c0, .bool f1, .int .i64 b, .string s3, .string s4, .string s5, .string s6, .bool f2, .bool f4, .bool f8, .slice A10 l10.length c10, .slice A11 l11.length c11] ∧
      l0.length ≤ c0 ∧ Kd.C q w A0 l0.length (l0.map fun x => mk x.1 x.2) ∧ l10.length ≤ c10 ∧ Kd.C Tx w A10 l10.length l10 ∧ l11.length ≤ c11 ∧ Kd.C Tx w A11 l11.length l11 ∧
      (∀ y ∈ l10, ∀ x ∈ y, (Lit.int .u8 x).wf = true) ∧ (∀ y ∈ l11, ∀ x ∈ y, (Lit.int .u8 x).wf = true) ∧ (Lit.int .i64 b).wf = true := by
  obtain ⟨cs, rfl, hcs⟩ := okWide_struct Try.underlying27 hval
  have hC : Try.prog.cellsOf 27 = 12 := by kernel_rfl
  rw [hC] at hcs
  obtain ⟨l⟩ := cs
  match l, hcs with
  | [c0, c1, c2, c3, c4, c5, c6, c7, c8, c9, c10, c11], _ =>
    obtain ⟨fuel, hf⟩ := h
    have hf' : DataW.trod enc Try.prog w base sp held fuel 27 [c0, c1, c2, c3, c4, c5, c6, c7, c8, c9, c10, c11] = some (d, p) := hf
    obtain ⟨y0, y1, y2, y3, n, _, _, g0, g1, g2, g3⟩ := Go.Joins.trod_struct4 Try.underlying27 hf'
    have g0' : DataW.trod enc Try.prog w base sp held n 22 [c0] = some y0 := g0
    have g1' : DataW.trod enc Try.prog w base sp held n 24 [c1, c2, c3, c4, c5, c6, c7, c8, c9] = some y1 := g1
    have g2' : DataW.trod enc Try.prog w base sp held n 25 [c10] = some y2 := g2
    have g3' : DataW.trod enc Try.prog w base sp held n 25 [c11] = some y3 := g3
    obtain ⟨A0, l0, k0, e0, hl0, hc0⟩ := open_pairs mk q hsz hqK g0'
    obtain ⟨f1, b, s3, s4, s5, s6, f2, f4, f8, rfl, rfl, rfl, rfl, rfl, rfl, rfl, rfl, rfl, wb, _, _, _, _⟩ := open_desc g1'
    obtain ⟨A10, l10, k10, e10, hl10, hc10, w10⟩ := open_lots g2'
    obtain ⟨A11, l11, k11, e11, hl11, hc11, w11⟩ := open_lots g3'
    simp only [List.cons.injEq, and_true] at e0 e10 e11
    subst e0 e10 e11
    exact ⟨A0, l0, k0, f1, b, s3, s4, s5, s6, f2, f4, f8, A10, l10, k10, A11, l11, k11, rfl, hl0, hc0, hl10, hc10, hl11, hc11, w10, w11, wb⟩
end
end Go.Proofs.Ytojfhlbchiaccaa.Reader
