/- Plain laws on scripts, as the printed functions tell them. -/
import Derived.Test.YtojfhlbchiaccaaLaw
import Derived.Test.YtojfhlbchiaccaaPrint3
import Derived.Test.YtojfhlbchiaccaaPrint9
import Derived.Test.YtojfhlbchiaccaaPrint10
namespace Go.Proofs.Ytojfhlbchiaccaa.Plain
open Go.RowKit Go.Proofs.Ytojfhlbchiaccaa.Print Go.Proofs.YtojfhlbchiaccaaW.PrintWords Go.Proofs.YtojfhlbchiaccaaW.PrintLast
set_option linter.unusedVariables false
set_option linter.unusedSimpArgs false

theorem wrap_nat (i : Nat) (h : i < 4611686018427387904) : wrap64 ((i : Int) + 1) = ((i + 1 : Nat) : Int) := by unfold wrap64; omega
theorem texts_same_from (l : List (List Int)) (hl : l.length ≤ 1000000) (d : Nat) : ∀ (k i : Nat), i + d = l.length → d < k → hornbookref23_Texts.l0 k l l (i : Int) = some true := by
  induction d with
  | zero =>
    intro k i hi hk
    obtain ⟨k, rfl⟩ : ∃ m, k = m + 1 := ⟨k - 1, by omega⟩
    simp only [hornbookref23_Texts.l0]
    rw [if_neg (by omega)]
  | succ d ih =>
    intro k i hi hk
    obtain ⟨k, rfl⟩ : ∃ m, k = m + 1 := ⟨k - 1, by omega⟩
    simp only [hornbookref23_Texts.l0]
    rw [if_pos (by omega), if_pos (by omega), if_pos (by omega), if_pos trivial, wrap_nat i (by omega)]
    exact ih k (i + 1) (by omega) (by omega)
theorem texts_same (l : List (List Int)) (hl : l.length ≤ 1000000) (k : Nat) (hk : l.length < k) : hornbookref23_Texts.f k l l = some true := by
  unfold hornbookref23_Texts.f
  rw [if_pos rfl]
  exact texts_same_from l hl l.length k 0 (by omega) hk
theorem same_from (l : List S54) (b : Bool) (n : Int) (s3 s4 s5 s6 : ByteArray) (f2 f4 f8 : Bool) (l10 l11 : List (List Int)) (hl : l.length ≤ 1000000) (h10 : l10.length ≤ 1000000) (h11 : l11.length ≤ 1000000) (d : Nat) :
    ∀ (k i : Nat), i + d = l.length → d + l10.length + l11.length + 1 < k → hornbookref23_Same.l0 k (i : Int) l b n s3 s4 s5 s6 f2 f4 f8 l10 l11 l b n s3 s4 s5 s6 f2 f4 f8 l10 l11 = some true := by
  induction d with
  | zero =>
    intro k i hi hk
    obtain ⟨k, rfl⟩ : ∃ m, k = m + 1 := ⟨k - 1, by omega⟩
    simp only [hornbookref23_Same.l0]
    rw [if_neg (by omega), texts_same l10 h10 k (by omega), texts_same l11 h11 k (by omega)]
    rfl
  | succ d ih =>
    intro k i hi hk
    obtain ⟨k, rfl⟩ : ∃ m, k = m + 1 := ⟨k - 1, by omega⟩
    simp only [hornbookref23_Same.l0]
    rw [if_pos (by omega), if_pos (by omega), if_pos (by omega), if_neg (by simp), wrap_nat i (by omega)]
    exact ih k (i + 1) (by omega) (by omega)
theorem same_same (l : List S54) (b : Bool) (n : Int) (s3 s4 s5 s6 : ByteArray) (f2 f4 f8 : Bool) (l10 l11 : List (List Int)) (hl : l.length ≤ 1000000) (h10 : l10.length ≤ 1000000) (h11 : l11.length ≤ 1000000) (k : Nat) (hk : l.length + l10.length + l11.length + 2 < k) :
    hornbookref23_Same.f k l b n s3 s4 s5 s6 f2 f4 f8 l10 l11 l b n s3 s4 s5 s6 f2 f4 f8 l10 l11 = some true := by
  unfold hornbookref23_Same.f
  rw [if_pos rfl]
  obtain ⟨k, rfl⟩ : ∃ m, k = m + 1 := ⟨k - 1, by omega⟩
  simp only [hornbookref23_Same.j0]
  rw [if_neg (by simp)]
  exact same_from l b n s3 s4 s5 s6 f2 f4 f8 l10 l11 hl h10 h11 l.length k 0 (by omega) (by omega)
def to54 (l : List S48) : List S54 := l.map fun x => ⟨x.f0, x.f1⟩
theorem rd48 (l : List S48) (i : Nat) (h : i < l.length) : rd_T48 l (i : Int) = l[i] := by
  unfold rd_T48; rw [Int.toNat_natCast, List.getD_eq_getElem?_getD, List.getElem?_eq_getElem h]; rfl
theorem planned_from (l : List S48) (b : Bool) (n : Int) (s3 s4 s5 s6 : ByteArray) (f2 f4 f8 : Bool) (l10 l11 : List (List Int)) (hl : l.length ≤ 1000000) (y1 : Bool) (y2 : Int) (y3 y4 y5 y6 : ByteArray) (y7 y8 y9 : Bool) (d : Nat) :
    ∀ (k i : Nat) (o : List S54), i + d = l.length → o = to54 (l.take i) → d < k → hornbooklaw23_planned.l0 k (i : Int) l b n s3 s4 s5 s6 f2 f4 f8 l10 l11 o y1 y2 y3 y4 y5 y6 y7 y8 y9 l10 l11 = some (to54 l, b, n, s3, s4, s5, s6, f2, f4, f8, l10, l11) := by
  induction d with
  | zero =>
    intro k i o hi ho hk
    obtain ⟨k, rfl⟩ : ∃ m, k = m + 1 := ⟨k - 1, by omega⟩
    simp only [hornbooklaw23_planned.l0]
    rw [if_neg (by omega), ho, List.take_of_length_le (by omega)]
  | succ d ih =>
    intro k i o hi ho hk
    obtain ⟨k, rfl⟩ : ∃ m, k = m + 1 := ⟨k - 1, by omega⟩
    have hlt : i < l.length := by omega
    have hol : o.length = i := by rw [ho]; unfold to54; rw [List.length_map, List.length_take]; omega
    simp only [hornbooklaw23_planned.l0]
    rw [if_pos (by omega), if_pos (by omega), if_pos (by omega), wrap_nat i (by omega), rd48 l i hlt]
    refine ih k (i + 1) _ (by omega) ?_ (by omega)
    rw [ho]; unfold to54
    rw [List.take_succ_eq_append_getElem hlt, List.map_append]; rfl
theorem planned_ev (l : List S48) (b : Bool) (n : Int) (s3 s4 s5 s6 : ByteArray) (f2 f4 f8 : Bool) (l10 l11 : List (List Int)) (hl : l.length ≤ 1000000) (k : Nat) (hk : l.length < k) :
    hornbooklaw23_planned.f k l b n s3 s4 s5 s6 f2 f4 f8 l10 l11 = some (to54 l, b, n, s3, s4, s5, s6, f2, f4, f8, l10, l11) := by
  unfold hornbooklaw23_planned.f
  exact planned_from l b n s3 s4 s5 s6 f2 f4 f8 l10 l11 hl _ _ _ _ _ _ _ _ _ l.length k 0 [] (by omega) rfl hk
/-- Get, as the printed function tells it. -/
theorem get_ev (l : List Int) (h : Reader.B8 l) : script_Get.f l = some (res48 (Reader.getS l).res, (Reader.getS l).f1, (Reader.getS l).b, (Reader.getS l).s3, (Reader.getS l).s4, (Reader.getS l).s5, (Reader.getS l).s6, (Reader.getS l).f2, (Reader.getS l).f4, (Reader.getS l).f8, (Reader.getS l).l10, (Reader.getS l).l11) := by
  unfold script_Get.f
  rw [if_pos (List.all_eq_true.2 fun x hx => decide_eq_true (h x hx))]
  unfold Reader.getS
  dsimp only
theorem un48 (l : List (ByteArray × ByteArray)) : (res48 l).map (fun x => (x.f0, x.f1)) = l := by
  unfold res48
  rw [List.map_map]
  conv => rhs; rw [← List.map_id l]
  exact List.map_congr_left fun x _ => rfl
theorem sane_ev (s : Reader.Sc) : script_Sane.f (res48 s.res) s.f1 s.b s.s3 s.s4 s.s5 s.s6 s.f2 s.f4 s.f8 s.l10 s.l11 = some s.sane := by
  unfold script_Sane.f Reader.Sc.sane
  rw [un48]
theorem put_ev (s : Reader.Sc) (h : s.sane = true) : script_Put.f (res48 s.res) s.f1 s.b s.s3 s.s4 s.s5 s.s6 s.f2 s.f4 s.f8 s.l10 s.l11 = some s.put := by
  unfold script_Put.f
  rw [un48]
  rw [if_pos (show Reader.saneB s.res s.b s.s3 s.s4 s.s5 s.s6 s.l10 s.l11 = true from h)]
  rfl
theorem put_ev_not (s : Reader.Sc) (h : s.sane = false) : script_Put.f (res48 s.res) s.f1 s.b s.s3 s.s4 s.s5 s.s6 s.f2 s.f4 s.f8 s.l10 s.l11 = some [] := by
  unfold script_Put.f
  rw [un48]
  rw [if_neg (show ¬ Reader.saneB s.res s.b s.s3 s.s4 s.s5 s.s6 s.l10 s.l11 = true from Bool.eq_false_iff.1 h)]
end Go.Proofs.Ytojfhlbchiaccaa.Plain
