/- The plain law of scripts: what is put is got again. -/
import Derived.Test.YtojfhlbchiaccaaAwake
namespace Go.Proofs.Ytojfhlbchiaccaa.Reader
open Go.RowKit Go.Proofs.YtojfhlbchiaccaaW.PrintWords Go.Proofs.YtojfhlbchiaccaaW.PrintLast Go.Proofs.YtojfhlbchiaccaaW.PrintMore
set_option linter.unusedVariables false
set_option linter.unusedSimpArgs false

def B8 (l : List Int) : Prop := ∀ x ∈ l, 0 ≤ x ∧ x < 256
theorem bytesOf_strN (l : List Int) (hr : B8 l) : bytesOf (strOfNums l) = l := by
  unfold bytesOf
  rw [strOfNums_data, List.map_map]
  conv => rhs; rw [← List.map_id l]
  refine List.map_congr_left fun x hx => ?_
  obtain ⟨h0, h1⟩ := hr x hx
  have : x.toNat % 256 = x.toNat := Nat.mod_eq_of_lt (by omega)
  simp [this]; omega
theorem bytesOf_B8 (s : ByteArray) : B8 (bytesOf s) := by
  intro x hx
  unfold bytesOf at hx
  obtain ⟨b, _, rfl⟩ := List.mem_map.1 hx
  have := b.toNat_lt
  omega
theorem ba_ext {a b : ByteArray} (h : a.data.toList = b.data.toList) : a = b := by
  cases a; cases b
  simp at h
  congr 1
theorem strN_bytesOf (s : ByteArray) : strOfNums (bytesOf s) = s := by
  apply ba_ext
  rw [strOfNums_data]
  unfold bytesOf
  rw [List.map_map]
  conv => rhs; rw [← List.map_id s.data.toList]
  refine List.map_congr_left fun x _ => ?_
  simp
theorem txt_tb (s : ByteArray) (r : List Int) (hs : s.size ≤ 65535) : txt (tb s ++ r) = bytesOf s ∧ rst (tb s ++ r) = r := by
  have hl := bytesOf_length s
  have hn : num (tb s ++ r) 3 = s.size := by
    unfold tb
    simp only [num, List.cons_append, List.nil_append, List.drop_zero, List.drop_succ_cons, List.headD_cons]
    omega
  have hd : (tb s ++ r).drop 3 = bytesOf s ++ r := by unfold tb; rfl
  have hc : cnt (tb s ++ r) = s.size := by
    unfold cnt
    rw [hn, hd, List.length_append]; omega
  unfold txt rst
  refine ⟨?_, ?_⟩
  · rw [hc, hd, ← hl, List.take_left]
  · rw [hc, ← List.drop_drop, hd, ← hl, List.drop_left]
theorem txt_one (s : ByteArray) (r : List Int) (hs : s.size ≤ 65535) : strOfNums (txt (tb s ++ r)) = s := by rw [(txt_tb s r hs).1, strN_bytesOf]
theorem txtN_tbs : ∀ (l : List (List Int)) (r : List Int), (∀ x ∈ l, x.length ≤ 65535 ∧ B8 x) → txtN l.length (tbs (l.map strOfNums) ++ r) = l ∧ rstN l.length (tbs (l.map strOfNums) ++ r) = r
  | [], r, _ => ⟨rfl, rfl⟩
  | x :: l, r, h => by
    obtain ⟨h1, h2⟩ := h x List.mem_cons_self
    obtain ⟨i1, i2⟩ := txtN_tbs l r (fun y hy => h y (List.mem_cons_of_mem _ hy))
    have e : tbs ((x :: l).map strOfNums) ++ r = tb (strOfNums x) ++ (tbs (l.map strOfNums) ++ r) := by simp [tbs]
    obtain ⟨t1, t2⟩ := txt_tb (strOfNums x) (tbs (l.map strOfNums) ++ r) (by rw [strN_size]; exact h1)
    rw [e]
    simp only [List.length_cons, txtN, rstN]
    rw [t1, t2, i1, i2, bytesOf_strN x h2]
    exact ⟨rfl, rfl⟩
theorem resN_tbs : ∀ (l : List (ByteArray × ByteArray)) (r : List Int), (∀ x ∈ l, x.1.size ≤ 65535 ∧ x.2.size ≤ 65535) → resN l.length (tbs (pairs l) ++ r) = l ∧ rstN (2 * l.length) (tbs (pairs l) ++ r) = r
  | [], r, _ => ⟨rfl, rfl⟩
  | x :: l, r, h => by
    obtain ⟨h1, h2⟩ := h x List.mem_cons_self
    obtain ⟨i1, i2⟩ := resN_tbs l r (fun y hy => h y (List.mem_cons_of_mem _ hy))
    have e : tbs (pairs (x :: l)) ++ r = tb x.1 ++ (tb x.2 ++ (tbs (pairs l) ++ r)) := by
      have : pairs (x :: l) = x.1 :: x.2 :: pairs l := rfl
      rw [this]; simp [tbs]
    obtain ⟨t1, t2⟩ := txt_tb x.1 (tb x.2 ++ (tbs (pairs l) ++ r)) h1
    obtain ⟨u1, u2⟩ := txt_tb x.2 (tbs (pairs l) ++ r) h2
    rw [e]
    refine ⟨?_, ?_⟩
    · simp only [List.length_cons, resN]
      rw [t2, u2, i1, txt_one _ _ h1, txt_one _ _ h2]
    · have : 2 * (x :: l).length = 2 * l.length + 1 + 1 := by simp only [List.length_cons]; omega
      rw [this]
      simp only [rstN]
      rw [t2, u2, i2]
theorem lots_tlot (l : List (List Int)) (r : List Int) (h : ∀ x ∈ l, x.length ≤ 65535 ∧ B8 x) (hl : l.length ≤ 40) : lots (tlot l ++ r) = l ∧ past (tlot l ++ r) = r := by
  have e : tlot l ++ r = (l.length : Int) :: (tbs (l.map strOfNums) ++ r) := rfl
  have hn : ((l.length : Int)).toNat % 41 = l.length := by omega
  obtain ⟨a, b⟩ := txtN_tbs l r h
  unfold lots past
  rw [e, List.headD_cons, List.tail_cons, hn]
  exact ⟨a, b⟩
theorem fl_flags (f1 f2 f4 f8 : Bool) : fl (flagsI f1 f2 f4 f8) 1 = f1 ∧ fl (flagsI f1 f2 f4 f8) 2 = f2 ∧ fl (flagsI f1 f2 f4 f8) 4 = f4 ∧ fl (flagsI f1 f2 f4 f8) 8 = f8 := by
  cases f1 <;> cases f2 <;> cases f4 <;> cases f8 <;> decide +kernel
/-- A script as plain data. -/
structure Sc where
  res : List (ByteArray × ByteArray)
  f1 : Bool
  b : Int
  s3 : ByteArray
  s4 : ByteArray
  s5 : ByteArray
  s6 : ByteArray
  f2 : Bool
  f4 : Bool
  f8 : Bool
  l10 : List (List Int)
  l11 : List (List Int)
def getS (l : List Int) : Sc :=
  ⟨resN (gN l) l.tail, fl ((gP l).headD 0) 1, (gP l).tail.headD 0, strOfNums (txt (gP l).tail.tail), strOfNums (txt (rst (gP l).tail.tail)), strOfNums (txt (rstN 2 (gP l).tail.tail)), strOfNums (txt (rstN 3 (gP l).tail.tail)), fl ((gP l).headD 0) 2, fl ((gP l).headD 0) 4, fl ((gP l).headD 0) 8, lots (rstN 4 (gP l).tail.tail), lots (past (rstN 4 (gP l).tail.tail))⟩
def Sc.put (s : Sc) : List Int := putL s.res s.f1 s.b s.s3 s.s4 s.s5 s.s6 s.f2 s.f4 s.f8 s.l10 s.l11
def Sc.sane (s : Sc) : Bool := saneB s.res s.b s.s3 s.s4 s.s5 s.s6 s.l10 s.l11
/-- What may be, told apart. -/
theorem Sc.sane_iff (s : Sc) : s.sane = true ↔ (s.s3.size ≤ 65535 ∧ s.s4.size ≤ 65535 ∧ s.s5.size ≤ 65535 ∧ s.s6.size ≤ 65535 ∧ 0 ≤ s.b ∧ s.b ≤ 255) ∧ s.res.length ≤ 12 ∧ (∀ x ∈ s.res, x.1.size ≤ 65535 ∧ x.2.size ≤ 65535) ∧ (s.l10.length ≤ 40 ∧ ∀ x ∈ s.l10, x.length ≤ 65535) ∧ (s.l11.length ≤ 40 ∧ ∀ x ∈ s.l11, x.length ≤ 65535) := by
  have hm : ∀ l : List (List Int), mayB l = true ↔ l.length ≤ 40 ∧ ∀ x ∈ l, x.length ≤ 65535 := by
    intro l
    unfold mayB
    rw [Bool.and_eq_true, decide_eq_true_eq, Bool.not_eq_true', List.any_eq_false]
    constructor
    · rintro ⟨h1, h2⟩
      exact ⟨h1, fun x hx => by have := h2 x hx; simp at this; omega⟩
    · rintro ⟨h1, h2⟩
      exact ⟨h1, fun x hx => by have := h2 x hx; simp; omega⟩
  have hr : (!s.res.any (fun x => longS x.1 x.2)) = true ↔ ∀ x ∈ s.res, x.1.size ≤ 65535 ∧ x.2.size ≤ 65535 := by
    rw [Bool.not_eq_true', List.any_eq_false]
    constructor
    · intro h x hx
      have := h x hx
      unfold longS at this
      simp at this; omega
    · intro h x hx
      have := h x hx
      unfold longS
      simp; omega
  unfold Sc.sane saneB
  rw [Bool.and_eq_true, Bool.and_eq_true, Bool.and_eq_true, Bool.and_eq_true, hm, hm, hr, decide_eq_true_eq]
  unfold partsB
  rw [decide_eq_true_eq]
  constructor
  · rintro ⟨⟨⟨⟨a, b⟩, c⟩, d⟩, e⟩; exact ⟨a, b, c, d, e⟩
  · rintro ⟨a, b, c, d, e⟩; exact ⟨⟨⟨⟨a, b⟩, c⟩, d⟩, e⟩
def Sc.B8s (s : Sc) : Prop := (∀ x ∈ s.l10, B8 x) ∧ ∀ x ∈ s.l11, B8 x
/-- WHAT IS PUT IS GOT AGAIN, whatever comes behind it. -/
theorem get_put (s : Sc) (more : List Int) (h : s.sane = true) (hb : s.B8s) : getS (s.put ++ more) = s := by
  obtain ⟨⟨z3, z4, z5, z6, b0, b1⟩, hl, hres, ⟨h10, e10⟩, ⟨h11, e11⟩⟩ := s.sane_iff.1 h
  obtain ⟨res, f1, b, s3, s4, s5, s6, f2, f4, f8, l10, l11⟩ := s
  simp only at *
  have hput : Sc.put ⟨res, f1, b, s3, s4, s5, s6, f2, f4, f8, l10, l11⟩ ++ more = (res.length : Int) :: (tbs (pairs res) ++ (flagsI f1 f2 f4 f8 :: b :: (tb s3 ++ (tb s4 ++ (tb s5 ++ (tb s6 ++ (tlot l10 ++ (tlot l11 ++ more)))))))) := by
    unfold Sc.put putL
    simp [tbs]
  rw [hput]
  obtain ⟨r1, r2⟩ := resN_tbs res (flagsI f1 f2 f4 f8 :: b :: (tb s3 ++ (tb s4 ++ (tb s5 ++ (tb s6 ++ (tlot l10 ++ (tlot l11 ++ more))))))) hres
  have hg : gN ((res.length : Int) :: (tbs (pairs res) ++ (flagsI f1 f2 f4 f8 :: b :: (tb s3 ++ (tb s4 ++ (tb s5 ++ (tb s6 ++ (tlot l10 ++ (tlot l11 ++ more)))))))) ) = res.length := by
    unfold gN; rw [List.headD_cons]; omega
  have hp : gP ((res.length : Int) :: (tbs (pairs res) ++ (flagsI f1 f2 f4 f8 :: b :: (tb s3 ++ (tb s4 ++ (tb s5 ++ (tb s6 ++ (tlot l10 ++ (tlot l11 ++ more)))))))) ) = flagsI f1 f2 f4 f8 :: b :: (tb s3 ++ (tb s4 ++ (tb s5 ++ (tb s6 ++ (tlot l10 ++ (tlot l11 ++ more)))))) := by
    unfold gP; rw [hg, List.tail_cons]; exact r2
  obtain ⟨g1, g2, g4, g8⟩ := fl_flags f1 f2 f4 f8
  have q1 := txt_tb s3 (tb s4 ++ (tb s5 ++ (tb s6 ++ (tlot l10 ++ (tlot l11 ++ more))))) z3
  have q2 := txt_tb s4 (tb s5 ++ (tb s6 ++ (tlot l10 ++ (tlot l11 ++ more)))) z4
  have q3 := txt_tb s5 (tb s6 ++ (tlot l10 ++ (tlot l11 ++ more))) z5
  have q4 := txt_tb s6 (tlot l10 ++ (tlot l11 ++ more)) z6
  obtain ⟨a1, a2⟩ := lots_tlot l10 (tlot l11 ++ more) (fun x hx => ⟨e10 x hx, hb.1 x hx⟩) h10
  obtain ⟨a3, a4⟩ := lots_tlot l11 more (fun x hx => ⟨e11 x hx, hb.2 x hx⟩) h11
  unfold getS
  rw [hp, hg]
  simp only [List.headD_cons, List.tail_cons, rstN]
  rw [q1.2, q2.2, q3.2, q4.2, q1.1, q2.1, q3.1, q4.1, a1, a2, a3, g1, g2, g4, g8, r1]
  simp only [strN_bytesOf]
theorem B8_app {a b : List Int} (ha : B8 a) (hb : B8 b) : B8 (a ++ b) := by
  intro x hx
  rcases List.mem_append.1 hx with h | h
  · exact ha x h
  · exact hb x h
theorem B8_cons {a : Int} {b : List Int} (ha : 0 ≤ a ∧ a < 256) (hb : B8 b) : B8 (a :: b) := by
  intro x hx
  rcases List.mem_cons.1 hx with rfl | h
  · exact ha
  · exact hb x h
theorem tb_B8 (s : ByteArray) : B8 (tb s) := by
  unfold tb
  refine B8_app (B8_cons (by decide) (B8_cons (by omega) (B8_cons (by omega) (fun x hx => by cases hx)))) (bytesOf_B8 s)
theorem tbs_B8 : ∀ l : List ByteArray, B8 (tbs l)
  | [] => fun x hx => by cases hx
  | s :: l => B8_app (tb_B8 s) (tbs_B8 l)
theorem put_B8 (s : Sc) (h : s.sane = true) : B8 s.put := by
  obtain ⟨⟨z3, z4, z5, z6, b0, b1⟩, hl, hres, ⟨h10, e10⟩, ⟨h11, e11⟩⟩ := s.sane_iff.1 h
  have hf : 0 ≤ flagsI s.f1 s.f2 s.f4 s.f8 ∧ flagsI s.f1 s.f2 s.f4 s.f8 < 256 := by
    unfold flagsI; split <;> split <;> split <;> split <;> omega
  unfold Sc.put putL
  refine B8_cons (by omega) (B8_app (B8_app (B8_app (B8_app (tbs_B8 _) (B8_cons hf (B8_cons (by omega) (fun x hx => by cases hx)))) (tbs_B8 _)) ?_) ?_)
  · exact B8_cons (by omega) (tbs_B8 _)
  · exact B8_cons (by omega) (tbs_B8 _)
theorem rst_B8 {l : List Int} (h : B8 l) : B8 (rst l) := fun x hx => h x (List.mem_of_mem_drop hx)
theorem rstN_B8 : ∀ (k : Nat) {l : List Int}, B8 l → B8 (rstN k l)
  | 0, _, h => h
  | k + 1, _, h => rstN_B8 k (rst_B8 h)
theorem tail_B8 {l : List Int} (h : B8 l) : B8 l.tail := fun x hx => h x (List.mem_of_mem_tail hx)
theorem txtN_ok : ∀ (k : Nat) {l : List Int}, B8 l → ∀ x ∈ txtN k l, x.length ≤ 65535 ∧ B8 x
  | 0, _, _, x, hx => by cases hx
  | k + 1, l, h, x, hx => by
    rcases List.mem_cons.1 hx with rfl | hx
    · exact ⟨txt_len l, fun y hy => h y (List.mem_of_mem_drop (List.mem_of_mem_take hy))⟩
    · exact txtN_ok k (rst_B8 h) x hx
theorem resN_ok : ∀ (k : Nat) (l : List Int), ∀ x ∈ resN k l, x.1.size ≤ 65535 ∧ x.2.size ≤ 65535
  | 0, _, x, hx => by cases hx
  | k + 1, l, x, hx => by
    rcases List.mem_cons.1 hx with rfl | hx
    · exact ⟨by rw [strN_size]; exact txt_len _, by rw [strN_size]; exact txt_len _⟩
    · exact resN_ok k _ x hx
theorem head_B8 {l : List Int} (h : B8 l) : 0 ≤ l.headD 0 ∧ l.headD 0 < 256 := by
  cases l with
  | nil => simp
  | cons x l => exact h x List.mem_cons_self
theorem past_B8 {l : List Int} (h : B8 l) : B8 (past l) := rstN_B8 _ (tail_B8 h)
/-- EVERY TEXT OF BYTES IS A SCRIPT THAT MAY BE. -/
theorem getS_sane (l : List Int) (h : B8 l) : (getS l).sane = true ∧ (getS l).B8s := by
  have hP : B8 (gP l) := rstN_B8 _ (tail_B8 h)
  have h4 : B8 (rstN 4 (gP l).tail.tail) := rstN_B8 _ (tail_B8 (tail_B8 hP))
  have hb := head_B8 (tail_B8 hP)
  have hz : ∀ m : List Int, (strOfNums (txt m)).size ≤ 65535 := fun m => by rw [strN_size]; exact txt_len _
  have a0 : (resN (gN l) l.tail).length ≤ 12 := by rw [resN_len]; unfold gN; omega
  obtain ⟨m, hm⟩ : ∃ m, rstN 4 (gP l).tail.tail = m := ⟨_, rfl⟩
  rw [hm] at h4
  have hlot : ∀ m : List Int, B8 m → (lots m).length ≤ 40 ∧ ∀ x ∈ lots m, x.length ≤ 65535 ∧ B8 x := by
    intro m hm
    unfold lots
    exact ⟨by rw [txtN_len]; omega, fun x hx => txtN_ok _ (tail_B8 hm) x hx⟩
  obtain ⟨c1, c2⟩ := hlot m h4
  obtain ⟨d1, d2⟩ := hlot (past m) (past_B8 h4)
  have ek : getS l = ⟨resN (gN l) l.tail, fl ((gP l).headD 0) 1, (gP l).tail.headD 0, strOfNums (txt (gP l).tail.tail), strOfNums (txt (rst (gP l).tail.tail)), strOfNums (txt (rstN 2 (gP l).tail.tail)), strOfNums (txt (rstN 3 (gP l).tail.tail)), fl ((gP l).headD 0) 2, fl ((gP l).headD 0) 4, fl ((gP l).headD 0) 8, lots m, lots (past m)⟩ := by
    unfold getS; rw [hm]
  rw [ek]
  refine ⟨(Sc.sane_iff _).2 ?_, ?_⟩
  · dsimp only
    exact ⟨⟨hz _, hz _, hz _, hz _, hb.1, by omega⟩, a0, resN_ok _ _, ⟨c1, fun x hx => (c2 x hx).1⟩, ⟨d1, fun x hx => (d2 x hx).1⟩⟩
  · unfold Sc.B8s
    dsimp only
    exact ⟨fun x hx => (c2 x hx).2, fun x hx => (d2 x hx).2⟩
end Go.Proofs.Ytojfhlbchiaccaa.Reader
