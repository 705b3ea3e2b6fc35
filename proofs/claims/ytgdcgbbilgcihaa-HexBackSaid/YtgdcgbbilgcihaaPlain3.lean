/- Plain laws on codes: whether one may be, its bytes, the code of bytes, its text. -/
import Derived.Test.YtgdcgbbilgcihaaPlain2
import Derived.Test.YtgdcgbbilgcihaaPrint6
namespace Go.Proofs.Ytgdcgbbilgcihaa.Plain
open Go.RowKit Go.Proofs.Ytgdcgbbilgcihaa.Print Go.Proofs.YtgdcgbbilgcihaaW.PrintWords Go.Proofs.YtgdcgbbilgcihaaW.PrintLast Go.Proofs.YtgdcgbbilgcihaaW.PrintMore

def fullB (n : Int) : Int := if n = 1 then 256 else if n = 2 then 65536 else if n = 3 then 16777216 else 4294967296
def saneB (n v : Int) : Bool := decide (1 ≤ n ∧ n ≤ 4 ∧ 0 ≤ v ∧ v < fullB n)
def bytesB (n v : Int) : List Int :=
  if n = 1 then [v % 256] else if n = 2 then [v / 256 % 256, v % 256] else if n = 3 then [v / 65536 % 256, v / 256 % 256, v % 256] else [v / 16777216 % 256, v / 65536 % 256, v / 256 % 256, v % 256]
def codeBytes (n v : Int) : List Int := if saneB n v = true then bytesB n v else []
theorem n_cases {n : Int} (h1 : 1 ≤ n) (h2 : n ≤ 4) : n = 1 ∨ n = 2 ∨ n = 3 ∨ n = 4 := by omega
theorem saneB_iff {n v : Int} : saneB n v = true ↔ 1 ≤ n ∧ n ≤ 4 ∧ 0 ≤ v ∧ v < fullB n := by unfold saneB; simp

theorem sane_prog (n v : Int) : hex_Sane.f n v = some (saneB n v) := by
  unfold hex_Sane.f
  by_cases h1 : n ≥ 1
  · by_cases h2 : n ≤ 4
    · by_cases h3 : v ≥ 0
      · rw [if_pos h1, if_pos h2, if_pos h3]
        have eu : IntKind.u64.wrap (wrap64 (8 * n)) = 8 * n := by
          have e1 : wrap64 (8 * n) = 8 * n := by unfold wrap64; omega
          rw [e1]; unfold IntKind.wrap; simp [IntKind.bits, IntKind.signed]; omega
        rw [eu, if_pos (by omega)]
        congr 1
        unfold saneB shr
        have key : (v / 2 ^ min (8 * n).toNat IntKind.i64.bits == 0) = decide (v < fullB n) := by
          rw [Bool.eq_iff_iff, beq_iff_eq, decide_eq_true_iff]
          rcases n_cases h1 h2 with rfl | rfl | rfl | rfl
          · show v / 256 = 0 ↔ v < 256; omega
          · show v / 65536 = 0 ↔ v < 65536; omega
          · show v / 16777216 = 0 ↔ v < 16777216; omega
          · show v / 4294967296 = 0 ↔ v < 4294967296; omega
        rw [key]
        simp only [decide_eq_decide]
        constructor
        · intro h; exact ⟨by omega, h2, by omega, h⟩
        · intro h; exact h.2.2.2
      · rw [if_pos h1, if_pos h2, if_neg h3]; congr 1; unfold saneB; symm; apply decide_eq_false; omega
    · rw [if_pos h1, if_neg h2]; congr 1; unfold saneB; symm; apply decide_eq_false; omega
  · rw [if_neg h1]; congr 1; unfold saneB; symm; apply decide_eq_false; omega
theorem full_step (k : Nat) (n v i : Int) (h0 : 0 ≤ i) (h1 : i < n) (h2 : i < 4) (hv : 0 ≤ v) (hv1 : v ≤ 16777216) : hornbookref01_Full.l0 (k + 1) n v i = hornbookref01_Full.l0 k n (v * 256) (i + 1) := by
  simp only [hornbookref01_Full.l0]
  rw [if_pos h1, if_pos h2, show wrap64 (v * 256) = v * 256 by unfold wrap64; omega, show wrap64 (i + 1) = i + 1 by unfold wrap64; omega]
theorem full_end (k : Nat) (n v i : Int) (h1 : ¬ i < n) : hornbookref01_Full.l0 (k + 1) n v i = some v := by
  simp only [hornbookref01_Full.l0]; rw [if_neg h1]
theorem full_ref (n : Int) (h1 : 1 ≤ n) (h2 : n ≤ 4) (k : Nat) : hornbookref01_Full.f (k + 6) n = some (fullB n) := by
  unfold hornbookref01_Full.f
  rcases n_cases h1 h2 with rfl | rfl | rfl | rfl
  · rw [full_step _ _ _ _ (by omega) (by omega) (by omega) (by omega) (by omega), full_end _ _ _ _ (by omega)]; rfl
  · rw [full_step _ _ _ _ (by omega) (by omega) (by omega) (by omega) (by omega), full_step _ _ _ _ (by omega) (by omega) (by omega) (by omega) (by omega), full_end _ _ _ _ (by omega)]; rfl
  · rw [full_step _ _ _ _ (by omega) (by omega) (by omega) (by omega) (by omega), full_step _ _ _ _ (by omega) (by omega) (by omega) (by omega) (by omega), full_step _ _ _ _ (by omega) (by omega) (by omega) (by omega) (by omega), full_end _ _ _ _ (by omega)]; rfl
  · rw [full_step _ _ _ _ (by omega) (by omega) (by omega) (by omega) (by omega), full_step _ _ _ _ (by omega) (by omega) (by omega) (by omega) (by omega), full_step _ _ _ _ (by omega) (by omega) (by omega) (by omega) (by omega), full_step _ _ _ _ (by omega) (by omega) (by omega) (by omega) (by omega), full_end _ _ _ _ (by omega)]; rfl
theorem sane_ref (n v : Int) (k : Nat) : hornbookref01_Sane.f (k + 6) n v = some (saneB n v) := by
  unfold hornbookref01_Sane.f
  by_cases h1 : n ≥ 1
  · by_cases h2 : n ≤ 4
    · by_cases h3 : v ≥ 0
      · rw [if_pos h1, if_pos h2, if_pos h3, full_ref n h1 h2, Option.bind_some]
        congr 1; unfold saneB; simp only [decide_eq_decide]
        constructor
        · intro h; exact ⟨by omega, h2, by omega, h⟩
        · intro h; exact h.2.2.2
      · rw [if_pos h1, if_pos h2, if_neg h3]; congr 1; unfold saneB; symm; apply decide_eq_false; omega
    · rw [if_pos h1, if_neg h2]; congr 1; unfold saneB; symm; apply decide_eq_false; omega
  · rw [if_neg h1]; congr 1; unfold saneB; symm; apply decide_eq_false; omega
theorem u64_8 (x : Int) (h0 : 0 ≤ x) (h1 : x ≤ 3) : IntKind.u64.wrap (wrap64 (8 * x)) = 8 * x := by
  have e1 : wrap64 (8 * x) = 8 * x := by unfold wrap64; omega
  rw [e1]; unfold IntKind.wrap; simp [IntKind.bits, IntKind.signed]; omega
theorem bytes_step (k : Nat) (o : List Int) (i n v : Int) (h0 : 0 ≤ i) (h1 : i ≤ 3) (ho : o.length ≤ 4) :
    hex_Bytes.l0 (k + 1) o i n v = hex_Bytes.l0 k (o ++ [(v / 2 ^ (8 * i).toNat) % 256]) (i - 1) n v := by
  simp only [hex_Bytes.l0]
  rw [if_pos (by omega), u64_8 i h0 h1, if_pos (by omega), if_pos (by omega)]
  have ew : wrap64 (i - 1) = i - 1 := by unfold wrap64; omega
  have es : shr .i64 v (8 * i) = v / 2 ^ (8 * i).toNat := by unfold shr; rw [Nat.min_eq_left (by simp [IntKind.bits]; omega)]
  rw [ew, es]
theorem bytes_prog (n v : Int) (k : Nat) : hex_Bytes.f (k + 6) n v = some (codeBytes n v) := by
  unfold hex_Bytes.f codeBytes
  rw [sane_prog, Option.bind_some]
  by_cases hs : saneB n v = true
  · rw [if_pos hs, if_pos hs]
    obtain ⟨h1, h2, h3, h4⟩ := saneB_iff.1 hs
    rcases n_cases h1 h2 with rfl | rfl | rfl | rfl
    · rw [show wrap64 (1 - 1) = 0 by unfold wrap64; omega, bytes_step _ _ _ _ _ (by omega) (by omega) (by simp)]
      simp [hex_Bytes.l0, bytesB]
    · rw [show wrap64 (2 - 1) = 1 by unfold wrap64; omega, bytes_step _ _ _ _ _ (by omega) (by omega) (by simp), show (1 : Int) - 1 = 0 from rfl, bytes_step _ _ _ _ _ (by omega) (by omega) (by simp)]
      simp [hex_Bytes.l0, bytesB]
    · rw [show wrap64 (3 - 1) = 2 by unfold wrap64; omega, bytes_step _ _ _ _ _ (by omega) (by omega) (by simp), show (2 : Int) - 1 = 1 from rfl, bytes_step _ _ _ _ _ (by omega) (by omega) (by simp), show (1 : Int) - 1 = 0 from rfl, bytes_step _ _ _ _ _ (by omega) (by omega) (by simp)]
      simp [hex_Bytes.l0, bytesB]
    · rw [show wrap64 (4 - 1) = 3 by unfold wrap64; omega, bytes_step _ _ _ _ _ (by omega) (by omega) (by simp), show (3 : Int) - 1 = 2 from rfl, bytes_step _ _ _ _ _ (by omega) (by omega) (by simp), show (2 : Int) - 1 = 1 from rfl, bytes_step _ _ _ _ _ (by omega) (by omega) (by simp), show (1 : Int) - 1 = 0 from rfl, bytes_step _ _ _ _ _ (by omega) (by omega) (by simp)]
      simp [hex_Bytes.l0, bytesB]
  · rw [if_neg hs, if_neg hs]
theorem ref_bytes_step (k : Nat) (o : List Int) (v i : Int) (h0 : 0 ≤ i) (h1 : i < o.length) (ho : o.length ≤ 4) (hv : 0 ≤ v) (hv1 : v < 4294967296) :
    hornbookref01_Bytes.l0 (k + 1) o v i = hornbookref01_Bytes.l0 k (o.set i.toNat (v % 256)) (v / 256) (i - 1) := by
  simp only [hornbookref01_Bytes.l0]
  rw [if_pos (by omega), if_pos h0, if_pos h1]
  have ew : wrap64 (i - 1) = i - 1 := by unfold wrap64; omega
  have e1 : (Int.tmod v 256) % 256 = v % 256 := by rw [Int.tmod_eq_emod_of_nonneg hv]; omega
  have e2 : wrap64 (Int.tdiv v 256) = v / 256 := by rw [Int.tdiv_eq_ediv_of_nonneg hv]; unfold wrap64; omega
  rw [ew, e1, e2]
theorem bytes_ref (n v : Int) (k : Nat) : hornbookref01_Bytes.f (k + 6) n v = some (codeBytes n v) := by
  unfold hornbookref01_Bytes.f codeBytes
  rw [sane_ref, Option.bind_some]
  by_cases hs : saneB n v = true
  · rw [if_pos hs, if_pos hs]
    obtain ⟨h1, h2, h3, h4⟩ := saneB_iff.1 hs
    rw [if_pos (by omega), if_pos (by omega)]
    rcases n_cases h1 h2 with rfl | rfl | rfl | rfl
    · simp only [fullB] at h4
      rw [show wrap64 (1 - 1) = 0 by unfold wrap64; omega, show List.replicate (1 : Int).toNat (0 : Int) = [0] from rfl, ref_bytes_step _ _ _ _ (by omega) (by simp) (by simp) h3 (by simp at h4; omega)]
      simp [hornbookref01_Bytes.l0, bytesB]
    · simp [fullB] at h4
      rw [show wrap64 (2 - 1) = 1 by unfold wrap64; omega, show List.replicate (2 : Int).toNat (0 : Int) = [0, 0] from rfl, ref_bytes_step _ _ _ _ (by omega) (by simp) (by simp) h3 (by omega), show (1 : Int) - 1 = 0 from rfl, ref_bytes_step _ _ _ _ (by omega) (by simp) (by simp) (by omega) (by omega)]
      simp [hornbookref01_Bytes.l0, bytesB]
    · simp [fullB] at h4
      rw [show wrap64 (3 - 1) = 2 by unfold wrap64; omega, show List.replicate (3 : Int).toNat (0 : Int) = [0, 0, 0] from rfl, ref_bytes_step _ _ _ _ (by omega) (by simp) (by simp) h3 (by omega), show (2 : Int) - 1 = 1 from rfl, ref_bytes_step _ _ _ _ (by omega) (by simp) (by simp) (by omega) (by omega), show (1 : Int) - 1 = 0 from rfl, ref_bytes_step _ _ _ _ (by omega) (by simp) (by simp) (by omega) (by omega)]
      simp [hornbookref01_Bytes.l0, bytesB]; omega
    · simp [fullB] at h4
      rw [show wrap64 (4 - 1) = 3 by unfold wrap64; omega, show List.replicate (4 : Int).toNat (0 : Int) = [0, 0, 0, 0] from rfl, ref_bytes_step _ _ _ _ (by omega) (by simp) (by simp) h3 (by omega), show (3 : Int) - 1 = 2 from rfl, ref_bytes_step _ _ _ _ (by omega) (by simp) (by simp) (by omega) (by omega), show (2 : Int) - 1 = 1 from rfl, ref_bytes_step _ _ _ _ (by omega) (by simp) (by simp) (by omega) (by omega), show (1 : Int) - 1 = 0 from rfl, ref_bytes_step _ _ _ _ (by omega) (by simp) (by simp) (by omega) (by omega)]
      simp [hornbookref01_Bytes.l0, bytesB]; omega
  · rw [if_neg hs, if_neg hs]

theorem or_256 (v x : Int) (hv : 0 ≤ v) (hv1 : v < 16777216) (hx : 0 ≤ x) (hx1 : x < 256) : Go.bits .or .i64 (v * 256) x = v * 256 + x :=
  bits_join .i64 62 (by decide) (fun n h0 h1 => by rw [IntKind.wrap_i64]; omega) 8 (v * 256) x (by omega) (by omega) (by omega) hx (by omega) (by omega)
def valF (v : Int) (l : List Int) : Int := l.foldl (fun v x => v * 256 + x) v
def bnd : Nat → Int
  | 0 => 1
  | 1 => 256
  | 2 => 65536
  | 3 => 16777216
  | _ => 4294967296
theorem bnd_step (i : Nat) (v x : Int) (hi : i < 4) (hv : 0 ≤ v) (hv1 : v < bnd i) (hx : 0 ≤ x) (hx1 : x < 256) : 0 ≤ v * 256 + x ∧ v * 256 + x < bnd (i + 1) ∧ v < 16777216 := by
  have : i = 0 ∨ i = 1 ∨ i = 2 ∨ i = 3 := by omega
  rcases this with rfl | rfl | rfl | rfl <;> simp only [bnd] at * <;> omega
def valB (l : List Int) : Int × Int × Bool := if 1 ≤ l.length ∧ l.length ≤ 4 then ((l.length : Int), valF 0 l, true) else (0, 0, false)
theorem val_loop (l : List Int) (hr : ∀ x ∈ l, 0 ≤ x ∧ x < 256) (h4 : l.length ≤ 4) (N : Int) (d : Nat) : ∀ (k i : Nat) (v : Int), i + d = l.length → 0 ≤ v → v < bnd i → d < k →
    hex_Val.l0 k l (l.length : Int) (i : Int) N v = some (N, valF v (l.drop i), true) := by
  induction d with
  | zero =>
    intro k i v hi _ _ hk
    obtain ⟨k, rfl⟩ : ∃ m, k = m + 1 := ⟨k - 1, by omega⟩
    simp only [hex_Val.l0]; rw [if_neg (by omega), List.drop_of_length_le (by omega)]; rfl
  | succ d ih =>
    intro k i v hi hv hv1 hk
    obtain ⟨k, rfl⟩ : ∃ m, k = m + 1 := ⟨k - 1, by omega⟩
    have hlt : i < l.length := by omega
    have hx := hr _ (List.getElem_mem hlt)
    obtain ⟨b1, b2, b3⟩ := bnd_step i v l[i] (by omega) hv hv1 hx.1 hx.2
    simp only [hex_Val.l0]
    rw [if_pos (by omega), if_pos (by omega), if_pos (by omega), rd_at l i hlt, show wrap64 ((i : Int) + 1) = ((i + 1 : Nat) : Int) by unfold wrap64; omega, show wrap64 (v * 256) = v * 256 by unfold wrap64; omega, show wrap64 l[i] = l[i] by unfold wrap64; omega, or_256 v _ hv b3 hx.1 hx.2,
      ih k (i + 1) _ (by omega) b1 b2 (by omega), List.drop_eq_getElem_cons hlt]
    rfl
theorem rval_loop (l : List Int) (hr : ∀ x ∈ l, 0 ≤ x ∧ x < 256) (h4 : l.length ≤ 4) (d : Nat) : ∀ (k i : Nat) (v : Int), i + d = l.length → 0 ≤ v → v < bnd i → d < k →
    hornbookref01_Val.l0 k l v (i : Int) = some ((l.length : Int), valF v (l.drop i), true) := by
  induction d with
  | zero =>
    intro k i v hi _ _ hk
    obtain ⟨k, rfl⟩ : ∃ m, k = m + 1 := ⟨k - 1, by omega⟩
    simp only [hornbookref01_Val.l0]; rw [if_neg (by omega), List.drop_of_length_le (by omega)]; rfl
  | succ d ih =>
    intro k i v hi hv hv1 hk
    obtain ⟨k, rfl⟩ : ∃ m, k = m + 1 := ⟨k - 1, by omega⟩
    have hlt : i < l.length := by omega
    have hx := hr _ (List.getElem_mem hlt)
    obtain ⟨b1, b2, b3⟩ := bnd_step i v l[i] (by omega) hv hv1 hx.1 hx.2
    simp only [hornbookref01_Val.l0]
    rw [if_pos (by omega), if_pos (by omega), rd_at l i hlt, show wrap64 ((i : Int) + 1) = ((i + 1 : Nat) : Int) by unfold wrap64; omega, show wrap64 (v * 256) = v * 256 by unfold wrap64; omega, show wrap64 l[i] = l[i] by unfold wrap64; omega, show wrap64 (v * 256 + l[i]) = v * 256 + l[i] by unfold wrap64; omega,
      ih k (i + 1) _ (by omega) b1 b2 (by omega), List.drop_eq_getElem_cons hlt]
    rfl
theorem val_prog (l : List Int) (hr : ∀ x ∈ l, 0 ≤ x ∧ x < 256) (k : Nat) : hex_Val.f (k + 7) l = some (valB l) := by
  unfold hex_Val.f valB
  by_cases h1 : (l.length : Int) < 1
  · rw [if_pos h1, if_neg (by omega)]; simp [hex_Val.j0]
  · rw [if_neg h1]
    by_cases h4 : (l.length : Int) > 4
    · rw [decide_eq_true h4, if_neg (by omega)]; simp [hex_Val.j0]
    · rw [decide_eq_false h4, if_pos (by omega)]
      simp only [hex_Val.j0]
      rw [if_neg (by decide)]
      exact val_loop l hr (by omega) _ l.length (k + 6) 0 0 (by omega) (by omega) (by decide) (by omega)
theorem val_ref (l : List Int) (hr : ∀ x ∈ l, 0 ≤ x ∧ x < 256) (k : Nat) : hornbookref01_Val.f (k + 7) l = some (valB l) := by
  unfold hornbookref01_Val.f valB
  by_cases h1 : (l.length : Int) < 1
  · rw [if_pos h1, if_neg (by omega)]; simp [hornbookref01_Val.j0]
  · rw [if_neg h1]
    by_cases h4 : (l.length : Int) > 4
    · rw [decide_eq_true h4, if_neg (by omega)]; simp [hornbookref01_Val.j0]
    · rw [decide_eq_false h4, if_pos (by omega)]
      simp only [hornbookref01_Val.j0]
      rw [if_neg (by decide)]
      exact rval_loop l hr (by omega) l.length (k + 6) 0 0 (by omega) (by omega) (by decide) (by omega)
theorem bytesB_range (n v : Int) : ∀ x ∈ codeBytes n v, 0 ≤ x ∧ x < 256 := by
  intro x hx
  unfold codeBytes at hx
  split at hx
  · unfold bytesB at hx
    split at hx
    · simp at hx; omega
    · split at hx
      · simp at hx; omega
      · split at hx
        · simp at hx; omega
        · simp at hx; omega
  · simp at hx
theorem codeBytes_len (n v : Int) : (codeBytes n v).length ≤ 4 := by
  unfold codeBytes bytesB
  split
  · split
    · simp
    · split
      · simp
      · split <;> simp
  · simp
def codeText (n v : Int) : ByteArray := if saneB n v = true then ((⟨#[60]⟩ : ByteArray) ++ (⟨(hexOf (codeBytes n v)).toArray⟩ : ByteArray)) ++ (⟨#[62]⟩ : ByteArray) else ⟨#[]⟩
theorem hexA_size (l : List Int) : (⟨(hexOf l).toArray⟩ : ByteArray).size = 2 * l.length := hexOf_len l
theorem text_prog (n v : Int) (k : Nat) : hex_Text.f (k + 6) n v = some (codeText n v) := by
  unfold hex_Text.f codeText
  rw [sane_prog, Option.bind_some]
  by_cases hs : saneB n v = true
  · have hl := codeBytes_len n v
    have hz := hexA_size (codeBytes n v)
    rw [if_pos hs, if_pos hs, bytes_prog, Option.bind_some, hex_ev _ (by omega) (bytesB_range n v), Option.bind_some, if_pos (by omega), if_pos (by omega)]
  · rw [if_neg hs, if_neg hs]
theorem text_ref (n v : Int) : Ev (fun k => hornbookref01_Text.f k n v) (codeText n v) := by
  unfold hornbookref01_Text.f codeText
  refine Ev.bind (a := saneB n v) ⟨6, fun k hk => by obtain ⟨m, rfl⟩ : ∃ m, k = m + 6 := ⟨k - 6, by omega⟩; exact sane_ref n v m⟩ ?_
  by_cases hs : saneB n v = true
  · have hl := codeBytes_len n v
    have hz := hexA_size (codeBytes n v)
    refine Ev.congr (fun k => by rw [if_pos hs]) ?_
    refine Ev.bind (a := codeBytes n v) ⟨6, fun k hk => by obtain ⟨m, rfl⟩ : ∃ m, k = m + 6 := ⟨k - 6, by omega⟩; exact bytes_ref n v m⟩ ?_
    refine Ev.bind (ref_hex_ev _ (by omega) (bytesB_range n v)) ?_
    exact Ev.all fun k => by rw [if_pos (by omega), if_pos (by omega), if_pos hs]
  · refine Ev.congr (fun k => by rw [if_neg hs]) ?_
    rw [if_neg hs]; exact Ev.now _
theorem Ev.from_ {α : Type} {g : Nat → Option α} {r : α} (n : Nat) (h : ∀ k, g (k + n) = some r) : Ev g r :=
  ⟨n, fun k hk => by obtain ⟨m, rfl⟩ : ∃ m, k = m + n := ⟨k - n, by omega⟩; exact h m⟩
theorem mid_text (l : List Int) : ((⟨#[60]⟩ : ByteArray) ++ (⟨(hexOf l).toArray⟩ : ByteArray) ++ (⟨#[62]⟩ : ByteArray)).extract 1 (1 + 2 * l.length) = (⟨(hexOf l).toArray⟩ : ByteArray) := by
  have hl := hexOf_len l
  apply ByteArray.ext
  rw [ByteArray.data_extract, ByteArray.data_append, ByteArray.data_append]
  apply Array.ext'
  rw [Array.toList_extract, Array.toList_append, Array.toList_append]
  rw [List.extract_eq_take_drop]
  show ((([60] ++ hexOf l) ++ [62]).drop 1).take (1 + 2 * l.length - 1) = hexOf l
  show (hexOf l ++ [62]).take (1 + 2 * l.length - 1) = hexOf l
  rw [show 1 + 2 * l.length - 1 = 2 * l.length by omega, ← hl, List.take_left]

def lessI : List Int → List Int → Bool
  | _, [] => false
  | [], _ :: _ => true
  | a :: x, b :: y => decide (a < b) || (decide (a = b) && lessI x y)
def B8 (a : List Int) : Prop := ∀ x ∈ a, 0 ≤ x ∧ x < 256
theorem B8.tail {x : Int} {a : List Int} (h : B8 (x :: a)) : B8 a := fun y hy => h y (List.mem_cons_of_mem _ hy)
theorem strL (a : List Int) : (strOfNums a).toList = a.map fun n => UInt8.ofNat n.toNat := by rw [ByteArray.toList_eq, strOfNums_data]
theorem u8_lt {x y : Int} (hx0 : 0 ≤ x) (hx : x < 256) (hy0 : 0 ≤ y) (hy : y < 256) : decide (UInt8.ofNat x.toNat < UInt8.ofNat y.toNat) = decide (x < y) := by
  simp only [decide_eq_decide]
  rw [UInt8.lt_iff_toNat_lt, UInt8.toNat_ofNat', UInt8.toNat_ofNat', Nat.mod_eq_of_lt (by omega), Nat.mod_eq_of_lt (by omega)]
  omega
theorem u8_eq {x y : Int} (hx0 : 0 ≤ x) (hx : x < 256) (hy0 : 0 ≤ y) (hy : y < 256) : (UInt8.ofNat x.toNat == UInt8.ofNat y.toNat) = decide (x = y) := by
  rw [Bool.eq_iff_iff, beq_iff_eq, decide_eq_true_iff, ← UInt8.toNat_inj, UInt8.toNat_ofNat', UInt8.toNat_ofNat', Nat.mod_eq_of_lt (by omega), Nat.mod_eq_of_lt (by omega)]
  omega
theorem less_str (a b : List Int) (ha : B8 a) (hb : B8 b) : Op.bytesLess (strOfNums a).toList (strOfNums b).toList = lessI a b := by
  rw [strL, strL]
  induction a generalizing b with
  | nil => cases b <;> rfl
  | cons x a ih =>
    cases b with
    | nil => rfl
    | cons y b =>
      have hx := ha x (List.mem_cons_self ..)
      have hy := hb y (List.mem_cons_self ..)
      simp only [List.map_cons, Op.bytesLess, lessI]
      rw [ih b ha.tail hb.tail, u8_lt hx.1 hx.2 hy.1 hy.2, u8_eq hx.1 hx.2 hy.1 hy.2]
theorem str_inj (a b : List Int) (ha : B8 a) (hb : B8 b) (h : (strOfNums a).toList = (strOfNums b).toList) : a = b := by
  rw [strL, strL] at h
  induction a generalizing b with
  | nil => cases b <;> simp_all
  | cons x a ih =>
    cases b with
    | nil => simp at h
    | cons y b =>
      have hx := ha x (List.mem_cons_self ..)
      have hy := hb y (List.mem_cons_self ..)
      simp only [List.map_cons, List.cons.injEq] at h
      have e1 := u8_eq hx.1 hx.2 hy.1 hy.2
      rw [h.1] at e1
      simp only [beq_self_eq_true] at e1
      have e2 : x = y := of_decide_eq_true e1.symm
      rw [e2, ih b ha.tail hb.tail h.2]
theorem valF_less (a b : List Int) (hl : a.length = b.length) (ha : B8 a) (hb : B8 b) : ∀ p q : Int, (valF p a < valF q b ↔ p < q ∨ (p = q ∧ lessI a b = true)) ∧ (valF p a = valF q b ↔ p = q ∧ a = b) := by
  induction a generalizing b with
  | nil =>
    cases b with
    | nil => intro p q; simp [valF, lessI]
    | cons y b => simp at hl
  | cons x a ih =>
    cases b with
    | nil => simp at hl
    | cons y b =>
      intro p q
      have hx := ha x (List.mem_cons_self ..)
      have hy := hb y (List.mem_cons_self ..)
      have h := ih b (by simpa using hl) ha.tail hb.tail (p * 256 + x) (q * 256 + y)
      have e1 : valF p (x :: a) = valF (p * 256 + x) a := rfl
      have e2 : valF q (y :: b) = valF (q * 256 + y) b := rfl
      rw [e1, e2]
      constructor
      · rw [h.1]
        simp only [lessI, Bool.or_eq_true, Bool.and_eq_true, decide_eq_true_iff]
        constructor
        · rintro (h1 | ⟨h1, h2⟩)
          · by_cases hpq : p = q
            · exact .inr ⟨hpq, .inl (by omega)⟩
            · exact .inl (by omega)
          · exact .inr ⟨by omega, .inr ⟨by omega, h2⟩⟩
        · rintro (h1 | ⟨h1, h2 | ⟨h2, h3⟩⟩)
          · exact .inl (by omega)
          · exact .inl (by omega)
          · exact .inr ⟨by omega, h3⟩
      · rw [h.2]
        simp only [List.cons.injEq]
        constructor
        · rintro ⟨h1, h2⟩; exact ⟨by omega, by omega, h2⟩
        · rintro ⟨h1, h2, h3⟩; exact ⟨by omega, h3⟩
theorem valF_code (n v : Int) (h : saneB n v = true) : valF 0 (codeBytes n v) = v := by
  obtain ⟨h1, h2, h3, h4⟩ := saneB_iff.1 h
  unfold codeBytes; rw [if_pos h]
  rcases n_cases h1 h2 with rfl | rfl | rfl | rfl <;> simp [fullB] at h4 <;> simp [bytesB, valF] <;> omega
theorem code_len (n v : Int) (h : saneB n v = true) : ((codeBytes n v).length : Int) = n := by
  obtain ⟨h1, h2, h3, h4⟩ := saneB_iff.1 h
  unfold codeBytes; rw [if_pos h]
  rcases n_cases h1 h2 with rfl | rfl | rfl | rfl <;> simp [bytesB]
theorem hexOf_inj (a b : List Int) (ha : B8 a) (hb : B8 b) (h : (⟨(hexOf a).toArray⟩ : ByteArray) = ⟨(hexOf b).toArray⟩) : a = b := by
  have e1 := scan_hex a ha 0
  have e2 := scan_hex b hb 0
  rw [h, e2] at e1
  have e3 : nibs b = nibs a := (Prod.mk.inj e1).1
  have p1 := pack_nibs a []
  have p2 := pack_nibs b []
  simp only [List.append_nil, pack] at p1 p2
  rw [← p1, ← p2, e3]
theorem codeText_inj (n v u : Int) (h1 : saneB n v = true) (h2 : saneB n u = true) (h : codeText n v = codeText n u) : codeBytes n v = codeBytes n u := by
  unfold codeText at h
  rw [if_pos h1, if_pos h2] at h
  have l1 := code_len n v h1
  have l2 := code_len n u h2
  have m1 := mid_text (codeBytes n v)
  have m2 := mid_text (codeBytes n u)
  rw [show (codeBytes n v).length = (codeBytes n u).length by omega, h, m2] at m1
  exact (hexOf_inj _ _ (bytesB_range n u) (bytesB_range n v) m1).symm
theorem ba_eq_of_toList {a b : ByteArray} (h : a.toList = b.toList) : a = b := by
  rw [ByteArray.toList_eq, ByteArray.toList_eq] at h
  exact ByteArray.ext (Array.ext' h)
end Go.Proofs.Ytgdcgbbilgcihaa.Plain
