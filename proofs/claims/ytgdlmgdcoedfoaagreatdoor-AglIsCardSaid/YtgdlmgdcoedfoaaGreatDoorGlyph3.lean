/- glyph.list. glyph.Uni: the plain part and the walk. glyph.Uni: the walk. -/
import Derived.Test.YtgdlmgdcoedfoaaGreatDoorList
import Derived.Test.YtgdlmgdcoedfoaaGreatDoorShelf
import Derived.Test.YtgdlmgdcoedfoaaGreatDoorValues2
namespace Go.Proofs.YtgdlmgdcoedfoaaGreatDoor.Agl
open Go.RowKit Go.Proofs.YtgdlmgdcoedfoaaGreatDoorW.PrintWords Go.Proofs.YtgdlmgdcoedfoaaGreatDoorW.PrintLast Go.Proofs.YtgdlmgdcoedfoaaGreatDoorW.PrintMore
set_option linter.unusedVariables false
set_option linter.unusedSimpArgs false

theorem R_nilA {e base : Nat} {W : World} {ok : Nat → Prop} {v : Value} (h : Kd.R Kd.string e W base ok v []) : ∃ A c, v = .slice A 0 c := by
  obtain ⟨A, c, hv⟩ := Kd.R_slice h
  exact ⟨A, c, hv⟩
theorem R_consA {e base : Nat} {W : World} {ok : Nat → Prop} {v : Value} {l : List ByteArray} (h : Kd.R Kd.string e W base ok v l) (hl : 0 < l.length) :
    ∃ g c, v = .slice (some ⟨g, 0, none⟩) l.length c ∧ l.length ≤ c ∧ ∀ (j : Nat) x, l[j]? = some x → W.cell? ⟨g, 0 + j, none⟩ = some (.string x) := by
  obtain ⟨A, c, rfl, hc, hC⟩ := Kd.R_reads h
  obtain ⟨ad, rfl, _⟩ := Kd.at_string hC 0 (by omega) (by omega)
  obtain ⟨g, rfl⟩ := Kd.R_head h
  refine ⟨g, c, rfl, hc, fun j x hj => ?_⟩
  obtain ⟨hjl, hx⟩ := List.getElem?_eq_some_iff.1 hj
  obtain ⟨ad, he, hcell⟩ := Kd.at_string hC j (by omega) (by omega)
  cases he
  rw [Int.toNat_natCast, add_at] at hcell
  rw [hcell]
  unfold rdOf
  rw [Int.toNat_natCast, List.getD_eq_getElem?_getD, hj]; rfl
theorem lt_of_cell {W : World} {g j : Nat} {v : Value} (h : W.cell? ⟨g, j, none⟩ = some v) : g < W.heap.size := by
  rcases Nat.lt_or_ge g W.heap.size with h' | h'
  · exact h'
  · simp [World.cell?, Array.getElem?_eq_none h'] at h
theorem join41 (v : Value) (l : List ByteArray) (sep : ByteArray) (base : Nat) (ok : Nat → Prop) (W : World) (h : Kd.R Kd.string 9 W base ok v l) (hN : l.length ≤ 1000000) (hlen : (Lib.join (l.map (·.data.toList)) sep.data.toList).length ≤ 140737488355328) :
    Calls Tryz.prog 41 #[v, .string sep] W fun e w' => e = .returned (.string ⟨(Lib.join (l.map (·.data.toList)) sep.data.toList).toArray⟩) ∧ Below W.heap.size W w' := by
  by_cases h0 : l = []
  · subst h0
    obtain ⟨A, c, rfl⟩ := R_nilA h
    refine (Tryz.strings_Join_none A c sep W).mono ?_
    rintro e w' ⟨rfl, rfl⟩
    exact ⟨rfl, Below.refl _ _⟩
  · have hl : 0 < l.length := List.length_pos_iff.2 h0
    obtain ⟨g, c, rfl, hc, hcells⟩ := R_consA h hl
    have hx := hcells 0 l[0] (by simp [hl])
    exact Tryz.strings_Join g 0 c l sep W hcells (lt_of_cell hx) (by omega) hc hlen
def listL : List UInt8 := 32 :: (Lib.join ((part1L ++ part2L).map (·.data.toList)) [32] ++ [32])
def listB : ByteArray := ⟨listL.toArray⟩
theorem parts_len : (part1L ++ part2L).length ≤ 1000 ∧ (Lib.join ((part1L ++ part2L).map (·.data.toList)) [32]).length ≤ 10000 := by decide +kernel
theorem listB_app : (⟨#[32]⟩ : ByteArray) ++ ⟨(Lib.join ((part1L ++ part2L).map (·.data.toList)) [32]).toArray⟩ ++ ⟨#[32]⟩ = listB := by
  unfold listB listL
  apply ByteArray.ext
  rw [ByteArray.data_append, ByteArray.data_append]
  apply Array.ext'
  simp
set_option maxHeartbeats 800000 in
set_option maxRecDepth 100000 in
theorem list48 (w : World) : Calls Tryz.prog 48 #[] w fun e W' => e = .returned (.string listB) ∧ Below w.heap.size w W' := by
  have HPL := Aside0.mk parts_len
  have HAP := Aside0.mk listB_app
  obtain ⟨p1, hp1⟩ : ∃ p, part1L = p := ⟨_, rfl⟩
  obtain ⟨p2, hp2⟩ : ∃ p, part2L = p := ⟨_, rfl⟩
  have P1 := Aside0.mk part72
  have P2 := Aside0.mk part73
  rw [hp1] at P1 HPL HAP
  rw [hp2] at P2 HPL HAP
  clear hp1 hp2
  obtain ⟨L, hL⟩ : ∃ L, listB = L := ⟨_, rfl⟩
  rw [hL] at HAP ⊢
  obtain ⟨j, hj⟩ : ∃ j, (⟨(Lib.join ((p1 ++ p2).map (·.data.toList)) [32]).toArray⟩ : ByteArray) = j := ⟨_, rfl⟩
  rw [hj] at HAP
  have hjs : j.size ≤ 10000 := by rw [← hj]; exact HPL.out.2
  have JN := Aside0.mk (fun (v : Value) (W : World) (base : Nat) (h : Kd.R Kd.string 9 W base (fun _ => True) v (p1 ++ p2)) => hj ▸ join41 v (p1 ++ p2) ⟨#[32]⟩ base (fun _ => True) W h (by have := HPL.out.1; omega) (Nat.le_trans HPL.out.2 (by decide)))
  have hz1 : ¬ 9223372036854775807 < 1 + j.size := by omega
  have hz2 : ¬ 9223372036854775807 < 1 + j.size + 1 := by omega
  have HJS := Aside0.mk hjs
  clear hL hj hjs
  go_enter Tryz.func48, Tryz.ntmps48
  go_wp2_with (first
    | (go_at_call 72; refine (P1.out w).mono ?_; rintro e W1 ⟨v1, rfl, hR1, hb1⟩; obtain ⟨A1, c1, rfl⟩ := Kd.R_slice hR1; have HR1 := Aside0.mk hR1; have HB1 := Aside0.mk hb1; clear hR1 hb1)
    | (go_at_call 73; refine (P2.out W1).mono ?_; rintro e W2 ⟨v2, rfl, hR2, hb2⟩; obtain ⟨A2, c2, rfl⟩ := Kd.R_slice hR2; have HR2 := Aside0.mk hR2; have HB2 := Aside0.mk hb2; clear hR2 hb2)
    | ((with_reducible refine gate_dst (N := 3) rfl ?_); go_loud (refine Kd.R_lit Ts (w0 := w) w.heap.size 26 ?hg (N := 3) ?hd (xs := [p1, p2]) (inner := [.slice A1 p1.length c1, .slice A2 p2.length c2]) (ok := fun _ => True) (okp := fun _ => True) ?hr ?hp (fun _ hk => hk) trivial ?hB ?hs (by simp) ?_; (case hd => rfl); (case hg => rfl); (case hr => first | (go_simp; done) | (go_simp; rfl)); (case hB => exact below_step HB1.out HB2.out); (case hs => exact Nat.le_trans HB1.out.size HB2.out.size); (case hp => exact Reps.one (show Kd.M Ts _ _ _ p1 [.slice A1 p1.length c1] from ⟨_, rfl, Kd.R_below HR1.out HB2.out⟩) (Reps.one (show Kd.M Ts _ _ _ p2 [.slice A2 p2.length c2] from ⟨_, rfl, Kd.R_lower HR2.out HB1.out.size⟩) (Reps.none _ _))); intro v3 w3 ho hb hg hn; obtain ⟨A3, c3, rfl, hc3, hC3⟩ := Kd.R_reads ho; have HC3 := Aside0.mk hC3; have HCC := Aside0.mk hc3; have HB3 := Aside0.mk hb; clear ho hb hg hn hc3 hC3))
    | (go_at_call 71; go_loud (refine (concat71 A3 c3 [p1, p2] w3 HC3.out HCC.out (by simp) ?hz).mono ?_; (case hz => have := HPL.out.1; simp only [List.flatten_cons, List.flatten_nil, List.append_nil]; omega); rintro e W4 ⟨v4, rfl, hR4, hb4⟩; have HR4 := Aside0.mk hR4; have HB4 := Aside0.mk hb4; clear hR4 hb4))
    | (go_at_call 41; go_loud (refine (JN.out v4 W4 w3.heap.size (by have h := HR4.out; simpa using h)).mono ?_; rintro e W5 ⟨rfl, hb5⟩; have HB5 := Aside0.mk hb5; clear hb5)))
  go_ret
  refine ⟨?_, below_step (below_step HB3.out HB4.out) HB5.out⟩
  rw [← HAP.out]; rfl
end Go.Proofs.YtgdlmgdcoedfoaaGreatDoor.Agl
namespace Go.Proofs.YtgdlmgdcoedfoaaGreatDoor.Agl
open Go.RowKit Go.Proofs.YtgdlmgdcoedfoaaGreatDoorW.PrintWords Go.Proofs.YtgdlmgdcoedfoaaGreatDoorW.PrintLast Go.Proofs.YtgdlmgdcoedfoaaGreatDoorW.PrintMore
set_option linter.unusedVariables false
set_option linter.unusedSimpArgs false

/-- What lies in the program's variables. -/
structure Laid (w : World) : Prop where
  size : 10 < w.heap.size
  maxLen : ∃ m, w.cell? ⟨4, 0, none⟩ = some (.int .i64 m)
  tz : w.cell? ⟨10, 15, none⟩ = some (.int .u8 4)
  space : Lib.TabIs Tryz.prog w "strings.asciiSpace" .u8 Lib.asciiSpaceTab
theorem cell_below {w w' : World} {a : Addr} {v : Value} (h : w.cell? a = some v) (hb : Below w.heap.size w w') : w'.cell? a = some v := by
  have lt : a.block < w.heap.size := by
    rcases Nat.lt_or_ge a.block w.heap.size with h' | h'
    · exact h'
    · simp [World.cell?, Array.getElem?_eq_none h'] at h
  exact (hb.cell lt).trans h
theorem tab_below {w w' : World} {n : String} {g : Nat} {k : IntKind} {zs : List Int} (hg : Tryz.prog.globalNamed n = some g) (h : Lib.TabIs Tryz.prog w n k zs) (hb : Below w.heap.size w w') : Lib.TabIs Tryz.prog w' n k zs := by
  have h2 : w.var? Tryz.prog n = some (zs.map fun z => Value.int k z).toArray := h
  show w'.var? Tryz.prog n = _
  unfold World.var? at h2 ⊢
  simp only [hg, Option.bind_some] at h2 ⊢
  rw [hb.block g (by
    rcases Nat.lt_or_ge g w.heap.size with h' | h'
    · exact h'
    · simp [Array.getElem?_eq_none h'] at h2)]
  exact h2
theorem Laid.below {w w' : World} (h : Laid w) (hb : Below w.heap.size w w') : Laid w' :=
  ⟨Nat.lt_of_lt_of_le h.size hb.size, h.maxLen.elim fun m hm => ⟨m, cell_below hm hb⟩, cell_below h.tz hb, tab_below (g := 0) (by kernel_rfl) h.space hb⟩

theorem cut_one (c : UInt8) : ∀ s : List UInt8, (Lib.cut s [c]).1 = s.takeWhile (· != c)
  | [] => rfl
  | b :: l => by
    have ih := cut_one c l
    have hg := Lib.index_ge l [c]
    unfold Lib.cut at ih ⊢
    have e : Lib.index (b :: l) [c] = if (c == b) = true then 0 else if Lib.index l [c] == -1 then -1 else Lib.index l [c] + 1 := by
      simp [Lib.index, List.isPrefixOf]
    rw [e, List.takeWhile_cons]
    by_cases hb : (c == b) = true
    · have : (b != c) = false := by rw [beq_iff_eq] at hb; subst hb; simp
      rw [if_pos hb, if_pos (Int.le_refl 0), this]; rfl
    · have h2 : (b != c) = true := by
        rw [bne_iff_ne]; intro h; exact hb (by rw [h]; simp)
      rw [if_neg hb, h2]
      by_cases hm : (Lib.index l [c] == -1) = true
      · have hm2 : Lib.index l [c] = -1 := by simpa using hm
        rw [if_pos hm, if_neg (by decide)]
        rw [if_neg (by omega)] at ih
        simp only [if_true]
        rw [← ih]
      · have hm2 : Lib.index l [c] ≠ -1 := fun h => hm (by rw [h]; rfl)
        rw [if_neg hm, if_pos (by omega)]
        rw [if_pos (by omega)] at ih
        simp only [if_true]
        rw [← ih]
        show (b :: l).take (Lib.index l [c] + 1).toNat = b :: l.take (Lib.index l [c]).toNat
        rw [show (Lib.index l [c] + 1).toNat = (Lib.index l [c]).toNat + 1 by omega]; rfl
theorem index_occ : ∀ (s sub : List UInt8), 0 ≤ Lib.index s sub → sub.isPrefixOf (s.drop (Lib.index s sub).toNat) = true
  | [], sub, h => by
    unfold Lib.index at h ⊢
    cases sub with
    | nil => rfl
    | cons a t => simp at h
  | b :: l, sub, h => by
    have ih := index_occ l sub
    have hg := Lib.index_ge l sub
    unfold Lib.index at h ⊢
    by_cases hb : sub.isPrefixOf (b :: l) = true
    · rw [if_pos hb]; simpa using hb
    · rw [if_neg hb] at h ⊢
      by_cases hm : (Lib.index l sub == -1) = true
      · rw [if_pos hm] at h; omega
      · have hm2 : Lib.index l sub ≠ -1 := fun h => hm (by rw [h]; rfl)
        rw [if_neg hm] at h ⊢
        rw [show (Lib.index l sub + 1).toNat = (Lib.index l sub).toNat + 1 by omega, List.drop_succ_cons]
        exact ih (by omega)
def okVal (l : List UInt8) : Bool := (pieces l.length l).all fun p => decide (1 ≤ p.length) && decide (p.length ≤ 7) && hexAll p
def okAfter : List UInt8 → Bool
  | [] => true
  | c :: l => (c != 61 || okVal (l.takeWhile (· != 32))) && okAfter l
theorem list_ok : okAfter listL = true := by decide +kernel
theorem listL_len : listL.length ≤ 10002 := by
  have := parts_len.2
  unfold listL
  simp only [List.length_cons, List.length_append, List.length_nil]; omega
theorem okAfter_at : ∀ (l : List UInt8) (p : Nat) (r : List UInt8), okAfter l = true → l.drop p = 61 :: r → okVal (r.takeWhile (· != 32)) = true
  | [], p, r, _, h => by simp at h
  | c :: l, 0, r, h, hd => by
    simp only [List.drop_zero, List.cons.injEq] at hd
    obtain ⟨rfl, rfl⟩ := hd
    unfold okAfter at h
    simpa using (Bool.and_eq_true_iff.1 h).1
  | c :: l, p + 1, r, h, hd => by
    unfold okAfter at h
    exact okAfter_at l p r (Bool.and_eq_true_iff.1 h).2 (by simpa using hd)
def uniL (n : List UInt8) : Option (List Int) :=
  if n = [] ∨ Lib.containsAny n [32, 61] = true then none
  else if (Lib.cut listL (32 :: (n ++ [61]))).2.2 = true then some (valuesL ⟨((Lib.cut listL (32 :: (n ++ [61]))).2.1.takeWhile (· != 32)).toArray⟩) else none
theorem cut_ok (n : List UInt8) (h : (Lib.cut listL (32 :: (n ++ [61]))).2.2 = true) : okVal ((Lib.cut listL (32 :: (n ++ [61]))).2.1.takeWhile (· != 32)) = true := by
  unfold Lib.cut at h ⊢
  by_cases hi : 0 ≤ Lib.index listL (32 :: (n ++ [61]))
  · rw [if_pos hi]
    have ho := index_occ _ _ hi
    obtain ⟨t, ht⟩ := List.isPrefixOf_iff_prefix.1 ho
    refine okAfter_at listL ((Lib.index listL (32 :: (n ++ [61]))).toNat + (n.length + 1)) _ list_ok ?_
    rw [← List.drop_drop, ← ht]
    have e : ∀ k, List.drop ((Lib.index listL (32 :: (n ++ [61]))).toNat + k) listL = (32 :: (n ++ [61]) ++ t).drop k := fun k => by rw [← List.drop_drop, ← ht]
    simp only [e]
    simp
  · rw [if_neg hi] at h; cases h
theorem ok_pieces {s : ByteArray} (h : okVal s.data.toList = true) : ∀ p ∈ pieces s.size s.data.toList, 1 ≤ p.length ∧ p.length ≤ 7 ∧ hexAll p = true := by
  intro p hp
  unfold okVal at h
  rw [data_length] at h
  have := List.all_eq_true.1 h p hp
  simp only [Bool.and_eq_true, decide_eq_true_eq] at this
  exact ⟨this.1.1, this.1.2, this.2⟩
theorem cut_len (s sep : List UInt8) : (Lib.cut s sep).2.1.length ≤ s.length := by
  unfold Lib.cut
  split
  · simp
  · simp
end Go.Proofs.YtgdlmgdcoedfoaaGreatDoor.Agl
namespace Go.Proofs.YtgdlmgdcoedfoaaGreatDoor.Agl
open Go.RowKit Go.Proofs.YtgdlmgdcoedfoaaGreatDoorW.PrintWords Go.Proofs.YtgdlmgdcoedfoaaGreatDoorW.PrintLast Go.Proofs.YtgdlmgdcoedfoaaGreatDoorW.PrintMore
set_option linter.unusedVariables false
set_option linter.unusedSimpArgs false

/-- A string of which ContainsAny(s, " =") is told. -/
def Told (s : ByteArray) : Prop := ∀ w : World, Calls Tryz.prog 49 #[.string s, .string ⟨#[32, 61]⟩] w fun e w' => e = .returned (.bool (Lib.containsAny s.data.toList [32, 61])) ∧ Below w.heap.size w w'
theorem told_ascii (s : ByteArray) (hs : s.size < 4294967281) (ha : ∀ (j : Nat) b, s.data.toList[j]? = some b → b.toNat < 128) : Told s := fun w =>
  Tryz.strings_ContainsAny_laid s ⟨#[32, 61]⟩ w hs (by decide) ha (by intro j b h; match j, h with | 0, h => simp at h; subst h; decide | 1, h => simp at h; subst h; decide)
theorem listB_size : listB.size < 4294967281 := by
  rw [← data_length]; exact Nat.lt_of_le_of_lt listL_len (by decide)
theorem key_eq (s : ByteArray) : ((⟨#[32]⟩ : ByteArray) ++ s ++ ⟨#[61]⟩).data.toList = 32 :: (s.data.toList ++ [61]) := by
  rw [ByteArray.data_append, ByteArray.data_append]; simp
set_option maxHeartbeats 800000 in
set_option maxRecDepth 100000 in
theorem uni28 (s : ByteArray) (w : World) (hs : s.size ≤ 100000) (hT : Told s) (hL : Laid w) :
    Calls Tryz.prog 28 #[.string s] w fun e W' => ∃ (v : Value) (xs : List Int), e = .returned (.tuple #[v, .bool (uniL s.data.toList).isSome]) ∧ Kd.R (Kd.int .i64) 3 W' w.heap.size (fun _ => True) v xs ∧ (∀ ys, uniL s.data.toList = some ys → xs = ys) ∧ Below w.heap.size w W' := by
  have HT := Aside0.mk hT; have HL := Aside0.mk hL
  clear hT hL
  have CUT1 : Aside0 (∀ (t sep : ByteArray) (W : World), Laid W → t.size < 4294967281 → Calls Tryz.prog 30 #[.string t, .string sep] W fun e w' => e = .returned (.tuple #[.string ⟨(Lib.cut t.data.toList sep.data.toList).1.toArray⟩, .string ⟨(Lib.cut t.data.toList sep.data.toList).2.1.toArray⟩, .bool (Lib.cut t.data.toList sep.data.toList).2.2]) ∧ Below W.heap.size W w') := ⟨fun t sep W hl ht => by
    obtain ⟨m, hm⟩ := hl.maxLen
    refine (Tryz.strings_Cut t sep m W ht hm).mono ?_
    rintro e w' ⟨rfl, n, rfl⟩
    exact ⟨rfl, pw_below_drewN (Below.refl _ _) n⟩⟩
  obtain ⟨F, hF⟩ : ∃ F, uniL s.data.toList = F := ⟨_, rfl⟩
  rw [hF]
  unfold uniL at hF
  go_enter Tryz.func28, Tryz.ntmps28
  by_cases h0 : s.data.toList = []
  · have he : s.toList.isEmpty = true := by
      rw [List.isEmpty_iff, ByteArray.toList_eq]; exact h0
    rw [if_pos (.inl h0)] at hF
    subst hF
    go_wp2
    go_ret2
    exact ⟨_, [], rfl, Kd.R_nil _ _ _ _ _, (fun ys h => by cases h), Below.refl _ _⟩
  · have he : s.toList.isEmpty = false := by
      rw [List.isEmpty_eq_false_iff, ByteArray.toList_eq]; exact h0
    have TT := Aside0.mk (HT.out w)
    obtain ⟨c, hc⟩ : ∃ c, Lib.containsAny s.data.toList [32, 61] = c := ⟨_, rfl⟩
    rw [hc] at TT hF
    clear hc
    cases c with
    | true =>
      rw [if_pos (.inr rfl)] at hF
      subst hF
      go_wp2_with (go_at_call 49; refine TT.out.mono ?_; rintro e W1 ⟨rfl, hb⟩; have HB := Aside0.mk hb; clear hb)
      go_ret2
      exact ⟨_, [], rfl, Kd.R_nil _ _ _ _ _, (fun ys h => by cases h), HB.out⟩
    | false =>
      rw [if_neg (by rintro (h | h); exact h0 h; cases h)] at hF
      obtain ⟨key, hk⟩ : ∃ k : ByteArray, (⟨#[32]⟩ : ByteArray) ++ s ++ ⟨#[61]⟩ = k := ⟨_, rfl⟩
      have hkl : key.data.toList = 32 :: (s.data.toList ++ [61]) := by rw [← hk]; exact key_eq s
      rw [← hkl] at hF
      have hok := cut_ok s.data.toList
      rw [← hkl] at hok
      have hln := cut_len listL key.data.toList
      obtain ⟨K, hK⟩ : ∃ K, Lib.cut listL key.data.toList = K := ⟨_, rfl⟩
      have C1 := Aside0.mk (fun W hl => CUT1.out listB key W hl listB_size)
      rw [show listB.data.toList = listL from rfl, hK] at C1
      rw [hK] at hF hok hln
      obtain ⟨K1, K2, K3⟩ := K
      simp only [] at C1 hF hok hln
      have hz1 : ¬ 9223372036854775807 < 1 + s.size := by omega
      have hz2 : ¬ 9223372036854775807 < 1 + s.size + 1 := by omega
      have HS := Aside0.mk hs
      have HOK := Aside0.mk hok; have HF := Aside0.mk hF
      have L1 := Aside0.mk list48
      have HKK := Aside0.mk hk
      clear hs hK hkl hF hok h0
      obtain ⟨lb, hlb⟩ : ∃ l, listB = l := ⟨_, rfl⟩
      rw [hlb] at C1 L1
      clear hlb
      obtain ⟨k1, hk1⟩ : ∃ k : ByteArray, (⟨K1.toArray⟩ : ByteArray) = k := ⟨_, rfl⟩
      obtain ⟨k2, hk2⟩ : ∃ k : ByteArray, (⟨K2.toArray⟩ : ByteArray) = k := ⟨_, rfl⟩
      rw [hk1, hk2] at C1
      have hk2l : k2.data.toList = K2 := by rw [← hk2]
      cases K3 with
      | false =>
        have hF := HF.out
        rw [if_neg (by decide)] at hF
        subst hF
        clear HF HOK hk1 hk2 hk2l hk
        go_wp2_with (first
          | (go_at_call 49; refine TT.out.mono ?_; rintro e W1 ⟨rfl, hb⟩; have HB1 := Aside0.mk hb; clear hb)
          | (go_at_call 48; refine (L1.out W1).mono ?_; rintro e W2 ⟨rfl, hb⟩; have HB2 := Aside0.mk hb; clear hb)
          | (go_at_call 30; rw [HKK.out]; refine (C1.out W2 ((HL.out.below HB1.out).below HB2.out)).mono ?_; rintro e W3 ⟨rfl, hb⟩; have HB3 := Aside0.mk hb; clear hb))
        go_ret2
        exact ⟨_, [], rfl, Kd.R_nil _ _ _ _ _, (fun ys h => by cases h), below_step (below_step HB1.out HB2.out) HB3.out⟩
      | true =>
        have hF := HF.out
        rw [if_pos rfl] at hF
        have hv := HOK.out rfl
        have C2 := Aside0.mk (fun W hl => CUT1.out k2 ⟨#[32]⟩ W hl (by rw [← data_length, hk2l]; have := listL_len; omega))
        rw [show (⟨#[32]⟩ : ByteArray).data.toList = [32] from rfl, hk2l, cut_one] at C2
        have htk : (K2.takeWhile (· != (32 : UInt8))).length ≤ K2.length := (List.takeWhile_sublist _).length_le
        obtain ⟨y, hy⟩ : ∃ y : ByteArray, (⟨(K2.takeWhile (· != 32)).toArray⟩ : ByteArray) = y := ⟨_, rfl⟩
        have hyl : y.data.toList = K2.takeWhile (· != 32) := by rw [← hy]
        rw [hy] at C2 hF
        rw [← hyl] at hv
        have VA := Aside0.mk (fun W => values50 y W (by rw [← data_length, hyl]; have := listL_len; omega) (ok_pieces hv))
        obtain ⟨vs, hvs⟩ : ∃ vs, valuesL y = vs := ⟨_, rfl⟩
        rw [hvs] at VA hF
        subst hF
        obtain ⟨b2, hb2⟩ : ∃ b : ByteArray, (⟨(Lib.cut K2 [32]).2.1.toArray⟩ : ByteArray) = b := ⟨_, rfl⟩
        obtain ⟨b3, hb3⟩ : ∃ b, (Lib.cut K2 [32]).2.2 = b := ⟨_, rfl⟩
        rw [hb2, hb3] at C2
        clear HF HOK hk1 hk2 hk2l hk hv htk hy hyl hvs hb2 hb3 hln
        go_wp2_with (first
          | (go_at_call 49; refine TT.out.mono ?_; rintro e W1 ⟨rfl, hb⟩; have HB1 := Aside0.mk hb; clear hb; have t1 := True.intro; clear TT)
          | (go_at_call 48; refine (L1.out W1).mono ?_; rintro e W2 ⟨rfl, hb⟩; have HB2 := Aside0.mk hb; clear hb)
          | (go_at_call 30; rw [HKK.out]; refine (C1.out W2 ((HL.out.below HB1.out).below HB2.out)).mono ?_; rintro e W3 ⟨rfl, hb⟩; have HB3 := Aside0.mk hb; clear hb C1)
          | (go_at_call 30; refine (C2.out W3 (((HL.out.below HB1.out).below HB2.out).below HB3.out)).mono ?_; rintro e W4 ⟨rfl, hb⟩; have HB4 := Aside0.mk hb; clear hb)
          | (go_at_call 50; refine (VA.out W4).mono ?_; rintro e W5 ⟨v5, rfl, hR, hb⟩; have HR := Aside0.mk hR; have HB5 := Aside0.mk hb; clear hR hb))
        go_ret2
        have HB := below_step (below_step (below_step HB1.out HB2.out) HB3.out) HB4.out
        exact ⟨_, _, rfl, Kd.R_lower HR.out HB.size, (fun ys h => by cases h; rfl), below_step HB HB5.out⟩
end Go.Proofs.YtgdlmgdcoedfoaaGreatDoor.Agl
