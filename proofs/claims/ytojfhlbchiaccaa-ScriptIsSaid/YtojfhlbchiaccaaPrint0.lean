-- made by wip/tools/xprint.py
import Derived.Test.YtojfhlbchiaccaaProg
import Derived.Below
import Derived.Deep.Draws
import Derived.Deep.AppendLies
import Derived.Maps.AppendAt
import Derived.OwnWalk
import Derived.Laws.BytesArg
import Derived.Laws.MakeOwn
import Derived.Laws.OwnMore
import Derived.Deep.OwnRows
import Derived.Tactics
import Derived.Lib.ConvBytes
import Derived.Laws.Slices
import Derived.WalkKit
import Derived.KernelRfl
import Derived.RowKit3
import Derived.Deep.LoopGhost
import Derived.Deep.QuietTactic
import Derived.BigQuiet
import Derived.WideLaws
import Derived.Deep.DeepCutAuto
import Derived.Deep.CutBlock
import Derived.Deep.RegionHeld3
import Derived.Laws.Rows
import Derived.Lib.AppendStr
import Derived.ArgAppend
import Derived.Laws.IdiomCopy
import Derived.OrdersHeld
import Derived.Laws.BitsLemmas
import Derived.RowKit
import Derived.Test.YtojfhlbchiaccaaRef4
import Derived.Test.YtojfhlbchiaccaaRefW
import Derived.Test.YtojfhlbchiaccaaAwake
import Derived.Test.YtojfhlbchiaccaaPutNot
import Derived.Test.YtojfhlbchiaccaaWWords
import Derived.Test.YtojfhlbchiaccaaWLast
import Derived.Test.YtojfhlbchiaccaaWTab
import Derived.Test.YtojfhlbchiaccaaWApart
import Derived.Test.YtojfhlbchiaccaaWFoot
import Derived.Test.YtojfhlbchiaccaaWKept
import Derived.Test.YtojfhlbchiaccaaWShare
import Derived.Test.YtojfhlbchiaccaaWEqStruct
import Derived.Test.YtojfhlbchiaccaaWRepsOne
import Derived.Test.YtojfhlbchiaccaaWGuard
import Derived.Test.YtojfhlbchiaccaaWMore
namespace Go.Proofs.Ytojfhlbchiaccaa.Print
open Go.RowKit Go.Proofs.YtojfhlbchiaccaaW.PrintWords Go.Proofs.YtojfhlbchiaccaaW.PrintLast Go.Proofs.YtojfhlbchiaccaaW.PrintMore
attribute [local go_sem] max2_int min2_int max_two min_two max_three min_three max_four min_four   -- for this text's walks alone
set_option linter.unusedVariables false
set_option linter.unusedSimpArgs false



def errW : Option Int → Value
  | none => .nilIface
  | some c => .iface 0 (.int .i64 c)
theorem errW_none : errW none = .nilIface := rfl
theorem errW_some (c : Int) : errW (some c) = .iface 0 (.int .i64 c) := rfl

theorem info5 : (Try.prog.info? 5).map (fun i => (i.zero, i.size, i.bytes)) = some (some (.int .u8 0), 1, 1) := by kernel_rfl
theorem info28 : (Try.prog.info? 28).map (fun i => (i.zero, i.size, i.bytes)) = some (some (.slice none 0 0), 1, 24) := by kernel_rfl
theorem info48 : (Try.prog.info? 48).map (fun i => (i.zero, i.size, i.bytes)) = some (some (.agg #[(.string ⟨#[]⟩), (.string ⟨#[]⟩)]), 2, 32) := by kernel_rfl
theorem info54 : (Try.prog.info? 54).map (fun i => (i.zero, i.size, i.bytes)) = some (some (.agg #[(.string ⟨#[]⟩), (.string ⟨#[]⟩)]), 2, 32) := by kernel_rfl
theorem info78 : (Try.prog.info? 78).map (fun i => (i.zero, i.size, i.bytes)) = some (some (.agg #[(.bool false), (.int .u8 0)]), 2, 2) := by kernel_rfl
-- the values' own types
/-! #### struct type 48 -/
structure S48 where
  f0 : ByteArray
  f1 : ByteArray
def z48 : S48 := ⟨(⟨#[]⟩ : ByteArray), (⟨#[]⟩ : ByteArray)⟩
def k48 : Kd S48 := Kd.iso (Kd.pair Kd.string Kd.string) (fun x : S48 => (x.f0, x.f1))
theorem k48_heap : Kd.Heap k48 := Kd.heap_iso _ (Kd.heap_pair Kd.heap_string Kd.heap_string)
theorem k48_open {w : World} {x : S48} {cs : List Value} (h : k48.K w x cs) : cs = [.string x.f0, .string x.f1] := by
  obtain ⟨_, _, rfl, rfl, rfl⟩ := h
  exact rfl
theorem k48_openM {w : World} {base : Nat} {ok : Nat → Prop} {x : S48} {cs : List Value} (h : k48.M w base ok x cs) : cs = [.string x.f0, .string x.f1] := by
  obtain ⟨_, _, rfl, rfl, rfl⟩ := h
  exact rfl
theorem k48_mk (w : World) (x : S48)  : k48.K w x [.string x.f0, .string x.f1] := ⟨[.string x.f0], [.string x.f1], rfl, rfl, rfl⟩
theorem k48_mkM (w : World) (base : Nat) (ok : Nat → Prop) (x : S48)  : k48.M w base ok x [.string x.f0, .string x.f1] := ⟨[.string x.f0], [.string x.f1], rfl, rfl, rfl⟩
theorem k48_mkF (W : World) (ok : Nat → Prop) (x : S48) : Kd.FK k48 W ok x [.string x.f0, .string x.f1] := fun W2 _ => k48_mk W2 x
def rd_T48 (xs : List S48) (i : Int) : S48 := xs.getD i.toNat z48
theorem at_T48 {w : World} {A : Option Addr} {n : Nat} {xs : List S48} (h : Kd.C k48 w A n xs) (i : Int) (h0 : 0 ≤ i) (h1 : i < n) : ∃ ad , A = some ad ∧ w.cell? (ad.add (i.toNat * 2)) = some (.string (rd_T48 xs i).f0) ∧ w.cell? ⟨(ad.add (i.toNat * 2)).block, (ad.add (i.toNat * 2)).off + 1, none⟩ = some (.string (rd_T48 xs i).f1) := by
  obtain ⟨ad, c, e, _, hK, hc0⟩ := Kd.C_get h z48 i h0 h1
  have hc : ∀ j u, c[j]? = some u → w.cell? (ad.add (i.toNat * 2 + j)) = some u := hc0
  obtain rfl := k48_open hK
  exact ⟨ad, e, hc 0 _ rfl, by rw [← add_field _ _ 1 (by omega)]; exact hc 1 _ rfl⟩

def rd_L3 (xs : List (List S48)) (i : Int) : (List S48) := xs.getD i.toNat ([] : List S48)
theorem at_L3 {w : World} {A : Option Addr} {n : Nat} {xs : List (List S48)} (h : Kd.C (Kd.slice 48 k48) w A n xs) (i : Int) (h0 : 0 ≤ i) (h1 : i < n) : ∃ ad A0 c0, A = some ad ∧ w.cell? (ad.add i.toNat) = some (.slice A0 (rd_L3 xs i).length c0) ∧ (rd_L3 xs i).length ≤ c0 ∧ k48.C w A0 (rd_L3 xs i).length (rd_L3 xs i) := by
  obtain ⟨ad, c, e, _, hK, hc0⟩ := Kd.C_get h ([] : List S48) i h0 h1
  have hc : ∀ j u, c[j]? = some u → w.cell? (ad.add (i.toNat * 1 + j)) = some u := hc0
  obtain ⟨A0, c0, rfl, l0, g0⟩ := hK
  exact ⟨ad, A0, c0, e, by have hq := hc 0 _ rfl; rwa [Nat.mul_one, Nat.add_zero] at hq, l0, g0⟩

/-! #### struct type 33 -/
structure S33 where
  f0 : Bool
  f1 : Int
  f2 : ByteArray
  f3 : ByteArray
  f4 : ByteArray
  f5 : ByteArray
  f6 : Bool
  f7 : Bool
  f8 : Bool
def z33 : S33 := ⟨false, (0 : Int), (⟨#[]⟩ : ByteArray), (⟨#[]⟩ : ByteArray), (⟨#[]⟩ : ByteArray), (⟨#[]⟩ : ByteArray), false, false, false⟩
def k33 : Kd S33 := Kd.iso (Kd.pair Kd.bool (Kd.pair (Kd.int .i64) (Kd.pair Kd.string (Kd.pair Kd.string (Kd.pair Kd.string (Kd.pair Kd.string (Kd.pair Kd.bool (Kd.pair Kd.bool Kd.bool)))))))) (fun x : S33 => (x.f0, x.f1, x.f2, x.f3, x.f4, x.f5, x.f6, x.f7, x.f8))
theorem k33_heap : Kd.Heap k33 := Kd.heap_iso _ (Kd.heap_pair Kd.heap_bool (Kd.heap_pair (Kd.heap_int .i64) (Kd.heap_pair Kd.heap_string (Kd.heap_pair Kd.heap_string (Kd.heap_pair Kd.heap_string (Kd.heap_pair Kd.heap_string (Kd.heap_pair Kd.heap_bool (Kd.heap_pair Kd.heap_bool Kd.heap_bool))))))))
theorem k33_open {w : World} {x : S33} {cs : List Value} (h : k33.K w x cs) : cs = [.bool x.f0, .int .i64 x.f1, .string x.f2, .string x.f3, .string x.f4, .string x.f5, .bool x.f6, .bool x.f7, .bool x.f8] := by
  obtain ⟨_, _, rfl, rfl, ⟨_, _, rfl, rfl, ⟨_, _, rfl, rfl, ⟨_, _, rfl, rfl, ⟨_, _, rfl, rfl, ⟨_, _, rfl, rfl, ⟨_, _, rfl, rfl, ⟨_, _, rfl, rfl, rfl⟩⟩⟩⟩⟩⟩⟩⟩ := h
  exact rfl
theorem k33_openM {w : World} {base : Nat} {ok : Nat → Prop} {x : S33} {cs : List Value} (h : k33.M w base ok x cs) : cs = [.bool x.f0, .int .i64 x.f1, .string x.f2, .string x.f3, .string x.f4, .string x.f5, .bool x.f6, .bool x.f7, .bool x.f8] := by
  obtain ⟨_, _, rfl, rfl, ⟨_, _, rfl, rfl, ⟨_, _, rfl, rfl, ⟨_, _, rfl, rfl, ⟨_, _, rfl, rfl, ⟨_, _, rfl, rfl, ⟨_, _, rfl, rfl, ⟨_, _, rfl, rfl, rfl⟩⟩⟩⟩⟩⟩⟩⟩ := h
  exact rfl
theorem k33_mk (w : World) (x : S33)  : k33.K w x [.bool x.f0, .int .i64 x.f1, .string x.f2, .string x.f3, .string x.f4, .string x.f5, .bool x.f6, .bool x.f7, .bool x.f8] := ⟨[.bool x.f0], [.int .i64 x.f1, .string x.f2, .string x.f3, .string x.f4, .string x.f5, .bool x.f6, .bool x.f7, .bool x.f8], rfl, rfl, ⟨[.int .i64 x.f1], [.string x.f2, .string x.f3, .string x.f4, .string x.f5, .bool x.f6, .bool x.f7, .bool x.f8], rfl, rfl, ⟨[.string x.f2], [.string x.f3, .string x.f4, .string x.f5, .bool x.f6, .bool x.f7, .bool x.f8], rfl, rfl, ⟨[.string x.f3], [.string x.f4, .string x.f5, .bool x.f6, .bool x.f7, .bool x.f8], rfl, rfl, ⟨[.string x.f4], [.string x.f5, .bool x.f6, .bool x.f7, .bool x.f8], rfl, rfl, ⟨[.string x.f5], [.bool x.f6, .bool x.f7, .bool x.f8], rfl, rfl, ⟨[.bool x.f6], [.bool x.f7, .bool x.f8], rfl, rfl, ⟨[.bool x.f7], [.bool x.f8], rfl, rfl, rfl⟩⟩⟩⟩⟩⟩⟩⟩
theorem k33_mkM (w : World) (base : Nat) (ok : Nat → Prop) (x : S33)  : k33.M w base ok x [.bool x.f0, .int .i64 x.f1, .string x.f2, .string x.f3, .string x.f4, .string x.f5, .bool x.f6, .bool x.f7, .bool x.f8] := ⟨[.bool x.f0], [.int .i64 x.f1, .string x.f2, .string x.f3, .string x.f4, .string x.f5, .bool x.f6, .bool x.f7, .bool x.f8], rfl, rfl, ⟨[.int .i64 x.f1], [.string x.f2, .string x.f3, .string x.f4, .string x.f5, .bool x.f6, .bool x.f7, .bool x.f8], rfl, rfl, ⟨[.string x.f2], [.string x.f3, .string x.f4, .string x.f5, .bool x.f6, .bool x.f7, .bool x.f8], rfl, rfl, ⟨[.string x.f3], [.string x.f4, .string x.f5, .bool x.f6, .bool x.f7, .bool x.f8], rfl, rfl, ⟨[.string x.f4], [.string x.f5, .bool x.f6, .bool x.f7, .bool x.f8], rfl, rfl, ⟨[.string x.f5], [.bool x.f6, .bool x.f7, .bool x.f8], rfl, rfl, ⟨[.bool x.f6], [.bool x.f7, .bool x.f8], rfl, rfl, ⟨[.bool x.f7], [.bool x.f8], rfl, rfl, rfl⟩⟩⟩⟩⟩⟩⟩⟩
theorem k33_mkF (W : World) (ok : Nat → Prop) (x : S33) : Kd.FK k33 W ok x [.bool x.f0, .int .i64 x.f1, .string x.f2, .string x.f3, .string x.f4, .string x.f5, .bool x.f6, .bool x.f7, .bool x.f8] := fun W2 _ => k33_mk W2 x
def rd_T33 (xs : List S33) (i : Int) : S33 := xs.getD i.toNat z33
theorem at_T33 {w : World} {A : Option Addr} {n : Nat} {xs : List S33} (h : Kd.C k33 w A n xs) (i : Int) (h0 : 0 ≤ i) (h1 : i < n) : ∃ ad , A = some ad ∧ w.cell? (ad.add (i.toNat * 9)) = some (.bool (rd_T33 xs i).f0) ∧ w.cell? ⟨(ad.add (i.toNat * 9)).block, (ad.add (i.toNat * 9)).off + 1, none⟩ = some (.int .i64 (rd_T33 xs i).f1) ∧ w.cell? ⟨(ad.add (i.toNat * 9)).block, (ad.add (i.toNat * 9)).off + 2, none⟩ = some (.string (rd_T33 xs i).f2) ∧ w.cell? ⟨(ad.add (i.toNat * 9)).block, (ad.add (i.toNat * 9)).off + 3, none⟩ = some (.string (rd_T33 xs i).f3) ∧ w.cell? ⟨(ad.add (i.toNat * 9)).block, (ad.add (i.toNat * 9)).off + 4, none⟩ = some (.string (rd_T33 xs i).f4) ∧ w.cell? ⟨(ad.add (i.toNat * 9)).block, (ad.add (i.toNat * 9)).off + 5, none⟩ = some (.string (rd_T33 xs i).f5) ∧ w.cell? ⟨(ad.add (i.toNat * 9)).block, (ad.add (i.toNat * 9)).off + 6, none⟩ = some (.bool (rd_T33 xs i).f6) ∧ w.cell? ⟨(ad.add (i.toNat * 9)).block, (ad.add (i.toNat * 9)).off + 7, none⟩ = some (.bool (rd_T33 xs i).f7) ∧ w.cell? ⟨(ad.add (i.toNat * 9)).block, (ad.add (i.toNat * 9)).off + 8, none⟩ = some (.bool (rd_T33 xs i).f8) := by
  obtain ⟨ad, c, e, _, hK, hc0⟩ := Kd.C_get h z33 i h0 h1
  have hc : ∀ j u, c[j]? = some u → w.cell? (ad.add (i.toNat * 9 + j)) = some u := hc0
  obtain rfl := k33_open hK
  exact ⟨ad, e, hc 0 _ rfl, by rw [← add_field _ _ 1 (by omega)]; exact hc 1 _ rfl, by rw [← add_field _ _ 2 (by omega)]; exact hc 2 _ rfl, by rw [← add_field _ _ 3 (by omega)]; exact hc 3 _ rfl, by rw [← add_field _ _ 4 (by omega)]; exact hc 4 _ rfl, by rw [← add_field _ _ 5 (by omega)]; exact hc 5 _ rfl, by rw [← add_field _ _ 6 (by omega)]; exact hc 6 _ rfl, by rw [← add_field _ _ 7 (by omega)]; exact hc 7 _ rfl, by rw [← add_field _ _ 8 (by omega)]; exact hc 8 _ rfl⟩

def rd_L7 (xs : List (List Int)) (i : Int) : (List Int) := xs.getD i.toNat ([] : List Int)
theorem at_L7 {w : World} {A : Option Addr} {n : Nat} {xs : List (List Int)} (h : Kd.C (Kd.slice 5 (Kd.int .u8)) w A n xs) (i : Int) (h0 : 0 ≤ i) (h1 : i < n) : ∃ ad A0 c0, A = some ad ∧ w.cell? (ad.add i.toNat) = some (.slice A0 (rd_L7 xs i).length c0) ∧ (rd_L7 xs i).length ≤ c0 ∧ (Kd.int .u8).C w A0 (rd_L7 xs i).length (rd_L7 xs i) := by
  obtain ⟨ad, c, e, _, hK, hc0⟩ := Kd.C_get h ([] : List Int) i h0 h1
  have hc : ∀ j u, c[j]? = some u → w.cell? (ad.add (i.toNat * 1 + j)) = some u := hc0
  obtain ⟨A0, c0, rfl, l0, g0⟩ := hK
  exact ⟨ad, A0, c0, e, by have hq := hc 0 _ rfl; rwa [Nat.mul_one, Nat.add_zero] at hq, l0, g0⟩

def rd_L8 (xs : List (List (List Int))) (i : Int) : (List (List Int)) := xs.getD i.toNat ([] : List (List Int))
theorem at_L8 {w : World} {A : Option Addr} {n : Nat} {xs : List (List (List Int))} (h : Kd.C (Kd.slice 28 (Kd.slice 5 (Kd.int .u8))) w A n xs) (i : Int) (h0 : 0 ≤ i) (h1 : i < n) : ∃ ad A0 c0, A = some ad ∧ w.cell? (ad.add i.toNat) = some (.slice A0 (rd_L8 xs i).length c0) ∧ (rd_L8 xs i).length ≤ c0 ∧ (Kd.slice 5 (Kd.int .u8)).C w A0 (rd_L8 xs i).length (rd_L8 xs i) := by
  obtain ⟨ad, c, e, _, hK, hc0⟩ := Kd.C_get h ([] : List (List Int)) i h0 h1
  have hc : ∀ j u, c[j]? = some u → w.cell? (ad.add (i.toNat * 1 + j)) = some u := hc0
  obtain ⟨A0, c0, rfl, l0, g0⟩ := hK
  exact ⟨ad, A0, c0, e, by have hq := hc 0 _ rfl; rwa [Nat.mul_one, Nat.add_zero] at hq, l0, g0⟩

/-! #### struct type 35 -/
structure S35 where
  f0 : (List S48)
  f1 : S33
  f2 : (List (List Int))
  f3 : (List (List Int))
def z35 : S35 := ⟨([] : List S48), z33, ([] : List (List Int)), ([] : List (List Int))⟩
def k35 : Kd S35 := Kd.iso (Kd.pair (Kd.slice 48 k48) (Kd.pair k33 (Kd.pair (Kd.slice 28 (Kd.slice 5 (Kd.int .u8))) (Kd.slice 28 (Kd.slice 5 (Kd.int .u8)))))) (fun x : S35 => (x.f0, x.f1, x.f2, x.f3))
theorem k35_heap : Kd.Heap k35 := Kd.heap_iso _ (Kd.heap_pair (Kd.heap_slice 48 k48_heap) (Kd.heap_pair k33_heap (Kd.heap_pair (Kd.heap_slice 28 (Kd.heap_slice 5 (Kd.heap_int .u8))) (Kd.heap_slice 28 (Kd.heap_slice 5 (Kd.heap_int .u8))))))
theorem k35_open {w : World} {x : S35} {cs : List Value} (h : k35.K w x cs) : ∃ A0 c0 A10 c10 A11 c11, cs = [.slice A0 x.f0.length c0, .bool x.f1.f0, .int .i64 x.f1.f1, .string x.f1.f2, .string x.f1.f3, .string x.f1.f4, .string x.f1.f5, .bool x.f1.f6, .bool x.f1.f7, .bool x.f1.f8, .slice A10 x.f2.length c10, .slice A11 x.f3.length c11] ∧ x.f0.length ≤ c0 ∧ k48.C w A0 x.f0.length x.f0 ∧ x.f2.length ≤ c10 ∧ (Kd.slice 5 (Kd.int .u8)).C w A10 x.f2.length x.f2 ∧ x.f3.length ≤ c11 ∧ (Kd.slice 5 (Kd.int .u8)).C w A11 x.f3.length x.f3 := by
  obtain ⟨_, _, rfl, ⟨A0, c0, rfl, l0, g0⟩, ⟨_, _, rfl, s1, ⟨_, _, rfl, ⟨A10, c10, rfl, l10, g10⟩, ⟨A11, c11, rfl, l11, g11⟩⟩⟩⟩ := h
  obtain rfl := k33_open s1
  exact ⟨A0, c0, A10, c10, A11, c11, rfl, l0, g0, l10, g10, l11, g11⟩
theorem k35_openM {w : World} {base : Nat} {ok : Nat → Prop} {x : S35} {cs : List Value} (h : k35.M w base ok x cs) : ∃ v0 v10 v11, cs = [v0, .bool x.f1.f0, .int .i64 x.f1.f1, .string x.f1.f2, .string x.f1.f3, .string x.f1.f4, .string x.f1.f5, .bool x.f1.f6, .bool x.f1.f7, .bool x.f1.f8, v10, v11] ∧ k48.R 48 w base ok v0 x.f0 ∧ (Kd.slice 5 (Kd.int .u8)).R 28 w base ok v10 x.f2 ∧ (Kd.slice 5 (Kd.int .u8)).R 28 w base ok v11 x.f3 := by
  obtain ⟨_, _, rfl, ⟨v0, rfl, g0⟩, ⟨_, _, rfl, s1, ⟨_, _, rfl, ⟨v10, rfl, g10⟩, ⟨v11, rfl, g11⟩⟩⟩⟩ := h
  obtain rfl := k33_openM s1
  exact ⟨v0, v10, v11, rfl, g0, g10, g11⟩
theorem k35_mk (w : World) (x : S35) {A0 : Option Addr} {c0 : Nat} (l0 : x.f0.length ≤ c0) (g0 : k48.C w A0 x.f0.length x.f0) {A10 : Option Addr} {c10 : Nat} (l10 : x.f2.length ≤ c10) (g10 : (Kd.slice 5 (Kd.int .u8)).C w A10 x.f2.length x.f2) {A11 : Option Addr} {c11 : Nat} (l11 : x.f3.length ≤ c11) (g11 : (Kd.slice 5 (Kd.int .u8)).C w A11 x.f3.length x.f3) : k35.K w x [.slice A0 x.f0.length c0, .bool x.f1.f0, .int .i64 x.f1.f1, .string x.f1.f2, .string x.f1.f3, .string x.f1.f4, .string x.f1.f5, .bool x.f1.f6, .bool x.f1.f7, .bool x.f1.f8, .slice A10 x.f2.length c10, .slice A11 x.f3.length c11] := ⟨[.slice A0 x.f0.length c0], [.bool x.f1.f0, .int .i64 x.f1.f1, .string x.f1.f2, .string x.f1.f3, .string x.f1.f4, .string x.f1.f5, .bool x.f1.f6, .bool x.f1.f7, .bool x.f1.f8, .slice A10 x.f2.length c10, .slice A11 x.f3.length c11], rfl, ⟨A0, c0, rfl, l0, g0⟩, ⟨[.bool x.f1.f0, .int .i64 x.f1.f1, .string x.f1.f2, .string x.f1.f3, .string x.f1.f4, .string x.f1.f5, .bool x.f1.f6, .bool x.f1.f7, .bool x.f1.f8], [.slice A10 x.f2.length c10, .slice A11 x.f3.length c11], rfl, (k33_mk w x.f1 ), ⟨[.slice A10 x.f2.length c10], [.slice A11 x.f3.length c11], rfl, ⟨A10, c10, rfl, l10, g10⟩, ⟨A11, c11, rfl, l11, g11⟩⟩⟩⟩
theorem k35_mkM (w : World) (base : Nat) (ok : Nat → Prop) (x : S35) {v0 : Value} (g0 : k48.R 48 w base ok v0 x.f0) {v10 : Value} (g10 : (Kd.slice 5 (Kd.int .u8)).R 28 w base ok v10 x.f2) {v11 : Value} (g11 : (Kd.slice 5 (Kd.int .u8)).R 28 w base ok v11 x.f3) : k35.M w base ok x [v0, .bool x.f1.f0, .int .i64 x.f1.f1, .string x.f1.f2, .string x.f1.f3, .string x.f1.f4, .string x.f1.f5, .bool x.f1.f6, .bool x.f1.f7, .bool x.f1.f8, v10, v11] := ⟨[v0], [.bool x.f1.f0, .int .i64 x.f1.f1, .string x.f1.f2, .string x.f1.f3, .string x.f1.f4, .string x.f1.f5, .bool x.f1.f6, .bool x.f1.f7, .bool x.f1.f8, v10, v11], rfl, ⟨v0, rfl, g0⟩, ⟨[.bool x.f1.f0, .int .i64 x.f1.f1, .string x.f1.f2, .string x.f1.f3, .string x.f1.f4, .string x.f1.f5, .bool x.f1.f6, .bool x.f1.f7, .bool x.f1.f8], [v10, v11], rfl, (k33_mkM w base ok x.f1 ), ⟨[v10], [v11], rfl, ⟨v10, rfl, g10⟩, ⟨v11, rfl, g11⟩⟩⟩⟩
theorem k35_openF {W : World} {ok : Nat → Prop} {x : S35} {cs : List Value} (h : Kd.FK k35 W ok x cs) : ∃ A0 c0 A10 c10 A11 c11, cs = [.slice A0 x.f0.length c0, .bool x.f1.f0, .int .i64 x.f1.f1, .string x.f1.f2, .string x.f1.f3, .string x.f1.f4, .string x.f1.f5, .bool x.f1.f6, .bool x.f1.f7, .bool x.f1.f8, .slice A10 x.f2.length c10, .slice A11 x.f3.length c11] ∧ x.f0.length ≤ c0 ∧ Kd.F k48 W ok A0 x.f0.length x.f0 ∧ x.f2.length ≤ c10 ∧ Kd.F (Kd.slice 5 (Kd.int .u8)) W ok A10 x.f2.length x.f2 ∧ x.f3.length ≤ c11 ∧ Kd.F (Kd.slice 5 (Kd.int .u8)) W ok A11 x.f3.length x.f3 := by
  obtain ⟨A0, c0, A10, c10, A11, c11, rfl, l0, _, l10, _, l11, _⟩ := k35_open (Kd.FK_now h)
  exact ⟨A0, c0, A10, c10, A11, c11, rfl, l0, (fun W' hW => by obtain ⟨A0_, c0_, A10_, c10_, A11_, c11_, he, l0_, g0_, l10_, g10_, l11_, g11_⟩ := k35_open (h W' hW); injection (Option.some.inj (show some (Value.slice A0 x.f0.length c0) = some (Value.slice A0_ x.f0.length c0_) from congrArg (fun l => l[0]?) he)) with ha_ _ _; rw [ha_]; exact g0_), l10, (fun W' hW => by obtain ⟨A0_, c0_, A10_, c10_, A11_, c11_, he, l0_, g0_, l10_, g10_, l11_, g11_⟩ := k35_open (h W' hW); injection (Option.some.inj (show some (Value.slice A10 x.f2.length c10) = some (Value.slice A10_ x.f2.length c10_) from congrArg (fun l => l[10]?) he)) with ha_ _ _; rw [ha_]; exact g10_), l11, (fun W' hW => by obtain ⟨A0_, c0_, A10_, c10_, A11_, c11_, he, l0_, g0_, l10_, g10_, l11_, g11_⟩ := k35_open (h W' hW); injection (Option.some.inj (show some (Value.slice A11 x.f3.length c11) = some (Value.slice A11_ x.f3.length c11_) from congrArg (fun l => l[11]?) he)) with ha_ _ _; rw [ha_]; exact g11_)⟩
theorem k35_mkF (W : World) (ok : Nat → Prop) (x : S35) {A0 : Option Addr} {c0 : Nat} (l0 : x.f0.length ≤ c0) (g0 : Kd.F k48 W ok A0 x.f0.length x.f0) {A10 : Option Addr} {c10 : Nat} (l10 : x.f2.length ≤ c10) (g10 : Kd.F (Kd.slice 5 (Kd.int .u8)) W ok A10 x.f2.length x.f2) {A11 : Option Addr} {c11 : Nat} (l11 : x.f3.length ≤ c11) (g11 : Kd.F (Kd.slice 5 (Kd.int .u8)) W ok A11 x.f3.length x.f3) : Kd.FK k35 W ok x [.slice A0 x.f0.length c0, .bool x.f1.f0, .int .i64 x.f1.f1, .string x.f1.f2, .string x.f1.f3, .string x.f1.f4, .string x.f1.f5, .bool x.f1.f6, .bool x.f1.f7, .bool x.f1.f8, .slice A10 x.f2.length c10, .slice A11 x.f3.length c11] := fun W2 hW => k35_mk W2 x l0 (g0 W2 hW) l10 (g10 W2 hW) l11 (g11 W2 hW)
def rd_T35 (xs : List S35) (i : Int) : S35 := xs.getD i.toNat z35
theorem at_T35 {w : World} {A : Option Addr} {n : Nat} {xs : List S35} (h : Kd.C k35 w A n xs) (i : Int) (h0 : 0 ≤ i) (h1 : i < n) : ∃ ad A0 c0 A10 c10 A11 c11, A = some ad ∧ w.cell? (ad.add (i.toNat * 12)) = some (.slice A0 (rd_T35 xs i).f0.length c0) ∧ w.cell? ⟨(ad.add (i.toNat * 12)).block, (ad.add (i.toNat * 12)).off + 1, none⟩ = some (.bool (rd_T35 xs i).f1.f0) ∧ w.cell? ⟨(ad.add (i.toNat * 12)).block, (ad.add (i.toNat * 12)).off + 2, none⟩ = some (.int .i64 (rd_T35 xs i).f1.f1) ∧ w.cell? ⟨(ad.add (i.toNat * 12)).block, (ad.add (i.toNat * 12)).off + 3, none⟩ = some (.string (rd_T35 xs i).f1.f2) ∧ w.cell? ⟨(ad.add (i.toNat * 12)).block, (ad.add (i.toNat * 12)).off + 4, none⟩ = some (.string (rd_T35 xs i).f1.f3) ∧ w.cell? ⟨(ad.add (i.toNat * 12)).block, (ad.add (i.toNat * 12)).off + 5, none⟩ = some (.string (rd_T35 xs i).f1.f4) ∧ w.cell? ⟨(ad.add (i.toNat * 12)).block, (ad.add (i.toNat * 12)).off + 6, none⟩ = some (.string (rd_T35 xs i).f1.f5) ∧ w.cell? ⟨(ad.add (i.toNat * 12)).block, (ad.add (i.toNat * 12)).off + 7, none⟩ = some (.bool (rd_T35 xs i).f1.f6) ∧ w.cell? ⟨(ad.add (i.toNat * 12)).block, (ad.add (i.toNat * 12)).off + 8, none⟩ = some (.bool (rd_T35 xs i).f1.f7) ∧ w.cell? ⟨(ad.add (i.toNat * 12)).block, (ad.add (i.toNat * 12)).off + 9, none⟩ = some (.bool (rd_T35 xs i).f1.f8) ∧ w.cell? ⟨(ad.add (i.toNat * 12)).block, (ad.add (i.toNat * 12)).off + 10, none⟩ = some (.slice A10 (rd_T35 xs i).f2.length c10) ∧ w.cell? ⟨(ad.add (i.toNat * 12)).block, (ad.add (i.toNat * 12)).off + 11, none⟩ = some (.slice A11 (rd_T35 xs i).f3.length c11) ∧ (rd_T35 xs i).f0.length ≤ c0 ∧ k48.C w A0 (rd_T35 xs i).f0.length (rd_T35 xs i).f0 ∧ (rd_T35 xs i).f2.length ≤ c10 ∧ (Kd.slice 5 (Kd.int .u8)).C w A10 (rd_T35 xs i).f2.length (rd_T35 xs i).f2 ∧ (rd_T35 xs i).f3.length ≤ c11 ∧ (Kd.slice 5 (Kd.int .u8)).C w A11 (rd_T35 xs i).f3.length (rd_T35 xs i).f3 := by
  obtain ⟨ad, c, e, _, hK, hc0⟩ := Kd.C_get h z35 i h0 h1
  have hc : ∀ j u, c[j]? = some u → w.cell? (ad.add (i.toNat * 12 + j)) = some u := hc0
  obtain ⟨A0, c0, A10, c10, A11, c11, rfl, l0, g0, l10, g10, l11, g11⟩ := k35_open hK
  exact ⟨ad, A0, c0, A10, c10, A11, c11, e, hc 0 _ rfl, by rw [← add_field _ _ 1 (by omega)]; exact hc 1 _ rfl, by rw [← add_field _ _ 2 (by omega)]; exact hc 2 _ rfl, by rw [← add_field _ _ 3 (by omega)]; exact hc 3 _ rfl, by rw [← add_field _ _ 4 (by omega)]; exact hc 4 _ rfl, by rw [← add_field _ _ 5 (by omega)]; exact hc 5 _ rfl, by rw [← add_field _ _ 6 (by omega)]; exact hc 6 _ rfl, by rw [← add_field _ _ 7 (by omega)]; exact hc 7 _ rfl, by rw [← add_field _ _ 8 (by omega)]; exact hc 8 _ rfl, by rw [← add_field _ _ 9 (by omega)]; exact hc 9 _ rfl, by rw [← add_field _ _ 10 (by omega)]; exact hc 10 _ rfl, by rw [← add_field _ _ 11 (by omega)]; exact hc 11 _ rfl, l0, g0, l10, g10, l11, g11⟩

/-! #### struct type 78 -/
structure S78 where
  f0 : Bool
  f1 : Int
def z78 : S78 := ⟨false, (0 : Int)⟩
def k78 : Kd S78 := Kd.iso (Kd.pair Kd.bool (Kd.int .u8)) (fun x : S78 => (x.f0, x.f1))
theorem k78_heap : Kd.Heap k78 := Kd.heap_iso _ (Kd.heap_pair Kd.heap_bool (Kd.heap_int .u8))
theorem k78_open {w : World} {x : S78} {cs : List Value} (h : k78.K w x cs) : cs = [.bool x.f0, .int .u8 x.f1] := by
  obtain ⟨_, _, rfl, rfl, rfl⟩ := h
  exact rfl
theorem k78_openM {w : World} {base : Nat} {ok : Nat → Prop} {x : S78} {cs : List Value} (h : k78.M w base ok x cs) : cs = [.bool x.f0, .int .u8 x.f1] := by
  obtain ⟨_, _, rfl, rfl, rfl⟩ := h
  exact rfl
theorem k78_mk (w : World) (x : S78)  : k78.K w x [.bool x.f0, .int .u8 x.f1] := ⟨[.bool x.f0], [.int .u8 x.f1], rfl, rfl, rfl⟩
theorem k78_mkM (w : World) (base : Nat) (ok : Nat → Prop) (x : S78)  : k78.M w base ok x [.bool x.f0, .int .u8 x.f1] := ⟨[.bool x.f0], [.int .u8 x.f1], rfl, rfl, rfl⟩
theorem k78_mkF (W : World) (ok : Nat → Prop) (x : S78) : Kd.FK k78 W ok x [.bool x.f0, .int .u8 x.f1] := fun W2 _ => k78_mk W2 x
def rd_T78 (xs : List S78) (i : Int) : S78 := xs.getD i.toNat z78
theorem at_T78 {w : World} {A : Option Addr} {n : Nat} {xs : List S78} (h : Kd.C k78 w A n xs) (i : Int) (h0 : 0 ≤ i) (h1 : i < n) : ∃ ad , A = some ad ∧ w.cell? (ad.add (i.toNat * 2)) = some (.bool (rd_T78 xs i).f0) ∧ w.cell? ⟨(ad.add (i.toNat * 2)).block, (ad.add (i.toNat * 2)).off + 1, none⟩ = some (.int .u8 (rd_T78 xs i).f1) := by
  obtain ⟨ad, c, e, _, hK, hc0⟩ := Kd.C_get h z78 i h0 h1
  have hc : ∀ j u, c[j]? = some u → w.cell? (ad.add (i.toNat * 2 + j)) = some u := hc0
  obtain rfl := k78_open hK
  exact ⟨ad, e, hc 0 _ rfl, by rw [← add_field _ _ 1 (by omega)]; exact hc 1 _ rfl⟩

/-! #### struct type 54 -/
structure S54 where
  f0 : ByteArray
  f1 : ByteArray
def z54 : S54 := ⟨(⟨#[]⟩ : ByteArray), (⟨#[]⟩ : ByteArray)⟩
def k54 : Kd S54 := Kd.iso (Kd.pair Kd.string Kd.string) (fun x : S54 => (x.f0, x.f1))
theorem k54_heap : Kd.Heap k54 := Kd.heap_iso _ (Kd.heap_pair Kd.heap_string Kd.heap_string)
theorem k54_open {w : World} {x : S54} {cs : List Value} (h : k54.K w x cs) : cs = [.string x.f0, .string x.f1] := by
  obtain ⟨_, _, rfl, rfl, rfl⟩ := h
  exact rfl
theorem k54_openM {w : World} {base : Nat} {ok : Nat → Prop} {x : S54} {cs : List Value} (h : k54.M w base ok x cs) : cs = [.string x.f0, .string x.f1] := by
  obtain ⟨_, _, rfl, rfl, rfl⟩ := h
  exact rfl
theorem k54_mk (w : World) (x : S54)  : k54.K w x [.string x.f0, .string x.f1] := ⟨[.string x.f0], [.string x.f1], rfl, rfl, rfl⟩
theorem k54_mkM (w : World) (base : Nat) (ok : Nat → Prop) (x : S54)  : k54.M w base ok x [.string x.f0, .string x.f1] := ⟨[.string x.f0], [.string x.f1], rfl, rfl, rfl⟩
theorem k54_mkF (W : World) (ok : Nat → Prop) (x : S54) : Kd.FK k54 W ok x [.string x.f0, .string x.f1] := fun W2 _ => k54_mk W2 x
def rd_T54 (xs : List S54) (i : Int) : S54 := xs.getD i.toNat z54
theorem at_T54 {w : World} {A : Option Addr} {n : Nat} {xs : List S54} (h : Kd.C k54 w A n xs) (i : Int) (h0 : 0 ≤ i) (h1 : i < n) : ∃ ad , A = some ad ∧ w.cell? (ad.add (i.toNat * 2)) = some (.string (rd_T54 xs i).f0) ∧ w.cell? ⟨(ad.add (i.toNat * 2)).block, (ad.add (i.toNat * 2)).off + 1, none⟩ = some (.string (rd_T54 xs i).f1) := by
  obtain ⟨ad, c, e, _, hK, hc0⟩ := Kd.C_get h z54 i h0 h1
  have hc : ∀ j u, c[j]? = some u → w.cell? (ad.add (i.toNat * 2 + j)) = some u := hc0
  obtain rfl := k54_open hK
  exact ⟨ad, e, hc 0 _ rfl, by rw [← add_field _ _ 1 (by omega)]; exact hc 1 _ rfl⟩

def rd_L12 (xs : List (List S54)) (i : Int) : (List S54) := xs.getD i.toNat ([] : List S54)
theorem at_L12 {w : World} {A : Option Addr} {n : Nat} {xs : List (List S54)} (h : Kd.C (Kd.slice 54 k54) w A n xs) (i : Int) (h0 : 0 ≤ i) (h1 : i < n) : ∃ ad A0 c0, A = some ad ∧ w.cell? (ad.add i.toNat) = some (.slice A0 (rd_L12 xs i).length c0) ∧ (rd_L12 xs i).length ≤ c0 ∧ k54.C w A0 (rd_L12 xs i).length (rd_L12 xs i) := by
  obtain ⟨ad, c, e, _, hK, hc0⟩ := Kd.C_get h ([] : List S54) i h0 h1
  have hc : ∀ j u, c[j]? = some u → w.cell? (ad.add (i.toNat * 1 + j)) = some u := hc0
  obtain ⟨A0, c0, rfl, l0, g0⟩ := hK
  exact ⟨ad, A0, c0, e, by have hq := hc 0 _ rfl; rwa [Nat.mul_one, Nat.add_zero] at hq, l0, g0⟩

/-! #### struct type 24 -/
structure S24 where
  f0 : Bool
  f1 : Int
  f2 : ByteArray
  f3 : ByteArray
  f4 : ByteArray
  f5 : ByteArray
  f6 : Bool
  f7 : Bool
  f8 : Bool
def z24 : S24 := ⟨false, (0 : Int), (⟨#[]⟩ : ByteArray), (⟨#[]⟩ : ByteArray), (⟨#[]⟩ : ByteArray), (⟨#[]⟩ : ByteArray), false, false, false⟩
def k24 : Kd S24 := Kd.iso (Kd.pair Kd.bool (Kd.pair (Kd.int .i64) (Kd.pair Kd.string (Kd.pair Kd.string (Kd.pair Kd.string (Kd.pair Kd.string (Kd.pair Kd.bool (Kd.pair Kd.bool Kd.bool)))))))) (fun x : S24 => (x.f0, x.f1, x.f2, x.f3, x.f4, x.f5, x.f6, x.f7, x.f8))
theorem k24_heap : Kd.Heap k24 := Kd.heap_iso _ (Kd.heap_pair Kd.heap_bool (Kd.heap_pair (Kd.heap_int .i64) (Kd.heap_pair Kd.heap_string (Kd.heap_pair Kd.heap_string (Kd.heap_pair Kd.heap_string (Kd.heap_pair Kd.heap_string (Kd.heap_pair Kd.heap_bool (Kd.heap_pair Kd.heap_bool Kd.heap_bool))))))))
theorem k24_open {w : World} {x : S24} {cs : List Value} (h : k24.K w x cs) : cs = [.bool x.f0, .int .i64 x.f1, .string x.f2, .string x.f3, .string x.f4, .string x.f5, .bool x.f6, .bool x.f7, .bool x.f8] := by
  obtain ⟨_, _, rfl, rfl, ⟨_, _, rfl, rfl, ⟨_, _, rfl, rfl, ⟨_, _, rfl, rfl, ⟨_, _, rfl, rfl, ⟨_, _, rfl, rfl, ⟨_, _, rfl, rfl, ⟨_, _, rfl, rfl, rfl⟩⟩⟩⟩⟩⟩⟩⟩ := h
  exact rfl
theorem k24_openM {w : World} {base : Nat} {ok : Nat → Prop} {x : S24} {cs : List Value} (h : k24.M w base ok x cs) : cs = [.bool x.f0, .int .i64 x.f1, .string x.f2, .string x.f3, .string x.f4, .string x.f5, .bool x.f6, .bool x.f7, .bool x.f8] := by
  obtain ⟨_, _, rfl, rfl, ⟨_, _, rfl, rfl, ⟨_, _, rfl, rfl, ⟨_, _, rfl, rfl, ⟨_, _, rfl, rfl, ⟨_, _, rfl, rfl, ⟨_, _, rfl, rfl, ⟨_, _, rfl, rfl, rfl⟩⟩⟩⟩⟩⟩⟩⟩ := h
  exact rfl
theorem k24_mk (w : World) (x : S24)  : k24.K w x [.bool x.f0, .int .i64 x.f1, .string x.f2, .string x.f3, .string x.f4, .string x.f5, .bool x.f6, .bool x.f7, .bool x.f8] := ⟨[.bool x.f0], [.int .i64 x.f1, .string x.f2, .string x.f3, .string x.f4, .string x.f5, .bool x.f6, .bool x.f7, .bool x.f8], rfl, rfl, ⟨[.int .i64 x.f1], [.string x.f2, .string x.f3, .string x.f4, .string x.f5, .bool x.f6, .bool x.f7, .bool x.f8], rfl, rfl, ⟨[.string x.f2], [.string x.f3, .string x.f4, .string x.f5, .bool x.f6, .bool x.f7, .bool x.f8], rfl, rfl, ⟨[.string x.f3], [.string x.f4, .string x.f5, .bool x.f6, .bool x.f7, .bool x.f8], rfl, rfl, ⟨[.string x.f4], [.string x.f5, .bool x.f6, .bool x.f7, .bool x.f8], rfl, rfl, ⟨[.string x.f5], [.bool x.f6, .bool x.f7, .bool x.f8], rfl, rfl, ⟨[.bool x.f6], [.bool x.f7, .bool x.f8], rfl, rfl, ⟨[.bool x.f7], [.bool x.f8], rfl, rfl, rfl⟩⟩⟩⟩⟩⟩⟩⟩
theorem k24_mkM (w : World) (base : Nat) (ok : Nat → Prop) (x : S24)  : k24.M w base ok x [.bool x.f0, .int .i64 x.f1, .string x.f2, .string x.f3, .string x.f4, .string x.f5, .bool x.f6, .bool x.f7, .bool x.f8] := ⟨[.bool x.f0], [.int .i64 x.f1, .string x.f2, .string x.f3, .string x.f4, .string x.f5, .bool x.f6, .bool x.f7, .bool x.f8], rfl, rfl, ⟨[.int .i64 x.f1], [.string x.f2, .string x.f3, .string x.f4, .string x.f5, .bool x.f6, .bool x.f7, .bool x.f8], rfl, rfl, ⟨[.string x.f2], [.string x.f3, .string x.f4, .string x.f5, .bool x.f6, .bool x.f7, .bool x.f8], rfl, rfl, ⟨[.string x.f3], [.string x.f4, .string x.f5, .bool x.f6, .bool x.f7, .bool x.f8], rfl, rfl, ⟨[.string x.f4], [.string x.f5, .bool x.f6, .bool x.f7, .bool x.f8], rfl, rfl, ⟨[.string x.f5], [.bool x.f6, .bool x.f7, .bool x.f8], rfl, rfl, ⟨[.bool x.f6], [.bool x.f7, .bool x.f8], rfl, rfl, ⟨[.bool x.f7], [.bool x.f8], rfl, rfl, rfl⟩⟩⟩⟩⟩⟩⟩⟩
theorem k24_mkF (W : World) (ok : Nat → Prop) (x : S24) : Kd.FK k24 W ok x [.bool x.f0, .int .i64 x.f1, .string x.f2, .string x.f3, .string x.f4, .string x.f5, .bool x.f6, .bool x.f7, .bool x.f8] := fun W2 _ => k24_mk W2 x
def rd_T24 (xs : List S24) (i : Int) : S24 := xs.getD i.toNat z24
theorem at_T24 {w : World} {A : Option Addr} {n : Nat} {xs : List S24} (h : Kd.C k24 w A n xs) (i : Int) (h0 : 0 ≤ i) (h1 : i < n) : ∃ ad , A = some ad ∧ w.cell? (ad.add (i.toNat * 9)) = some (.bool (rd_T24 xs i).f0) ∧ w.cell? ⟨(ad.add (i.toNat * 9)).block, (ad.add (i.toNat * 9)).off + 1, none⟩ = some (.int .i64 (rd_T24 xs i).f1) ∧ w.cell? ⟨(ad.add (i.toNat * 9)).block, (ad.add (i.toNat * 9)).off + 2, none⟩ = some (.string (rd_T24 xs i).f2) ∧ w.cell? ⟨(ad.add (i.toNat * 9)).block, (ad.add (i.toNat * 9)).off + 3, none⟩ = some (.string (rd_T24 xs i).f3) ∧ w.cell? ⟨(ad.add (i.toNat * 9)).block, (ad.add (i.toNat * 9)).off + 4, none⟩ = some (.string (rd_T24 xs i).f4) ∧ w.cell? ⟨(ad.add (i.toNat * 9)).block, (ad.add (i.toNat * 9)).off + 5, none⟩ = some (.string (rd_T24 xs i).f5) ∧ w.cell? ⟨(ad.add (i.toNat * 9)).block, (ad.add (i.toNat * 9)).off + 6, none⟩ = some (.bool (rd_T24 xs i).f6) ∧ w.cell? ⟨(ad.add (i.toNat * 9)).block, (ad.add (i.toNat * 9)).off + 7, none⟩ = some (.bool (rd_T24 xs i).f7) ∧ w.cell? ⟨(ad.add (i.toNat * 9)).block, (ad.add (i.toNat * 9)).off + 8, none⟩ = some (.bool (rd_T24 xs i).f8) := by
  obtain ⟨ad, c, e, _, hK, hc0⟩ := Kd.C_get h z24 i h0 h1
  have hc : ∀ j u, c[j]? = some u → w.cell? (ad.add (i.toNat * 9 + j)) = some u := hc0
  obtain rfl := k24_open hK
  exact ⟨ad, e, hc 0 _ rfl, by rw [← add_field _ _ 1 (by omega)]; exact hc 1 _ rfl, by rw [← add_field _ _ 2 (by omega)]; exact hc 2 _ rfl, by rw [← add_field _ _ 3 (by omega)]; exact hc 3 _ rfl, by rw [← add_field _ _ 4 (by omega)]; exact hc 4 _ rfl, by rw [← add_field _ _ 5 (by omega)]; exact hc 5 _ rfl, by rw [← add_field _ _ 6 (by omega)]; exact hc 6 _ rfl, by rw [← add_field _ _ 7 (by omega)]; exact hc 7 _ rfl, by rw [← add_field _ _ 8 (by omega)]; exact hc 8 _ rfl⟩

/-! #### struct type 27 -/
structure S27 where
  f0 : (List S54)
  f1 : S24
  f2 : (List (List Int))
  f3 : (List (List Int))
def z27 : S27 := ⟨([] : List S54), z24, ([] : List (List Int)), ([] : List (List Int))⟩
def k27 : Kd S27 := Kd.iso (Kd.pair (Kd.slice 54 k54) (Kd.pair k24 (Kd.pair (Kd.slice 28 (Kd.slice 5 (Kd.int .u8))) (Kd.slice 28 (Kd.slice 5 (Kd.int .u8)))))) (fun x : S27 => (x.f0, x.f1, x.f2, x.f3))
theorem k27_heap : Kd.Heap k27 := Kd.heap_iso _ (Kd.heap_pair (Kd.heap_slice 54 k54_heap) (Kd.heap_pair k24_heap (Kd.heap_pair (Kd.heap_slice 28 (Kd.heap_slice 5 (Kd.heap_int .u8))) (Kd.heap_slice 28 (Kd.heap_slice 5 (Kd.heap_int .u8))))))
theorem k27_open {w : World} {x : S27} {cs : List Value} (h : k27.K w x cs) : ∃ A0 c0 A10 c10 A11 c11, cs = [.slice A0 x.f0.length c0, .bool x.f1.f0, .int .i64 x.f1.f1, .string x.f1.f2, .string x.f1.f3, .string x.f1.f4, .string x.f1.f5, .bool x.f1.f6, .bool x.f1.f7, .bool x.f1.f8, .slice A10 x.f2.length c10, .slice A11 x.f3.length c11] ∧ x.f0.length ≤ c0 ∧ k54.C w A0 x.f0.length x.f0 ∧ x.f2.length ≤ c10 ∧ (Kd.slice 5 (Kd.int .u8)).C w A10 x.f2.length x.f2 ∧ x.f3.length ≤ c11 ∧ (Kd.slice 5 (Kd.int .u8)).C w A11 x.f3.length x.f3 := by
  obtain ⟨_, _, rfl, ⟨A0, c0, rfl, l0, g0⟩, ⟨_, _, rfl, s1, ⟨_, _, rfl, ⟨A10, c10, rfl, l10, g10⟩, ⟨A11, c11, rfl, l11, g11⟩⟩⟩⟩ := h
  obtain rfl := k24_open s1
  exact ⟨A0, c0, A10, c10, A11, c11, rfl, l0, g0, l10, g10, l11, g11⟩
theorem k27_openM {w : World} {base : Nat} {ok : Nat → Prop} {x : S27} {cs : List Value} (h : k27.M w base ok x cs) : ∃ v0 v10 v11, cs = [v0, .bool x.f1.f0, .int .i64 x.f1.f1, .string x.f1.f2, .string x.f1.f3, .string x.f1.f4, .string x.f1.f5, .bool x.f1.f6, .bool x.f1.f7, .bool x.f1.f8, v10, v11] ∧ k54.R 54 w base ok v0 x.f0 ∧ (Kd.slice 5 (Kd.int .u8)).R 28 w base ok v10 x.f2 ∧ (Kd.slice 5 (Kd.int .u8)).R 28 w base ok v11 x.f3 := by
  obtain ⟨_, _, rfl, ⟨v0, rfl, g0⟩, ⟨_, _, rfl, s1, ⟨_, _, rfl, ⟨v10, rfl, g10⟩, ⟨v11, rfl, g11⟩⟩⟩⟩ := h
  obtain rfl := k24_openM s1
  exact ⟨v0, v10, v11, rfl, g0, g10, g11⟩
theorem k27_mk (w : World) (x : S27) {A0 : Option Addr} {c0 : Nat} (l0 : x.f0.length ≤ c0) (g0 : k54.C w A0 x.f0.length x.f0) {A10 : Option Addr} {c10 : Nat} (l10 : x.f2.length ≤ c10) (g10 : (Kd.slice 5 (Kd.int .u8)).C w A10 x.f2.length x.f2) {A11 : Option Addr} {c11 : Nat} (l11 : x.f3.length ≤ c11) (g11 : (Kd.slice 5 (Kd.int .u8)).C w A11 x.f3.length x.f3) : k27.K w x [.slice A0 x.f0.length c0, .bool x.f1.f0, .int .i64 x.f1.f1, .string x.f1.f2, .string x.f1.f3, .string x.f1.f4, .string x.f1.f5, .bool x.f1.f6, .bool x.f1.f7, .bool x.f1.f8, .slice A10 x.f2.length c10, .slice A11 x.f3.length c11] := ⟨[.slice A0 x.f0.length c0], [.bool x.f1.f0, .int .i64 x.f1.f1, .string x.f1.f2, .string x.f1.f3, .string x.f1.f4, .string x.f1.f5, .bool x.f1.f6, .bool x.f1.f7, .bool x.f1.f8, .slice A10 x.f2.length c10, .slice A11 x.f3.length c11], rfl, ⟨A0, c0, rfl, l0, g0⟩, ⟨[.bool x.f1.f0, .int .i64 x.f1.f1, .string x.f1.f2, .string x.f1.f3, .string x.f1.f4, .string x.f1.f5, .bool x.f1.f6, .bool x.f1.f7, .bool x.f1.f8], [.slice A10 x.f2.length c10, .slice A11 x.f3.length c11], rfl, (k24_mk w x.f1 ), ⟨[.slice A10 x.f2.length c10], [.slice A11 x.f3.length c11], rfl, ⟨A10, c10, rfl, l10, g10⟩, ⟨A11, c11, rfl, l11, g11⟩⟩⟩⟩
theorem k27_mkM (w : World) (base : Nat) (ok : Nat → Prop) (x : S27) {v0 : Value} (g0 : k54.R 54 w base ok v0 x.f0) {v10 : Value} (g10 : (Kd.slice 5 (Kd.int .u8)).R 28 w base ok v10 x.f2) {v11 : Value} (g11 : (Kd.slice 5 (Kd.int .u8)).R 28 w base ok v11 x.f3) : k27.M w base ok x [v0, .bool x.f1.f0, .int .i64 x.f1.f1, .string x.f1.f2, .string x.f1.f3, .string x.f1.f4, .string x.f1.f5, .bool x.f1.f6, .bool x.f1.f7, .bool x.f1.f8, v10, v11] := ⟨[v0], [.bool x.f1.f0, .int .i64 x.f1.f1, .string x.f1.f2, .string x.f1.f3, .string x.f1.f4, .string x.f1.f5, .bool x.f1.f6, .bool x.f1.f7, .bool x.f1.f8, v10, v11], rfl, ⟨v0, rfl, g0⟩, ⟨[.bool x.f1.f0, .int .i64 x.f1.f1, .string x.f1.f2, .string x.f1.f3, .string x.f1.f4, .string x.f1.f5, .bool x.f1.f6, .bool x.f1.f7, .bool x.f1.f8], [v10, v11], rfl, (k24_mkM w base ok x.f1 ), ⟨[v10], [v11], rfl, ⟨v10, rfl, g10⟩, ⟨v11, rfl, g11⟩⟩⟩⟩
theorem k27_openF {W : World} {ok : Nat → Prop} {x : S27} {cs : List Value} (h : Kd.FK k27 W ok x cs) : ∃ A0 c0 A10 c10 A11 c11, cs = [.slice A0 x.f0.length c0, .bool x.f1.f0, .int .i64 x.f1.f1, .string x.f1.f2, .string x.f1.f3, .string x.f1.f4, .string x.f1.f5, .bool x.f1.f6, .bool x.f1.f7, .bool x.f1.f8, .slice A10 x.f2.length c10, .slice A11 x.f3.length c11] ∧ x.f0.length ≤ c0 ∧ Kd.F k54 W ok A0 x.f0.length x.f0 ∧ x.f2.length ≤ c10 ∧ Kd.F (Kd.slice 5 (Kd.int .u8)) W ok A10 x.f2.length x.f2 ∧ x.f3.length ≤ c11 ∧ Kd.F (Kd.slice 5 (Kd.int .u8)) W ok A11 x.f3.length x.f3 := by
  obtain ⟨A0, c0, A10, c10, A11, c11, rfl, l0, _, l10, _, l11, _⟩ := k27_open (Kd.FK_now h)
  exact ⟨A0, c0, A10, c10, A11, c11, rfl, l0, (fun W' hW => by obtain ⟨A0_, c0_, A10_, c10_, A11_, c11_, he, l0_, g0_, l10_, g10_, l11_, g11_⟩ := k27_open (h W' hW); injection (Option.some.inj (show some (Value.slice A0 x.f0.length c0) = some (Value.slice A0_ x.f0.length c0_) from congrArg (fun l => l[0]?) he)) with ha_ _ _; rw [ha_]; exact g0_), l10, (fun W' hW => by obtain ⟨A0_, c0_, A10_, c10_, A11_, c11_, he, l0_, g0_, l10_, g10_, l11_, g11_⟩ := k27_open (h W' hW); injection (Option.some.inj (show some (Value.slice A10 x.f2.length c10) = some (Value.slice A10_ x.f2.length c10_) from congrArg (fun l => l[10]?) he)) with ha_ _ _; rw [ha_]; exact g10_), l11, (fun W' hW => by obtain ⟨A0_, c0_, A10_, c10_, A11_, c11_, he, l0_, g0_, l10_, g10_, l11_, g11_⟩ := k27_open (h W' hW); injection (Option.some.inj (show some (Value.slice A11 x.f3.length c11) = some (Value.slice A11_ x.f3.length c11_) from congrArg (fun l => l[11]?) he)) with ha_ _ _; rw [ha_]; exact g11_)⟩
theorem k27_mkF (W : World) (ok : Nat → Prop) (x : S27) {A0 : Option Addr} {c0 : Nat} (l0 : x.f0.length ≤ c0) (g0 : Kd.F k54 W ok A0 x.f0.length x.f0) {A10 : Option Addr} {c10 : Nat} (l10 : x.f2.length ≤ c10) (g10 : Kd.F (Kd.slice 5 (Kd.int .u8)) W ok A10 x.f2.length x.f2) {A11 : Option Addr} {c11 : Nat} (l11 : x.f3.length ≤ c11) (g11 : Kd.F (Kd.slice 5 (Kd.int .u8)) W ok A11 x.f3.length x.f3) : Kd.FK k27 W ok x [.slice A0 x.f0.length c0, .bool x.f1.f0, .int .i64 x.f1.f1, .string x.f1.f2, .string x.f1.f3, .string x.f1.f4, .string x.f1.f5, .bool x.f1.f6, .bool x.f1.f7, .bool x.f1.f8, .slice A10 x.f2.length c10, .slice A11 x.f3.length c11] := fun W2 hW => k27_mk W2 x l0 (g0 W2 hW) l10 (g10 W2 hW) l11 (g11 W2 hW)
def rd_T27 (xs : List S27) (i : Int) : S27 := xs.getD i.toNat z27
theorem at_T27 {w : World} {A : Option Addr} {n : Nat} {xs : List S27} (h : Kd.C k27 w A n xs) (i : Int) (h0 : 0 ≤ i) (h1 : i < n) : ∃ ad A0 c0 A10 c10 A11 c11, A = some ad ∧ w.cell? (ad.add (i.toNat * 12)) = some (.slice A0 (rd_T27 xs i).f0.length c0) ∧ w.cell? ⟨(ad.add (i.toNat * 12)).block, (ad.add (i.toNat * 12)).off + 1, none⟩ = some (.bool (rd_T27 xs i).f1.f0) ∧ w.cell? ⟨(ad.add (i.toNat * 12)).block, (ad.add (i.toNat * 12)).off + 2, none⟩ = some (.int .i64 (rd_T27 xs i).f1.f1) ∧ w.cell? ⟨(ad.add (i.toNat * 12)).block, (ad.add (i.toNat * 12)).off + 3, none⟩ = some (.string (rd_T27 xs i).f1.f2) ∧ w.cell? ⟨(ad.add (i.toNat * 12)).block, (ad.add (i.toNat * 12)).off + 4, none⟩ = some (.string (rd_T27 xs i).f1.f3) ∧ w.cell? ⟨(ad.add (i.toNat * 12)).block, (ad.add (i.toNat * 12)).off + 5, none⟩ = some (.string (rd_T27 xs i).f1.f4) ∧ w.cell? ⟨(ad.add (i.toNat * 12)).block, (ad.add (i.toNat * 12)).off + 6, none⟩ = some (.string (rd_T27 xs i).f1.f5) ∧ w.cell? ⟨(ad.add (i.toNat * 12)).block, (ad.add (i.toNat * 12)).off + 7, none⟩ = some (.bool (rd_T27 xs i).f1.f6) ∧ w.cell? ⟨(ad.add (i.toNat * 12)).block, (ad.add (i.toNat * 12)).off + 8, none⟩ = some (.bool (rd_T27 xs i).f1.f7) ∧ w.cell? ⟨(ad.add (i.toNat * 12)).block, (ad.add (i.toNat * 12)).off + 9, none⟩ = some (.bool (rd_T27 xs i).f1.f8) ∧ w.cell? ⟨(ad.add (i.toNat * 12)).block, (ad.add (i.toNat * 12)).off + 10, none⟩ = some (.slice A10 (rd_T27 xs i).f2.length c10) ∧ w.cell? ⟨(ad.add (i.toNat * 12)).block, (ad.add (i.toNat * 12)).off + 11, none⟩ = some (.slice A11 (rd_T27 xs i).f3.length c11) ∧ (rd_T27 xs i).f0.length ≤ c0 ∧ k54.C w A0 (rd_T27 xs i).f0.length (rd_T27 xs i).f0 ∧ (rd_T27 xs i).f2.length ≤ c10 ∧ (Kd.slice 5 (Kd.int .u8)).C w A10 (rd_T27 xs i).f2.length (rd_T27 xs i).f2 ∧ (rd_T27 xs i).f3.length ≤ c11 ∧ (Kd.slice 5 (Kd.int .u8)).C w A11 (rd_T27 xs i).f3.length (rd_T27 xs i).f3 := by
  obtain ⟨ad, c, e, _, hK, hc0⟩ := Kd.C_get h z27 i h0 h1
  have hc : ∀ j u, c[j]? = some u → w.cell? (ad.add (i.toNat * 12 + j)) = some u := hc0
  obtain ⟨A0, c0, A10, c10, A11, c11, rfl, l0, g0, l10, g10, l11, g11⟩ := k27_open hK
  exact ⟨ad, A0, c0, A10, c10, A11, c11, e, hc 0 _ rfl, by rw [← add_field _ _ 1 (by omega)]; exact hc 1 _ rfl, by rw [← add_field _ _ 2 (by omega)]; exact hc 2 _ rfl, by rw [← add_field _ _ 3 (by omega)]; exact hc 3 _ rfl, by rw [← add_field _ _ 4 (by omega)]; exact hc 4 _ rfl, by rw [← add_field _ _ 5 (by omega)]; exact hc 5 _ rfl, by rw [← add_field _ _ 6 (by omega)]; exact hc 6 _ rfl, by rw [← add_field _ _ 7 (by omega)]; exact hc 7 _ rfl, by rw [← add_field _ _ 8 (by omega)]; exact hc 8 _ rfl, by rw [← add_field _ _ 9 (by omega)]; exact hc 9 _ rfl, by rw [← add_field _ _ 10 (by omega)]; exact hc 10 _ rfl, by rw [← add_field _ _ 11 (by omega)]; exact hc 11 _ rfl, l0, g0, l10, g10, l11, g11⟩

end Go.Proofs.Ytojfhlbchiaccaa.Print
