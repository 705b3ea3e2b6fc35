/- script.Put of what may not be. -/
import Derived.Test.YtojfhlbchiaccaaPutW
namespace Go.Proofs.Ytojfhlbchiaccaa.Reader
open Go.RowKit Go.Proofs.YtojfhlbchiaccaaW.PrintWords Go.Proofs.YtojfhlbchiaccaaW.PrintLast Go.Proofs.YtojfhlbchiaccaaW.PrintMore
attribute [local go_sem] max2_int min2_int max_two min_two max_three min_three max_four min_four   -- for this text's walks alone
set_option linter.unusedVariables false
set_option linter.unusedSimpArgs false

theorem saneB_map {S : Type} (fst snd : S → ByteArray) (l0 : List S) (b : Int) (s3 s4 s5 s6 : ByteArray) (l10 l11 : List (List Int)) :
    saneB (l0.map fun x => (fst x, snd x)) b s3 s4 s5 s6 l10 l11 = (partsB b s3 s4 s5 s6 && decide (l0.length ≤ 12) && !l0.any (fun x => longS (fst x) (snd x)) && mayB l10 && mayB l11) := by
  unfold saneB
  rw [List.length_map, List.any_map]; rfl
set_option maxHeartbeats 4000000 in
set_option maxRecDepth 100000 in
theorem put_not {S : Type} (fst snd : S → ByteArray) (q : Kd S) (hsz : q.sz = 2) (hqK : ∀ w x cs, q.K w x cs → cs = [.string (fst x), .string (snd x)]) (z : S)
    (A0 : Option Addr) (c0 : Nat) (l0 : List S) (f1 : Bool) (b : Int) (s3 s4 s5 s6 : ByteArray) (f2 f4 f8 : Bool) (A10 : Option Addr) (c10 : Nat) (l10 : List (List Int)) (A11 : Option Addr) (c11 : Nat) (l11 : List (List Int)) (W : World)
    (h0 : Kd.C q W A0 l0.length l0) (hc0 : l0.length ≤ c0) (h10 : Kd.C Tx W A10 l10.length l10) (hc10 : l10.length ≤ c10) (h11 : Kd.C Tx W A11 l11.length l11) (hc11 : l11.length ≤ c11) (hs : saneB (l0.map fun x => (fst x, snd x)) b s3 s4 s5 s6 l10 l11 = false) :
    Calls Try.prog 12 #[.agg #[.slice A0 l0.length c0, .bool f1, .int .i64 b, .string s3, .string s4, .string s5, .string s6, .bool f2, .bool f4, .bool f8, .slice A10 l10.length c10, .slice A11 l11.length c11]] W fun e W' =>
      e = .returned (.slice none 0 0) ∧ Below W.heap.size W W' := by
  rw [saneB_map] at hs
  have H0 := Aside0.mk h0; have H10 := Aside0.mk h10; have H11 := Aside0.mk h11; have HSS := Aside0.mk hs
  clear h0 h10 h11 hs
  have hb1 : ∀ o : Obj, Below W.heap.size W (W.alloc o) := fun o => below_alloc (Below.refl _ _) o
  have hb1' := Aside0.mk hb1
  clear hb1
  go_enter Try.func12, Try.ntmps12
  go_wp2_with (go_at_call 9; go_loud (refine (sane fst snd q hsz hqK z A0 c0 l0 f1 b s3 s4 s5 s6 f2 f4 f8 A10 c10 l10 A11 c11 l11 _ (Kd.C_below H0.out (hb1'.out _)) hc0 (Kd.C_below H10.out (hb1'.out _)) hc10 (Kd.C_below H11.out (hb1'.out _)) hc11).mono ?_; rw [HSS.out]; rintro e w1 ⟨rfl, hb2⟩; have HB2 := Aside0.mk (below_step (hb1'.out _) hb2); clear hb2))
  go_ret
  exact ⟨rfl, HB2.out⟩
end Go.Proofs.Ytojfhlbchiaccaa.Reader
