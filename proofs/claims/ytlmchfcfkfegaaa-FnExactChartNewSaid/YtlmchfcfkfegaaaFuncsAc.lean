/- slices.ContainsFunc over rows of impl.Act, at any function value. -/
import Derived.Test.YtlmchfcfkfegaaaB0
import Derived.Outline
import Derived.Shelf.Abstract
namespace Go.Proofs.Ytlmchfcfkfegaaa.B
open Go.RowKit Go.Shelf Go.Proofs.YtlmchfcfkfegaaaW.PrintWords Go.Proofs.YtlmchfcfkfegaaaW.PrintLast Go.Proofs.YtlmchfcfkfegaaaW.PrintMore
set_option linter.unusedVariables false

/-- What a function value says of an element, in every world behind w0. -/
def PrAc (f : Nat) (cap : Array Value) (p : S92 → Bool) (w0 : World) (l : List S92) : Prop := ∀ (x : S92)  (w : World), x ∈ l → Below w0.heap.size w0 w → Calls Try.prog f (#[.agg #[.int .i64 x.f0, .int .i64 x.f1, .int .i64 x.f2.f0, .int .i64 x.f2.f1]] ++ cap) w fun e w' => e = .returned (.bool (p x)) ∧ Below w.heap.size w w'
set_option maxRecDepth 100000 in
set_option maxHeartbeats 4000000 in
theorem indexFuncAc_any (f : Nat) (cap : Array Value) (p : S92 → Bool) (he : ∀ args w, (callFunc f args).run Try.prog w = .ok (.enter f args) w) (l : List S92) (A : Option Addr) (c : Nat) (w : World) (hf : PrAc f cap p w l) (hC : Kd.C k92 w A l.length l) (hc : l.length ≤ c) :
  Calls Try.prog 148 #[.slice A l.length c, .func (.func f) #[] cap] w fun e w' => (∃ r : Int, decide (0 ≤ r) = l.any p ∧ e = .returned (.int .i64 r)) ∧ Below w.heap.size w w' := by
 have hmax : l.length ≤ 9223372036854775807 := hC.2.1
 have HFC := Aside0.mk (And.intro hf hC)
 clear hf hC
 go_enter Try.func148, Try.ntmps148
 go_wp2
 go_loopw [5, 8] (fun _ i wr => ∃ (j : Nat), i = .int .i64 j ∧ Aside0 (j ≤ l.length ∧ (l.take j).any p = false ∧ Below w.heap.size w wr)) (fun _ i _ => l.length - (intOf i).toNat)
 case atStart => exact ⟨0, rfl, ⟨Nat.zero_le _, by simp, Below.refl _ _⟩⟩
 case round =>
  obtain ⟨j, rfl, HR⟩ := hrel
  by_cases hj : j < l.length
  ·obtain ⟨ad, hA, e0, e1, e2, e3⟩ := at_T92 HFC.out.2 (j : Int) (by omega) (by omega)
   cases hA
   have hkid : rd_T92 l (j : Int) = l[j] := by simp [rd_T92, hj]
   have hb := HR.out.2.2
   replace e0 := (hb.cell (World.block_lt_of_cell? w _ e0)).trans e0
   replace e1 := (hb.cell (World.block_lt_of_cell? w _ e1)).trans e1
   replace e2 := (hb.cell (World.block_lt_of_cell? w _ e2)).trans e2
   replace e3 := (hb.cell (World.block_lt_of_cell? w _ e3)).trans e3
   rw [hkid] at e0 e1 e2 e3
   simp only [Int.toNat_natCast] at e0 e1 e2 e3
   obtain ⟨x, hx⟩ : ∃ x, x = l[j] := ⟨_, rfl⟩
   rw [← hx] at e0 e1 e2 e3
   have HC := Aside0.mk (HFC.out.1 x  wr (by rw [hx]; exact List.getElem_mem hj) hb)
   have HX := Aside0.mk (And.intro hx hmax)
   have HJ := Aside0.mk hj
   clear hb hx hkid
   go_wp2_with fail
   refine HC.out.mono ?_
   clear HC
   rintro e w1 ⟨rfl, hb1⟩
   have HB := Aside0.mk (HR.out.2.2.trans (hb1.mono HR.out.2.2.size))
   clear hb1
   cases hp : p x with
   | true =>
    have HP := Aside0.mk hp; clear hp
    go_wp2
    go_ret
    refine ⟨⟨j, ?_, rfl⟩, HB.out⟩
    have : l.any p = true := List.any_eq_true.2 ⟨l[j], List.getElem_mem HJ.out, by rw [← HX.out.1]; exact HP.out⟩
    rw [this]; simp
   | false =>
    have HP := Aside0.mk hp; clear hp
    go_wp2
    go_roundw
    case rel => exact ⟨j + 1, by go_num, ⟨HJ.out, by rw [List.take_succ_eq_append_getElem HJ.out, List.any_append, HR.out.2.1]; simp [← HX.out.1, HP.out], HB.out⟩⟩
    case measure => have := HJ.out; simp [intOf]; omega
  ·have hjl : j = l.length := by have := HR.out.1; omega
   have hn := HR.out.2.1
   rw [hjl, List.take_of_length_le (Nat.le_refl _)] at hn
   have HN := Aside0.mk hn; clear hn hjl
   go_wp2
   go_ret
   exact ⟨⟨-1, by rw [HN.out]; rfl, rfl⟩, HR.out.2.2⟩
set_option maxRecDepth 100000 in
theorem containsFuncAc_any (f : Nat) (cap : Array Value) (p : S92 → Bool) (he : ∀ args w, (callFunc f args).run Try.prog w = .ok (.enter f args) w) (l : List S92) (A : Option Addr) (c : Nat) (w : World) (hf : PrAc f cap p w l) (hC : Kd.C k92 w A l.length l) (hc : l.length ≤ c) :
  Calls Try.prog 96 #[.slice A l.length c, .func (.func f) #[] cap] w fun e w' => e = .returned (.bool (l.any p)) ∧ Below w.heap.size w w' := by
 have HC := Aside0.mk (indexFuncAc_any f cap p he l A c w hf hC hc)
 clear hC hc hf
 go_enter Try.func96, Try.ntmps96
 go_wp2_with fail
 refine HC.out.mono ?_
 clear HC
 rintro e w1 ⟨⟨r, hr, rfl⟩, hb1⟩
 have HB := Aside0.mk (And.intro hr hb1)
 clear hr hb1
 go_wp2
 go_ret
 exact ⟨by rw [← HB.out.1]; rfl, HB.out.2⟩
end Go.Proofs.Ytlmchfcfkfegaaa.B
